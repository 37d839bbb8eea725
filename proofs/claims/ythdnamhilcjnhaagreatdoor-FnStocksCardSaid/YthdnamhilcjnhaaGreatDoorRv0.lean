/- The abstract interpreter 'sem': values without memory, own boxes and own rows in a small local heap; for any program. Definitions alone. -/
import Derived.WalkKit
namespace Go.Proofs.YthdnamhilcjnhaaGreatDoor
open Go
set_option linter.unusedVariables false
inductive V where
 | int (k : IntKind) (n : Int)
 | bool (b : Bool)
 | str (s : ByteArray)
 | ints (k : IntKind) (n : Nat) (c : Nat → Int)
 | parts (ps : List V)
 | tup (vs : List V)
 | nils | nilp | nilf | nilm
 | sl (xs : List V)
 | fresh (e : Nat) (xs : List V)
 | ref (ps : List V) (pi rel ext : Nat)
 | clo (f : Nat) (caps : List V)
 | ptr (id pi rel ext : Nat)
 | elem (id i pi rel ext : Nat)
 | arr (id pi rel n sz : Nat)
 | row (id : Nat)
 | mp (id : Nat)
 | mapc (ks vs : List V)
 | und
 | dead
inductive Ent where
 | none | tomb
 | box (ps : List V)
 | row (e : Nat) (xs : List V)
 | map (ks vs : List V)
inductive Ty where
 | int (k : IntKind) | bool | str
 | ptr (e : Nat) | sl (e : Nat) | arr (n e : Nat)
 | st (fs : List (Nat × Nat))
 | fn | mp (k e : Nat) | other
structure TyI where
 d : Ty
 size : Nat
 bytes : Nat
 zero : List V
 es : List Nat
 eq : Bool
structure Live where
 head : List (Nat × List Nat)
 out : List (Nat × List Nat)
structure FnI where
 ret : List (Nat × List Nat)
 loops : List (Nat × Live)
 n : Nat
 mu : Bool
 pu : Option Nat
 cl : Bool
 mv : Option Nat
 bx : Bool
 ru : Option Nat
 gw : Bool
 fz : Bool
 bw : Option (IntKind × IntKind)
def nOf (n : Nat) : Nat := Nat.mod n 65536
def qOf (n : Nat) : Nat := Nat.div n 65536
structure Env where
 tt : List (Nat × TyI)
 fl : List Func
 fi : List (Nat × FnI)
 pr : List (Nat × (List V → Option V)) := []
structure St where
 fr : List (Nat × V)
 hp : List (Nat × Ent)
def find {α : Type} : List (Nat × α) → Nat → Option α
 | [], _ => none
 | (i, x) :: l, j => match Nat.beq i j with
  | true => some x
  | false => find l j
def St.get (st : St) (t : Nat) : V := match find st.fr t with
 | some v => v
 | none => .dead
def St.ent (st : St) (i : Nat) : Ent := match find st.hp i with
 | some e => e
 | none => .none
def St.put (st : St) (d : Option Nat) (v : V) (es : List (Nat × Ent)) : St :=
 match d with
 | some d => ⟨(d, v) :: st.fr, es ++ st.hp⟩
 | none => ⟨st.fr, es ++ st.hp⟩
inductive Tr where
 | fail
 | out (v : V) (es : List (Nat × Ent))
 | ck (b : Bool) (t : Tr)
 | br (b : Bool) (t f : Tr)
 | get (x : Option V) (k : V → Tr)
def Tr.eval : Tr → Option (V × List (Nat × Ent))
 | .fail => none
 | .out v es => some (v, es)
 | .ck b t => match b with
  | true => t.eval
  | false => none
 | .br b t f => match b with
  | true => t.eval
  | false => f.eval
 | .get x k => match x with
  | some v => (k v).eval
  | none => none
def partsOf : V → List V
 | .parts ps => ps
 | v => [v]
def unparts (v : V) (ps : List V) : V := match v with
 | .parts _ => .parts ps
 | _ => match ps with
  | [x] => x
  | _ => .dead
def vsize1 : V → Nat
 | .ints _ n _ => n
 | _ => 1
def psize : List V → Nat
 | [] => 0
 | p :: ps => vsize1 p + psize ps
def nth {α : Type} : List α → Nat → Option α
 | [], _ => none
 | x :: _, 0 => some x
 | _ :: l, n + 1 => nth l n
def dropN {α : Type} : List α → Nat → List α
 | l, 0 => l
 | [], _ + 1 => []
 | _ :: l, n + 1 => dropN l n
def locate : List V → Nat → Nat → Option (Nat × Nat)
 | [], _, _ => none
 | p :: ps, pi, off => match Nat.blt off (vsize1 p) with
  | true => some (pi, off)
  | false => locate ps (pi + 1) (off - vsize1 p)
def takeParts : List V → Nat → Option (List V)
 | _, 0 => some []
 | [], _ + 1 => none
 | p :: ps, m + 1 => match Nat.ble (vsize1 p) (m + 1) with
  | true => match takeParts ps (m + 1 - vsize1 p) with
   | some l => some (p :: l)
   | none => none
  | false => none
def isZero : Nat → Bool
 | 0 => true
 | _ + 1 => false
def shiftC (c : Nat → Int) : Nat → (Nat → Int)
 | 0 => c
 | n + 1 => fun j => c (j + (n + 1))
def updC (c : Nat → Int) (r : Nat) (v : Int) : Nat → Int := fun j => if j = r then v else c j
def updR (c : Nat → Int) (r m : Nat) (d : Nat → Int) : Nat → Int := fun j => if r ≤ j ∧ j < r + m then d (j - r) else c j
def oneV : V → Bool
 | .int .. | .bool _ | .str _ | .nils | .nilp | .nilf | .nilm | .sl _ | .ref .. | .clo .. | .ptr .. | .elem .. | .arr .. | .row _ | .mp _ | .mapc .. => true
 | _ => false
def isAggTy : Ty → Bool
 | .st _ | .arr _ _ => true
 | _ => false
def loadP (ty : TyI) (ps : List V) (pi rel ext : Nat) : Option V :=
 match Nat.ble ty.size ext with
 | false => none
 | true => match ty.d with
  | .st _ => match rel with
   | 0 => match takeParts (dropN ps pi) ty.size with
    | some l => some (.parts l)
    | none => none
   | _ => none
  | .arr _ _ => match nth ps pi with
   | some (.ints k n c) => match Nat.ble ext n with
    | true => some (.ints k ty.size (shiftC c rel))
    | false => none
   | _ => none
  | _ => match nth ps pi with
   | some (.ints k n c) => match Nat.ble ext n, Nat.beq ty.size 1 with
    | true, true => some (.int k (c rel))
    | _, _ => none
   | some v => match rel, oneV v, Nat.beq ty.size 1 with
    | 0, true, true => some v
    | _, _, _ => none
   | none => none
def setNth {α : Type} : List α → Nat → α → List α
 | [], _, _ => []
 | _ :: l, 0, y => y :: l
 | x :: l, n + 1, y => x :: setNth l n y
def sameSh : V → V → Bool
 | .ints k n _, .ints k' m _ => decide (k = k') && Nat.beq n m
 | p, q => oneV p && oneV q
def setParts : List V → List V → Option (List V)
 | [], ps => some ps
 | q :: qs, p :: ps => match sameSh q p, setParts qs ps with
  | true, some l => some (q :: l)
  | _, _ => none
 | _ :: _, [] => none
def setAt (qs : List V) : List V → Nat → Option (List V)
 | ps, 0 => setParts qs ps
 | [], _ + 1 => none
 | p :: ps, n + 1 => match setAt qs ps n with
  | some l => some (p :: l)
  | none => none
def storeP (ty : TyI) (ps : List V) (pi rel ext : Nat) (x : V) : Option (List V) :=
 match Nat.ble ty.size ext with
 | false => none
 | true => match ty.d with
  | .st _ => match rel, x with
   | 0, .parts qs => match Nat.beq (psize qs) ty.size with
    | true => setAt qs ps pi
    | false => none
   | _, _ => none
  | .arr _ _ => match nth ps pi, x with
   | some (.ints k n c), .ints k' m d => match decide (k = k'), Nat.beq m ty.size, Nat.ble ext n with
    | true, true, true => match Nat.beq n m with
     | true => match isZero rel with
      | true => some (setNth ps pi (.ints k n d))
      | false => some (setNth ps pi (.ints k n (updR c rel m d)))
     | false => some (setNth ps pi (.ints k n (updR c rel m d)))
    | _, _, _ => none
   | _, _ => none
  | _ => match nth ps pi with
   | some (.ints k n c) => match x with
    | .int k' v => match decide (k = k'), Nat.ble ext n, Nat.beq ty.size 1 with
     | true, true, true => some (setNth ps pi (.ints k n (updC c rel v)))
     | _, _, _ => none
    | _ => none
   | some p => match oneV p, oneV x, Nat.beq ty.size 1, isZero rel with
    | true, true, true, true => some (setNth ps pi x)
    | _, _, _, _ => none
   | none => none
def placeOk (ps : List V) (pi rel ext : Nat) : Bool :=
 match nth ps pi with
 | some p => match Nat.ble (rel + ext) (vsize1 p) with
  | true => true
  | false => isZero rel && Nat.ble ext (psize (dropN ps pi))
 | none => false
def scal : Value → Option V
 | .int k n => some (.int k n)
 | .bool b => some (.bool b)
 | .string s => some (.str s)
 | .slice none 0 0 => some .nils
 | .pointer none => some .nilp
 | .nilFunc => some .nilf
 | .map none => some .nilm
 | _ => none
def zeros (k : IntKind) : List Value → Nat → Option (List Value)
 | vs, 0 => some vs
 | .int k' 0 :: vs, m + 1 => match decide (k' = k) with
  | true => zeros k vs m
  | false => none
 | _, _ + 1 => none
def pack : List V → List Value → Option (List V)
 | [], [] => some []
 | .ints k n _ :: sh, vs => match zeros k vs n with
  | some vs' => match pack sh vs' with
   | some l => some (.ints k n (fun _ => 0) :: l)
   | none => none
  | none => none
 | _ :: sh, v :: vs => match scal v, pack sh vs with
  | some x, some l => some (x :: l)
  | _, _ => none
 | _, _ => none
section
variable (E : Env)
def Env.ty (t : Nat) : Option TyI := find E.tt t
def Env.sz (t : Nat) : Nat := match E.ty t with
 | some ty => ty.size
 | none => 0
def ofConst (t : Nat) (v : Value) : V :=
 match v with
 | .agg cs => match E.ty t with
  | some ty => match pack ty.zero cs.toList with
   | some ps => match ty.d with
    | .arr _ _ => match ps with
     | [.ints k n c] => .ints k n c
     | _ => .dead
    | .st _ => .parts ps
    | _ => .dead
   | none => .dead
  | none => .dead
 | v => match scal v with
  | some x => x
  | none => .dead
def thBase : Nat := 2000000
def gOf (g : Nat) (caps : List V) : Nat := match caps with
 | [] => g
 | _ :: _ => match Nat.blt g thBase with
  | true => g
  | false => g - thBase
def ordL {α : Type} (g : Nat) (xs ys : List α) : List α := match Nat.blt g thBase with
 | true => xs ++ ys
 | false => ys ++ xs
def St.ev (st : St) (t : Nat) : Operand → V
 | .tmp i => st.get i
 | .const v => ofConst E t v
 | .func f => .clo f []
 | .global _ => .dead
def elems (c : Nat → Int) (k : IntKind) (rel sz : Nat) (n : Nat) : List V :=
 match Nat.beq sz 1 with
 | true => (List.range n).map fun i => .int k (c (rel + i))
 | false => (List.range n).map fun i => .ints k sz (fun j => c (rel + i * sz + j))
def mapO {α β : Type} (f : α → Option β) : List α → Option (List β)
 | [] => some []
 | v :: vs => match f v, mapO f vs with
  | some x, some l => some (x :: l)
  | _, _ => none
def allB {α : Type} (p : α → Bool) : List α → Bool
 | [] => true
 | x :: xs => match p x with
  | true => allB p xs
  | false => false
def forO : V → Bool
 | .int .. | .bool _ | .str _ | .ints .. | .nils | .nilp | .nilf | .nilm | .sl _ | .ref .. | .mapc .. => true
 | _ => false
def forP : V → Bool
 | .parts ps => allB forO ps
 | v => forO v
def forV : V → Bool
 | .clo _ caps => allB forP caps
 | v => forP v
def close1 (st : St) (v : V) : Option V := match v with
 | .row id => match st.ent id with
  | .row _ xs => some (.sl xs)
  | _ => none
 | .nils => some (.sl [])
 | .arr id pi rel m sz => match st.ent id with
  | .box ps => match nth ps pi with
   | some (.ints k n c) => some (.sl (elems c k rel sz m))
   | _ => none
  | _ => none
 | .mp id => match st.ent id with
  | .map ks vs => some (.mapc ks vs)
  | _ => none
 | .int k n => some (.int k n)
 | .bool b => some (.bool b)
 | .str s => some (.str s)
 | .ints k n c => some (.ints k n c)
 | .nilp => some .nilp
 | .nilf => some .nilf
 | .nilm => some .nilm
 | .sl xs => some (.sl xs)
 | .ref ps pi rel ext => some (.ref ps pi rel ext)
 | .clo f caps => match allB forP caps with
  | true => some (.clo f caps)
  | false => none
 | .mapc ks vs => some (.mapc ks vs)
 | _ => none
def closeP (st : St) (v : V) : Option V := match v with
 | .ptr id pi rel ext => match st.ent id with
  | .box ps => match mapO (close1 st) ps with
   | some l => some (.ref l pi rel ext)
   | none => none
  | _ => none
 | .parts ps => match mapO (close1 st) ps with
  | some l => some (.parts l)
  | none => none
 | v => close1 st v
def close (st : St) (v : V) : Option V := match v with
 | .clo f caps => match mapO (closeP st) caps with
  | some l => some (.clo f l)
  | none => none
 | v => closeP st v
def idx (xs : List V) (i : Int) : Option V := match decide (0 ≤ i) with
 | true => nth xs i.toNat
 | false => none
def inB (i : Int) (n : Nat) : Bool := decide (0 ≤ i) && decide (i < n)
def arith (op : BinOp) (k : IntKind) (a b : Int) : Tr :=
 match op with
 | .add => .out (.int k (k.wrap (a + b))) []
 | .sub => .out (.int k (k.wrap (a - b))) []
 | .mul => .out (.int k (k.wrap (a * b))) []
 | .quo => .ck (!decide (b = 0)) (.out (.int k (k.wrap (a.tdiv b))) [])
 | .rem => .ck (!decide (b = 0)) (.out (.int k (a.tmod b)) [])
 | .and => .out (.int k (k.wrap (BitVec.ofInt k.bits a &&& BitVec.ofInt k.bits b).toNat)) []
 | .or => .out (.int k (k.wrap (BitVec.ofInt k.bits a ||| BitVec.ofInt k.bits b).toNat)) []
 | .xor => .out (.int k (k.wrap (BitVec.ofInt k.bits a ^^^ BitVec.ofInt k.bits b).toNat)) []
 | .andNot => .out (.int k (k.wrap (BitVec.ofInt k.bits a &&& ~~~ BitVec.ofInt k.bits b).toNat)) []
 | .eql => .out (.bool (decide (a = b))) []
 | .neq => .out (.bool (!decide (a = b))) []
 | .lss => .out (.bool (decide (a < b))) []
 | .leq => .out (.bool (decide (a ≤ b))) []
 | .gtr => .out (.bool (decide (b < a))) []
 | .geq => .out (.bool (decide (b ≤ a))) []
 | _ => .fail
def maxI (m n : Int) : Int := if m < n then n else m
def minI (m n : Int) : Int := if n < m then n else m
def allEq (n : Nat) (c d : Nat → Int) : Bool := (List.range n).all fun j => decide (c j = d j)
def likeParts : List V → List V → Bool
 | [], [] => true
 | .int k _ :: ps, .int k' _ :: qs => decide (k = k') && likeParts ps qs
 | .ints k n _ :: ps, .ints k' m _ :: qs => decide (k = k') && Nat.beq n m && likeParts ps qs
 | _, _ => false
def eqParts : List V → List V → Bool
 | .int _ a :: ps, .int _ b :: qs => decide (a = b) && eqParts ps qs
 | .ints _ n c :: ps, .ints _ _ d :: qs => allEq n c d && eqParts ps qs
 | _, _ => true
def bin (op : BinOp) (t : Nat) (x y : V) : Tr :=
 match x, y with
 | .int k a, .int k' b => match op with
  | .shl => .ck (decide (0 ≤ b)) (.out (.int k (k.wrap (a * 2 ^ (min b.toNat k.bits)))) [])
  | .shr => .ck (decide (0 ≤ b)) (.out (.int k (a.fdiv (2 ^ (min b.toNat k.bits)))) [])
  | op => match decide (k = k') with
   | true => arith op k a b
   | false => .fail
 | .bool a, .bool b => match E.ty t with
  | some ty => match ty.d, op with
   | .bool, .eql => .out (.bool (a == b)) []
   | .bool, .neq => .out (.bool (!(a == b))) []
   | _, _ => .fail
  | none => .fail
 | .parts ps, .parts qs => match E.ty t with
  | some ty => match ty.d, likeParts ps qs, Nat.beq (psize ps) ty.size with
   | .st _, true, true => match op, ty.eq with
    | .eql, true => .out (.bool (eqParts ps qs)) []
    | .neq, true => .out (.bool (!(eqParts ps qs))) []
    | _, _ => .fail
   | _, _, _ => .fail
  | none => .fail
 | .ints k n c, .ints k' n' d => match E.ty t with
  | some ty => match ty.d, decide (k = k'), Nat.beq n n', Nat.beq n ty.size with
   | .arr _ _, true, true, true => match op, ty.eq with
    | .eql, true => .out (.bool (allEq n c d)) []
    | .neq, true => .out (.bool (!(allEq n c d))) []
    | _, _ => .fail
   | _, _, _, _ => .fail
  | none => .fail
 | .str a, .str b => match op with
  | .add => .ck (decide (((a.size + b.size : Nat) : Int) ≤ 9223372036854775807)) (.out (.str (a ++ b)) [])
  | .eql => .out (.bool (a.toList == b.toList)) []
  | .neq => .out (.bool (!(a.toList == b.toList))) []
  | _ => .fail
 | _, _ => .fail
def strAt (s : ByteArray) (n : Nat) : Int := ((s.data.toList.getD n 0).toNat : Int)
def strSl (st : St) (t : Nat) (s : ByteArray) (lo hi mx : Option Operand) : Tr := match E.ty t, mx with
 | some ty, none => match ty.d with
  | .str => match hi with
   | none => match lo with
    | none => .out (.str (s.extract 0 s.size)) []
    | some l => match st.ev E 0 l with
     | .int _ m => .ck (decide (0 ≤ m) && decide (m ≤ s.size)) (.out (.str (s.extract m.toNat s.size)) [])
     | _ => .fail
   | some h => match st.ev E 0 h with
    | .int _ q => match lo with
     | none => .ck (decide (0 ≤ q) && decide (q ≤ s.size)) (.out (.str (s.extract 0 q.toNat)) [])
     | some l => match st.ev E 0 l with
      | .int _ m => .ck (decide (0 ≤ q) && decide (q ≤ s.size)) (.ck (decide (0 ≤ m) && decide (m ≤ q.toNat)) (.out (.str (s.extract m.toNat q.toNat)) []))
      | _ => .fail
    | _ => .fail
  | _ => .fail
 | _, _ => .fail
def zeroV (t : Nat) : Option V := match E.ty t with
 | some ty => match ty.d with
  | .st _ => some (.parts ty.zero)
  | _ => match ty.zero with
   | [x] => some x
   | _ => none
 | none => none
def lenV (st : St) : V → Option Nat
 | .sl xs => some xs.length
 | .nils => some 0
 | .row id => match st.ent id with
  | .row _ xs => some xs.length
  | _ => none
 | .arr id _ _ n _ => match st.ent id with
  | .box _ => some n
  | _ => none
 | _ => none
def ptrTo (st : St) (a : V) (K : List V → Nat → Nat → Nat → Tr) : Tr :=
 match a with
 | .ptr id pi rel ext => match st.ent id with
  | .box ps => K ps pi rel ext
  | _ => .fail
 | .ref ps pi rel ext => K ps pi rel ext
 | .elem id i pi rel ext => match st.ent id with
  | .row _ xs => .get (nth xs i) fun v => K (partsOf v) pi rel ext
  | _ => .fail
 | _ => .fail
def rePtr (a : V) (pi rel ext : Nat) : V := match a with
 | .ptr id _ _ _ => .ptr id pi rel ext
 | .ref ps _ _ _ => .ref ps pi rel ext
 | .elem id i _ _ _ => .elem id i pi rel ext
 | _ => .dead
def capOk : V → Bool
 | .parts _ => true
 | .ints _ _ _ => true
 | v => oneV v
def capsOk : List V → Bool
 | [] => true
 | v :: vs => match capOk v with
  | true => capsOk vs
  | false => false
def plainO : V → Bool
 | .int .. | .bool _ | .str _ | .ints .. | .nils | .nilp | .nilf | .nilm => true
 | _ => false
def plainP : V → Bool
 | .parts ps => allB plainO ps
 | .fresh _ xs => allB plainE xs
 | v => plainO v
where plainE : V → Bool
 | .parts ps => allB plainO ps
 | v => plainO v
def plainQ : V → Bool
 | .parts ps => allB plainP ps
 | v => plainP v
def plainV : V → Bool
 | .tup vs => allB plainQ vs
 | v => plainQ v
def buildP (st : St) (fs : List (Nat × Nat)) : List (Nat × Operand) → List V → Option (List V)
 | [], ps => some ps
 | (i, x) :: gs, ps => match nth fs i with
  | some (off, ft) => match locate ps 0 off, capOk (st.ev E ft x), Nat.beq (psize (partsOf (st.ev E ft x))) (E.sz ft), E.ty ft with
   | some (pi, rel), true, true, some _ => match isZero rel, setAt (partsOf (st.ev E ft x)) ps pi with
    | true, some ps' => buildP st fs gs ps'
    | _, _ => none
   | _, _, _, _ => none
  | none => none
def fillElems (st : St) (e : Nat) : List (Nat × Operand) → Nat → Option (List V)
 | [], _ => some []
 | (j, o) :: gs, i => match Nat.beq i j, forV (st.ev E e o), capOk (st.ev E e o), Nat.beq (psize (partsOf (st.ev E e o))) (E.sz e) with
  | true, true, true, true => match fillElems st e gs (i + 1) with
   | some l => some (st.ev E e o :: l)
   | none => none
  | _, _, _, _ => none
def rowE (st : St) (e : Nat) : V → Option (List V × Bool)
 | .sl xs => some (xs, true)
 | .nils => some ([], false)
 | .row id => match st.ent id with
  | .row e' xs => match Nat.beq e e' with
   | true => some (xs, false)
   | false => none
  | _ => none
 | _ => none
def sizesOk (sz : Nat) : List V → Bool
 | [] => true
 | x :: xs => match Nat.beq (psize (partsOf x)) sz with
  | true => sizesOk sz xs
  | false => false
def lookOk (sz : Nat) (look : Bool) (ys : List V) : Bool := match look with
 | true => sizesOk sz ys
 | false => true
def recv1 (v : V) (i : Nat) : V × List (Nat × Ent) := match v with
 | .fresh e xs => (.row i, [(i, .row e xs)])
 | v => (v, [])
def recvL : List V → Nat → List V × List (Nat × Ent)
 | [], _ => ([], [])
 | v :: vs, i => match recv1 v i, recvL vs (i + 2) with
  | (x, e), (l, es) => (x :: l, e ++ es)
def recvP (v : V) (i : Nat) : V × List (Nat × Ent) := match v with
 | .parts ps => match recvL ps (i * 100) with
  | (l, es) => (.parts l, es)
 | v => recv1 v i
def recvT : List V → Nat → List V × List (Nat × Ent)
 | [], _ => ([], [])
 | v :: vs, i => match recvP v i, recvT vs (i + 2) with
  | (x, e), (l, es) => (x :: l, e ++ es)
def recv (v : V) (i : Nat) : V × List (Nat × Ent) := match v with
 | .tup vs => match recvT vs (i * 100) with
  | (l, es) => (.tup l, es)
 | v => recvP v i
def freeAll (st : St) : List (Nat × Ent) → Bool
 | [] => true
 | (i, _) :: es => match st.ent i with
  | .none => freeAll st es
  | _ => false
def natMem (x : Nat) : List Nat → Bool
 | [] => false
 | y :: ys => match Nat.beq x y with
  | true => true
  | false => natMem x ys
def nodupN : List Nat → Bool
 | [] => true
 | x :: xs => match natMem x xs with
  | true => false
  | false => nodupN xs
def sameParts : List V → List V → Bool
 | [], [] => true
 | .int k a :: ps, .int k' b :: qs => decide (k = k') && decide (a = b) && sameParts ps qs
 | _, _ => false
def mapFind (k : V) : List V → Nat → Option Nat
 | [], _ => none
 | x :: xs, i => match sameParts (partsOf k) (partsOf x) with
  | true => some i
  | false => mapFind k xs (i + 1)
def sameKey (k x : V) : Bool := sameParts (partsOf k) (partsOf x)
def hasKey (k : V) : List V → Bool
 | [] => false
 | x :: xs => sameKey k x || hasKey k xs
def wfK (k : IntKind) (n : Int) : Bool := decide (k.min ≤ n) && decide (n ≤ k.max)
def keyInts : List IntKind → List V → Bool
 | [], [] => true
 | k :: ks, .int k' n :: vs => decide (k' = k) && wfK k n && keyInts ks vs
 | _, _ => false
def keyIs (kd : Bool × List IntKind) (v : V) : Bool := match v with
 | .parts ps => kd.1 && keyInts kd.2 ps
 | v => !kd.1 && keyInts kd.2 [v]
def keysFine (kd : Bool × List IntKind) : List V → Bool
 | [] => true
 | x :: xs => keyIs kd x && !hasKey x xs && keysFine kd xs
def mapPutK (k : V) (ks : List V) : List V := match mapFind k ks 0 with
 | some _ => ks
 | none => ks ++ [k]
def mapPutV (k v : V) (ks vs : List V) : List V := match mapFind k ks 0 with
 | some j => setNth vs j v
 | none => vs ++ [v]
def mapGetB (k : V) (ks vs : List V) : Bool := match mapFind k ks 0 with
 | some j => match nth vs j with
  | some (.bool b) => b
  | _ => false
 | none => false
def allBools : List V → Bool
 | [] => true
 | .bool _ :: vs => allBools vs
 | _ => false
def mapFine (kd : Bool × List IntKind) (ks vs : List V) : Bool := keysFine kd ks && allBools vs
def kindsOf : List V → Option (List IntKind)
 | [] => some []
 | .int k _ :: ps => match kindsOf ps with
  | some ks => some (k :: ks)
  | none => none
 | _ => none
def Env.kd (E : Env) (kt : Nat) : Option (Bool × List IntKind) := match find E.tt kt with
 | some ty => match ty.eq, ty.d with
  | true, .int k => some (false, [k])
  | true, .st _ => match kindsOf ty.zero with
   | some ks => some (true, ks)
   | none => none
  | _, _ => none
 | none => none
def sliceIdx (st : St) (e sz : Nat) (a : V) (n : Int) : Tr := match a with
 | .sl xs => .get (idx xs n) fun v => match Nat.beq (psize (partsOf v)) sz with
  | true => .out (.ref (partsOf v) 0 0 sz) []
  | false => .fail
 | .row i => match st.ent i with
  | .row e' xs => match Nat.beq e e' with
   | true => .ck (inB n xs.length) (.out (.elem i n.toNat 0 0 sz) [])
   | false => .fail
  | _ => .fail
 | _ => .fail
def rowAt : List V → Nat → Option (Nat × Nat)
 | [], _ => none
 | .row id :: ps, o => match allB plainO ps with
  | true => some (o, id)
  | false => none
 | p :: ps, o => match plainO p with
  | true => rowAt ps (o + vsize1 p)
  | false => none
def rowIn (v : V) : Option (Nat × Nat) := rowAt (partsOf v) 0
def freshAt : List V → Nat → Option (Nat × Nat × List V)
 | [], _ => none
 | .fresh e xs :: ps, o => match allB plainO ps with
  | true => some (o, e, xs)
  | false => none
 | p :: ps, o => match plainO p with
  | true => freshAt ps (o + vsize1 p)
  | false => none
def freshIn (v : V) : Option (Nat × Nat × List V) := freshAt (partsOf v) 0
def putRowL (r : V) : List V → List V
 | [] => []
 | .row _ :: ps => r :: ps
 | .fresh _ _ :: ps => r :: ps
 | p :: ps => p :: putRowL r ps
def putRow (r : V) : V → V
 | .parts ps => .parts (putRowL r ps)
 | .row _ => r
 | .fresh _ _ => r
 | v => v
def likeElem : V → V → Bool
 | .int k _, .int k' _ => decide (k = k')
 | .parts ps, .parts qs => likeParts ps qs
 | _, _ => false
def likeRows : List V → List V → Bool
 | [], [] => true
 | x :: xs, y :: ys => likeElem x y && likeRows xs ys
 | _, _ => false
def muBase : Nat := 1000000
def puBase : Nat := 1500000
def mvBase : Nat := 1250000
def bxBase : Nat := 1375000
def ruBase : Nat := 1437500
inductive CK where
 | fn | mu | pu (p : Nat) | mv (p : Nat) | bx | ru (p : Nat) | gw | fz
def callKind (E : Env) (g : Nat) : Option CK := match find E.fi g with
 | some F => match F.mu with
  | true => match Nat.blt (muBase + g) mvBase with
   | true => some .mu
   | false => none
  | false => match Nat.blt g muBase with
   | true => match F.pu with
    | some p => some (.pu p)
    | none => match F.mv with
     | some p => match Nat.blt (mvBase + g) bxBase with
      | true => some (.mv p)
      | false => none
     | none => match F.bx with
      | true => match Nat.blt (bxBase + g) ruBase with
       | true => some .bx
       | false => none
      | false => match F.ru with
       | some p => match Nat.blt (ruBase + g) puBase with
        | true => some (.ru p)
        | false => none
       | none => match F.gw with
        | true => some .gw
        | false => match F.fz with
         | true => some .fz
         | false => some .fn
   | false => none
 | none => none
theorem callKind_blt {E : Env} {g : Nat} (h : callKind E g = some .fn) : Nat.blt g muBase = true := by
 unfold callKind at h
 repeat' split at h
 all_goals first
  | assumption
  | cases h
theorem callKind_gw {E : Env} {g : Nat} (h : callKind E g = some .gw) : Nat.blt g muBase = true := by
 unfold callKind at h
 repeat' split at h
 all_goals first
  | assumption
  | cases h
theorem callKind_fz {E : Env} {g : Nat} (h : callKind E g = some .fz) : Nat.blt g muBase = true := by
 unfold callKind at h
 repeat' split at h
 all_goals first
  | assumption
  | cases h
theorem callKind_mu {E : Env} {g : Nat} (h : callKind E g = some .mu) : Nat.blt (muBase + g) mvBase = true := by
 unfold callKind at h
 repeat' split at h
 all_goals first
  | assumption
  | cases h
theorem callKind_ru {E : Env} {g p : Nat} (h : callKind E g = some (.ru p)) : Nat.blt (ruBase + g) puBase = true := by
 unfold callKind at h
 repeat' split at h
 all_goals first
  | assumption
  | cases h
theorem callKind_bx {E : Env} {g : Nat} (h : callKind E g = some .bx) : Nat.blt (bxBase + g) ruBase = true := by
 unfold callKind at h
 repeat' split at h
 all_goals first
  | assumption
  | cases h
theorem callKind_mv {E : Env} {g p : Nat} (h : callKind E g = some (.mv p)) : Nat.blt (mvBase + g) bxBase = true := by
 unfold callKind at h
 repeat' split at h
 all_goals first
  | assumption
  | cases h
def St.bury (st : St) (i : Nat) : St := ⟨st.fr, (i, .tomb) :: st.hp⟩
def dropAt {α : Type} : List α → Nat → List α
 | [], _ => []
 | _ :: l, 0 => l
 | x :: l, n + 1 => x :: dropAt l n
def insAt {α : Type} (y : α) : List α → Nat → List α
 | l, 0 => y :: l
 | [], _ + 1 => [y]
 | x :: l, n + 1 => x :: insAt y l n
def puRes : V → Option (V × List V)
 | .tup vs => match vs with
  | [x, .parts ps] => some (x, ps)
  | _ => none
 | _ => none
def sameSz : List V → List V → Bool
 | [], [] => true
 | p :: ps, q :: qs => match p, q with
  | .ints _ n _, .ints _ m _ => Nat.beq n m && sameSz ps qs
  | .ints _ _ _, _ => false
  | _, .ints _ _ _ => false
  | _, _ => sameSz ps qs
 | _, _ => false
def mvArg (E : Env) (st : St) (vs : List V) (ts : List Nat) (p : Nat) : Option (Nat × List V × List (Nat × Ent) × St) := match nth vs p with
 | some (.row i) => match st.ent i with
  | .row e xs => some (e, xs, [(i, .tomb)], st.bury i)
  | _ => none
 | some .nils => match nth ts p with
  | some t => match find E.tt t with
   | some ty => match ty.d with
    | .sl e => some (e, [], [], st)
    | _ => none
   | none => none
  | none => none
 | _ => none
def mvRes : V → Option (Nat × List V × Bool)
 | .tup vs => match vs with
  | [.fresh e ys, .bool b] => some (e, ys, b)
  | _ => none
 | _ => none
def bxRes : V → Option (List V × Nat)
 | .ref ps pi rel ext => match isZero pi, isZero rel, allB forO ps with
  | true, true, true => some (ps, ext)
  | _, _, _ => none
 | _ => none
def plainW : V → Bool
 | .tup vs => allB plainP.plainE vs
 | v => plainP.plainE v
def puFine (ps ps' : List V) (a : Bool) : Bool := allB forO ps && allB forO ps' && sameSz ps ps' && (a || allB plainO ps')
def ownId (o : Oper) : Nat := match o.dst with
 | some d => 2 * d
 | none => 0
def frz1 (st : St) (e n : Nat) (gs : List (Nat × Operand)) : Option Nat := match gs with
 | [(j, x)] => match st.ev E e x, isZero j, Nat.beq n 1, Nat.beq (E.sz e) 1 with
  | .row i, true, true, true => some i
  | _, _, _, _ => none
 | _ => none
def frzOf (st : St) (t n : Nat) (gs : List (Nat × Operand)) : Option (Nat × Nat) := match E.ty t with
 | some ty => match ty.d with
  | .sl e => match E.ty e with
   | some _ => match frz1 E st e n gs with
    | some i => some (e, i)
    | none => none
   | none => none
  | _ => none
 | none => none
def appMk (id : Nat) (ty : TyI) (t' : Nat) (s x : V) : Tr := match ty.d, s, x with
 | .sl e, .nils, .int k n => match decide (k = .i64), E.ty t', zeroV E e, E.ty e with
  | true, some ity, some z, some ety => match ity.d, Nat.blt 0 ety.size, Nat.blt 0 ety.bytes with
   | .int _, true, true => .ck (decide (0 < n) && decide (n.toNat * ety.bytes ≤ 140737488355328)) (.out (.row id) [(id, .row e (List.replicate n.toNat z))])
   | _, _, _ => .fail
  | _, _, _, _ => .fail
 | _, _, _ => .fail
def sliceRow (st : St) (id : Nat) (x : V) (m : Int) : Tr := match x with
 | .nils => .ck (decide (m = 0)) (.out .nils [])
 | .row i => match st.ent i, st.ent id with
  | .row e xs, .none => .ck (decide (0 ≤ m) && decide (m ≤ (xs.length : Int))) (.out (.row id) [(id, .row e (List.take m.toNat xs)), (i, .tomb)])
  | _, _ => .fail
 | _ => .fail
def stepOp (call : Nat → List V → Option V) (o : Oper) (st : St) : Tr :=
 let id := ownId o
 match o.op with
 | .move x | .assign x => .out (st.ev E o.type x) []
 | .pick c a b => match st.ev E o.type c with
  | .bool b' => .br b' (.out (st.ev E o.type a) []) (.out (st.ev E o.type b) [])
  | _ => .fail
 | .alloc t => match E.ty t, st.ent id with
  | some ty, .none => .out (.ptr id 0 0 ty.size) [(id, .box ty.zero)]
  | _, _ => .fail
 | .box t x => match st.ent id with
  | .none => match capOk (st.ev E t x) with
   | true => .out (.ptr id 0 0 (psize (partsOf (st.ev E t x)))) [(id, .box (partsOf (st.ev E t x)))]
   | false => .fail
  | _ => .fail
 | .build t gs => match E.ty t with
  | some ty => match ty.d with
   | .st fs => match buildP E st fs gs.toList ty.zero with
    | some ps => .out (.parts ps) []
    | none => .fail
   | .arr _ _ => match gs.toList, ty.zero with
    | [], [.ints k n c] => .out (.ints k n c) []
    | _, _ => .fail
   | _ => .fail
  | none => .fail
 | .buildSlice t n gs => match frzOf E st t n gs.toList with
  | some (e, i) => match st.ent i, st.ent id with
   | .row _ xs, .none => .out (.row id) [(id, .row e [.sl xs]), (i, .tomb)]
   | _, _ => .fail
  | none => match E.ty t, st.ent id with
   | some ty, .none => match ty.d with
    | .sl e => match E.ty e, fillElems E st e gs.toList 0, Nat.beq gs.toList.length n, Nat.blt 0 (E.sz e) with
     | some _, some xs, true, true => match Nat.ble (n * E.sz e) 16777216 with
      | true => .out (.row id) [(id, .row e xs)]
      | false => .fail
     | _, _, _, _ => .fail
    | _ => .fail
   | _, _ => .fail
 | .load t a => match E.ty t with
  | some ty => ptrTo st (st.ev E 0 a) fun ps pi rel ext => match loadP ty ps pi rel ext with
   | some v => .out v []
   | none => .fail
  | none => .fail
 | .store t a x => match E.ty t with
  | some ty => match st.ev E 0 a with
   | .ptr i pi rel ext => match st.ent i with
    | .box ps => match storeP ty ps pi rel ext (st.ev E t x) with
     | some ps' => .out .dead [(i, .box ps')]
     | none => .fail
    | _ => .fail
   | .elem i j pi rel ext => match st.ent i with
    | .row e xs => .get (nth xs j) fun v => match storeP ty (partsOf v) pi rel ext (st.ev E t x) with
     | some ps' => match forV (unparts v ps') with
      | true => .out .dead [(i, .row e (setNth xs j (unparts v ps')))]
      | false => .fail
     | none => .fail
    | _ => .fail
   | _ => .fail
  | none => .fail
 | .nilCheck x => match st.ev E 0 x with
  | .ptr i pi rel ext => match st.ent i with
   | .box _ => .out (.ptr i pi rel ext) []
   | _ => .fail
  | .ref ps pi rel ext => .out (.ref ps pi rel ext) []
  | _ => .fail
 | .binOp op t x y _ => bin E op t (st.ev E o.type x) (st.ev E o.type y)
 | .unOp op _ x => match op, st.ev E o.type x with
  | .not, .bool b => .out (.bool (!b)) []
  | .neg, .int k n => .out (.int k (k.wrap (0 - n))) []
  | _, _ => .fail
 | .convert s t x => match E.ty s, E.ty t, st.ev E 0 x with
  | some _, some ty, .int _ n => match ty.d with
   | .int k => .out (.int k (k.wrap n)) []
   | _ => .fail
  | _, _, _ => .fail
 | .fieldAddr s x f => match E.ty s with
  | some ty => match ty.d with
   | .st fs => match nth fs f with
    | some (off, t) => ptrTo st (st.ev E 0 x) fun ps pi rel _ => match isZero rel, Nat.ble 1 (E.sz t), locate (dropN ps pi) pi off with
     | true, true, some (pi', rel') => match placeOk ps pi' rel' (E.sz t) with
      | true => .out (rePtr (st.ev E 0 x) pi' rel' (E.sz t)) []
      | false => .fail
     | _, _, _ => .fail
    | none => .fail
   | _ => .fail
  | none => .fail
 | .field t x f => match E.ty t, st.ev E 0 x with
  | some ty, .parts ps => match ty.d with
   | .st fs => match nth fs f with
    | some (off, ft) => match E.ty ft with
     | some fty => match locate ps 0 off with
      | some (pi, rel) => match placeOk ps pi rel fty.size with
       | true => match loadP fty ps pi rel fty.size with
        | some v => .out v []
        | none => .fail
       | false => .fail
      | none => .fail
     | none => .fail
    | none => .fail
   | _ => .fail
  | _, _ => .fail
 | .indexAddr t x i => match E.ty t, st.ev E 0 i with
  | some ty, .int _ n => match ty.d with
   | .arr len e => ptrTo st (st.ev E 0 x) fun ps pi rel ext => match nth ps pi with
    | some (.ints k m c) => match Nat.ble ext m, Nat.ble (len * E.sz e) ext with
     | true, true => .ck (inB n len) (.out (rePtr (st.ev E 0 x) pi (rel + n.toNat * E.sz e) (E.sz e)) [])
     | _, _ => .fail
    | _ => .fail
   | .sl e => match E.ty e with
    | some _ => sliceIdx st e (E.sz e) (st.ev E 0 x) n
    | none => .fail
   | _ => .fail
  | _, _ => .fail
 | .index t x i => match E.ty t, st.ev E t x, st.ev E 0 i with
  | some ty, .str s, .int _ n => match ty.d with
   | .str => .ck (inB n s.size) (.out (.int .u8 (strAt s n.toNat)) [])
   | _ => .fail
  | some ty, .ints k m c, .int _ n => match ty.d with
   | .arr len e => match E.ty e, Nat.ble (len * E.sz e) m with
    | some ety, true => .ck (inB n len) (match ety.d with
     | .arr _ _ => .out (.ints k ety.size (fun j => c (j + n.toNat * ety.size))) []
     | .int _ => .out (.int k (c (n.toNat * ety.size))) []
     | _ => .fail)
    | _, _ => .fail
   | _ => .fail
  | _, _, _ => .fail
 | .extract x i => match st.ev E 0 x with
  | .tup vs => match nth vs i with
   | some v => .out v []
   | none => .fail
  | _ => .fail
 | .makeFunc (.func f) first caps => match first.toList with
  | [] => match capsOk (caps.toList.map (st.ev E 0)), Nat.blt f thBase with
   | true, true => .out (.clo f (caps.toList.map (st.ev E 0))) []
   | _, _ => .fail
  | _ :: _ => match caps.toList, capsOk (first.toList.map (st.ev E 0)) with
   | [], true => .out (.clo (thBase + f) (first.toList.map (st.ev E 0))) []
   | _, _ => .fail
 | .slice t x lo hi mx => match st.ev E 0 x with
  | .str s => strSl E st t s lo hi mx
  | _ => match E.ty t, mx, lo with
   | some ty, none, none => match ty.d with
    | .arr n e => match st.ev E 0 x with
     | .ptr i pi rel ext => match st.ent i with
      | .box ps => match nth ps pi with
       | some (.ints k m c) => match Nat.ble ext m, Nat.ble (n * E.sz e) ext, Nat.ble n 1048576 with
        | true, true, true => match hi with
         | none => .out (.arr i pi rel n (E.sz e)) []
         | some h => match st.ev E 0 h with
          | .int _ m => .ck (decide (0 ≤ m) && decide (m ≤ n)) (.out (.arr i pi rel m.toNat (E.sz e)) [])
          | _ => .fail
        | _, _, _ => .fail
       | _ => .fail
      | _ => .fail
     | .ref ps pi rel ext => match nth ps pi with
      | some (.ints k m c) => match Nat.ble ext m, Nat.ble (n * E.sz e) ext, Nat.ble n 1048576 with
       | true, true, true => match hi with
        | none => .out (.sl (elems c k rel (E.sz e) n)) []
        | some h => match st.ev E 0 h with
         | .int _ m => .ck (decide (0 ≤ m) && decide (m ≤ n)) (.out (.sl (elems c k rel (E.sz e) m.toNat)) [])
         | _ => .fail
       | _, _, _ => .fail
      | _ => .fail
     | _ => .fail
    | .sl e => match hi with
     | some h => match E.ty e, st.ev E 0 h with
      | some _, .int k m => match decide (k = .i64) with
       | true => sliceRow st id (st.ev E 0 x) m
       | false => .fail
      | _, _ => .fail
     | none => .fail
    | _ => .fail
   | _, _, _ => .fail
 | .makeSlice t l c => match E.ty t, st.ent id with
  | some ty, .none => match ty.d with
   | .sl e => match zeroV E e, E.ty e with
    | some z, some ety => match st.ev E 0 l, st.ev E 0 c, Nat.blt 0 ety.size, Nat.blt 0 ety.bytes with
     | .int _ n, .int _ m, true, true => .ck (decide (n = m) && decide (0 ≤ n) && decide (n.toNat * ety.bytes ≤ 140737488355328)) (.out (.row id) [(id, .row e (List.replicate n.toNat z))])
     | _, _, _, _ => .fail
    | _, _ => .fail
   | _ => .fail
  | _, _ => .fail
 | .makeMap t none => match st.ent id with
  | .none => .out (.mp id) [(id, .map [] [])]
  | _ => .fail
 | .mapUpdate t m k x => match E.ty t, st.ev E 0 m with
  | some ty, .mp i => match ty.d with
   | .mp kt et => match st.ent i, E.kd kt, st.ev E 0 x with
    | .map ks vs, some kd, .bool b => .ck (mapFine kd ks vs) (.ck (keyIs kd (st.ev E kt k)) (.out .dead [(i, .map (mapPutK (st.ev E kt k) ks) (mapPutV (st.ev E kt k) (.bool b) ks vs))]))
    | _, _, _ => .fail
   | _ => .fail
  | _, _ => .fail
 | .lookup t m k c => match E.ty t, c with
  | some ty, false => match ty.d with
   | .mp kt et => match E.kd kt, E.ty et with
    | some kd, some ety => match ety.d with
     | .bool => match st.ev E 0 m with
      | .mp i => match st.ent i with
       | .map ks vs => .ck (mapFine kd ks vs) (.ck (keyIs kd (st.ev E kt k)) (.out (.bool (mapGetB (st.ev E kt k) ks vs)) []))
       | _ => .fail
      | .mapc ks vs => .ck (mapFine kd ks vs) (.ck (keyIs kd (st.ev E kt k)) (.out (.bool (mapGetB (st.ev E kt k) ks vs)) []))
      | _ => .fail
     | _ => .fail
    | _, _ => .fail
   | _ => .fail
  | _, _ => .fail
 | .call c => match c.callee with
  | .builtin .max => match c.args.toList with
   | [x, y] => match st.ev E 0 x, st.ev E 0 y with
    | .int k m, .int k' n => match decide (k = k') with
     | true => .out (.int k (maxI m n)) []
     | false => .fail
    | _, _ => .fail
   | _ => .fail
  | .builtin .min => match c.args.toList with
   | [x, y] => match st.ev E 0 x, st.ev E 0 y with
    | .int k m, .int k' n => match decide (k = k') with
     | true => .out (.int k (minI m n)) []
     | false => .fail
    | _, _ => .fail
   | _ => .fail
  | .builtin .len => match c.args.toList, c.argTypes.toList with
   | [x], [t] => match E.ty t with
    | some ty => match ty.d with
     | .sl _ => match lenV st (st.ev E 0 x) with
      | some n => .out (.int .i64 n) []
      | none => .fail
     | .str => match st.ev E 0 x with
      | .str s => .out (.int .i64 s.size) []
      | _ => .fail
     | _ => .fail
    | none => .fail
   | _, _ => .fail
  | .builtin .append => match c.args.toList, c.argTypes.toList with
   | [s, x], [t, t'] => match E.ty t, Nat.beq t t', st.ent id with
    | some ty, true, .none => match ty.d with
     | .sl e => match E.ty e, rowE st e (st.ev E 0 s), rowE st e (st.ev E 0 x) with
      | some ety, some (xs, _), some (ys, look) => match Nat.blt 0 ety.size, Nat.blt 0 ety.bytes with
       | true, true => .ck (decide ((xs.length + ys.length) * ety.bytes ≤ 140737488355328)) (.ck (lookOk ety.size look ys) (match st.ev E 0 s with
        | .row i => .out (.row id) [(id, .row e (xs ++ ys)), (i, .tomb)]
        | .nils => .out (.row id) [(id, .row e ys)]
        | _ => .fail))
       | _, _ => .fail
      | _, _, _ => .fail
     | _ => .fail
    | some ty, false, .none => appMk E id ty t' (st.ev E 0 s) (st.ev E 0 x)
    | _, _, _ => .fail
   | _, _ => .fail
  | .builtin .cap => match c.args.toList, c.argTypes.toList with
   | [x], [t] => match E.ty t with
    | some ty => match ty.d, st.ev E 0 x with
     | .sl _, .nils => .out (.int .i64 0) []
     | _, _ => .fail
    | none => .fail
   | _, _ => .fail
  | .value f => match st.ev E 0 f with
   | .clo g caps => match callKind E (gOf g caps) with
    | none => .fail
    | some (.pu p) => match caps, nth (c.args.toList.map (st.ev E 0)) p with
     | [], some (.ptr i pi rel ext) => match st.ent i, isZero pi, isZero rel with
      | .box ps, true, true => match mapO (close (st.bury i)) (dropAt (c.args.toList.map (st.ev E 0)) p) with
       | some l => .get (call (puBase + g) (insAt (.ref ps 0 0 ext) l p)) fun r => match puRes r with
        | some (x, ps') => match puFine ps ps' (allB forV (dropAt (c.args.toList.map (st.ev E 0)) p)) with
         | true => match recv x id with
          | (v, es) => match freeAll st es, nodupN (es.map (·.1)) with
           | true, true => match plainW x with
            | true => .out v ((i, .box ps') :: es)
            | false => .ck (plainV x) (.out v ((i, .box ps') :: es))
           | _, _ => .fail
         | false => .fail
        | none => .fail
       | none => .fail
      | _, _, _ => .fail
     | _, _ => .fail
    | some (.mv p) => match caps, mvArg E st (c.args.toList.map (st.ev E 0)) c.argTypes.toList p, st.ent (id * 100) with
     | [], some (e, xs, tb, stB), .none => match mapO (close stB) (dropAt (c.args.toList.map (st.ev E 0)) p) with
      | some l => .ck (plainV (.fresh e xs)) (.get (call (mvBase + g) (insAt (.fresh e xs) l p)) fun r => match mvRes r with
       | some (e', ys, b) => .ck (plainV (.fresh e' ys)) (.out (.tup [.row (id * 100), .bool b]) ((id * 100, .row e' ys) :: tb))
       | none => .fail)
      | none => .fail
     | _, _, _ => .fail
    | some .fz => match caps, c.args.toList.map (st.ev E 0), st.ent id with
     | [], [.row i, .clo f [.ptr j pi rel ext]], .none => match st.ent i, st.ent j with
      | .row _ xs, .box ps => match allB forO ps with
       | true => .get (call g [.sl xs, .clo f [.ref ps pi rel ext]]) fun r => match r with
        | .fresh e ys => .out (.row id) [(id, .row e ys), (i, .tomb), (j, .tomb)]
        | _ => .fail
       | false => .fail
      | _, _ => .fail
     | _, _, _ => .fail
    | some .gw => match caps, c.args.toList.map (st.ev E 0), st.ent id with
     | [], [.nils, .int k n], .none => .get (call g [.nils, .int k n]) fun r => match r with
      | .fresh e ys => .ck (plainV (.fresh e ys)) (.out (.row id) [(id, .row e ys)])
      | _ => .fail
     | _, _, _ => .fail
    | some (.ru p) => match caps, nth (c.args.toList.map (st.ev E 0)) p with
     | [], some (.row i) => match st.ent i with
      | .row e xs => match mapO (close (st.bury i)) (dropAt (c.args.toList.map (st.ev E 0)) p) with
       | some l => .get (call (ruBase + g) (insAt (.fresh e xs) l p)) fun r => match r with
        | .fresh e' ys => match Nat.beq e' e with
         | true => .ck (likeRows xs ys) (.out .dead [(i, .row e ys)])
         | false => .fail
        | _ => .fail
       | none => .fail
      | _ => .fail
     | _, _ => .fail
    | some .bx => match caps, allB forV (c.args.toList.map (st.ev E 0)), st.ent (id * 100) with
     | [], true, .none => match mapO (close st) (c.args.toList.map (st.ev E 0)) with
      | some l => .get (call (bxBase + g) l) fun r => match bxRes r with
       | some (ps, ext) => .out (.ptr (id * 100) 0 0 ext) [(id * 100, .box ps)]
       | none => .fail
      | none => .fail
     | _, _, _ => .fail
    | some .mu => match c.args.toList, caps with
     | [x, y], [] => match rowIn (st.ev E 0 x), st.ev E 0 y with
      | some (_, i), .int k n => match st.ent i with
       | .row e xs => .get (call (muBase + g) [putRow (.fresh e xs) (st.ev E 0 x), .int k n]) fun r => match r with
        | .tup [.int k' m, .fresh e' xs'] => match Nat.beq e' e with
         | true => .ck (likeRows xs xs') (.out (.int k' m) [(i, .row e xs')])
         | false => .fail
        | _ => .fail
       | _ => .fail
      | _, _ => .fail
     | _, _ => .fail
    | some .fn => match mapO (close st) (ordL g (c.args.toList.map (st.ev E 0)) caps) with
     | some avs => .get (call (gOf g caps) avs) fun r => match recv r id with
      | (v, es) => match freeAll st es, nodupN (es.map (·.1)) with
       | true, true => match allB forV (ordL g (c.args.toList.map (st.ev E 0)) caps) with
        | true => .out v es
        | false => .ck (plainV r) (.out v es)
       | _, _ => .fail
     | none => .fail
   | _ => .fail
  | _ => .fail
 | _ => .fail
end
end Go.Proofs.YthdnamhilcjnhaaGreatDoor
