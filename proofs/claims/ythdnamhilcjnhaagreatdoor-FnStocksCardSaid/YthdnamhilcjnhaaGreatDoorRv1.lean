/- The abstract interpreter, the second half: regions, code, loops, calls. Definitions alone. -/
import Derived.Test.YthdnamhilcjnhaaGreatDoorRv0
namespace Go.Proofs.YthdnamhilcjnhaaGreatDoor
open Go
set_option linter.unusedVariables false
def ids1 : V → List Nat
 | .ptr id _ _ _ => [id]
 | .elem id _ _ _ _ => [id]
 | .arr id _ _ _ _ => [id]
 | .row id => [id]
 | .mp id => [id]
 | _ => []
def idsL : List V → List Nat
 | [] => []
 | v :: vs => ids1 v ++ idsL vs
def idsB (st : St) (v : V) : List Nat := match v with
 | .ptr id _ _ _ => match st.ent id with
  | .box ps => id :: idsL ps
  | _ => [id]
 | .parts ps => idsL ps
 | v => ids1 v
def idsBL (st : St) : List V → List Nat
 | [] => []
 | v :: vs => idsB st v ++ idsBL st vs
def idsC (st : St) (v : V) : List Nat := match v with
 | .clo _ caps => idsBL st caps
 | v => idsB st v
def idsCL (st : St) : List V → List Nat
 | [] => []
 | v :: vs => idsC st v ++ idsCL st vs
section
variable (E : Env)
def reads (o : Oper) (st : St) : List Nat :=
 match o.op with
 | .load _ a => ids1 (st.ev E 0 a)
 | .store _ a _ => ids1 (st.ev E 0 a)
 | .nilCheck x => ids1 (st.ev E 0 x)
 | .fieldAddr _ x _ => ids1 (st.ev E 0 x)
 | .indexAddr _ x _ => ids1 (st.ev E 0 x)
 | .slice _ x _ _ _ => ids1 (st.ev E 0 x)
 | .lookup _ x _ _ => ids1 (st.ev E 0 x)
 | .mapUpdate _ x _ _ => ids1 (st.ev E 0 x)
 | .call c => match c.callee with
  | .value f => (match st.ev E 0 f with
   | .clo _ caps => idsCL st caps
   | _ => []) ++ idsCL st (c.args.toList.map (st.ev E 0))
  | _ => idsL (c.args.toList.map (st.ev E 0))
 | _ => []
structure Foot where
 rd : List Nat
 wr : List Nat
def guardOf (all : Array Oper) (o : Oper) : Option (Option (Nat × Bool)) := match o.guard with
 | none => some none
 | some (j, want) => match all[j]? with
  | some oj => match oj.dst with
   | some d => some (some (d, want))
   | none => none
  | none => none
def dstOk (n : Nat) (o : Oper) : Bool := match o.dst with
 | some d => Nat.blt d (nOf n) && !Nat.beq d (qOf n)
 | none => true
def runOps (call : Nat → List V → Option V) (n : Nat) (all : Array Oper) : List Oper → St → List Foot → Option (St × List Foot)
 | [], st, tr => some (st, tr)
 | o :: os, st, tr => match dstOk n o, guardOf all o with
  | true, some none => match (stepOp E call o st).eval with
   | some (v, es) => runOps call n all os (st.put o.dst v es) (⟨reads E o st, es.map (·.1)⟩ :: tr)
   | none => none
  | true, some (some (d, want)) => match st.get d with
   | .bool b => match b == want with
    | true => match (stepOp E call o (st.put (some d) (.bool want) [])).eval with
     | some (v, es) => runOps call n all os ((st.put (some d) (.bool want) []).put o.dst v es) (⟨reads E o (st.put (some d) (.bool want) []), es.map (·.1)⟩ :: tr)
     | none => none
    | false => runOps call n all os ((st.put (some d) (.bool (!want)) []).put o.dst .und []) (⟨[], []⟩ :: tr)
   | .und => runOps call n all os (st.put o.dst .und []) (⟨[], []⟩ :: tr)
   | _ => none
  | _, _ => none
def apartL (xs ys : List Nat) : Bool := match xs with
 | [] => true
 | x :: xs => match natMem x ys with
  | true => false
  | false => apartL xs ys
def tmpsOf : List Operand → List Nat
 | [] => []
 | .tmp t :: os => t :: tmpsOf os
 | _ :: os => tmpsOf os
def optL : Option Nat → List Nat
 | some d => [d]
 | none => []
def looks (all : Array Oper) (o : Oper) : List Nat :=
 tmpsOf o.op.operands.toList ++ match o.guard with
  | some (j, _) => match all[j]? with
   | some oj => optL oj.dst
   | none => []
  | none => []
def free2 (all : Array Oper) (o : Oper) (f : Foot) (p : Oper) (g : Foot) : Bool :=
 apartL (optL o.dst) (looks all p) && apartL (optL o.dst) (optL p.dst) && apartL (optL p.dst) (looks all o) &&
 apartL f.wr g.rd && apartL f.wr g.wr && apartL g.wr f.rd
def isBound (e : Edge) : Bool := match e.ground with
 | .textOnly _ => false
 | .gcOnly _ => false
 | _ => true
def edgeMask (acc : List Nat) : List Edge → Nat → Nat
 | [], s => s
 | e :: es, s => match isBound e with
  | false => edgeMask acc es s
  | true => edgeMask acc es (Nat.lor (Nat.lor s (Nat.pow 2 e.on)) (match nth acc e.on with | some m => m | none => 0))
def masks : List Oper → List Nat → List Nat
 | [], acc => acc
 | o :: os, acc => masks os (acc ++ [edgeMask acc o.after.toList 0])
def bitOf (m i : Nat) : Bool := Nat.beq (Nat.mod (Nat.div m (Nat.pow 2 i)) 2) 1
def backE (j : Nat) : List Edge → Bool
 | [] => true
 | e :: es => match isBound e, Nat.blt e.on j with
  | true, false => false
  | _, _ => backE j es
def backOk : List Oper → Nat → Bool
 | [], _ => true
 | o :: os, j => match backE j o.after.toList with
  | true => backOk os (j + 1)
  | false => false
def okBefore (all : Array Oper) (o : Oper) (f : Foot) (m : Nat) : List Oper → List Foot → Nat → Bool
 | p :: ps, g :: gs, i => match bitOf m i with
  | true => okBefore all o f m ps gs (i + 1)
  | false => match free2 all p g o f with
   | true => okBefore all o f m ps gs (i + 1)
   | false => false
 | _, _, _ => true
def okAll (all : Array Oper) (ops : List Oper) (fs : List Foot) : List Oper → List Foot → List Nat → Nat → Bool
 | o :: os, f :: gs, m :: ms, j => match okBefore all o f m (ops.take j) (fs.take j) 0 with
  | true => okAll all ops fs os gs ms (j + 1)
  | false => false
 | [], [], [], _ => true
 | _, _, _, _ => false
def drawOk (all : Array Oper) (tr : List Foot) : Bool :=
 match backOk all.toList 0 with
 | true => okAll all all.toList tr.reverse all.toList tr.reverse (masks all.toList []) 0
 | false => false
inductive Ex where
 | normal | exit (id : Nat) | ret
def coll1 (m : List (Nat × Nat)) (new : Nat) (v : V) : List (Nat × Nat) := match v with
 | .row id => match find m id with
  | some _ => m
  | none => (id, new) :: m
 | .mp id => match find m id with
  | some _ => m
  | none => (id, new) :: m
 | _ => m
def collL : List (Nat × Nat) → Nat → List V → List (Nat × Nat)
 | m, _, [] => m
 | m, new, v :: vs => collL (coll1 m new v) (new + 2) vs
def collB (st : St) (m : List (Nat × Nat)) (new : Nat) (v : V) : List (Nat × Nat) := match v with
 | .ptr id _ _ _ => match find m id with
  | some _ => m
  | none => match st.ent id with
   | .box ps => collL ((id, new) :: m) (new * 1001) ps
   | _ => m
 | .parts ps => match allB forO ps with
  | true => m
  | false => collL m (new * 1001) ps
 | v => coll1 m new v
def collF (st : St) : List (Nat × Nat) → List (Nat × List Nat) → List (Nat × Nat)
 | m, [] => m
 | m, (t, _) :: ts => collF st (collB st m (2 * t + 1) (st.get t)) ts
def hd0 : List Nat → Nat
 | e :: _ => e
 | [] => 0
def tl0 : List Nat → List Nat
 | _ :: l => l
 | [] => []
def nilL : Nat → List Nat → List V → List (Nat × Nat)
 | _, _, [] => []
 | new, es, v :: vs => match v with
  | .nils => (new, hd0 es) :: nilL (new + 2) (tl0 es) vs
  | _ => nilL (new + 2) (tl0 es) vs
def nilF (st : St) : List (Nat × List Nat) → List (Nat × Nat)
 | [] => []
 | (t, es) :: ts => match st.get t with
  | .nils => (2 * t + 1, hd0 es) :: nilF st ts
  | _ => nilF st ts
def nilM (st : St) (live : List (Nat × List Nat)) : List (Nat × Nat) → List (Nat × Nat)
 | [] => []
 | (o, n) :: m => match st.ent o with
  | .box ps => nilL (n * 1001) (match find live (Nat.div (n - 1) 2) with | some es => es | none => []) ps ++ nilM st live m
  | _ => nilM st live m
def findNew : List (Nat × Nat) → Nat → Option Nat
 | [], _ => none
 | (o, n) :: m, j => match Nat.beq n j with
  | true => some o
  | false => findNew m j
def isPartV : V → Bool
 | .parts _ => true
 | _ => false
def sub1 (st : St) (m N : List (Nat × Nat)) (new : Nat) (v : V) : Option V := match v with
 | .row id => match find m id, st.ent id with
  | some n, .row _ _ => match findNew m n with
   | some o => match Nat.beq o id with
    | true => some (.row n)
    | false => none
   | none => none
  | _, _ => none
 | .mp id => match find m id, st.ent id with
  | some n, .map _ _ => match findNew m n with
   | some o => match Nat.beq o id with
    | true => some (.mp n)
    | false => none
   | none => none
  | _, _ => none
 | .nils => match find N new, findNew m new with
  | some _, none => some (.row new)
  | _, _ => none
 | v => match forV v with
  | true => some v
  | false => none
def subL (st : St) (m N : List (Nat × Nat)) : Nat → List V → Option (List V)
 | _, [] => some []
 | new, v :: vs => match isPartV v, sub1 st m N new v, subL st m N (new + 2) vs with
  | false, some x, some l => some (x :: l)
  | _, _, _ => none
def cloSub (st : St) (m : List (Nat × Nat)) (v : V) : V := match v with
 | .clo f caps => match caps with
  | [.ptr id pi rel ext] => match find m id, st.ent id with
   | none, .box ps => match allB forO ps with
    | true => .clo f [.ref ps pi rel ext]
    | false => .dead
   | _, _ => .dead
  | _ => .dead
 | _ => .dead
def subB (st : St) (m N : List (Nat × Nat)) (new : Nat) (v : V) : V := match v with
 | .ptr id pi rel ext => match find m id, st.ent id with
  | some n, .box _ => match findNew m n with
   | some o => match Nat.beq o id with
    | true => .ptr n pi rel ext
    | false => .dead
   | none => .dead
  | _, _ => .dead
 | .parts ps => match allB forO ps with
  | true => .parts ps
  | false => match subL st m N (new * 1001) ps with
   | some l => .parts l
   | none => .dead
 | v => match sub1 st m N new v with
  | some x => x
  | none => cloSub st m v
def subF (st : St) (m N : List (Nat × Nat)) : List (Nat × List Nat) → List (Nat × V)
 | [] => []
 | (t, _) :: ts => (t, subB st m N (2 * t + 1) (st.get t)) :: subF st m N ts
def entOf (st : St) (m N : List (Nat × Nat)) (o n : Nat) : Ent := match st.ent o with
 | .box ps => match subL st m N (n * 1001) ps with
  | some ps' => .box ps'
  | none => .tomb
 | .row e xs => .row e xs
 | .map ks vs => .map ks vs
 | _ => .tomb
def entM (st : St) (m N : List (Nat × Nat)) : List (Nat × Nat) → List (Nat × Ent)
 | [] => []
 | (o, n) :: l => (n, entOf st m N o n) :: entM st m N l
def entN : List (Nat × Nat) → List (Nat × Ent)
 | [] => []
 | (n, e) :: l => (n, .row e []) :: entN l
def insH (i : Nat) (e : Ent) : List (Nat × Ent) → List (Nat × Ent)
 | [] => [(i, e)]
 | (j, f) :: l => match Nat.beq i j with
  | true => (i, e) :: l
  | false => match Nat.blt i j with
   | true => (i, e) :: (j, f) :: l
   | false => (j, f) :: insH i e l
def sortH : List (Nat × Ent) → List (Nat × Ent)
 | [] => []
 | (i, e) :: l => insH i e (sortH l)
def norm (live : List (Nat × List Nat)) (st : St) : St :=
 match collF st [] live with
 | m => match nodupN (m.map (·.1)) with
  | true => match nilF st live ++ nilM st live m with
   | N => ⟨subF st m N live, sortH (entM st m N m ++ entN N)⟩
  | false => ⟨[], []⟩
def loopN (body : St → Option (Ex × St)) (nm : St → St) : Nat → St → Option (Ex × St)
 | 0, _ => none
 | n + 1, st => match body st with
  | some (.normal, st') => loopN body nm n (nm st')
  | r => r
def blkOut (F : FnI) (id : Nat) (r : Option (Ex × St)) : Option (Ex × St) := match r with
 | some (.exit i, st') => match Nat.beq i id with
  | true => match find F.loops id with
   | some lv => some (.normal, norm lv.out st')
   | none => some (.normal, st')
  | false => some (.exit i, st')
 | r => r
def ex (F : FnI) (k : Nat) (call : Nat → List V → Option V) : Code → Nat → St → Option (Ex × St)
 | .skip, _, st => some (.normal, st)
 | .region _ os draw, _, st => match runOps E call F.n os os.toList st [] with
  | some (st', tr) => match draw with
   | false => some (.normal, st')
   | true => match drawOk os tr with
    | true => some (.normal, st')
    | false => none
  | none => none
 | .seq a b, _, st => match ex F k call a 0 st with
  | some (.normal, st') => ex F k call b 0 st'
  | r => r
 | .cond c t f, _, st => match c with
  | .tmp d => match st.get d with
   | .bool b => match b with
    | true => ex F k call t 0 (st.put (some d) (.bool true) [])
    | false => ex F k call f 0 (st.put (some d) (.bool false) [])
   | _ => none
  | _ => none
 | .block id body, _, st => blkOut F id (ex F k call body id st)
 | .loop body, bid, st => match find F.loops bid with
  | some lv => loopN (fun st => ex F k call body 0 st) (norm lv.head) k (norm lv.head st)
  | none => none
 | .exit id, _, st => some (.exit id, st)
 | .ret, _, st => some (.ret, norm F.ret st)
 | _, _, _ => none
def calmOp : Op → Bool
 | .call c => match c.callee with
  | .builtin _ => true
  | _ => false
 | _ => true
def calmL (all : Array Oper) : List Oper → Bool
 | [] => true
 | o :: os => match guardOf all o, calmOp o.op with
  | some none, true => calmL all os
  | _, _ => false
def dstsOf : List Oper → List Nat
 | [] => []
 | o :: os => match o.dst with
  | some d => d :: dstsOf os
  | none => dstsOf os
def clearL (ds : List Nat) : List (Nat × V) → List (Nat × V)
 | [] => []
 | (t, v) :: l => match natMem t ds with
  | true => clearL ds l
  | false => (t, v) :: clearL ds l
structure Rf where
 blk : Nat
 g : Operand
 p0 : Nat
 p1 : Nat
 ia : Nat
 asg : Array Oper
 ib : Nat
 ir : Nat
 bdy : Array Oper
 it : Nat
 tl : Array Oper
def splitRf : Code → Option (List Code × Rf)
 | .seq x y => match splitRf y with
  | some (p, r) => some (x :: p, r)
  | none => match x, y with
   | .seq p (.block b (.rangeFunc g ps (.region ia as false) (.block ib (.region ir bs false)))), .seq (.region it ts false) .ret => match ps.toList with
    | [p0, p1] => some ([p], ⟨b, g, p0, p1, ia, as, ib, ir, bs, it, ts⟩)
    | _ => none
   | _, _ => none
 | _ => none
def wrOf (r : Rf) : List Nat := r.p0 :: r.p1 :: (dstsOf r.asg.toList ++ dstsOf r.bdy.toList)
def rnd (call : Nat → List V → Option V) (n : Nat) (lv : List (Nat × List Nat)) (r : Rf) (i : Nat) (x : V) (st : St) : Option St :=
 match runOps E call n r.asg r.asg.toList ((st.put (some r.p0) (.int .i64 (i : Int)) []).put (some r.p1) x []) [] with
 | some (st2, _) => match runOps E call n r.bdy r.bdy.toList st2 [] with
  | some (st3, _) => some (norm lv ⟨clearL (wrOf r) st3.fr, st3.hp⟩)
  | none => none
 | none => none
def rfGo (call : Nat → List V → Option V) (n : Nat) (lv : List (Nat × List Nat)) (r : Rf) : List V → St → Option St
 | [], st => some st
 | x :: xs, st => match rnd E call n lv r xs.length x st with
  | some st' => rfGo call n lv r xs st'
  | none => none
def rfOk (n : Nat) (r : Rf) : Bool := calmL r.asg r.asg.toList && calmL r.bdy r.bdy.toList && calmL r.tl r.tl.toList && Nat.blt r.p0 (nOf n) && Nat.blt r.p1 (nOf n) && !Nat.beq (qOf n) r.p0 && !Nat.beq (qOf n) r.p1 && !Nat.beq r.p0 r.p1
def argFr : List V → Nat → List (Nat × V)
 | [], _ => []
 | v :: vs, i => (i, v) :: argFr vs (i + 1)
def out1 (st : St) (v : V) : Option V := match v with
 | .row id => match st.ent id with
  | .row e xs => some (.fresh e xs)
  | _ => none
 | .mp id => match st.ent id with
  | .map ks vs => some (.mapc ks vs)
  | _ => none
 | v => match forO v with
  | true => some v
  | false => none
def cloOut (st : St) (f : Nat) (caps : List V) : Option V := match caps with
 | [.ptr id pi rel ext] => match st.ent id with
  | .box ps => match allB forO ps with
   | true => some (.clo f [.ref ps pi rel ext])
   | false => none
  | _ => none
 | _ => none
def outP (st : St) (v : V) : Option V := match v with
 | .parts ps => match mapO (out1 st) ps with
  | some l => some (.parts l)
  | none => none
 | .clo f caps => match allB forP caps with
  | true => some (.clo f caps)
  | false => cloOut st f caps
 | .ptr id pi rel ext => match st.ent id with
  | .box ps => match allB forO ps with
   | true => some (.ref ps pi rel ext)
   | false => none
  | _ => none
 | v => out1 st v
def rowIds : List V → List Nat
 | [] => []
 | .row id :: vs => id :: rowIds vs
 | _ :: vs => rowIds vs
def resVals (st : St) : List ResultVar → Option (List V)
 | [] => some []
 | .tmp t :: rs => match resVals st rs with
  | some l => some (st.get t :: l)
  | none => none
 | .cell a t :: rs => match E.ty t, st.get a, resVals st rs with
  | some ty, .ptr id pi rel ext, some l => match st.ent id with
   | .box ps => match loadP ty ps pi rel ext with
    | some v => some (v :: l)
    | none => none
   | _ => none
  | _, _, _ => none
def rowsOf : List V → List Nat
 | [] => []
 | v :: vs => rowIds (partsOf v) ++ rowsOf vs
def resV (st : St) (rs : List ResultVar) : Option V := match resVals E st rs with
 | some vs => match nodupN (rowsOf vs), mapO (outP st) vs with
  | true, some [v] => some v
  | true, some l => some (.tup l)
  | _, _ => none
 | none => none
def finM (fn : Func) (o : Nat) (r : Option (Ex × St)) : Option V := match r with
 | some (.ret, st) => match resV E st fn.results.toList, rowIn (st.get 0) with
  | some (.int k n), some (o', M) => match st.ent M, Nat.beq o' o with
   | .row e xs, true => some (.tup [.int k n, .fresh e xs])
   | _, _ => none
  | _, _ => none
 | _ => none
def finP (fn : Func) (p : Nat) (ps : List V) (r : Option (Ex × St)) : Option V := match r with
 | some (.ret, st) => match resV E st fn.results.toList, st.get p with
  | some x, .ptr id pi rel _ => match st.ent id, isZero pi, isZero rel with
   | .box ps', true, true => match allB forO ps', sameSz ps ps' with
    | true, true => some (.tup [x, .parts ps'])
    | _, _ => none
   | _, _, _ => none
  | _, _ => none
 | _ => none
def finV (fn : Func) (r : Option (Ex × St)) : Option V := match r with
 | some (.ret, st) => match resVals E st fn.results.toList with
  | some [.row M, .bool b] => match st.ent M with
   | .row e ys => some (.tup [.fresh e ys, .bool b])
   | _ => none
  | _ => none
 | _ => none
def finB (fn : Func) (r : Option (Ex × St)) : Option V := match r with
 | some (.ret, st) => match resVals E st fn.results.toList with
  | some [.ptr M pi rel ext] => match st.ent M, isZero pi, isZero rel with
   | .box ps, true, true => match allB forO ps with
    | true => some (.ref ps 0 0 ext)
    | false => none
   | _, _, _ => none
  | _ => none
 | _ => none
def finR1 (fn : Func) (p : Nat) (st : St) : Option V := match resVals E st fn.results.toList, st.get p with
 | some _, .row M => match st.ent M with
  | .row e ys => some (.fresh e ys)
  | _ => none
 | _, _ => none
def finR (fn : Func) (ret : List (Nat × List Nat)) (p : Nat) (r : Option (Ex × St)) : Option V := match r with
 | some (.ret, st) => finR1 E fn p st
 | some (.normal, st) => finR1 E fn p (norm ret st)
 | _ => none
def clFin (fn : Func) (r : Option (Ex × St)) : Option (Nat × List V) := match r with
 | some (.ret, st) => match resV E st fn.results.toList with
  | some (.fresh e ys) => some (e, ys)
  | _ => none
 | _ => none
def clOut (xs : List V) (e : Nat) (ys : List V) (e' : Nat) (zs : List V) : Option V := match xs with
 | [] => match ys, zs, Nat.beq e e' with
  | [], [], true => some (.fresh e [])
  | _, _, _ => none
 | _ :: _ => some (.fresh e ys)
def semCl (fn : Func) (F : FnI) (k : Nat) (call : Nat → List V → Option V) (args : List V) : Option V :=
 match fn.body, Nat.beq fn.ntmps (nOf F.n), Nat.ble args.length (nOf F.n) with
 | some (.seq r0 (.seq (.seq (.region _ os1 false) c) B)), true, true => match os1.toList with
  | [o1, o2] => match o2.op, guardOf os1 o2, o2.dst with
   | .binOp .eql t (.tmp p) (.const (.slice none 0 0)) _, some none, some d => match dstOk F.n o2, E.ty t with
    | true, some ty => match ty.d, ex E F k call r0 0 ⟨argFr args 0, []⟩ with
     | .sl _, some (.normal, st1) => match runOps E call F.n os1 [o1] st1 [] with
      | some (st2, _) => match st2.get p with
       | .sl xs => match clFin E fn (ex E F k call (.seq c B) 0 (st2.put (some d) (.bool false) [])), clFin E fn (ex E F k call (.seq c B) 0 (st2.put (some d) (.bool true) [])) with
        | some (e, ys), some (e', zs) => clOut xs e ys e' zs
        | _, _ => none
       | _ => none
      | none => none
     | _, _ => none
    | _, _ => none
   | _, _, _ => none
  | _ => none
 | _, _, _ => none
def pairsOk (k1 k2 : IntKind) : List V → Bool
 | [] => true
 | x :: xs => match x with
  | .parts ps => match ps with
   | [.int a _, .int b _] => decide (a = k1) && decide (b = k2) && pairsOk k1 k2 xs
   | _ => false
  | _ => false
def rfX (F : FnI) (call : Nat → List V → Option V) (r : Rf) (st : St) : Option (Ex × St) := match find F.loops r.blk with
 | some lv => match (norm lv.head st).ev E 0 r.g with
  | .clo gf caps => match caps with
   | [.ref ps 0 0 _] => match ps with
    | [.sl xs] => match find E.fi gf with
     | some G => match G.bw with
      | some ks => match Nat.blt gf thBase && pairsOk ks.1 ks.2 xs with
       | true => match rfGo E call F.n lv.head r xs.reverse (norm lv.head st) with
        | some stE => some (.normal, norm lv.out stE)
        | none => none
       | false => none
      | none => none
     | none => none
    | _ => none
   | _ => none
  | _ => none
 | none => none
def exL (F : FnI) (k : Nat) (call : Nat → List V → Option V) : List Code → St → Option (Ex × St)
 | [], st => some (.normal, st)
 | c :: cs, st => match ex E F k call c 0 st with
  | some (.normal, st') => exL F k call cs st'
  | r => r
def semRf (fn : Func) (F : FnI) (k : Nat) (call : Nat → List V → Option V) (args : List V) (c : Code) : Option V := match splitRf c with
 | some (p, r) => match rfOk F.n r, exL E F k call p ⟨argFr args 0, []⟩ with
  | true, some (.normal, st1) => match rfX E F call r st1 with
   | some (.normal, st2) => match runOps E call F.n r.tl r.tl.toList st2 [] with
    | some (st3, _) => resV E (norm F.ret st3) fn.results.toList
    | none => none
   | _ => none
  | _, _ => none
 | none => none
def sem : Nat → Nat → List V → Option V
 | 0, _, _ => none
 | k + 1, f, args => match Nat.blt f muBase with
  | true => match find E.pr f with
   | some p => p args
   | none => match nth E.fl f, find E.fi f with
    | some fn, some F => match F.cl with
     | true => semCl E fn F k (sem k) args
     | false => match fn.body, Nat.beq fn.ntmps (nOf F.n), Nat.ble args.length (nOf F.n) with
      | some c, true, true => match ex E F k (sem k) c 0 ⟨argFr args 0, []⟩ with
       | some (.ret, st) => resV E st fn.results.toList
       | some (.normal, st) => resV E (norm F.ret st) fn.results.toList
       | _ => semRf E fn F k (sem k) args c
      | _, _, _ => none
    | _, _ => none
  | false => match Nat.blt f puBase with
   | false => match nth E.fl (f - puBase), find E.fi (f - puBase) with
    | some fn, some F => match F.pu, F.mu with
     | some p, false => match nth args p with
      | some (.ref ps 0 0 ext) => match fn.body, Nat.beq fn.ntmps (nOf F.n), Nat.ble args.length (nOf F.n), Nat.beq (qOf F.n) p && Nat.blt (f - puBase) muBase with
       | some c, true, true, true => match allB forO ps with
        | true => finP E fn p ps (ex E F k (sem k) c 0 ⟨argFr (setNth args p (.ptr 1 0 0 ext)) 0, [(1, .box ps)]⟩)
        | false => none
       | _, _, _, _ => none
      | _ => none
     | _, _ => none
    | _, _ => none
   | true => match Nat.blt f mvBase with
    | false => match Nat.blt f bxBase with
     | false => match Nat.blt f ruBase with
      | false => match nth E.fl (f - ruBase), find E.fi (f - ruBase) with
       | some fn, some F => match callKind E (f - ruBase) with
        | some (.ru p) => match nth args p with
         | some (.fresh e xs) => match fn.body, Nat.beq fn.ntmps (nOf F.n), Nat.ble args.length (nOf F.n), Nat.beq (qOf F.n) p with
          | some c, true, true, true => finR E fn F.ret p (ex E F k (sem k) c 0 ⟨argFr (setNth args p (.row 1)) 0, [(1, .row e xs)]⟩)
          | _, _, _, _ => none
         | _ => none
        | _ => none
       | _, _ => none
      | true => match nth E.fl (f - bxBase), find E.fi (f - bxBase) with
      | some fn, some F => match callKind E (f - bxBase) with
       | some .bx => match fn.body, Nat.beq fn.ntmps (nOf F.n), Nat.ble args.length (nOf F.n) with
        | some c, true, true => finB E fn (ex E F k (sem k) c 0 ⟨argFr args 0, []⟩)
        | _, _, _ => none
       | _ => none
      | _, _ => none
     | true => match nth E.fl (f - mvBase), find E.fi (f - mvBase) with
     | some fn, some F => match callKind E (f - mvBase) with
      | some (.mv p) => match nth args p with
       | some (.fresh e xs) => match fn.body, Nat.beq fn.ntmps (nOf F.n), Nat.ble args.length (nOf F.n) with
        | some c, true, true => finV E fn (ex E F k (sem k) c 0 ⟨argFr (setNth args p (.row 1)) 0, [(1, .row e xs)]⟩)
        | _, _, _ => none
       | _ => none
      | _ => none
     | _, _ => none
    | true => match args with
    | [a, .int q n] => match freshIn a, nth E.fl (f - muBase), find E.fi (f - muBase) with
     | some (o, e, xs), some fn, some F => match fn.body, Nat.beq fn.ntmps (nOf F.n), Nat.ble 2 (nOf F.n) && isZero (qOf F.n) with
      | some c, true, true => finM E fn o (ex E F k (sem k) c 0 ⟨[(0, putRow (.row 1) a), (1, .int q n)], [(1, .row e xs)]⟩)
      | _, _, _ => none
     | _, _, _ => none
    | _ => none
end
end Go.Proofs.YthdnamhilcjnhaaGreatDoor
