/- What is drawn out of bytes: numbers, a valid roof, a place. -/
import Derived.Test.YtdhcfdiggcgmhaaPq1
import Derived.Test.YtdhcfdiggcgmhaaPq0
import Derived.Test.YtdhcfdiggcgmhaaSh11
namespace Go.Proofs.Ytdhcfdiggcgmhaa
open Go
set_option linter.unusedVariables false
set_option linter.unusedSimpArgs false

def Bytes (l : List Int) : Prop := l.length ≤ 1000000 ∧ ∀ y, y ∈ l → 0 ≤ y ∧ y ≤ 255
theorem gi_mem {l : List Int} {j : Nat} (h : j < l.length) : gi l j ∈ l := by rw [← gi_get h]; exact List.getElem_mem h
theorem low8 (x : Int) : 0 ≤ IntKind.i64.wrap (IntKind.u64.wrap (BitVec.ofInt IntKind.u64.bits x &&& BitVec.ofInt IntKind.u64.bits (255)).toNat) ∧ IntKind.i64.wrap (IntKind.u64.wrap (BitVec.ofInt IntKind.u64.bits x &&& BitVec.ofInt IntKind.u64.bits (255)).toNat) ≤ 255 := by
  have h : (BitVec.ofInt IntKind.u64.bits x &&& BitVec.ofInt IntKind.u64.bits (255)).toNat ≤ 255 := by
    rw [BitVec.toNat_and]
    exact Nat.le_trans Nat.and_le_right (by decide)
  rw [wu64 _ (by omega), w64 _ (by omega)]
  omega
/-- a number that is drawn, and what the source is then -/
def PickP (l : List Int) (a n : Int) (v : Int × List V × Int × Int) : Prop := ∃ x a' z : Int, v = (x, ints .u8 l, a', z) ∧ 0 ≤ x ∧ x < n ∧ a ≤ a' ∧ a' ≤ a + 1
theorem next_ok {l : List Int} (hl : Bytes l) (a z : Int) (ha : 0 ≤ a ∧ a ≤ 1000000) : Tot (fun n => s_pspec_l00Src_next n (ints .u8 l) a z) (PickP l a 256) := by
  have hn := hl.1
  obtain ⟨j, rfl⟩ := Int.eq_ofNat_of_zero_le ha.1
  unfold s_pspec_l00Src_next
  rw [up64 j (by omega)]
  by_cases hlt : j < l.length
  · have hb := hl.2 _ (gi_mem hlt)
    refine tot_t (by simp [ints_length]; omega) (tot_ev (a := gi l j) (ev_of fun n => by rw [idx_gi _ _ _ hlt]; rfl) (tot_cnd (fun c => tot_some ⟨_, _, _, rfl, ?_, ?_, by omega, by omega⟩) (fun c => tot_chk (by simp) (tot_some ⟨_, _, _, rfl, ?_, ?_, by omega, by omega⟩))))
    · rw [w64 _ (by omega)]; omega
    · rw [w64 _ (by omega)]; omega
    · exact (low8 _).1
    · have := (low8 ((IntKind.u64.wrap ((IntKind.u64.wrap ((IntKind.u64.wrap (z * 6364136223846793005)) + (IntKind.u64.wrap (IntKind.i64.wrap (gi l j))))) + (1442695040888963407))).fdiv (2 ^ (min (40 : Int).toNat IntKind.u64.bits)))).2
      omega
  · refine tot_f (by simp [ints_length]; omega) (tot_cnd (fun c => tot_some ⟨_, _, _, rfl, by omega, by omega, by omega, by omega⟩) (fun c => tot_chk (by simp) (tot_some ⟨_, _, _, rfl, ?_, ?_, by omega, by omega⟩)))
    · exact (low8 _).1
    · have := (low8 ((IntKind.u64.wrap ((IntKind.u64.wrap ((IntKind.u64.wrap (z * 6364136223846793005)) + (IntKind.u64.wrap (0)))) + (1442695040888963407))).fdiv (2 ^ (min (40 : Int).toNat IntKind.u64.bits)))).2
      omega
theorem pick_ok {l : List Int} (hl : Bytes l) (a z n : Int) (ha : 0 ≤ a ∧ a ≤ 1000000) (hn : 1 ≤ n ∧ n ≤ 200) : Tot (fun k => s_pspec_l00Src_pick k (ints .u8 l) a z n) (PickP l a n) := by
  unfold s_pspec_l00Src_pick
  by_cases h1 : n ≤ 1
  · exact tot_t (by simpa using h1) (tot_some ⟨0, a, z, rfl, by omega, by omega, by omega, by omega⟩)
  · refine tot_f (by simpa using h1) (tot_bnd (next_ok hl a z ha) ?_)
    rintro v ⟨x, a', z', rfl, h2, h3, h4, h5⟩
    refine tot_f (by simp; omega) (tot_chk (by simp; omega) (tot_some ⟨_, _, _, rfl, ?_, ?_, h4, h5⟩))
    · rw [Int.tmod_eq_emod_of_nonneg h2]; exact Int.emod_nonneg _ (by omega)
    · rw [Int.tmod_eq_emod_of_nonneg h2]; exact Int.emod_lt_of_pos _ (by omega)
theorem one_ok {l : List Int} (hl : Bytes l) (a z n : Int) (ha : 0 ≤ a ∧ a ≤ 1000000) (hn : 1 ≤ n ∧ n ≤ 200) : Tot (fun k => s_pspec_l00Src_one k (ints .u8 l) a z n) (fun v => ∃ (b : Bool) (a' z' : Int), v = (b, ints .u8 l, a', z') ∧ a ≤ a' ∧ a' ≤ a + 1) := by
  unfold s_pspec_l00Src_one
  refine tot_bnd (pick_ok hl a z n ha hn) ?_
  rintro v ⟨x, a', z', rfl, h2, h3, h4, h5⟩
  exact tot_some ⟨_, _, _, rfl, h4, h5⟩
/-- tiles that lie within -/
def DrawT (w h : Int) (t : Nat → Int) : Prop := ∀ i k, i < 8 → k < 8 → 0 ≤ t (i * 8 + k) ∧ t (i * 8 + k) ≤ 3 ∧ (t (i * 8 + k) = 0 ∨ (i : Int) < h ∧ (k : Int) < w)
theorem draw_valid {w h s : Int} {t : Nat → Int} (hw : 1 ≤ w ∧ w ≤ 8) (hh : 1 ≤ h ∧ h ≤ 8) (hs : 0 ≤ s ∧ s ≤ 1) (ht : DrawT w h t) : RoofV w h s t := by
  refine ⟨⟨by omega, by omega, by omega, fun j hj => ?_⟩, ?_⟩
  · have := ht (j / 8) (j % 8) (by omega) (by omega)
    rw [show j / 8 * 8 + j % 8 = j by omega] at this
    omega
  · unfold roofOk
    rw [Bool.and_eq_true]
    refine ⟨by simp; omega, (allN_iff _ _ _).2 fun i _ hi => (allN_iff _ _ _).2 fun k _ hk => ?_⟩
    have := ht i k (by omega) (by omega)
    simp [cellOk]
    omega
theorem draw_zero (w h : Int) : DrawT w h fun _ => 0 := fun i k _ _ => by simp
theorem draw_put {w h : Int} {t : Nat → Int} (ht : DrawT w h t) {c k : Nat} (hc : (c : Int) < h) (hk : (k : Int) < w) (hw : w ≤ 8) (hh : h ≤ 8) {x : Int} (hx : 0 ≤ x ∧ x ≤ 3) : DrawT w h (updC t (c * 8 + k) x) := by
  intro i j hi hj
  rw [updC_at]
  split
  · rename_i e
    obtain ⟨rfl, rfl⟩ : i = c ∧ j = k := by omega
    exact ⟨hx.1, hx.2, .inr ⟨hc, hk⟩⟩
  · exact ht i j hi hj
theorem drawn_b0 {l : List Int} (hl : Bytes l) {w h s few : Int} (hw : 1 ≤ w ∧ w ≤ 8) (hh : 1 ≤ h ∧ h ≤ 8) (hf : 1 ≤ few ∧ few ≤ 200) (x1 x2 x3 : Int) (x4 : Nat → Int) (a z : Int) (ha : 0 ≤ a ∧ a ≤ 1000) :
    Tot (fun n => l_spec_l01Drawn_b0 n few 0 (ints .u8 l) a z x1 x2 x3 x4 w h s (fun _ => 0) (places (allPl w h))) (fun v => ∃ (a' z' : Int) (t : Nat → Int), v = (ints .u8 l, a', z', x1, x2, x3, x4, w, h, s, t) ∧ DrawT w h t) := by
  have hN := allPl_len hw.2 hh.2
  have := loop_up (l := fun n k (g : Int × Int × (Nat → Int)) => l_spec_l01Drawn_b0 n few (k : Nat) (ints .u8 l) g.1 g.2.1 x1 x2 x3 x4 w h s g.2.2 (places (allPl w h))) (I := fun k g => 0 ≤ g.1 ∧ g.1 ≤ 1000 + 2 * (k : Int) ∧ DrawT w h g.2.2)
    (P := fun v => ∃ (a' z' : Int) (t : Nat → Int), v = (ints .u8 l, a', z', x1, x2, x3, x4, w, h, s, t) ∧ DrawT w h t) (allPl w h).length (by
    rintro k ⟨a, z, t⟩ hk ⟨h1, h2, h3⟩ ih
    dsimp only at h1 h2 h3 ⊢
    by_cases hlt : k < (allPl w h).length
    · refine tot_t (by simp [prs_length]; omega) (tot_bnd (one_ok hl a z few (by omega) hf) ?_)
      rintro v ⟨b, a', z', rfl, g1, g2⟩
      rw [up64 k (by omega)]
      cases b with
      | false => exact tot_f rfl (ih hlt (a', z', t) ⟨by dsimp only; omega, by dsimp only; omega, h3⟩)
      | true =>
        obtain ⟨m1, m2, m3, m4⟩ := allPl_mem (pr_mem hlt)
        have hg : ∀ n : Nat, bnd (nth (places (allPl w h)) ((k : Nat) : Int).toNat) as_Pi8_i8Q = some ((pr (allPl w h) k).1, (pr (allPl w h) k).2) := fun n => by rw [Int.toNat_natCast, nth_prs _ _ _ _ hlt]; rfl
        refine tot_t rfl (tot_chk (inB_k _ _ (by rw [places_length]; exact hlt)) (tot_ev (ev_of hg) (tot_ev (ev_of hg) (tot_ev (ev_of hg) (tot_ev (ev_of hg) (tot_bnd (pick_ok hl a' z' 4 (by omega) (by omega)) ?_))))))
        rintro v ⟨x, a2, z2, rfl, q1, q2, q3, q4⟩
        refine tot_chk (inB_i _ _ (by omega)) (tot_chk (inB_i _ _ (by omega)) ?_)
        rw [show 0 + (pr (allPl w h) k).1.toNat * 8 + (pr (allPl w h) k).2.toNat * 1 = (pr (allPl w h) k).1.toNat * 8 + (pr (allPl w h) k).2.toNat by omega, wu8 x (by omega)]
        exact ih hlt (a2, z2, _) ⟨by dsimp only; omega, by dsimp only; omega, draw_put h3 (by omega) (by omega) (by omega) (by omega) (by omega)⟩
    · obtain rfl : k = (allPl w h).length := by omega
      exact tot_f (by simp [prs_length]) (tot_some ⟨_, _, _, rfl, h3⟩)) 0 (a, z, fun _ => 0) (by omega) ⟨by dsimp only; omega, by dsimp only; omega, draw_zero w h⟩
  exact this
theorem drawn_ok {l : List Int} (hl : Bytes l) (z : Int) : Tot (fun n => s_spec_l01Drawn n (ints .u8 l) 0 z) (fun v => ∃ (w h s : Int) (t : Nat → Int) (a' z' : Int), v = (w, h, s, t, ints .u8 l, a', z') ∧ RoofV w h s t) := by
  unfold s_spec_l01Drawn
  refine tot_bnd (pick_ok hl 0 z 5 (by omega) (by omega)) ?_
  rintro v ⟨x1, a1, z1, rfl, b1, c1, d1, e1⟩
  refine tot_bnd (pick_ok hl a1 z1 5 (by omega) (by omega)) ?_
  rintro v ⟨x2, a2, z2, rfl, b2, c2, d2, e2⟩
  refine tot_bnd (pick_ok hl a2 z2 2 (by omega) (by omega)) ?_
  rintro v ⟨x3, a3, z3, rfl, b3, c3, d3, e3⟩
  refine tot_bnd (pick_ok hl a3 z3 5 (by omega) (by omega)) ?_
  rintro v ⟨x4, a4, z4, rfl, b4, c4, d4, e4⟩
  dsimp only
  rw [w64 (1 + x1) (by omega), w8 (1 + x1) (by omega), w64 (1 + x2) (by omega), w8 (1 + x2) (by omega), wu8 x3 (by omega), w64 (2 + x4) (by omega)]
  refine tot_ev (l01All_ok (draw_valid (by omega) (by omega) (by omega) (draw_zero _ _))) (tot_chk (plain_places _ _) (tot_bnd (drawn_b0 hl (by omega) (by omega) (by omega) 0 0 0 (fun _ => 0) a4 z4 (by omega)) ?_))
  rintro v ⟨a5, z5, t, rfl, ht⟩
  exact tot_some ⟨1 + x1, 1 + x2, x3, t, a5, z5, rfl, draw_valid (by omega) (by omega) (by omega) ht⟩
theorem A2Roof_ok {l : List Int} (hl : Bytes l) : Tot (fun n => s_spec_A2Roof n (ints .u8 l)) (fun v => ∃ (w h s : Int) (t : Nat → Int), v = (w, h, s, t) ∧ RoofV w h s t) := by
  unfold s_spec_A2Roof
  refine tot_ev (a := (ints .u8 l, 0, 0)) (ev_of fun n => rfl) (tot_bnd (drawn_ok hl 0) ?_)
  rintro v ⟨w, h, s, t, a', z', rfl, H⟩
  exact tot_some ⟨w, h, s, t, rfl, H⟩
theorem A2Place_ok {l : List Int} (hl : Bytes l) {w h s : Int} {t : Nat → Int} (H : RoofV w h s t) : Tot (fun n => s_spec_A2Place n (ints .u8 l) w h s t) (fun v => ∃ i k : Nat, v = ((i : Int), (k : Int)) ∧ (i : Int) < h ∧ (k : Int) < w) := by
  have hb := H.b
  unfold s_spec_A2Place
  rw [w64 h (by omega), w64 w (by omega)]
  refine tot_ev (a := (ints .u8 l, 0, 0)) (ev_of fun n => rfl) (tot_bnd (pick_ok hl 0 0 h (by omega) (by omega)) ?_)
  rintro v ⟨x1, a1, z1, rfl, b1, c1, d1, e1⟩
  refine tot_bnd (pick_ok hl a1 z1 w (by omega) (by omega)) ?_
  rintro v ⟨x2, a2, z2, rfl, b2, c2, d2, e2⟩
  dsimp only
  rw [w8 x1 (by omega), w8 x2 (by omega)]
  exact tot_some ⟨x1.toNat, x2.toNat, by congr 1 <;> omega, by omega, by omega⟩
theorem a2At_ok {l : List Int} (hl : Bytes l) : Tot (fun n => s_laws_a2At n (ints .u8 l) 2 4) (fun x => 0 ≤ x ∧ x ≤ 3) := by
  unfold s_laws_a2At
  by_cases h1 : (l.length : Int) ≤ 2
  · exact tot_t (by simp [ints_length]; omega) (tot_some (by omega))
  · have hlt : 2 < l.length := by omega
    have hb := hl.2 _ (gi_mem hlt)
    refine tot_f (by simp [ints_length]; omega) (tot_f (by simp) (tot_ev (a := gi l 2) (ev_of fun n => by rw [show (2 : Int) = ((2 : Nat) : Int) from rfl, idx_gi _ _ _ hlt]; rfl) (tot_chk (by simp) (tot_some ?_))))
    rw [w64 _ (by omega), Int.tmod_eq_emod_of_nonneg (by omega)]
    omega
end Go.Proofs.Ytdhcfdiggcgmhaa
