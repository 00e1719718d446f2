/- Joined texts: RdrD. -/
import Derived.Test.YtcpceaflnnkhnaaGreatDoorJ26
import Derived.Deep.MidRow

/- The document's reader: read. (Printed by wip/rdrd.py.) -/
namespace Go.Proofs.YtcpceaflnnkhnaaGreatDoor
open Go.RowKit
attribute [local go_sem ↓] Go.wp_at_zero Go.wp_at_succ

theorem Own.keptB {w w' : World} {base b : Nat} {e : TypeId} {v : Value} {l : List UInt8} (h : Own w base e v l) (hg : w.grownBy w' (some b)) (hb : b < base) : Own w' base e v l := by
  unfold Own at *
  refine World.ownsRow.kept h hg ?_
  rcases h.2 with ⟨h0, -⟩ | ⟨g, _, _, h0, h1, -⟩
  · exact .inl (by rw [h0]; rfl)
  · refine .inr ?_
    rw [h0]
    show some g ≠ some b
    intro he
    injection he with he
    omega
/-- The cells vs laid over a row from place o on. -/
def fillA (a : Array Value) : Nat → List Value → Array Value
  | _, [] => a
  | o, v :: r => fillA (a.setIfInBounds o v) (o + 1) r
theorem blk_fillA {g : Nat} {t : TypeId} (vs : List Value) : ∀ (w : World) (a : Array Value) (o : Nat), Blk w g t a → Blk (w.setCells g o vs) g t (fillA a o vs) := by
  induction vs with
  | nil => exact fun w a o h => h
  | cons v r ih => exact fun w a o h => ih _ _ _ (h.set_ o v)
theorem fillA_list (vs : List Value) : ∀ (a : Array Value) (o : Nat), o + vs.length ≤ a.size → (fillA a o vs).toList = a.toList.take o ++ (vs ++ a.toList.drop (o + vs.length)) := by
  induction vs with
  | nil => intro a o h; simp [fillA]
  | cons v r ih =>
    intro a o h
    simp only [List.length_cons] at h
    have ho : o < a.toList.length := by simp; omega
    show (fillA (a.setIfInBounds o v) (o + 1) r).toList = _
    rw [ih _ _ (by simp; omega), Array.toList_setIfInBounds]
    rw [List.take_set, List.take_succ_eq_append_getElem ho, List.set_append_right _ _ (by rw [List.length_take]; omega), List.drop_set_of_lt (by omega)]
    have e1 : o - (List.take o a.toList).length = 0 := by rw [List.length_take]; omega
    rw [e1, List.set_cons_zero, List.append_assoc, List.length_cons]
    rw [show o + 1 + r.length = o + (r.length + 1) by omega]
    rfl
theorem cap_fill_rd (k : Nat) (d : Bool) (r q : RV) (v : Value) (hr : r.wf) : fillA (CP.cells ⟨k, d, RV.zero, q, []⟩ v) 2 r.cells = CP.cells ⟨k, d, r, q, []⟩ v := by
  have h1 := RV.cells_length hr
  have h0 := RV.cells_length RV.zero_wf
  apply Array.toList_inj.1
  rw [fillA_list _ _ _ (by unfold CP.cells CP.cellsL; simp [h1, h0])]
  unfold CP.cells CP.cellsL
  show List.take 2 (_ :: _ :: (RV.zero.cells ++ (q.cells ++ [v]))) ++ (r.cells ++ List.drop (2 + r.cells.length) (_ :: _ :: (RV.zero.cells ++ (q.cells ++ [v])))) = _ :: _ :: (r.cells ++ (q.cells ++ [v]))
  rw [h1, show 2 + 52 = 52 + 1 + 1 from rfl, List.drop_succ_cons, List.drop_succ_cons, List.drop_append_of_le_length (by omega), List.drop_of_length_le (by omega)]
  rfl
theorem cap_fill_vf (k : Nat) (d : Bool) (r q : RV) (v : Value) (hq : q.wf) (hr : r.wf) : fillA (CP.cells ⟨k, d, q, RV.zero, []⟩ v) 54 r.cells = CP.cells ⟨k, d, q, r, []⟩ v := by
  have h1 := RV.cells_length hr
  have h2 := RV.cells_length hq
  have h0 := RV.cells_length RV.zero_wf
  apply Array.toList_inj.1
  rw [fillA_list _ _ _ (by unfold CP.cells CP.cellsL; simp [h1, h0, h2])]
  unfold CP.cells CP.cellsL
  show List.take 54 (_ :: _ :: (q.cells ++ (RV.zero.cells ++ [v]))) ++ (r.cells ++ List.drop (54 + r.cells.length) (_ :: _ :: (q.cells ++ (RV.zero.cells ++ [v])))) = _ :: _ :: (q.cells ++ (r.cells ++ [v]))
  rw [h1, show 54 + 52 = 104 + 1 + 1 from rfl, List.drop_succ_cons, List.drop_succ_cons, List.drop_append, List.drop_of_length_le (by omega), h2, show 104 - 52 = 52 from rfl, List.drop_append_of_le_length (by omega), List.drop_of_length_le (by omega)]
  rw [show 54 = 52 + 1 + 1 from rfl, List.take_succ_cons, List.take_succ_cons, List.take_append_of_le_length (by omega), List.take_of_length_le (by omega)]
  simp
theorem there_at {w : World} {g o n : Nat} {t : TypeId} {cs : Array Value} (h : Blk w g t cs) (hn : o + n ≤ cs.size) : w.there g o n := fun j hj => ⟨by rw [h.cell (o + j), Array.getElem?_eq_getElem (by omega)]; rfl, h.frozen (o + j)⟩
theorem OwnT.apartCap {w : World} {base g n cap b : Nat} {ts : List ByteArray} {cs : Array Value} (h : OwnT w base (.slice (some ⟨g, 0, none⟩) n cap) ts) (hb : Blk w b 34 cs) : g ≠ b := by
  rintro rfl
  rcases h.2 with ⟨h0, -⟩ | ⟨g', _, cur, h0, -, hh, -⟩
  · cases h0
  · injection h0 with h0
    injection h0 with h0
    injection h0 with h0
    subst h0
    unfold Blk at hb
    rw [hb] at hh
    injection hh with hh
    injection hh with _ hh
    exact absurd hh (by decide)
theorem OwnT.kept2 {W w1 w2 : World} {base g n cap a b : Nat} {ts : List ByteArray} (h : OwnT W base (.slice (some ⟨g, 0, none⟩) n cap) ts) (h1 : W.grownBy w1 (some a)) (h2 : w1.grownBy w2 (some b)) (ha : g ≠ a) (hb : g ≠ b) : OwnT w2 base (.slice (some ⟨g, 0, none⟩) n cap) ts := (h.keptB h1 ha).keptB h2 hb
theorem first_assoc (a b c : Option (Nat × Nat)) : first_ (first_ a b) c = first_ a (first_ b c) := by cases a <;> rfl
theorem first_noneD {a b : Option (Nat × Nat)} (h : first_ a b = none) : a = none ∧ b = none := by
  cases a with
  | none => exact ⟨rfl, h⟩
  | some x => cases h
/-- A capability of a kind, of whom nothing else is known yet. -/
def bare (k : Nat) (d : Bool) : CP := ⟨k, d, RV.zero, RV.zero, []⟩
theorem bare_wf {k : Nat} (d : Bool) (hk : k < 256) : (bare k d).wf := ⟨RV.zero_wf, RV.zero_wf, hk⟩
theorem at_of {ts : List ByteArray} {j : Nat} (h : j < ts.length) : ∃ x, ts[j]? = some x := ⟨_, List.getElem?_eq_getElem h⟩
/-- What read gives. -/
def ReadB (W : World) (b g cap : Nat) (ts : List ByteArray) (k : Nat) (d : Bool) (e : Ending) (w' : World) : Prop :=
  ∃ F u, e = .returned (.agg F) ∧ F.size = 107 ∧ F.all (·.oneCell') = true ∧ RdS w' b g cap ts (want k) (bodyF (ts.map lst) k) ∧ W.grownBy w' (some b) ∧ (bodyF (ts.map lst) k = none → F = (capOf (ts.map lst) k d).cells u ∧ Own w' W.heap.size 5 u (capOf (ts.map lst) k d).lit)
set_option maxRecDepth 100000 in
set_option maxHeartbeats 8000000 in
theorem rdread_lit (W : World) (b g cap : Nat) (ts : List ByteArray) (d : Bool) (h : RdS W b g cap ts 2 none) (hs : Sm ts) (hl : ts.length = 3) :
    Calls Tryz.prog 37 #[.pointer (some ⟨b, 0, none⟩), .agg ((bare 3 d).cells (.slice none 0 0))] W (ReadB W b g cap ts 3 d) := by
  obtain ⟨x2, hx2⟩ := at_of (ts := ts) (j := 2) (by omega)
  obtain ⟨C0, hC0⟩ : ∃ F : Array Value, F = (bare 3 d).cells (.slice none 0 0) := ⟨_, rfl⟩
  rw [← hC0]
  obtain ⟨W0, hW⟩ : ∃ W0, W0 = (W.alloc (.cells C0 34)).alloc (.cells Tryz.zeroCells34 34) := ⟨_, rfl⟩
  have HW := hide hW
  have hbW := h.r.blk.lt
  have HB := hide (show Blk W0 W.heap.size 34 C0 ∧ Blk W0 (W.heap.size + 1) 34 Tryz.zeroCells34 ∧ Below W.heap.size W W0 from by
    have b1 := (Below.refl W.heap.size W).alloc (Nat.le_refl _) (.cells C0 34)
    have k2 := Blk.new (W.alloc (.cells C0 34)) 34 Tryz.zeroCells34
    simp only [World.size_alloc] at k2
    rw [hW]
    exact ⟨(Blk.new W 34 C0).alloc _, k2, b1.alloc b1.size _⟩)
  have HR0 := hide (h.below HB.out.2.2)
  have HC := hide (show C0.size = 107 ∧ C0.all (·.oneCell') = true ∧ C0[0]? = some (.int .u8 3) from ⟨by rw [hC0]; exact CP.cells_size (bare_wf d (by omega)) _, by rw [hC0]; exact CP.cells_one _ _ _ _, by rw [hC0]; rfl⟩)
  have QL := hide (fun W (h : RdS W b g cap ts 2 none) => letters_lit W b g cap ts 2 none x2 h hx2 hs)
  have hpx := part_of hx2
  have HF := hide (show bodyF (ts.map lst) 3 = ltrF (ts.map lst) 2 0 32 ∧ (ltrF (ts.map lst) 2 0 32 = none → ltrE (lst x2) 0 32 = 0) ∧ (capOf (ts.map lst) 3 d).lit = (decode (lst x2)).1 ∧ (∀ u, C0.setIfInBounds 106 u = (bare 3 d).cells u) ∧ (∀ u, (capOf (ts.map lst) 3 d).cells u = (bare 3 d).cells u) from by
    refine ⟨rfl, fun h => ?_, by unfold capOf; rw [if_neg (by omega), if_neg (by omega), hpx], fun u => by rw [hC0]; exact cells_set (bare_wf d (by omega)) _ _, fun u => rfl⟩
    unfold ltrF at h
    rw [hpx] at h
    by_cases hz : ltrE (lst x2) 0 32 ≠ 0
    · rw [if_pos hz] at h; cases h
    · omega)
  have c0 := (HB.out.1.cell 0).trans HC.out.2.2
  have HBW := hide hbW
  clear h hx2 hs hl hC0 hW hpx hbW
  go_enter Tryz.func37, Tryz.ntmps37
  go_upto_region 1 with fail
  rw [← HW.out]
  go_wp2_with fail
  refine (QL.out _ HR0.out).mono ?_
  rintro e w1 ⟨A, m, k, rfl, r1, o1, g1⟩
  have H1 := hide (show Blk w1 W.heap.size 34 C0 ∧ Blk w1 (W.heap.size + 1) 34 Tryz.zeroCells34 ∧ W.grownBy w1 (some b) ∧ RdS w1 b g cap ts 3 (ltrF (ts.map lst) 2 0 32) ∧ (ltrE (lst x2) 0 32 = 0 → Own w1 W0.heap.size 5 (.slice A m k) (decode (lst x2)).1) from by
    have hbW := HBW.out
    exact ⟨HB.out.1.grown g1 (by simp; omega), HB.out.2.1.grown g1 (by simp; omega), (grownOfBelow HB.out.2.2 _).trans_ g1, r1, o1⟩)
  clear r1 o1 g1 c0
  have c6 := H1.out.1.cell 106
  have c6' : ∃ y, w1.cell? ⟨W.heap.size, 106, none⟩ = some y := ⟨_, c6.trans (Array.getElem?_eq_getElem (by rw [HC.out.1]; omega))⟩
  clear c6
  obtain ⟨y6, c6⟩ := c6'
  have f6 := H1.out.1.frozen 106
  obtain ⟨F, hF⟩ : ∃ F : Array Value, F = (bare 3 d).cells (.slice A m k) := ⟨_, rfl⟩
  have HF2 := hide (show F.size = 107 ∧ F.all (·.oneCell') = true ∧ F = (bare 3 d).cells (.slice A m k) from ⟨by rw [hF]; exact CP.cells_size (bare_wf d (by omega)) _, by rw [hF]; exact CP.cells_one _ _ _ _, hF⟩)
  have H2 := hide (show Blk (w1.setCell ⟨W.heap.size, 106, none⟩ (.slice A m k)) W.heap.size 34 F ∧ Blk (w1.setCell ⟨W.heap.size, 106, none⟩ (.slice A m k)) (W.heap.size + 1) 34 Tryz.zeroCells34 ∧ w1.grownBy (w1.setCell ⟨W.heap.size, 106, none⟩ (.slice A m k)) (some W.heap.size) from ⟨by rw [hF, ← HF.out.2.2.2.1]; exact H1.out.1.set_ 106 _, H1.out.2.1.far (by simp) _, store_grown _ _ _ _⟩)
  clear hF
  go_wp2_with first
    | ((with_reducible change wpList _ _ _ (⟨some 17, _, _, _, _, _⟩ :: _) _ _); refine wpList_yields (by kernel_rfl) (.agg F) (ex_load 34 _ rfl W.heap.size 0 (by kernel_rfl) F.toList _ (rng_of H2.out.1) Tryz.underlying34 rfl (by rw [Array.length_toList, HF2.out.1]; kernel_rfl)) ?_)
    | ((with_reducible change wpList _ _ _ (⟨none, .store _ (.tmp 4) _, _, _, _, _⟩ :: _) _ _); go_loud (refine wpList_store_row (o := ⟨none, .store _ (.tmp 4) _, _, _, _, _⟩) H2.out.2.1 F (by rw [HF2.out.1]; kernel_rfl) HF2.out.2.1 rfl 34 _ _ rfl (by rw [HF2.out.1]; kernel_rfl) rfl rfl ?_; intro w8 hb8 hg8))
  refine bodyPost_ret (results_cell_row rfl _ _ (W.heap.size + 1) 34 F (0, 0) _ rfl hb8 Tryz.underlying34 rfl (by rw [HF2.out.1]; kernel_rfl)) rfl ?_
  have hbW := HBW.out
  have hne : ∀ j, some W.heap.size = some j → W.heap.size ≤ j ∨ some b = some j := fun j hj => by injection hj with hj; exact .inl (by omega)
  have hne2 : ∀ j, some (W.heap.size + 1) = some j → W.heap.size ≤ j ∨ some b = some j := fun j hj => by injection hj with hj; exact .inl (by omega)
  have hgr : W.grownBy w8 (some b) := World.grownBy.andThen (World.grownBy.andThen H1.out.2.2.1 H2.out.2.2 hne) hg8 hne2
  have hsz := H1.out.2.1.lt
  refine ⟨F, .slice A m k, rfl, HF2.out.1, HF2.out.2.1, ?_, hgr, fun hz => ⟨?_, ?_⟩⟩
  · rw [HF.out.1]
    have r := H1.out.2.2.2.1
    refine ⟨⟨(r.r.blk.grown H2.out.2.2 (by simp; omega)).grown hg8 (by simp; omega), ?_, r.r.ne⟩, r.nz⟩
    have hg' := HR0.out.r
    exact r.r.own.kept2 H2.out.2.2 hg8 (OwnT.apartCap r.r.own H1.out.1) (OwnT.apartCap r.r.own H1.out.2.1)
  · rw [HF2.out.2.2, HF.out.2.2.2.2]
  · rw [HF.out.1] at hz
    rw [HF.out.2.2.1]
    have o := H1.out.2.2.2.2 (HF.out.2.1 hz)
    have hsz0 : W0.heap.size = W.heap.size + 2 := by rw [HW.out]; simp
    exact Own.lower (Own.keptB (Own.keptB o H2.out.2.2 (by omega)) hg8 (by omega)) (by omega)
set_option maxRecDepth 100000 in
set_option maxHeartbeats 8000000 in
theorem rdread_1 (W : World) (b g cap : Nat) (ts : List ByteArray) (d : Bool) (h : RdS W b g cap ts 2 none) (hs : Sm ts) (hl : ts.length = 8) :
    Calls Tryz.prog 37 #[.pointer (some ⟨b, 0, none⟩), .agg ((bare 1 d).cells (.slice none 0 0))] W (ReadB W b g cap ts 1 d) := by
  obtain ⟨x2, hx2⟩ := at_of (ts := ts) (j := 2) (by omega)
  obtain ⟨x3, hx3⟩ := at_of (ts := ts) (j := 3) (by omega)
  obtain ⟨x4, hx4⟩ := at_of (ts := ts) (j := 4) (by omega)
  obtain ⟨x5, hx5⟩ := at_of (ts := ts) (j := 5) (by omega)
  obtain ⟨x6, hx6⟩ := at_of (ts := ts) (j := 6) (by omega)
  obtain ⟨x7, hx7⟩ := at_of (ts := ts) (j := 7) (by omega)
  obtain ⟨C0, hC0⟩ : ∃ F : Array Value, F = (bare 1 d).cells (.slice none 0 0) := ⟨_, rfl⟩
  rw [← hC0]
  obtain ⟨W0, hW⟩ : ∃ W0, W0 = (W.alloc (.cells C0 34)).alloc (.cells Tryz.zeroCells34 34) := ⟨_, rfl⟩
  have HW := hide hW
  have hbW := h.r.blk.lt
  have HB := hide (show Blk W0 W.heap.size 34 C0 ∧ Blk W0 (W.heap.size + 1) 34 Tryz.zeroCells34 ∧ Below W.heap.size W W0 from by
    have b1 := (Below.refl W.heap.size W).alloc (Nat.le_refl _) (.cells C0 34)
    have k2 := Blk.new (W.alloc (.cells C0 34)) 34 Tryz.zeroCells34
    simp only [World.size_alloc] at k2
    rw [hW]
    exact ⟨(Blk.new W 34 C0).alloc _, k2, b1.alloc b1.size _⟩)
  have HR0 := hide (h.below HB.out.2.2)
  have HC := hide (show C0.size = 107 ∧ C0.all (·.oneCell') = true ∧ C0[0]? = some (.int .u8 1) from ⟨by rw [hC0]; exact CP.cells_size (bare_wf d (by omega)) _, by rw [hC0]; exact CP.cells_one _ _ _ _, by rw [hC0]; rfl⟩)
  have QL1 := hide (fun W (h : RdS W b g cap ts 2 none) => letters_16 W b g cap ts 2 none x2 h hx2 hs)
  have QL2 := hide (fun W st (h : RdS W b g cap ts 3 st) => letters_32 W b g cap ts 3 st x3 h hx3 hs)
  obtain ⟨v0, hv0⟩ : ∃ v, v = rdN (lst x4) 255 := ⟨_, rfl⟩
  have QN0 := hide (fun W st (h : RdS W b g cap ts 4 st) => number_st W b g cap ts 4 st x4 255 h hx4 hs (by omega))
  rw [← hv0] at QN0
  obtain ⟨v1, hv1⟩ : ∃ v, v = rdN (lst x5) 255 := ⟨_, rfl⟩
  have QN1 := hide (fun W st (h : RdS W b g cap ts 5 st) => number_st W b g cap ts 5 st x5 255 h hx5 hs (by omega))
  rw [← hv1] at QN1
  obtain ⟨v2, hv2⟩ : ∃ v, v = rdN (lst x6) 65791 := ⟨_, rfl⟩
  have QN2 := hide (fun W st (h : RdS W b g cap ts 6 st) => number_st W b g cap ts 6 st x6 65791 h hx6 hs (by omega))
  rw [← hv2] at QN2
  obtain ⟨v3, hv3⟩ : ∃ v, v = rdN (lst x7) 16777216 := ⟨_, rfl⟩
  have QN3 := hide (fun W st (h : RdS W b g cap ts 7 st) => number_st W b g cap ts 7 st x7 16777216 h hx7 hs (by omega))
  rw [← hv3] at QN3
  obtain ⟨key, hkey⟩ : ∃ l, l = (decode (lst x2)).1 := ⟨_, rfl⟩
  obtain ⟨ueb, hueb⟩ : ∃ l, l = (decode (lst x3)).1 := ⟨_, rfl⟩
  rw [← hkey] at QL1
  rw [← hueb] at QL2
  obtain ⟨R, hR⟩ : ∃ F : Array Value, F = (RV.cells ⟨key, ueb, v0, v1, v2, v3⟩).toArray := ⟨_, rfl⟩
  obtain ⟨st, hst⟩ : ∃ s, s = bodyF (ts.map lst) 1 := ⟨_, rfl⟩
  have hns : first_ (first_ (first_ (first_ (first_ (first_ none (ltrF (ts.map lst) 2 16 16)) (ltrF (ts.map lst) 3 32 32)) (numF (ts.map lst) 4 255)) (numF (ts.map lst) 5 255)) (numF (ts.map lst) 6 65791)) (numF (ts.map lst) 7 16777216) = st := by
    rw [hst]
    show _ = rvF (ts.map lst)
    unfold rvF
    simp only [first_assoc]
    rfl
  have hN := hide hns
  have HE := hide (show st = none → ltrE (lst x2) 16 16 = 0 ∧ ltrE (lst x3) 32 32 = 0 from fun hz => by
    rw [← hns] at hz
    have a1 := first_noneD hz
    have a2 := first_noneD a1.1
    have a3 := first_noneD a2.1
    have a4 := first_noneD a3.1
    have a5 := first_noneD a4.1
    have a6 := first_noneD a5.1
    have e1 := a6.2
    have e2 := a5.2
    unfold ltrF at e1 e2
    rw [part_of hx2] at e1
    rw [part_of hx3] at e2
    constructor
    · by_cases hz : ltrE (lst x2) 16 16 ≠ 0
      · rw [if_pos hz] at e1; cases e1
      · omega
    · by_cases hz : ltrE (lst x3) 32 32 ≠ 0
      · rw [if_pos hz] at e2; cases e2
      · omega)
  have HL := hide (show (ltrE (lst x2) 16 16 = 0 → key.length = 16) ∧ (ltrE (lst x3) 32 32 = 0 → ueb.length = 32) from ⟨fun h => by rw [hkey]; exact ltrE_len h, fun h => by rw [hueb]; exact ltrE_len h⟩)
  have HF := hide (show ∀ (a1 : key.length = 16) (a2 : ueb.length = 32), fillA C0 2 R.toList = (capOf (ts.map lst) 1 d).cells (.slice none 0 0) ∧ R.size = 52 ∧ R.all (·.oneCell') = true ∧ (∀ W, (Instr.build 28 #[(0, .agg (bcells key).toArray), (1, .agg (bcells ueb).toArray), (2, .int .i64 v0), (3, .int .i64 v1), (4, .int .i64 v2), (5, .int .i64 v3)]).run Tryz.prog W = .ok (.agg R) W) ∧ ((fillA C0 2 R.toList).size = 107 ∧ (fillA C0 2 R.toList).all (·.oneCell') = true) from fun a1 a2 => by
    have hwf : (⟨key, ueb, v0, v1, v2, v3⟩ : RV).wf := ⟨a1, a2⟩
    have hrv : rvOf (ts.map lst) = ⟨key, ueb, v0, v1, v2, v3⟩ := by
      unfold rvOf
      rw [part_of hx2, part_of hx3, part_of hx4, part_of hx5, part_of hx6, part_of hx7, hkey, hueb, hv0, hv1, hv2, hv3]
    have e1 : fillA C0 2 R.toList = (capOf (ts.map lst) 1 d).cells (.slice none 0 0) := by
      rw [hC0, hR]
      unfold capOf bare
      rw [if_pos rfl, hrv]
      exact cap_fill_rd _ _ _ _ _ hwf
    have hcw : (capOf (ts.map lst) 1 d).wf := by unfold capOf; rw [if_pos rfl, hrv]; exact ⟨hwf, RV.zero_wf, by show (1 : Nat) < 256; omega⟩
    exact ⟨e1, by rw [hR]; exact rv_size _ hwf, by rw [hR]; exact rv_one _, fun W => by rw [hR]; exact build_read_any _ _ a1 a2 _ _ _ _ W, by rw [e1]; exact ⟨CP.cells_size hcw _, CP.cells_one _ _ _ _⟩⟩)
  have HLN := hide (show (capOf (ts.map lst) 1 d).lit = [] from rfl)
  have HST := hide hst
  have HBW := hide hbW
  have c0 := (HB.out.1.cell 0).trans HC.out.2.2
  clear h hx2 hx3 hx4 hx5 hx6 hx7 hs hl hC0 hW hbW hkey hueb hv0 hv1 hv2 hv3 hR hst hns
  go_enter Tryz.func37, Tryz.ntmps37
  go_upto_region 1 with fail
  rw [← HW.out]
  go_wp2_with fail
  refine (QL1.out _ HR0.out).mono ?_
  rintro e w1 ⟨A1, m1, k1, rfl, r1, o1, g1⟩
  have H1 := hide (And.intro r1 (And.intro o1 g1))
  clear r1 o1 g1 c0
  go_wp2_with fail
  refine (QL2.out _ _ H1.out.1).mono ?_
  rintro e w2 ⟨A2, m2, k2, rfl, r2, o2, g2⟩
  have H2 := hide (And.intro r2 (And.intro o2 g2))
  clear r2 o2 g2
  go_wp2_with fail
  refine (QN0.out _ _ H2.out.1).mono ?_
  rintro e w3 ⟨rfl, r, gr⟩
  have H3 := hide (And.intro r (And.intro trivial gr))
  clear r gr
  go_wp2_with fail
  refine (QN1.out _ _ H3.out.1).mono ?_
  rintro e w4 ⟨rfl, r, gr⟩
  have H4 := hide (And.intro r (And.intro trivial gr))
  clear r gr
  go_wp2_with fail
  refine (QN2.out _ _ H4.out.1).mono ?_
  rintro e w5 ⟨rfl, r, gr⟩
  have H5 := hide (And.intro r (And.intro trivial gr))
  clear r gr
  go_wp2_with fail
  refine (QN3.out _ _ H5.out.1).mono ?_
  rintro e w6 ⟨rfl, r, gr⟩
  have H6 := hide (And.intro r (And.intro trivial gr))
  clear r gr
  have HG := hide (show W0.grownBy w6 (some b) from ((((H1.out.2.2.trans_ H2.out.2.2).trans_ H3.out.2.2).trans_ H4.out.2.2).trans_ H5.out.2.2).trans_ H6.out.2.2)
  have HG2 := hide (show w2.grownBy w6 (some b) from ((H3.out.2.2.trans_ H4.out.2.2).trans_ H5.out.2.2).trans_ H6.out.2.2)
  have HR6 := hide (show RdS w6 b g cap ts 8 st from by rw [← hN.out]; exact H6.out.1)
  have K6 := hide (show Blk w6 W.heap.size 34 C0 ∧ Blk w6 (W.heap.size + 1) 34 Tryz.zeroCells34 ∧ W.grownBy w6 (some b) from by
    have hbW := HBW.out
    exact ⟨HB.out.1.grown HG.out (by simp; omega), HB.out.2.1.grown HG.out (by simp; omega), (grownOfBelow HB.out.2.2 _).trans_ HG.out⟩)
  have r4 := HR6.out.r.cells.2.2.2.2
  have c0 := (K6.out.1.cell 0).trans HC.out.2.2
  have hne : ∀ j, some W.heap.size = some j → W.heap.size ≤ j ∨ some b = some j := fun j hj => by injection hj with hj; exact .inl (by omega)
  have hne2 : ∀ j, some (W.heap.size + 1) = some j → W.heap.size ≤ j ∨ some b = some j := fun j hj => by injection hj with hj; exact .inl (by omega)
  have HNE := hide (And.intro hne hne2)
  clear hne hne2
  cases hcs : st with
  | some y =>
    have hy : y.2 ≠ 0 := HR6.out.nz y hcs
    rw [hcs] at r4
    obtain ⟨er, her⟩ : ∃ er : Int, er = ((errP (some y)).2 : Int) := ⟨_, rfl⟩
    rw [← her] at r4
    have e9 : ¬ er = 0 := by rw [her]; show ¬ ((y.2 : Nat) : Int) = 0; omega
    have HCS := hide hcs
    clear her hy hcs c0
    go_wp2_with first
      | ((with_reducible change wpList _ _ _ (⟨some 35, _, _, _, _, _⟩ :: _) _ _); refine wpList_yields (by kernel_rfl) (.agg C0) (ex_load 34 _ rfl W.heap.size 0 (by kernel_rfl) C0.toList _ (rng_of K6.out.1) Tryz.underlying34 rfl (by rw [Array.length_toList, HC.out.1]; kernel_rfl)) ?_)
      | ((with_reducible change wpList _ _ _ (⟨none, .store _ (.tmp 4) _, _, _, _, _⟩ :: _) _ _); go_loud (refine wpList_store_row (o := ⟨none, .store _ (.tmp 4) _, _, _, _, _⟩) K6.out.2.1 C0 (by rw [HC.out.1]; kernel_rfl) HC.out.2.1 rfl 34 _ _ rfl (by rw [HC.out.1]; kernel_rfl) rfl rfl ?_; intro w8 hb8 hg8))
    refine bodyPost_ret (results_cell_row rfl _ _ (W.heap.size + 1) 34 C0 (0, 0) _ rfl hb8 Tryz.underlying34 rfl (by rw [HC.out.1]; kernel_rfl)) rfl ?_
    have hbW := HBW.out
    refine ⟨C0, .slice none 0 0, rfl, HC.out.1, HC.out.2.1, ?_, World.grownBy.andThen K6.out.2.2 hg8 HNE.out.2, fun hz => ?_⟩
    · rw [← HST.out]
      have r := HR6.out
      exact ⟨⟨r.r.blk.grown hg8 (by simp; omega), r.r.own.keptB hg8 (OwnT.apartCap r.r.own K6.out.2.1), r.r.ne⟩, r.nz⟩
    · rw [← HST.out, HCS.out] at hz
      cases hz
  | none =>
    have er0 : w6.cell? ⟨b, 4, none⟩ = some (.int .i64 0) := by rw [hcs] at r4; exact r4
    obtain ⟨z1, z2⟩ := HE.out hcs
    have hk16 := HL.out.1 z1
    have hu32 := HL.out.2 z2
    have hbW := HBW.out
    have hs0 : W0.heap.size = W.heap.size + 2 := by rw [HW.out]; simp
    have hs1 : W0.heap.size ≤ w1.heap.size := H1.out.2.2.size
    have oo1 := Own.keptB (Own.keptB (H1.out.2.1 z1) H2.out.2.2 (by omega)) HG2.out (by omega)
    have oo2 := Own.keptB (H2.out.2.1 z2) HG2.out (by omega)
    have hy1 := oo1.by_
    have hy2 := oo2.by_
    obtain ⟨A1', k1', e1, -, -, -⟩ := hy1.form
    injection e1 with q1 q2 q3
    subst q1 q2 q3
    obtain ⟨A2', k2', e2, -, -, -⟩ := hy2.form
    injection e2 with q1 q2 q3
    subst q1 q2 q3
    obtain ⟨g8, o8, e8, r8⟩ := by_range hy1 (by omega)
    obtain ⟨g9, o9, e9, r9⟩ := by_range hy2 (by omega)
    subst e8 e9
    have hfacts := HF.out hk16 hu32
    have HK := hide (And.intro r8 (And.intro r9 (And.intro hk16 (And.intro hu32 hfacts))))
    have HCS := hide hcs
    rw [hk16, hu32]
    clear r8 r9 hfacts z1 z2 oo1 oo2 hy1 hy2 r4 hcs hs0 hs1 hbW hk16 hu32
    go_wp2_with fail
    refine wp_region_still_tail 12 (by kernel_rfl) (by kernel_rfl) ?_
    simp only [List.take_succ_cons, List.take_zero, List.drop_succ_cons, List.drop_zero]
    repeat (first
      | ((with_reducible change wpStill _ _ _ _ (⟨some 40, _, _, _, _, _⟩ :: _) _); refine wpStill_yields (by kernel_rfl) (.pointer (some ⟨g8, o8, none⟩)) (ex_s2a 24 _ rfl (.slice (some ⟨g8, o8, none⟩) 16 k1) _ (by kernel_rfl) (run_arrayAt _ 24 5 16 _ 16 k1 Tryz.underlying24 (Nat.le_refl _))) ?_)
      | ((with_reducible change wpStill _ _ _ _ (⟨some 41, _, _, _, _, _⟩ :: _) _); refine wpStill_yields (by kernel_rfl) (.agg (bcells key).toArray) (ex_load 24 _ rfl g8 o8 (by kernel_rfl) _ _ HK.out.1 Tryz.underlying24 rfl (by rw [bcells_length, HK.out.2.2.1]; kernel_rfl)) ?_)
      | ((with_reducible change wpStill _ _ _ _ (⟨some 43, _, _, _, _, _⟩ :: _) _); refine wpStill_yields (by kernel_rfl) (.pointer (some ⟨g9, o9, none⟩)) (ex_s2a 26 _ rfl (.slice (some ⟨g9, o9, none⟩) 32 k2) _ (by kernel_rfl) (run_arrayAt _ 26 5 32 _ 32 k2 Tryz.underlying26 (Nat.le_refl _))) ?_)
      | ((with_reducible change wpStill _ _ _ _ (⟨some 44, _, _, _, _, _⟩ :: _) _); refine wpStill_yields (by kernel_rfl) (.agg (bcells ueb).toArray) (ex_load 26 _ rfl g9 o9 (by kernel_rfl) _ _ HK.out.2.1 Tryz.underlying26 rfl (by rw [bcells_length, HK.out.2.2.2.1]; kernel_rfl)) ?_)
      | ((with_reducible change wpStill _ _ _ _ (⟨some 49, _, _, _, _, _⟩ :: _) _); refine wpStill_yields (by kernel_rfl) (.agg R) (ex_build 28 _ rfl #[(0, .agg (bcells key).toArray), (1, .agg (bcells ueb).toArray), (2, .int .i64 v0), (3, .int .i64 v1), (4, .int .i64 v2), (5, .int .i64 v3)] (by kernel_rfl) _ (HK.out.2.2.2.2.2.2.2.1 _)) ?_)
      | still_step)
    refine wpStill_nil ?_
    have H7 := hide (show Blk (w6.drew.setCells W.heap.size 2 R.toList) W.heap.size 34 (fillA C0 2 R.toList) ∧ Blk (w6.drew.setCells W.heap.size 2 R.toList) (W.heap.size + 1) 34 Tryz.zeroCells34 ∧ w6.grownBy (w6.drew.setCells W.heap.size 2 R.toList) (some W.heap.size) from by
      have hg : w6.grownBy (w6.drew.setCells W.heap.size 2 R.toList) (some W.heap.size) := (grown_drew (World.grownBy.refl w6 _)).trans_ (stores_grown _ _ _ _)
      exact ⟨blk_fillA _ _ _ _ K6.out.1.drew, K6.out.2.1.grown hg (by simp), hg⟩)
    obtain ⟨F, hF⟩ : ∃ F : Array Value, F = fillA C0 2 R.toList := ⟨_, rfl⟩
    have HFF := hide (show F.size = 107 ∧ F.all (·.oneCell') = true ∧ F = (capOf (ts.map lst) 1 d).cells (.slice none 0 0) from by
      rw [hF]
      exact ⟨HK.out.2.2.2.2.2.2.2.2.1, HK.out.2.2.2.2.2.2.2.2.2, HK.out.2.2.2.2.1⟩)
    rw [← hF] at H7
    clear hF c0
    go_wp2_with first
      | ((with_reducible change wpList _ _ _ (⟨none, .store _ (.tmp 50) _, _, _, _, _⟩ :: _) _ _); go_loud (refine wpList_store_mid rfl 28 _ _ rfl W.heap.size 2 R rfl rfl (there_at K6.out.1.drew (by rw [HC.out.1, HK.out.2.2.2.2.2.1]; omega)) ((by kernel_rfl : (Tryz.prog.info? 28).map (·.size) = some 52).trans (by rw [HK.out.2.2.2.2.2.1])) HK.out.2.2.2.2.2.2.1 ?_))
      | ((with_reducible change wpList _ _ _ (⟨some 63, _, _, _, _, _⟩ :: _) _ _); refine wpList_yields (by kernel_rfl) (.agg F) (ex_load 34 _ rfl W.heap.size 0 (by kernel_rfl) F.toList _ (rng_of H7.out.1) Tryz.underlying34 rfl (by rw [Array.length_toList, HFF.out.1]; kernel_rfl)) ?_)
      | ((with_reducible change wpList _ _ _ (⟨none, .store _ (.tmp 4) _, _, _, _, _⟩ :: _) _ _); go_loud (refine wpList_store_row (o := ⟨none, .store _ (.tmp 4) _, _, _, _, _⟩) H7.out.2.1 F (by rw [HFF.out.1]; kernel_rfl) HFF.out.2.1 rfl 34 _ _ rfl (by rw [HFF.out.1]; kernel_rfl) rfl rfl ?_; intro w8 hb8 hg8))
    refine bodyPost_ret (results_cell_row rfl _ _ (W.heap.size + 1) 34 F (0, 0) _ rfl hb8 Tryz.underlying34 rfl (by rw [HFF.out.1]; kernel_rfl)) rfl ?_
    have hbW := HBW.out
    refine ⟨F, .slice none 0 0, rfl, HFF.out.1, HFF.out.2.1, ?_, World.grownBy.andThen (World.grownBy.andThen K6.out.2.2 H7.out.2.2 HNE.out.1) hg8 HNE.out.2, fun hz => ⟨HFF.out.2.2, by rw [HLN.out]; exact Own.nil _ _ _⟩⟩
    rw [← HST.out]
    have r := HR6.out
    exact ⟨⟨(r.r.blk.grown H7.out.2.2 (by simp; omega)).grown hg8 (by simp; omega), r.r.own.kept2 H7.out.2.2 hg8 (OwnT.apartCap r.r.own K6.out.1) (OwnT.apartCap r.r.own K6.out.2.1), r.r.ne⟩, r.nz⟩
set_option maxRecDepth 100000 in
set_option maxHeartbeats 8000000 in
theorem rdread_2 (W : World) (b g cap : Nat) (ts : List ByteArray) (d : Bool) (h : RdS W b g cap ts 2 none) (hs : Sm ts) (hl : ts.length = 8) :
    Calls Tryz.prog 37 #[.pointer (some ⟨b, 0, none⟩), .agg ((bare 2 d).cells (.slice none 0 0))] W (ReadB W b g cap ts 2 d) := by
  obtain ⟨x2, hx2⟩ := at_of (ts := ts) (j := 2) (by omega)
  obtain ⟨x3, hx3⟩ := at_of (ts := ts) (j := 3) (by omega)
  obtain ⟨x4, hx4⟩ := at_of (ts := ts) (j := 4) (by omega)
  obtain ⟨x5, hx5⟩ := at_of (ts := ts) (j := 5) (by omega)
  obtain ⟨x6, hx6⟩ := at_of (ts := ts) (j := 6) (by omega)
  obtain ⟨x7, hx7⟩ := at_of (ts := ts) (j := 7) (by omega)
  obtain ⟨C0, hC0⟩ : ∃ F : Array Value, F = (bare 2 d).cells (.slice none 0 0) := ⟨_, rfl⟩
  rw [← hC0]
  obtain ⟨W0, hW⟩ : ∃ W0, W0 = (W.alloc (.cells C0 34)).alloc (.cells Tryz.zeroCells34 34) := ⟨_, rfl⟩
  have HW := hide hW
  have hbW := h.r.blk.lt
  have HB := hide (show Blk W0 W.heap.size 34 C0 ∧ Blk W0 (W.heap.size + 1) 34 Tryz.zeroCells34 ∧ Below W.heap.size W W0 from by
    have b1 := (Below.refl W.heap.size W).alloc (Nat.le_refl _) (.cells C0 34)
    have k2 := Blk.new (W.alloc (.cells C0 34)) 34 Tryz.zeroCells34
    simp only [World.size_alloc] at k2
    rw [hW]
    exact ⟨(Blk.new W 34 C0).alloc _, k2, b1.alloc b1.size _⟩)
  have HR0 := hide (h.below HB.out.2.2)
  have HC := hide (show C0.size = 107 ∧ C0.all (·.oneCell') = true ∧ C0[0]? = some (.int .u8 2) from ⟨by rw [hC0]; exact CP.cells_size (bare_wf d (by omega)) _, by rw [hC0]; exact CP.cells_one _ _ _ _, by rw [hC0]; rfl⟩)
  have QL1 := hide (fun W (h : RdS W b g cap ts 2 none) => letters_16 W b g cap ts 2 none x2 h hx2 hs)
  have QL2 := hide (fun W st (h : RdS W b g cap ts 3 st) => letters_32 W b g cap ts 3 st x3 h hx3 hs)
  obtain ⟨v0, hv0⟩ : ∃ v, v = rdN (lst x4) 255 := ⟨_, rfl⟩
  have QN0 := hide (fun W st (h : RdS W b g cap ts 4 st) => number_st W b g cap ts 4 st x4 255 h hx4 hs (by omega))
  rw [← hv0] at QN0
  obtain ⟨v1, hv1⟩ : ∃ v, v = rdN (lst x5) 255 := ⟨_, rfl⟩
  have QN1 := hide (fun W st (h : RdS W b g cap ts 5 st) => number_st W b g cap ts 5 st x5 255 h hx5 hs (by omega))
  rw [← hv1] at QN1
  obtain ⟨v2, hv2⟩ : ∃ v, v = rdN (lst x6) 65791 := ⟨_, rfl⟩
  have QN2 := hide (fun W st (h : RdS W b g cap ts 6 st) => number_st W b g cap ts 6 st x6 65791 h hx6 hs (by omega))
  rw [← hv2] at QN2
  obtain ⟨v3, hv3⟩ : ∃ v, v = rdN (lst x7) 16777216 := ⟨_, rfl⟩
  have QN3 := hide (fun W st (h : RdS W b g cap ts 7 st) => number_st W b g cap ts 7 st x7 16777216 h hx7 hs (by omega))
  rw [← hv3] at QN3
  obtain ⟨key, hkey⟩ : ∃ l, l = (decode (lst x2)).1 := ⟨_, rfl⟩
  obtain ⟨ueb, hueb⟩ : ∃ l, l = (decode (lst x3)).1 := ⟨_, rfl⟩
  rw [← hkey] at QL1
  rw [← hueb] at QL2
  obtain ⟨R, hR⟩ : ∃ F : Array Value, F = (RV.cells ⟨key, ueb, v0, v1, v2, v3⟩).toArray := ⟨_, rfl⟩
  obtain ⟨st, hst⟩ : ∃ s, s = bodyF (ts.map lst) 2 := ⟨_, rfl⟩
  have hns : first_ (first_ (first_ (first_ (first_ (first_ none (ltrF (ts.map lst) 2 16 16)) (ltrF (ts.map lst) 3 32 32)) (numF (ts.map lst) 4 255)) (numF (ts.map lst) 5 255)) (numF (ts.map lst) 6 65791)) (numF (ts.map lst) 7 16777216) = st := by
    rw [hst]
    show _ = rvF (ts.map lst)
    unfold rvF
    simp only [first_assoc]
    rfl
  have hN := hide hns
  have HE := hide (show st = none → ltrE (lst x2) 16 16 = 0 ∧ ltrE (lst x3) 32 32 = 0 from fun hz => by
    rw [← hns] at hz
    have a1 := first_noneD hz
    have a2 := first_noneD a1.1
    have a3 := first_noneD a2.1
    have a4 := first_noneD a3.1
    have a5 := first_noneD a4.1
    have a6 := first_noneD a5.1
    have e1 := a6.2
    have e2 := a5.2
    unfold ltrF at e1 e2
    rw [part_of hx2] at e1
    rw [part_of hx3] at e2
    constructor
    · by_cases hz : ltrE (lst x2) 16 16 ≠ 0
      · rw [if_pos hz] at e1; cases e1
      · omega
    · by_cases hz : ltrE (lst x3) 32 32 ≠ 0
      · rw [if_pos hz] at e2; cases e2
      · omega)
  have HL := hide (show (ltrE (lst x2) 16 16 = 0 → key.length = 16) ∧ (ltrE (lst x3) 32 32 = 0 → ueb.length = 32) from ⟨fun h => by rw [hkey]; exact ltrE_len h, fun h => by rw [hueb]; exact ltrE_len h⟩)
  have HF := hide (show ∀ (a1 : key.length = 16) (a2 : ueb.length = 32), fillA C0 54 R.toList = (capOf (ts.map lst) 2 d).cells (.slice none 0 0) ∧ R.size = 52 ∧ R.all (·.oneCell') = true ∧ (∀ W, (Instr.build 31 #[(0, .agg (bcells key).toArray), (1, .agg (bcells ueb).toArray), (2, .int .i64 v0), (3, .int .i64 v1), (4, .int .i64 v2), (5, .int .i64 v3)]).run Tryz.prog W = .ok (.agg R) W) ∧ ((fillA C0 54 R.toList).size = 107 ∧ (fillA C0 54 R.toList).all (·.oneCell') = true) from fun a1 a2 => by
    have hwf : (⟨key, ueb, v0, v1, v2, v3⟩ : RV).wf := ⟨a1, a2⟩
    have hrv : rvOf (ts.map lst) = ⟨key, ueb, v0, v1, v2, v3⟩ := by
      unfold rvOf
      rw [part_of hx2, part_of hx3, part_of hx4, part_of hx5, part_of hx6, part_of hx7, hkey, hueb, hv0, hv1, hv2, hv3]
    have e1 : fillA C0 54 R.toList = (capOf (ts.map lst) 2 d).cells (.slice none 0 0) := by
      rw [hC0, hR]
      unfold capOf bare
      rw [if_neg (by omega), if_pos rfl, hrv]
      exact cap_fill_vf _ _ _ _ _ RV.zero_wf hwf
    have hcw : (capOf (ts.map lst) 2 d).wf := by unfold capOf; rw [if_neg (by omega), if_pos rfl, hrv]; exact ⟨RV.zero_wf, hwf, by show (2 : Nat) < 256; omega⟩
    exact ⟨e1, by rw [hR]; exact rv_size _ hwf, by rw [hR]; exact rv_one _, fun W => by rw [hR]; exact build_verify_any _ _ a1 a2 _ _ _ _ W, by rw [e1]; exact ⟨CP.cells_size hcw _, CP.cells_one _ _ _ _⟩⟩)
  have HLN := hide (show (capOf (ts.map lst) 2 d).lit = [] from rfl)
  have HST := hide hst
  have HBW := hide hbW
  have c0 := (HB.out.1.cell 0).trans HC.out.2.2
  clear h hx2 hx3 hx4 hx5 hx6 hx7 hs hl hC0 hW hbW hkey hueb hv0 hv1 hv2 hv3 hR hst hns
  go_enter Tryz.func37, Tryz.ntmps37
  go_upto_region 1 with fail
  rw [← HW.out]
  go_wp2_with fail
  refine (QL1.out _ HR0.out).mono ?_
  rintro e w1 ⟨A1, m1, k1, rfl, r1, o1, g1⟩
  have H1 := hide (And.intro r1 (And.intro o1 g1))
  clear r1 o1 g1 c0
  go_wp2_with fail
  refine (QL2.out _ _ H1.out.1).mono ?_
  rintro e w2 ⟨A2, m2, k2, rfl, r2, o2, g2⟩
  have H2 := hide (And.intro r2 (And.intro o2 g2))
  clear r2 o2 g2
  go_wp2_with fail
  refine (QN0.out _ _ H2.out.1).mono ?_
  rintro e w3 ⟨rfl, r, gr⟩
  have H3 := hide (And.intro r (And.intro trivial gr))
  clear r gr
  go_wp2_with fail
  refine (QN1.out _ _ H3.out.1).mono ?_
  rintro e w4 ⟨rfl, r, gr⟩
  have H4 := hide (And.intro r (And.intro trivial gr))
  clear r gr
  go_wp2_with fail
  refine (QN2.out _ _ H4.out.1).mono ?_
  rintro e w5 ⟨rfl, r, gr⟩
  have H5 := hide (And.intro r (And.intro trivial gr))
  clear r gr
  go_wp2_with fail
  refine (QN3.out _ _ H5.out.1).mono ?_
  rintro e w6 ⟨rfl, r, gr⟩
  have H6 := hide (And.intro r (And.intro trivial gr))
  clear r gr
  have HG := hide (show W0.grownBy w6 (some b) from ((((H1.out.2.2.trans_ H2.out.2.2).trans_ H3.out.2.2).trans_ H4.out.2.2).trans_ H5.out.2.2).trans_ H6.out.2.2)
  have HG2 := hide (show w2.grownBy w6 (some b) from ((H3.out.2.2.trans_ H4.out.2.2).trans_ H5.out.2.2).trans_ H6.out.2.2)
  have HR6 := hide (show RdS w6 b g cap ts 8 st from by rw [← hN.out]; exact H6.out.1)
  have K6 := hide (show Blk w6 W.heap.size 34 C0 ∧ Blk w6 (W.heap.size + 1) 34 Tryz.zeroCells34 ∧ W.grownBy w6 (some b) from by
    have hbW := HBW.out
    exact ⟨HB.out.1.grown HG.out (by simp; omega), HB.out.2.1.grown HG.out (by simp; omega), (grownOfBelow HB.out.2.2 _).trans_ HG.out⟩)
  have r4 := HR6.out.r.cells.2.2.2.2
  have c0 := (K6.out.1.cell 0).trans HC.out.2.2
  have hne : ∀ j, some W.heap.size = some j → W.heap.size ≤ j ∨ some b = some j := fun j hj => by injection hj with hj; exact .inl (by omega)
  have hne2 : ∀ j, some (W.heap.size + 1) = some j → W.heap.size ≤ j ∨ some b = some j := fun j hj => by injection hj with hj; exact .inl (by omega)
  have HNE := hide (And.intro hne hne2)
  clear hne hne2
  cases hcs : st with
  | some y =>
    have hy : y.2 ≠ 0 := HR6.out.nz y hcs
    rw [hcs] at r4
    obtain ⟨er, her⟩ : ∃ er : Int, er = ((errP (some y)).2 : Int) := ⟨_, rfl⟩
    rw [← her] at r4
    have e9 : ¬ er = 0 := by rw [her]; show ¬ ((y.2 : Nat) : Int) = 0; omega
    have HCS := hide hcs
    clear her hy hcs c0
    go_wp2_with first
      | ((with_reducible change wpList _ _ _ (⟨some 35, _, _, _, _, _⟩ :: _) _ _); refine wpList_yields (by kernel_rfl) (.agg C0) (ex_load 34 _ rfl W.heap.size 0 (by kernel_rfl) C0.toList _ (rng_of K6.out.1) Tryz.underlying34 rfl (by rw [Array.length_toList, HC.out.1]; kernel_rfl)) ?_)
      | ((with_reducible change wpList _ _ _ (⟨none, .store _ (.tmp 4) _, _, _, _, _⟩ :: _) _ _); go_loud (refine wpList_store_row (o := ⟨none, .store _ (.tmp 4) _, _, _, _, _⟩) K6.out.2.1 C0 (by rw [HC.out.1]; kernel_rfl) HC.out.2.1 rfl 34 _ _ rfl (by rw [HC.out.1]; kernel_rfl) rfl rfl ?_; intro w8 hb8 hg8))
    refine bodyPost_ret (results_cell_row rfl _ _ (W.heap.size + 1) 34 C0 (0, 0) _ rfl hb8 Tryz.underlying34 rfl (by rw [HC.out.1]; kernel_rfl)) rfl ?_
    have hbW := HBW.out
    refine ⟨C0, .slice none 0 0, rfl, HC.out.1, HC.out.2.1, ?_, World.grownBy.andThen K6.out.2.2 hg8 HNE.out.2, fun hz => ?_⟩
    · rw [← HST.out]
      have r := HR6.out
      exact ⟨⟨r.r.blk.grown hg8 (by simp; omega), r.r.own.keptB hg8 (OwnT.apartCap r.r.own K6.out.2.1), r.r.ne⟩, r.nz⟩
    · rw [← HST.out, HCS.out] at hz
      cases hz
  | none =>
    have er0 : w6.cell? ⟨b, 4, none⟩ = some (.int .i64 0) := by rw [hcs] at r4; exact r4
    obtain ⟨z1, z2⟩ := HE.out hcs
    have hk16 := HL.out.1 z1
    have hu32 := HL.out.2 z2
    have hbW := HBW.out
    have hs0 : W0.heap.size = W.heap.size + 2 := by rw [HW.out]; simp
    have hs1 : W0.heap.size ≤ w1.heap.size := H1.out.2.2.size
    have oo1 := Own.keptB (Own.keptB (H1.out.2.1 z1) H2.out.2.2 (by omega)) HG2.out (by omega)
    have oo2 := Own.keptB (H2.out.2.1 z2) HG2.out (by omega)
    have hy1 := oo1.by_
    have hy2 := oo2.by_
    obtain ⟨A1', k1', e1, -, -, -⟩ := hy1.form
    injection e1 with q1 q2 q3
    subst q1 q2 q3
    obtain ⟨A2', k2', e2, -, -, -⟩ := hy2.form
    injection e2 with q1 q2 q3
    subst q1 q2 q3
    obtain ⟨g8, o8, e8, r8⟩ := by_range hy1 (by omega)
    obtain ⟨g9, o9, e9, r9⟩ := by_range hy2 (by omega)
    subst e8 e9
    have hfacts := HF.out hk16 hu32
    have HK := hide (And.intro r8 (And.intro r9 (And.intro hk16 (And.intro hu32 hfacts))))
    have HCS := hide hcs
    rw [hk16, hu32]
    clear r8 r9 hfacts z1 z2 oo1 oo2 hy1 hy2 r4 hcs hs0 hs1 hbW hk16 hu32
    go_wp2_with fail
    refine wp_region_still_tail 12 (by kernel_rfl) (by kernel_rfl) ?_
    simp only [List.take_succ_cons, List.take_zero, List.drop_succ_cons, List.drop_zero]
    repeat (first
      | ((with_reducible change wpStill _ _ _ _ (⟨some 52, _, _, _, _, _⟩ :: _) _); refine wpStill_yields (by kernel_rfl) (.pointer (some ⟨g8, o8, none⟩)) (ex_s2a 29 _ rfl (.slice (some ⟨g8, o8, none⟩) 16 k1) _ (by kernel_rfl) (run_arrayAt _ 29 5 16 _ 16 k1 Tryz.underlying29 (Nat.le_refl _))) ?_)
      | ((with_reducible change wpStill _ _ _ _ (⟨some 53, _, _, _, _, _⟩ :: _) _); refine wpStill_yields (by kernel_rfl) (.agg (bcells key).toArray) (ex_load 29 _ rfl g8 o8 (by kernel_rfl) _ _ HK.out.1 Tryz.underlying29 rfl (by rw [bcells_length, HK.out.2.2.1]; kernel_rfl)) ?_)
      | ((with_reducible change wpStill _ _ _ _ (⟨some 55, _, _, _, _, _⟩ :: _) _); refine wpStill_yields (by kernel_rfl) (.pointer (some ⟨g9, o9, none⟩)) (ex_s2a 26 _ rfl (.slice (some ⟨g9, o9, none⟩) 32 k2) _ (by kernel_rfl) (run_arrayAt _ 26 5 32 _ 32 k2 Tryz.underlying26 (Nat.le_refl _))) ?_)
      | ((with_reducible change wpStill _ _ _ _ (⟨some 56, _, _, _, _, _⟩ :: _) _); refine wpStill_yields (by kernel_rfl) (.agg (bcells ueb).toArray) (ex_load 26 _ rfl g9 o9 (by kernel_rfl) _ _ HK.out.2.1 Tryz.underlying26 rfl (by rw [bcells_length, HK.out.2.2.2.1]; kernel_rfl)) ?_)
      | ((with_reducible change wpStill _ _ _ _ (⟨some 61, _, _, _, _, _⟩ :: _) _); refine wpStill_yields (by kernel_rfl) (.agg R) (ex_build 31 _ rfl #[(0, .agg (bcells key).toArray), (1, .agg (bcells ueb).toArray), (2, .int .i64 v0), (3, .int .i64 v1), (4, .int .i64 v2), (5, .int .i64 v3)] (by kernel_rfl) _ (HK.out.2.2.2.2.2.2.2.1 _)) ?_)
      | still_step)
    refine wpStill_nil ?_
    have H7 := hide (show Blk (w6.drew.setCells W.heap.size 54 R.toList) W.heap.size 34 (fillA C0 54 R.toList) ∧ Blk (w6.drew.setCells W.heap.size 54 R.toList) (W.heap.size + 1) 34 Tryz.zeroCells34 ∧ w6.grownBy (w6.drew.setCells W.heap.size 54 R.toList) (some W.heap.size) from by
      have hg : w6.grownBy (w6.drew.setCells W.heap.size 54 R.toList) (some W.heap.size) := (grown_drew (World.grownBy.refl w6 _)).trans_ (stores_grown _ _ _ _)
      exact ⟨blk_fillA _ _ _ _ K6.out.1.drew, K6.out.2.1.grown hg (by simp), hg⟩)
    obtain ⟨F, hF⟩ : ∃ F : Array Value, F = fillA C0 54 R.toList := ⟨_, rfl⟩
    have HFF := hide (show F.size = 107 ∧ F.all (·.oneCell') = true ∧ F = (capOf (ts.map lst) 2 d).cells (.slice none 0 0) from by
      rw [hF]
      exact ⟨HK.out.2.2.2.2.2.2.2.2.1, HK.out.2.2.2.2.2.2.2.2.2, HK.out.2.2.2.2.1⟩)
    rw [← hF] at H7
    clear hF c0
    go_wp2_with first
      | ((with_reducible change wpList _ _ _ (⟨none, .store _ (.tmp 62) _, _, _, _, _⟩ :: _) _ _); go_loud (refine wpList_store_mid rfl 31 _ _ rfl W.heap.size 54 R rfl rfl (there_at K6.out.1.drew (by rw [HC.out.1, HK.out.2.2.2.2.2.1]; omega)) ((by kernel_rfl : (Tryz.prog.info? 31).map (·.size) = some 52).trans (by rw [HK.out.2.2.2.2.2.1])) HK.out.2.2.2.2.2.2.1 ?_))
      | ((with_reducible change wpList _ _ _ (⟨some 63, _, _, _, _, _⟩ :: _) _ _); refine wpList_yields (by kernel_rfl) (.agg F) (ex_load 34 _ rfl W.heap.size 0 (by kernel_rfl) F.toList _ (rng_of H7.out.1) Tryz.underlying34 rfl (by rw [Array.length_toList, HFF.out.1]; kernel_rfl)) ?_)
      | ((with_reducible change wpList _ _ _ (⟨none, .store _ (.tmp 4) _, _, _, _, _⟩ :: _) _ _); go_loud (refine wpList_store_row (o := ⟨none, .store _ (.tmp 4) _, _, _, _, _⟩) H7.out.2.1 F (by rw [HFF.out.1]; kernel_rfl) HFF.out.2.1 rfl 34 _ _ rfl (by rw [HFF.out.1]; kernel_rfl) rfl rfl ?_; intro w8 hb8 hg8))
    refine bodyPost_ret (results_cell_row rfl _ _ (W.heap.size + 1) 34 F (0, 0) _ rfl hb8 Tryz.underlying34 rfl (by rw [HFF.out.1]; kernel_rfl)) rfl ?_
    have hbW := HBW.out
    refine ⟨F, .slice none 0 0, rfl, HFF.out.1, HFF.out.2.1, ?_, World.grownBy.andThen (World.grownBy.andThen K6.out.2.2 H7.out.2.2 HNE.out.1) hg8 HNE.out.2, fun hz => ⟨HFF.out.2.2, by rw [HLN.out]; exact Own.nil _ _ _⟩⟩
    rw [← HST.out]
    have r := HR6.out
    exact ⟨⟨(r.r.blk.grown H7.out.2.2 (by simp; omega)).grown hg8 (by simp; omega), r.r.own.kept2 H7.out.2.2 hg8 (OwnT.apartCap r.r.own K6.out.1) (OwnT.apartCap r.r.own K6.out.2.1), r.r.ne⟩, r.nz⟩
end Go.Proofs.YtcpceaflnnkhnaaGreatDoor
