/- Joined texts: PsB. -/
import Derived.Test.YtcpceaflnnkhnaaGreatDoorJ2
import Derived.Test.YtcpceaflnnkhnaaGreatDoorJ4

/- The contract of the program's parse, of a literal. -/
namespace Go.Proofs.YtcpceaflnnkhnaaGreatDoor
open Go.RowKit
attribute [local go_sem ↓] Go.wp_at_zero Go.wp_at_succ

theorem CP.zero_one : (CP.zero.cells (.slice none 0 0)).all (·.oneCell') = true := by decide +kernel
theorem CP.cells_one (c : CP) (A : Option Addr) (n k : Nat) : (c.cells (.slice A n k)).all (·.oneCell') = true := by
  refine all_oneCell_toArray fun v hv => ?_
  unfold CP.cellsL at hv
  simp only [List.mem_cons, List.mem_append, List.not_mem_nil, or_false] at hv
  rcases hv with rfl | rfl | hv | hv | rfl
  · rfl
  · rfl
  · exact RV.one _ v hv
  · exact RV.one _ v hv
  · rfl
/-- The text at place i of the parts, and where it begins. -/
def PartAt (w : World) (g o g2 o2 i : Nat) (s : ByteArray) (a : Nat) : Prop := w.cell? ⟨g, o + i, none⟩ = some (.string s) ∧ w.cell? ⟨g2, o2 + i, none⟩ = some (.int .i64 (a : Int))
theorem Own.grown_other {w w' : World} {b g : Nat} {e : TypeId} {v : Value} {l : List UInt8} (h : Own w b e v l) (hg : w.grownBy w' (some g)) (hlt : g < b) : Own w' b e v l := by
  obtain ⟨h1, h2 | ⟨k, cap, cur, hv, hb, hh, r⟩⟩ := h
  · exact ⟨h1, .inl h2⟩
  · have hk : k < w.heap.size := Blk.lt (cs := cur) (t := e) hh
    exact ⟨h1, .inr ⟨k, cap, cur, hv, hb, (hg.block k hk (by simp; omega)).trans hh, r⟩⟩
theorem own_lowerD {w : World} {b b' : Nat} {e : TypeId} {v : Value} {l : List UInt8} (h : Own w b e v l) (hb : b' ≤ b) : Own w b' e v l := by
  obtain ⟨h1, h2 | ⟨g, cap, cur, hv, hg, r⟩⟩ := h
  · exact ⟨h1, .inl h2⟩
  · exact ⟨h1, .inr ⟨g, cap, cur, hv, Nat.le_trans hb hg, r⟩⟩
set_option maxRecDepth 100000 in
set_option maxHeartbeats 4000000 in
theorem parse_lit_ok (g o g2 o2 n c n2 c2 : Nat) (s : ByteArray) (a : Nat) (w : World) (hs : s.size ≤ 1000000) (ha : a ≤ 1000000) (hn : 1 ≤ n ∧ 1 ≤ n2) (hp : PartAt w g o g2 o2 0 s a) (hE : ltrE (lst s) 0 32 = 0) :
    Calls Tryz.prog 61 #[.string ⟨#[108, 105, 116]⟩, .slice (some ⟨g, o, none⟩) n c, .slice (some ⟨g2, o2, none⟩) n2 c2] w fun e w' => Below w.heap.size w w' ∧
      ∃ A c, e = .returned (.tuple #[.agg (CP.cells ⟨3, false, RV.zero, RV.zero, (decode (lst s)).1⟩ (.slice A (decode (lst s)).1.length c)), .nilIface]) ∧ Own w' w.heap.size 5 (.slice A (decode (lst s)).1.length c) (decode (lst s)).1 := by
  have Q := hide (fun W => letters_any s a 0 32 W hs ha (by omega) (by omega))
  obtain ⟨c0, c1⟩ := hp
  rw [Nat.add_zero] at c0 c1
  have i0 : (0 : Int) < (n : Int) := by omega
  have i1 : (0 : Int) < (n2 : Int) := by omega
  have j0 : 0 < n := by omega
  have j1 : 0 < n2 := by omega
  obtain ⟨l, hl⟩ : ∃ l, l = (decode (lst s)).1 := ⟨_, rfl⟩
  obtain ⟨m, hm⟩ : ∃ m, m = l.length := ⟨_, rfl⟩
  rw [← hl, ← hm] at Q ⊢
  have HE := hide hE
  rw [show ((0 : Nat) : Int) = 0 from rfl, show ((32 : Nat) : Int) = 32 from rfl] at Q
  obtain ⟨w0, hw0⟩ : ∃ w0, w0 = w.alloc (.cells Tryz.zeroCells34 34) := ⟨_, rfl⟩
  have H0 := hide (show Blk w0 w.heap.size 34 Tryz.zeroCells34 ∧ Below w.heap.size w w0 from ⟨by rw [hw0]; exact Blk.new w _ _, by rw [hw0]; exact (Below.refl _ w).alloc (Nat.le_refl _) _⟩)
  have HS : Hid (∀ W, Below w0.heap.size w0 W → W.cell? ⟨g, o, none⟩ = some (.string s) ∧ W.cell? ⟨g2, o2, none⟩ = some (.int .i64 (a : Int))) := fun W hW =>
    ⟨((H0.out.2.trans (hW.mono H0.out.2.size)).cell (World.block_lt_of_cell? _ _ c0)).trans c0, ((H0.out.2.trans (hW.mono H0.out.2.size)).cell (World.block_lt_of_cell? _ _ c1)).trans c1⟩
  obtain ⟨s0, s1⟩ := HS.out w0 (Below.refl _ _)
  have HW := hide hw0
  clear hE hs ha hn hl hm hw0 c0 c1
  go_enter Tryz.func61, Tryz.ntmps61
  go_wp2_with fail
  rw [← HW.out]
  go_region_held3 (fun w' => w'.cell? ⟨g, o, none⟩ = some (.string s) ∧ w'.cell? ⟨g2, o2, none⟩ = some (.int .i64 (a : Int))) (first | go_keep | exact HS.out _ (by (repeat (first | with_reducible exact Below.refl _ _ | with_reducible refine Below.drew ?_ | with_reducible refine Below.al0 ?_ _ | with_reducible refine Below.step ?_ q1))))
    ((go_at_call 79; refine (Q.out _).mono ?_; rintro e w1 ⟨q1, h1, -⟩; obtain ⟨A, c', rfl, o1⟩ := h1 HE.out))
  have hb1 : Below w0.heap.size w0 w1 := by (repeat (first | with_reducible exact Below.refl _ _ | with_reducible refine Below.drew ?_ | with_reducible refine Below.al0 ?_ _ | with_reducible refine Below.step ?_ q1))
  have H1 := hide (And.intro (H0.out.1.below' hb1) (And.intro (H0.out.2.trans (hb1.mono H0.out.2.size)) o1))
  clear q1 h1 hb1 o1
  obtain ⟨F, hF⟩ : ∃ F, F = CP.cells ⟨3, false, RV.zero, RV.zero, l⟩ (.slice A m c') := ⟨_, rfl⟩
  have HG := hide (show F.size = 107 ∧ F.all (·.oneCell') = true ∧ (∀ W, (Instr.build 34 #[(0, .int .u8 3), (4, .slice A m c')]).run Tryz.prog W = .ok (.agg F) W) ∧ F = CP.cells ⟨3, false, RV.zero, RV.zero, l⟩ (.slice A m c') from ⟨by rw [hF]; exact CP.cells_size ⟨RV.zero_wf, RV.zero_wf, by show (3 : Nat) < 256; omega⟩ _, by rw [hF]; exact CP.cells_one _ _ _ _, fun W => by rw [hF]; exact build_cap3 A m c' W, hF⟩)
  clear hF
  go_wp2_with first
    | ((with_reducible change wpList _ _ _ (⟨some 31, _, _, _, _, _⟩ :: _) _ _); refine wpList_yields (by kernel_rfl) (.agg F) (ex_build 34 _ rfl #[(0, .int .u8 3), (4, .slice A m c')] (by kernel_rfl) _ (HG.out.2.2.1 _)) ?_)
    | ((with_reducible change wpList _ _ _ (⟨none, .store _ (.tmp 6) _, _, _, _, _⟩ :: _) _ _); go_loud (refine wpList_store_row (o := ⟨none, .store _ (.tmp 6) _, _, _, _, _⟩) H1.out.1 F (by rw [HG.out.1]; kernel_rfl) HG.out.2.1 rfl 34 _ _ rfl (by rw [HG.out.1]; kernel_rfl) rfl rfl ?_; intro w7 hb7 hg7))
  refine bodyPost_ret (results_row_tmp rfl _ _ w.heap.size 34 F (0, 0) _ rfl hb7 Tryz.underlying34 rfl (by rw [HG.out.1]; kernel_rfl)) rfl ⟨?_, A, c', by rw [HG.out.2.2.2]; rfl, ?_⟩
  · exact H1.out.2.1.grown hg7 H1.out.2.1.size fun k hk => by injection hk with hk; omega
  · have hlt := H0.out.1.lt
    have ho := Own.grown_other H1.out.2.2 hg7 (by show w.heap.size < w0.heap.size; exact hlt)
    exact own_lowerD ho (Nat.le_of_lt hlt)
set_option maxRecDepth 100000 in
set_option maxHeartbeats 4000000 in
theorem parse_lit_bad (g o g2 o2 n c n2 c2 : Nat) (s : ByteArray) (a : Nat) (w : World) (hs : s.size ≤ 1000000) (ha : a ≤ 1000000) (hn : 1 ≤ n ∧ 1 ≤ n2) (hp : PartAt w g o g2 o2 0 s a) (hE : ltrE (lst s) 0 32 ≠ 0) :
    Calls Tryz.prog 61 #[.string ⟨#[108, 105, 116]⟩, .slice (some ⟨g, o, none⟩) n c, .slice (some ⟨g2, o2, none⟩) n2 c2] w fun e w' => Below w.heap.size w w' ∧
      e = .returned (.tuple #[.agg (CP.cells ⟨3, false, RV.zero, RV.zero, []⟩ (.slice none 0 0)), faultV (ltrE (lst s) 0 32 : Nat) ((a + ltrO (lst s) : Nat) : Int)]) := by
  have Q := hide (fun W => letters_any s a 0 32 W hs ha (by omega) (by omega))
  obtain ⟨c0, c1⟩ := hp
  rw [Nat.add_zero] at c0 c1
  have i0 : (0 : Int) < (n : Int) := by omega
  have i1 : (0 : Int) < (n2 : Int) := by omega
  have j0 : 0 < n := by omega
  have j1 : 0 < n2 := by omega
  obtain ⟨l, hl⟩ : ∃ l : List UInt8, l = [] := ⟨_, rfl⟩
  obtain ⟨m, hm⟩ : ∃ m : Nat, m = 0 := ⟨_, rfl⟩
  obtain ⟨er, her⟩ : ∃ m : Int, m = ((ltrE (lst s) 0 32 : Nat) : Int) := ⟨_, rfl⟩
  obtain ⟨pl, hpl⟩ : ∃ m : Int, m = ((a + ltrO (lst s) : Nat) : Int) := ⟨_, rfl⟩
  rw [← her, ← hpl] at Q ⊢
  have HE := hide hE
  rw [show ((0 : Nat) : Int) = 0 from rfl, show ((32 : Nat) : Int) = 32 from rfl] at Q
  obtain ⟨w0, hw0⟩ : ∃ w0, w0 = w.alloc (.cells Tryz.zeroCells34 34) := ⟨_, rfl⟩
  have H0 := hide (show Blk w0 w.heap.size 34 Tryz.zeroCells34 ∧ Below w.heap.size w w0 from ⟨by rw [hw0]; exact Blk.new w _ _, by rw [hw0]; exact (Below.refl _ w).alloc (Nat.le_refl _) _⟩)
  have HS : Hid (∀ W, Below w0.heap.size w0 W → W.cell? ⟨g, o, none⟩ = some (.string s) ∧ W.cell? ⟨g2, o2, none⟩ = some (.int .i64 (a : Int))) := fun W hW =>
    ⟨((H0.out.2.trans (hW.mono H0.out.2.size)).cell (World.block_lt_of_cell? _ _ c0)).trans c0, ((H0.out.2.trans (hW.mono H0.out.2.size)).cell (World.block_lt_of_cell? _ _ c1)).trans c1⟩
  obtain ⟨s0, s1⟩ := HS.out w0 (Below.refl _ _)
  have HW := hide hw0
  clear hE hs ha hn hl hm hw0 c0 c1 her hpl
  go_enter Tryz.func61, Tryz.ntmps61
  go_wp2_with fail
  rw [← HW.out]
  go_region_held3 (fun w' => w'.cell? ⟨g, o, none⟩ = some (.string s) ∧ w'.cell? ⟨g2, o2, none⟩ = some (.int .i64 (a : Int))) (first | go_keep | exact HS.out _ (by (repeat (first | with_reducible exact Below.refl _ _ | with_reducible refine Below.drew ?_ | with_reducible refine Below.al0 ?_ _ | with_reducible refine Below.step ?_ q1))))
    ((go_at_call 79; refine (Q.out _).mono ?_; rintro e w1 ⟨q1, -, h1⟩; obtain rfl := h1 HE.out))
  have hb1 : Below w0.heap.size w0 w1 := by (repeat (first | with_reducible exact Below.refl _ _ | with_reducible refine Below.drew ?_ | with_reducible refine Below.al0 ?_ _ | with_reducible refine Below.step ?_ q1))
  have H1 := hide (And.intro (H0.out.1.below' hb1) (And.intro (H0.out.2.trans (hb1.mono H0.out.2.size)) trivial))
  clear q1 h1 hb1
  obtain ⟨F, hF⟩ : ∃ F, F = CP.cells ⟨3, false, RV.zero, RV.zero, []⟩ (.slice none 0 0) := ⟨_, rfl⟩
  have HG := hide (show F.size = 107 ∧ F.all (·.oneCell') = true ∧ (∀ W, (Instr.build 34 #[(0, .int .u8 3), (4, .slice none 0 0)]).run Tryz.prog W = .ok (.agg F) W) ∧ F = CP.cells ⟨3, false, RV.zero, RV.zero, []⟩ (.slice none 0 0) from ⟨by rw [hF]; exact CP.cells_size ⟨RV.zero_wf, RV.zero_wf, by show (3 : Nat) < 256; omega⟩ _, by rw [hF]; exact CP.cells_one _ _ _ _, fun W => by rw [hF]; exact build_cap3 none 0 0 W, hF⟩)
  clear hF
  go_wp2_with first
    | ((with_reducible change wpList _ _ _ (⟨some 31, _, _, _, _, _⟩ :: _) _ _); refine wpList_yields (by kernel_rfl) (.agg F) (ex_build 34 _ rfl #[(0, .int .u8 3), (4, .slice none 0 0)] (by kernel_rfl) _ (HG.out.2.2.1 _)) ?_)
    | ((with_reducible change wpList _ _ _ (⟨none, .store _ (.tmp 6) _, _, _, _, _⟩ :: _) _ _); go_loud (refine wpList_store_row (o := ⟨none, .store _ (.tmp 6) _, _, _, _, _⟩) H1.out.1 F (by rw [HG.out.1]; kernel_rfl) HG.out.2.1 rfl 34 _ _ rfl (by rw [HG.out.1]; kernel_rfl) rfl rfl ?_; intro w7 hb7 hg7))
  refine bodyPost_ret (results_row_tmp rfl _ _ w.heap.size 34 F (0, 0) _ rfl hb7 Tryz.underlying34 rfl (by rw [HG.out.1]; kernel_rfl)) rfl ⟨?_, by rw [HG.out.2.2.2]; rfl⟩
  exact H1.out.2.1.grown hg7 H1.out.2.1.size fun k hk => by injection hk with hk; omega
end Go.Proofs.YtcpceaflnnkhnaaGreatDoor
