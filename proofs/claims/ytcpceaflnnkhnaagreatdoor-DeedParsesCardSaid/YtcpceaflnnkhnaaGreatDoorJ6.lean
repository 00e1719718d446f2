/- Joined texts: PsC. -/
import Derived.Test.YtcpceaflnnkhnaaGreatDoorJ5
import Derived.Test.YtcpceaflnnkhnaaGreatDoorJ1
import Derived.StillTailTactics

/- The contract of the program's parse, of a capability to read or to verify. Printed by wip/psc.py. -/
namespace Go.Proofs.YtcpceaflnnkhnaaGreatDoor
open Go.RowKit
attribute [local go_sem ↓] Go.wp_at_zero Go.wp_at_succ

theorem wpStill_yields {P : Program} {ops : Array Oper} {rest : List Oper} {o : Oper} {a : Act} {w : World} {Q : Act → Prop} (hw : Region.wanted o (yielded ops a.tmps) = true) (v : Value) (h : (execOp a.eval o).run P w = .ok (.value v) w) (hk : wpStill P ops w Q rest (a.put o.dst v)) : wpStill P ops w Q (o :: rest) a :=
  wpStill_step fun K hK => by
    rw [if_pos hw]
    unfold Oper.still
    rw [h, Oper.stillUpon_value]
    exact hK _ hk
/-- Six texts, and where they begin. -/
structure Six (w : World) (g o g2 o2 : Nat) (x : Nat → ByteArray) (a : Nat → Nat) : Prop where
  p : ∀ i, i < 6 → PartAt w g o g2 o2 i (x i) (a i)
theorem Six.below {w w' : World} {g o g2 o2 : Nat} {x : Nat → ByteArray} {a : Nat → Nat} (h : Six w g o g2 o2 x a) (hb : Below w.heap.size w w') : Six w' g o g2 o2 x a :=
  ⟨fun i hi => ⟨(hb.cell (World.block_lt_of_cell? _ _ (h.p i hi).1)).trans (h.p i hi).1, (hb.cell (World.block_lt_of_cell? _ _ (h.p i hi).2)).trans (h.p i hi).2⟩⟩
set_option maxRecDepth 100000 in
set_option maxHeartbeats 8000000 in
theorem parse_read_bad0 (g o g2 o2 n c n2 c2 : Nat) (x : Nat → ByteArray) (a : Nat → Nat) (w : World) (hs : ∀ i, i < 6 → (x i).size ≤ 1000000 ∧ a i ≤ 1000000) (hn : 6 ≤ n ∧ 6 ≤ n2) (hp : Six w g o g2 o2 x a) (hE : ltrE (lst (x 0)) 16 16 ≠ 0) :
    Calls Tryz.prog 61 #[.string ⟨#[114, 101, 97, 100]⟩, .slice (some ⟨g, o, none⟩) n c, .slice (some ⟨g2, o2, none⟩) n2 c2] w fun e w' => Below w.heap.size w w' ∧
      e = .returned (.tuple #[.agg (CP.cells CP.zero (.slice none 0 0)), faultV (ltrE (lst (x 0)) 16 16 : Nat) ((a 0 + ltrO (lst (x 0)) : Nat) : Int)]) := by
  have Q := hide (fun W => letters_any (x 0) (a 0) 16 16 W (hs 0 (by omega)).1 (hs 0 (by omega)).2 (by omega) (by omega))
  obtain ⟨er, her⟩ : ∃ m : Int, m = ((ltrE (lst (x 0)) 16 16 : Nat) : Int) := ⟨_, rfl⟩
  obtain ⟨pl, hpl⟩ : ∃ m : Int, m = ((a 0 + ltrO (lst (x 0)) : Nat) : Int) := ⟨_, rfl⟩
  have HE := hide hE
  rw [← her, ← hpl] at Q ⊢
  rw [show ((16 : Nat) : Int) = 16 from rfl] at Q
  obtain ⟨F, hF⟩ : ∃ F, F = CP.cells CP.zero (.slice none 0 0) := ⟨_, rfl⟩
  have HG := hide (show F.size = 107 ∧ F.all (·.oneCell') = true ∧ (∀ W, (Instr.build 34 #[]).run Tryz.prog W = .ok (.agg F) W) from ⟨by rw [hF]; exact CP.cells_size CP.zero_wf _, by rw [hF]; exact CP.zero_one, fun W => by rw [hF]; exact build_cap0 W⟩)
  rw [← hF]
  unfold faultV at Q ⊢
  have i0 : (0 : Int) < (n : Int) := by omega
  have i1 : (0 : Int) < (n2 : Int) := by omega
  have i2 : (1 : Int) < (n : Int) := by omega
  have i3 : (1 : Int) < (n2 : Int) := by omega
  have j0 : 0 < n := by omega
  have j1 : 0 < n2 := by omega
  have j2 : 1 < n := by omega
  have j3 : 1 < n2 := by omega
  obtain ⟨w0, hw0⟩ : ∃ w0, w0 = w.alloc (.cells Tryz.zeroCells34 34) := ⟨_, rfl⟩
  have H0 := hide (show Blk w0 w.heap.size 34 Tryz.zeroCells34 ∧ Below w.heap.size w w0 from ⟨by rw [hw0]; exact Blk.new w _ _, by rw [hw0]; exact (Below.refl _ w).alloc (Nat.le_refl _) _⟩)
  have HS : Hid (∀ W, Below w0.heap.size w0 W → W.cell? ⟨g, o, none⟩ = some (.string (x 0)) ∧ W.cell? ⟨g2, o2, none⟩ = some (.int .i64 (a 0 : Int))) := fun W hW => by
    have hx := hp.below (H0.out.2.trans (hW.mono H0.out.2.size))
    exact ⟨(hx.p 0 (by omega)).1, (hx.p 0 (by omega)).2⟩
  have HW := hide hw0
  obtain ⟨s0, s1⟩ := HS.out w0 (Below.refl _ _)
  clear hE hs hn hp hw0 her hpl hF
  go_enter Tryz.func61, Tryz.ntmps61
  go_wp2_with fail
  rw [← HW.out]
  go_region_held3 (fun w' => w'.cell? ⟨g, o, none⟩ = some (.string (x 0)) ∧ w'.cell? ⟨g2, o2, none⟩ = some (.int .i64 (a 0 : Int))) (first | go_keep | exact HS.out _ (by (repeat (first | with_reducible exact Below.refl _ _ | with_reducible refine Below.drew ?_ | with_reducible refine Below.al0 ?_ _ | with_reducible refine Below.step ?_ q1))))
    ((go_at_call 79; refine (Q.out _).mono ?_; rintro e w1 ⟨q1, -, h1⟩; obtain rfl := h1 HE.out))
  have hb1 : Below w0.heap.size w0 w1 := by (repeat (first | with_reducible exact Below.refl _ _ | with_reducible refine Below.drew ?_ | with_reducible refine Below.al0 ?_ _ | with_reducible refine Below.step ?_ q1))
  have H1 := hide (And.intro (H0.out.1.below' hb1) (H0.out.2.trans (hb1.mono H0.out.2.size)))
  clear q1 h1 hb1
  go_wp2_with first
    | ((with_reducible change wpList _ _ _ (⟨some 45, _, _, _, _, _⟩ :: _) _ _); refine wpList_yields (by kernel_rfl) (.agg F) (ex_build 34 _ rfl #[] (by kernel_rfl) _ (HG.out.2.2 _)) ?_)
    | ((with_reducible change wpList _ _ _ (⟨none, .store _ (.tmp 6) _, _, _, _, _⟩ :: _) _ _); go_loud (refine wpList_store_row (o := ⟨none, .store _ (.tmp 6) _, _, _, _, _⟩) H1.out.1 F (by rw [HG.out.1]; kernel_rfl) HG.out.2.1 rfl 34 _ _ rfl (by rw [HG.out.1]; kernel_rfl) rfl rfl ?_; intro w7 hb7 hg7))
  refine bodyPost_ret (results_row_tmp rfl _ _ w.heap.size 34 F (0, 0) _ rfl hb7 Tryz.underlying34 rfl (by rw [HG.out.1]; kernel_rfl)) rfl ⟨?_, rfl⟩
  exact H1.out.2.grown hg7 H1.out.2.size fun k hk => by injection hk with hk; omega
set_option maxRecDepth 100000 in
set_option maxHeartbeats 8000000 in
theorem parse_read_bad1 (g o g2 o2 n c n2 c2 : Nat) (x : Nat → ByteArray) (a : Nat → Nat) (w : World) (hs : ∀ i, i < 6 → (x i).size ≤ 1000000 ∧ a i ≤ 1000000) (hn : 6 ≤ n ∧ 6 ≤ n2) (hp : Six w g o g2 o2 x a) (hE0 : ltrE (lst (x 0)) 16 16 = 0) (hE : ltrE (lst (x 1)) 32 32 ≠ 0) :
    Calls Tryz.prog 61 #[.string ⟨#[114, 101, 97, 100]⟩, .slice (some ⟨g, o, none⟩) n c, .slice (some ⟨g2, o2, none⟩) n2 c2] w fun e w' => Below w.heap.size w w' ∧
      e = .returned (.tuple #[.agg (CP.cells CP.zero (.slice none 0 0)), faultV (ltrE (lst (x 1)) 32 32 : Nat) ((a 1 + ltrO (lst (x 1)) : Nat) : Int)]) := by
  have Q0 := hide (fun W => letters_any (x 0) (a 0) 16 16 W (hs 0 (by omega)).1 (hs 0 (by omega)).2 (by omega) (by omega))
  have Q := hide (fun W => letters_any (x 1) (a 1) 32 32 W (hs 1 (by omega)).1 (hs 1 (by omega)).2 (by omega) (by omega))
  obtain ⟨er, her⟩ : ∃ m : Int, m = ((ltrE (lst (x 1)) 32 32 : Nat) : Int) := ⟨_, rfl⟩
  obtain ⟨pl, hpl⟩ : ∃ m : Int, m = ((a 1 + ltrO (lst (x 1)) : Nat) : Int) := ⟨_, rfl⟩
  have HE := hide (And.intro hE0 hE)
  rw [← her, ← hpl] at Q ⊢
  rw [show ((32 : Nat) : Int) = 32 from rfl] at Q
  rw [show ((16 : Nat) : Int) = 16 from rfl] at Q0
  obtain ⟨F, hF⟩ : ∃ F, F = CP.cells CP.zero (.slice none 0 0) := ⟨_, rfl⟩
  have HG := hide (show F.size = 107 ∧ F.all (·.oneCell') = true ∧ (∀ W, (Instr.build 34 #[]).run Tryz.prog W = .ok (.agg F) W) from ⟨by rw [hF]; exact CP.cells_size CP.zero_wf _, by rw [hF]; exact CP.zero_one, fun W => by rw [hF]; exact build_cap0 W⟩)
  rw [← hF]
  unfold faultV at Q Q0 ⊢
  have i0 : (0 : Int) < (n : Int) := by omega
  have i1 : (0 : Int) < (n2 : Int) := by omega
  have i2 : (1 : Int) < (n : Int) := by omega
  have i3 : (1 : Int) < (n2 : Int) := by omega
  have j0 : 0 < n := by omega
  have j1 : 0 < n2 := by omega
  have j2 : 1 < n := by omega
  have j3 : 1 < n2 := by omega
  obtain ⟨w0, hw0⟩ : ∃ w0, w0 = w.alloc (.cells Tryz.zeroCells34 34) := ⟨_, rfl⟩
  have H0 := hide (show Blk w0 w.heap.size 34 Tryz.zeroCells34 ∧ Below w.heap.size w w0 from ⟨by rw [hw0]; exact Blk.new w _ _, by rw [hw0]; exact (Below.refl _ w).alloc (Nat.le_refl _) _⟩)
  have HS : Hid (∀ W, Below w0.heap.size w0 W → W.cell? ⟨g, o, none⟩ = some (.string (x 0)) ∧ W.cell? ⟨g2, o2, none⟩ = some (.int .i64 (a 0 : Int)) ∧ W.cell? ⟨g, o + 1, none⟩ = some (.string (x 1)) ∧ W.cell? ⟨g2, o2 + 1, none⟩ = some (.int .i64 (a 1 : Int))) := fun W hW => by
    have hx := hp.below (H0.out.2.trans (hW.mono H0.out.2.size))
    exact ⟨(hx.p 0 (by omega)).1, (hx.p 0 (by omega)).2, (hx.p 1 (by omega)).1, (hx.p 1 (by omega)).2⟩
  have HW := hide hw0
  obtain ⟨s0, s1, s2, s3⟩ := HS.out w0 (Below.refl _ _)
  clear hE hE0 hs hn hp hw0 her hpl hF
  go_enter Tryz.func61, Tryz.ntmps61
  go_wp2_with fail
  rw [← HW.out]
  go_region_held3 (fun w' => w'.cell? ⟨g, o, none⟩ = some (.string (x 0)) ∧ w'.cell? ⟨g2, o2, none⟩ = some (.int .i64 (a 0 : Int)) ∧ w'.cell? ⟨g, o + 1, none⟩ = some (.string (x 1)) ∧ w'.cell? ⟨g2, o2 + 1, none⟩ = some (.int .i64 (a 1 : Int))) (first | go_keep | exact HS.out _ (by (repeat (first | with_reducible exact Below.refl _ _ | with_reducible refine Below.drew ?_ | with_reducible refine Below.al0 ?_ _ | with_reducible refine Below.step ?_ q1))))
    ((go_at_call 79; refine (Q0.out _).mono ?_; rintro e w1 ⟨q1, h1, -⟩; obtain ⟨A1, cc1, rfl, o1⟩ := h1 HE.out.1))
  have hb1 : Below w0.heap.size w0 w1 := by (repeat (first | with_reducible exact Below.refl _ _ | with_reducible refine Below.drew ?_ | with_reducible refine Below.al0 ?_ _ | with_reducible refine Below.step ?_ q1))
  have H1 := hide hb1
  obtain ⟨t0, t1, t2, t3⟩ := HS.out w1 hb1
  clear q1 h1 hb1
  go_wp2_with fail
  go_region_held3 (fun w' => w'.cell? ⟨g, o, none⟩ = some (.string (x 0)) ∧ w'.cell? ⟨g2, o2, none⟩ = some (.int .i64 (a 0 : Int)) ∧ w'.cell? ⟨g, o + 1, none⟩ = some (.string (x 1)) ∧ w'.cell? ⟨g2, o2 + 1, none⟩ = some (.int .i64 (a 1 : Int))) (first | go_keep | exact HS.out _ (H1.out.trans (Below.mono (by (repeat (first | with_reducible exact Below.refl _ _ | with_reducible refine Below.drew ?_ | with_reducible refine Below.al0 ?_ _ | with_reducible refine Below.step ?_ q2))) H1.out.size)))
    ((go_at_call 79; refine (Q.out _).mono ?_; rintro e w2 ⟨q2, -, h2⟩; obtain rfl := h2 HE.out.2))
  have hb2 : Below w0.heap.size w0 w2 := H1.out.trans (Below.mono (by (repeat (first | with_reducible exact Below.refl _ _ | with_reducible refine Below.drew ?_ | with_reducible refine Below.al0 ?_ _ | with_reducible refine Below.step ?_ q2))) H1.out.size)
  have H2 := hide (And.intro (H0.out.1.below' hb2) (H0.out.2.trans (hb2.mono H0.out.2.size)))
  clear q2 h2 hb2
  go_wp2_with first
    | ((with_reducible change wpList _ _ _ (⟨some 59, _, _, _, _, _⟩ :: _) _ _); refine wpList_yields (by kernel_rfl) (.agg F) (ex_build 34 _ rfl #[] (by kernel_rfl) _ (HG.out.2.2 _)) ?_)
    | ((with_reducible change wpList _ _ _ (⟨none, .store _ (.tmp 6) _, _, _, _, _⟩ :: _) _ _); go_loud (refine wpList_store_row (o := ⟨none, .store _ (.tmp 6) _, _, _, _, _⟩) H2.out.1 F (by rw [HG.out.1]; kernel_rfl) HG.out.2.1 rfl 34 _ _ rfl (by rw [HG.out.1]; kernel_rfl) rfl rfl ?_; intro w7 hb7 hg7))
  refine bodyPost_ret (results_row_tmp rfl _ _ w.heap.size 34 F (0, 0) _ rfl hb7 Tryz.underlying34 rfl (by rw [HG.out.1]; kernel_rfl)) rfl ⟨?_, rfl⟩
  exact H2.out.2.grown hg7 H2.out.2.size fun k hk => by injection hk with hk; omega
set_option maxRecDepth 100000 in
set_option maxHeartbeats 8000000 in
theorem parse_verify_bad0 (g o g2 o2 n c n2 c2 : Nat) (x : Nat → ByteArray) (a : Nat → Nat) (w : World) (hs : ∀ i, i < 6 → (x i).size ≤ 1000000 ∧ a i ≤ 1000000) (hn : 6 ≤ n ∧ 6 ≤ n2) (hp : Six w g o g2 o2 x a) (hE : ltrE (lst (x 0)) 16 16 ≠ 0) :
    Calls Tryz.prog 61 #[.string ⟨#[118, 101, 114, 105, 102, 121]⟩, .slice (some ⟨g, o, none⟩) n c, .slice (some ⟨g2, o2, none⟩) n2 c2] w fun e w' => Below w.heap.size w w' ∧
      e = .returned (.tuple #[.agg (CP.cells CP.zero (.slice none 0 0)), faultV (ltrE (lst (x 0)) 16 16 : Nat) ((a 0 + ltrO (lst (x 0)) : Nat) : Int)]) := by
  have Q := hide (fun W => letters_any (x 0) (a 0) 16 16 W (hs 0 (by omega)).1 (hs 0 (by omega)).2 (by omega) (by omega))
  obtain ⟨er, her⟩ : ∃ m : Int, m = ((ltrE (lst (x 0)) 16 16 : Nat) : Int) := ⟨_, rfl⟩
  obtain ⟨pl, hpl⟩ : ∃ m : Int, m = ((a 0 + ltrO (lst (x 0)) : Nat) : Int) := ⟨_, rfl⟩
  have HE := hide hE
  rw [← her, ← hpl] at Q ⊢
  rw [show ((16 : Nat) : Int) = 16 from rfl] at Q
  obtain ⟨F, hF⟩ : ∃ F, F = CP.cells CP.zero (.slice none 0 0) := ⟨_, rfl⟩
  have HG := hide (show F.size = 107 ∧ F.all (·.oneCell') = true ∧ (∀ W, (Instr.build 34 #[]).run Tryz.prog W = .ok (.agg F) W) from ⟨by rw [hF]; exact CP.cells_size CP.zero_wf _, by rw [hF]; exact CP.zero_one, fun W => by rw [hF]; exact build_cap0 W⟩)
  rw [← hF]
  unfold faultV at Q ⊢
  have i0 : (0 : Int) < (n : Int) := by omega
  have i1 : (0 : Int) < (n2 : Int) := by omega
  have i2 : (1 : Int) < (n : Int) := by omega
  have i3 : (1 : Int) < (n2 : Int) := by omega
  have j0 : 0 < n := by omega
  have j1 : 0 < n2 := by omega
  have j2 : 1 < n := by omega
  have j3 : 1 < n2 := by omega
  obtain ⟨w0, hw0⟩ : ∃ w0, w0 = w.alloc (.cells Tryz.zeroCells34 34) := ⟨_, rfl⟩
  have H0 := hide (show Blk w0 w.heap.size 34 Tryz.zeroCells34 ∧ Below w.heap.size w w0 from ⟨by rw [hw0]; exact Blk.new w _ _, by rw [hw0]; exact (Below.refl _ w).alloc (Nat.le_refl _) _⟩)
  have HS : Hid (∀ W, Below w0.heap.size w0 W → W.cell? ⟨g, o, none⟩ = some (.string (x 0)) ∧ W.cell? ⟨g2, o2, none⟩ = some (.int .i64 (a 0 : Int))) := fun W hW => by
    have hx := hp.below (H0.out.2.trans (hW.mono H0.out.2.size))
    exact ⟨(hx.p 0 (by omega)).1, (hx.p 0 (by omega)).2⟩
  have HW := hide hw0
  obtain ⟨s0, s1⟩ := HS.out w0 (Below.refl _ _)
  clear hE hs hn hp hw0 her hpl hF
  go_enter Tryz.func61, Tryz.ntmps61
  go_wp2_with fail
  rw [← HW.out]
  go_region_held3 (fun w' => w'.cell? ⟨g, o, none⟩ = some (.string (x 0)) ∧ w'.cell? ⟨g2, o2, none⟩ = some (.int .i64 (a 0 : Int))) (first | go_keep | exact HS.out _ (by (repeat (first | with_reducible exact Below.refl _ _ | with_reducible refine Below.drew ?_ | with_reducible refine Below.al0 ?_ _ | with_reducible refine Below.step ?_ q1))))
    ((go_at_call 79; refine (Q.out _).mono ?_; rintro e w1 ⟨q1, -, h1⟩; obtain rfl := h1 HE.out))
  have hb1 : Below w0.heap.size w0 w1 := by (repeat (first | with_reducible exact Below.refl _ _ | with_reducible refine Below.drew ?_ | with_reducible refine Below.al0 ?_ _ | with_reducible refine Below.step ?_ q1))
  have H1 := hide (And.intro (H0.out.1.below' hb1) (H0.out.2.trans (hb1.mono H0.out.2.size)))
  clear q1 h1 hb1
  go_wp2_with first
    | ((with_reducible change wpList _ _ _ (⟨some 45, _, _, _, _, _⟩ :: _) _ _); refine wpList_yields (by kernel_rfl) (.agg F) (ex_build 34 _ rfl #[] (by kernel_rfl) _ (HG.out.2.2 _)) ?_)
    | ((with_reducible change wpList _ _ _ (⟨none, .store _ (.tmp 6) _, _, _, _, _⟩ :: _) _ _); go_loud (refine wpList_store_row (o := ⟨none, .store _ (.tmp 6) _, _, _, _, _⟩) H1.out.1 F (by rw [HG.out.1]; kernel_rfl) HG.out.2.1 rfl 34 _ _ rfl (by rw [HG.out.1]; kernel_rfl) rfl rfl ?_; intro w7 hb7 hg7))
  refine bodyPost_ret (results_row_tmp rfl _ _ w.heap.size 34 F (0, 0) _ rfl hb7 Tryz.underlying34 rfl (by rw [HG.out.1]; kernel_rfl)) rfl ⟨?_, rfl⟩
  exact H1.out.2.grown hg7 H1.out.2.size fun k hk => by injection hk with hk; omega
set_option maxRecDepth 100000 in
set_option maxHeartbeats 8000000 in
theorem parse_verify_bad1 (g o g2 o2 n c n2 c2 : Nat) (x : Nat → ByteArray) (a : Nat → Nat) (w : World) (hs : ∀ i, i < 6 → (x i).size ≤ 1000000 ∧ a i ≤ 1000000) (hn : 6 ≤ n ∧ 6 ≤ n2) (hp : Six w g o g2 o2 x a) (hE0 : ltrE (lst (x 0)) 16 16 = 0) (hE : ltrE (lst (x 1)) 32 32 ≠ 0) :
    Calls Tryz.prog 61 #[.string ⟨#[118, 101, 114, 105, 102, 121]⟩, .slice (some ⟨g, o, none⟩) n c, .slice (some ⟨g2, o2, none⟩) n2 c2] w fun e w' => Below w.heap.size w w' ∧
      e = .returned (.tuple #[.agg (CP.cells CP.zero (.slice none 0 0)), faultV (ltrE (lst (x 1)) 32 32 : Nat) ((a 1 + ltrO (lst (x 1)) : Nat) : Int)]) := by
  have Q0 := hide (fun W => letters_any (x 0) (a 0) 16 16 W (hs 0 (by omega)).1 (hs 0 (by omega)).2 (by omega) (by omega))
  have Q := hide (fun W => letters_any (x 1) (a 1) 32 32 W (hs 1 (by omega)).1 (hs 1 (by omega)).2 (by omega) (by omega))
  obtain ⟨er, her⟩ : ∃ m : Int, m = ((ltrE (lst (x 1)) 32 32 : Nat) : Int) := ⟨_, rfl⟩
  obtain ⟨pl, hpl⟩ : ∃ m : Int, m = ((a 1 + ltrO (lst (x 1)) : Nat) : Int) := ⟨_, rfl⟩
  have HE := hide (And.intro hE0 hE)
  rw [← her, ← hpl] at Q ⊢
  rw [show ((32 : Nat) : Int) = 32 from rfl] at Q
  rw [show ((16 : Nat) : Int) = 16 from rfl] at Q0
  obtain ⟨F, hF⟩ : ∃ F, F = CP.cells CP.zero (.slice none 0 0) := ⟨_, rfl⟩
  have HG := hide (show F.size = 107 ∧ F.all (·.oneCell') = true ∧ (∀ W, (Instr.build 34 #[]).run Tryz.prog W = .ok (.agg F) W) from ⟨by rw [hF]; exact CP.cells_size CP.zero_wf _, by rw [hF]; exact CP.zero_one, fun W => by rw [hF]; exact build_cap0 W⟩)
  rw [← hF]
  unfold faultV at Q Q0 ⊢
  have i0 : (0 : Int) < (n : Int) := by omega
  have i1 : (0 : Int) < (n2 : Int) := by omega
  have i2 : (1 : Int) < (n : Int) := by omega
  have i3 : (1 : Int) < (n2 : Int) := by omega
  have j0 : 0 < n := by omega
  have j1 : 0 < n2 := by omega
  have j2 : 1 < n := by omega
  have j3 : 1 < n2 := by omega
  obtain ⟨w0, hw0⟩ : ∃ w0, w0 = w.alloc (.cells Tryz.zeroCells34 34) := ⟨_, rfl⟩
  have H0 := hide (show Blk w0 w.heap.size 34 Tryz.zeroCells34 ∧ Below w.heap.size w w0 from ⟨by rw [hw0]; exact Blk.new w _ _, by rw [hw0]; exact (Below.refl _ w).alloc (Nat.le_refl _) _⟩)
  have HS : Hid (∀ W, Below w0.heap.size w0 W → W.cell? ⟨g, o, none⟩ = some (.string (x 0)) ∧ W.cell? ⟨g2, o2, none⟩ = some (.int .i64 (a 0 : Int)) ∧ W.cell? ⟨g, o + 1, none⟩ = some (.string (x 1)) ∧ W.cell? ⟨g2, o2 + 1, none⟩ = some (.int .i64 (a 1 : Int))) := fun W hW => by
    have hx := hp.below (H0.out.2.trans (hW.mono H0.out.2.size))
    exact ⟨(hx.p 0 (by omega)).1, (hx.p 0 (by omega)).2, (hx.p 1 (by omega)).1, (hx.p 1 (by omega)).2⟩
  have HW := hide hw0
  obtain ⟨s0, s1, s2, s3⟩ := HS.out w0 (Below.refl _ _)
  clear hE hE0 hs hn hp hw0 her hpl hF
  go_enter Tryz.func61, Tryz.ntmps61
  go_wp2_with fail
  rw [← HW.out]
  go_region_held3 (fun w' => w'.cell? ⟨g, o, none⟩ = some (.string (x 0)) ∧ w'.cell? ⟨g2, o2, none⟩ = some (.int .i64 (a 0 : Int)) ∧ w'.cell? ⟨g, o + 1, none⟩ = some (.string (x 1)) ∧ w'.cell? ⟨g2, o2 + 1, none⟩ = some (.int .i64 (a 1 : Int))) (first | go_keep | exact HS.out _ (by (repeat (first | with_reducible exact Below.refl _ _ | with_reducible refine Below.drew ?_ | with_reducible refine Below.al0 ?_ _ | with_reducible refine Below.step ?_ q1))))
    ((go_at_call 79; refine (Q0.out _).mono ?_; rintro e w1 ⟨q1, h1, -⟩; obtain ⟨A1, cc1, rfl, o1⟩ := h1 HE.out.1))
  have hb1 : Below w0.heap.size w0 w1 := by (repeat (first | with_reducible exact Below.refl _ _ | with_reducible refine Below.drew ?_ | with_reducible refine Below.al0 ?_ _ | with_reducible refine Below.step ?_ q1))
  have H1 := hide hb1
  obtain ⟨t0, t1, t2, t3⟩ := HS.out w1 hb1
  clear q1 h1 hb1
  go_wp2_with fail
  go_region_held3 (fun w' => w'.cell? ⟨g, o, none⟩ = some (.string (x 0)) ∧ w'.cell? ⟨g2, o2, none⟩ = some (.int .i64 (a 0 : Int)) ∧ w'.cell? ⟨g, o + 1, none⟩ = some (.string (x 1)) ∧ w'.cell? ⟨g2, o2 + 1, none⟩ = some (.int .i64 (a 1 : Int))) (first | go_keep | exact HS.out _ (H1.out.trans (Below.mono (by (repeat (first | with_reducible exact Below.refl _ _ | with_reducible refine Below.drew ?_ | with_reducible refine Below.al0 ?_ _ | with_reducible refine Below.step ?_ q2))) H1.out.size)))
    ((go_at_call 79; refine (Q.out _).mono ?_; rintro e w2 ⟨q2, -, h2⟩; obtain rfl := h2 HE.out.2))
  have hb2 : Below w0.heap.size w0 w2 := H1.out.trans (Below.mono (by (repeat (first | with_reducible exact Below.refl _ _ | with_reducible refine Below.drew ?_ | with_reducible refine Below.al0 ?_ _ | with_reducible refine Below.step ?_ q2))) H1.out.size)
  have H2 := hide (And.intro (H0.out.1.below' hb2) (H0.out.2.trans (hb2.mono H0.out.2.size)))
  clear q2 h2 hb2
  go_wp2_with first
    | ((with_reducible change wpList _ _ _ (⟨some 59, _, _, _, _, _⟩ :: _) _ _); refine wpList_yields (by kernel_rfl) (.agg F) (ex_build 34 _ rfl #[] (by kernel_rfl) _ (HG.out.2.2 _)) ?_)
    | ((with_reducible change wpList _ _ _ (⟨none, .store _ (.tmp 6) _, _, _, _, _⟩ :: _) _ _); go_loud (refine wpList_store_row (o := ⟨none, .store _ (.tmp 6) _, _, _, _, _⟩) H2.out.1 F (by rw [HG.out.1]; kernel_rfl) HG.out.2.1 rfl 34 _ _ rfl (by rw [HG.out.1]; kernel_rfl) rfl rfl ?_; intro w7 hb7 hg7))
  refine bodyPost_ret (results_row_tmp rfl _ _ w.heap.size 34 F (0, 0) _ rfl hb7 Tryz.underlying34 rfl (by rw [HG.out.1]; kernel_rfl)) rfl ⟨?_, rfl⟩
  exact H2.out.2.grown hg7 H2.out.2.size fun k hk => by injection hk with hk; omega
end Go.Proofs.YtcpceaflnnkhnaaGreatDoor
