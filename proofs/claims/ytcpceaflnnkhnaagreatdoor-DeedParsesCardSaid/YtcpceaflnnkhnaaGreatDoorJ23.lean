/- Joined texts: DocA. -/
import Derived.Test.YtcpceaflnnkhnaaGreatDoorJ10
import Derived.Test.YtcpceaflnnkhnaaGreatDoorJ22

/- The document's Check of a capability. (Printed by wip/doca.py.) -/
namespace Go.Proofs.YtcpceaflnnkhnaaGreatDoor
open Go.RowKit

set_option maxRecDepth 100000 in
set_option maxHeartbeats 1000000 in
theorem rno_Read (r : RV) (w : World) (hf : r.wf) : Calls Tryz.prog 50 #[.agg r.cells.toArray] w fun e w' => e = .returned (.bool (decide (r = RV.zero))) ∧ Below w.heap.size w w' := by
  obtain ⟨C, hC⟩ : ∃ C, C = r.cells.toArray := ⟨_, rfl⟩
  obtain ⟨Z, hZ⟩ : ∃ Z, Z = RV.zero.cells.toArray := ⟨_, rfl⟩
  obtain ⟨d, hd⟩ : ∃ d, d = decide (r = RV.zero) := ⟨_, rfl⟩
  have HE := hide (show ∀ W, (binOp .eql 28 (.agg C) (.agg Z)).run Tryz.prog W = .ok (.bool d) W from fun W => by rw [hC, hZ, hd]; exact read_eql _ _ hf RV.zero_wf W)
  have HZ := hide (show ∀ W, (Instr.build 28 #[]).run Tryz.prog W = .ok (.agg Z) W from fun W => by rw [hZ]; exact build_read0 W)
  have HS := hide (show C.size = 52 from by rw [hC]; simp [RV.cells_length hf])
  rw [← hC, ← hd]
  clear hC hZ hd hf
  have HB := hide (And.intro (Blk.new w 28 C) ((Below.refl w.heap.size w).alloc (Nat.le_refl _) (.cells C 28)))
  go_enter Tryz.func50, Tryz.ntmps50
  go_wp2_with first
    | ((with_reducible change wpList _ _ _ (⟨some 3, _, _, _, _, _⟩ :: _) _ _); refine wpList_load_row (o := ⟨some 3, .load _ _, _, _, _, _⟩) rfl 28 _ rfl w.heap.size rfl 28 C (0, 0) _ HB.out.1 Tryz.underlying28 rfl (by rw [HS.out]; kernel_rfl) ?_)
    | ((with_reducible change wpList _ _ _ (⟨some 4, _, _, _, _, _⟩ :: _) _ _); refine wpList_yields (by kernel_rfl) (.agg Z) (ex_build 28 _ rfl #[] (by kernel_rfl) _ (HZ.out _)) ?_)
    | ((with_reducible change wpList _ _ _ (⟨some 5, _, _, _, _, _⟩ :: _) _ _); refine wpList_yields (by kernel_rfl) (.bool d) (ex_eql 28 _ _ rfl C Z (by kernel_rfl) (by kernel_rfl) (by kernel_rfl) _ (HE.out _)) ?_)
  go_ret
  exact ⟨rfl, HB.out.2⟩
set_option maxRecDepth 100000 in
set_option maxHeartbeats 1000000 in
theorem rno_Verify (r : RV) (w : World) (hf : r.wf) : Calls Tryz.prog 51 #[.agg r.cells.toArray] w fun e w' => e = .returned (.bool (decide (r = RV.zero))) ∧ Below w.heap.size w w' := by
  obtain ⟨C, hC⟩ : ∃ C, C = r.cells.toArray := ⟨_, rfl⟩
  obtain ⟨Z, hZ⟩ : ∃ Z, Z = RV.zero.cells.toArray := ⟨_, rfl⟩
  obtain ⟨d, hd⟩ : ∃ d, d = decide (r = RV.zero) := ⟨_, rfl⟩
  have HE := hide (show ∀ W, (binOp .eql 31 (.agg C) (.agg Z)).run Tryz.prog W = .ok (.bool d) W from fun W => by rw [hC, hZ, hd]; exact verify_eql _ _ hf RV.zero_wf W)
  have HZ := hide (show ∀ W, (Instr.build 31 #[]).run Tryz.prog W = .ok (.agg Z) W from fun W => by rw [hZ]; exact build_verify0 W)
  have HS := hide (show C.size = 52 from by rw [hC]; simp [RV.cells_length hf])
  rw [← hC, ← hd]
  clear hC hZ hd hf
  have HB := hide (And.intro (Blk.new w 31 C) ((Below.refl w.heap.size w).alloc (Nat.le_refl _) (.cells C 31)))
  go_enter Tryz.func51, Tryz.ntmps51
  go_wp2_with first
    | ((with_reducible change wpList _ _ _ (⟨some 3, _, _, _, _, _⟩ :: _) _ _); refine wpList_load_row (o := ⟨some 3, .load _ _, _, _, _, _⟩) rfl 31 _ rfl w.heap.size rfl 31 C (0, 0) _ HB.out.1 Tryz.underlying31 rfl (by rw [HS.out]; kernel_rfl) ?_)
    | ((with_reducible change wpList _ _ _ (⟨some 4, _, _, _, _, _⟩ :: _) _ _); refine wpList_yields (by kernel_rfl) (.agg Z) (ex_build 31 _ rfl #[] (by kernel_rfl) _ (HZ.out _)) ?_)
    | ((with_reducible change wpList _ _ _ (⟨some 5, _, _, _, _, _⟩ :: _) _ _); refine wpList_yields (by kernel_rfl) (.bool d) (ex_eql 31 _ _ rfl C Z (by kernel_rfl) (by kernel_rfl) (by kernel_rfl) _ (HE.out _)) ?_)
  go_ret
  exact ⟨rfl, HB.out.2⟩
/-- The document's Again, whatever it is asked. -/
theorem ragain_ex (k n seg size : Int) : ∃ x0 x1 x2 x3 x4 x5 x6 x7 : Int, ∀ w, Calls Tryz.prog 52 #[.int .i64 k, .int .i64 n, .int .i64 seg, .int .i64 size] w fun x w' => x = .returned (.tuple #[.agg #[.int .i64 x0, .int .i64 x1, .int .i64 x2, .int .i64 x3, .int .i64 x4, .int .i64 x5, .int .i64 x6, .int .i64 x7], .int .i64 (if agOK k n seg size then 0 else 92)]) ∧ Below w.heap.size w w' := by
  by_cases h : agOK k n seg size
  · rw [if_pos h]
    have hb := agOK_bounds h
    obtain ⟨K, rfl⟩ : ∃ K : Nat, k = (K : Int) := ⟨k.toNat, by omega⟩
    obtain ⟨N, rfl⟩ : ∃ K : Nat, n = (K : Int) := ⟨n.toNat, by omega⟩
    obtain ⟨S, rfl⟩ : ∃ K : Nat, seg = (K : Int) := ⟨seg.toNat, by omega⟩
    obtain ⟨Z, rfl⟩ : ∃ K : Nat, size = (K : Int) := ⟨size.toNat, by omega⟩
    exact ⟨_, _, _, _, _, _, _, _, fun w => (ragain_ok K N S Z w h).mono fun _ _ q => ⟨q.2, q.1⟩⟩
  · rw [if_neg h]
    exact ⟨_, _, _, _, _, _, _, _, fun w => (ragain_no k n seg size w h).mono fun _ _ q => ⟨q.2, q.1⟩⟩
theorem Capy.nums {w : World} {cs : Array Value} {c : CP} {v : Value} (h : Capy w cs c v) : (cs[50]? = some (.int .i64 c.rd.k) ∧ cs[51]? = some (.int .i64 c.rd.n) ∧ cs[52]? = some (.int .i64 c.rd.seg) ∧ cs[53]? = some (.int .i64 c.rd.size)) ∧ (cs[102]? = some (.int .i64 c.vf.k) ∧ cs[103]? = some (.int .i64 c.vf.n) ∧ cs[104]? = some (.int .i64 c.vf.seg) ∧ cs[105]? = some (.int .i64 c.vf.size)) :=
  ⟨⟨(h.rd 48 (by omega)).trans (cells_at c.rd h.wf.1 0), (h.rd 49 (by omega)).trans (cells_at c.rd h.wf.1 1), (h.rd 50 (by omega)).trans (cells_at c.rd h.wf.1 2), (h.rd 51 (by omega)).trans (cells_at c.rd h.wf.1 3)⟩,
   ⟨(h.vf 48 (by omega)).trans (cells_at c.vf h.wf.2.1 0), (h.vf 49 (by omega)).trans (cells_at c.vf h.wf.2.1 1), (h.vf 50 (by omega)).trans (cells_at c.vf h.wf.2.1 2), (h.vf 51 (by omega)).trans (cells_at c.vf h.wf.2.1 3)⟩⟩
set_option maxRecDepth 100000 in
set_option maxHeartbeats 8000000 in
theorem rchk_1 (cs : Array Value) (A : Option Addr) (n k : Nat) (z0 z1 z2 z3 : Int) (FVerify : Array Value) (dVerify : Bool) (a : Int) (w : World) (f0 : cs[0]? = some (.int .u8 1)) (f4 : cs[106]? = some (.slice A n k)) (hz : cs[50]? = some (.int .i64 z0) ∧ cs[51]? = some (.int .i64 z1) ∧ cs[52]? = some (.int .i64 z2) ∧ cs[53]? = some (.int .i64 z3)) (rVerify : ∀ W g, Blk W g 34 cs → W.rangeAt g 54 FVerify.toList) (sVerify : FVerify.size = 52) (qVerify : ∀ W, Calls Tryz.prog 51 #[.agg FVerify] W fun e w' => e = .returned (.bool dVerify) ∧ Below W.heap.size W w') (qA : ∃ x0 x1 x2 x3 x4 x5 x6 x7 : Int, ∀ W, Calls Tryz.prog 52 #[.int .i64 z0, .int .i64 z1, .int .i64 z2, .int .i64 z3] W fun e w' => e = .returned (.tuple #[.agg #[.int .i64 x0, .int .i64 x1, .int .i64 x2, .int .i64 x3, .int .i64 x4, .int .i64 x5, .int .i64 x6, .int .i64 x7], .int .i64 a]) ∧ Below W.heap.size W w') (ha : a = 0 ∨ a = 92) :
    Calls Tryz.prog 27 #[.agg cs] w fun e w' => e = .returned (.int .i64 (if dVerify = true ∧ n = 0 ∧ a = 0 then 0 else 5)) ∧ Below w.heap.size w w' := by
  obtain ⟨n0, n1, n2, n3⟩ := hz
  have H0 := hide (And.intro (Blk.new w 34 cs) ((Below.refl w.heap.size w).alloc (Nat.le_refl _) (.cells cs 34)))
  have HC := hide (show ∀ W, Blk W w.heap.size 34 cs → W.cell? ⟨w.heap.size, 0, none⟩ = some (.int .u8 1) ∧ W.cell? ⟨w.heap.size, 106, none⟩ = some (.slice A n k) ∧ W.cell? ⟨w.heap.size, 50, none⟩ = some (.int .i64 z0) ∧ W.cell? ⟨w.heap.size, 51, none⟩ = some (.int .i64 z1) ∧ W.cell? ⟨w.heap.size, 52, none⟩ = some (.int .i64 z2) ∧ W.cell? ⟨w.heap.size, 53, none⟩ = some (.int .i64 z3) from fun W hb => ⟨(hb.cell 0).trans f0, (hb.cell 106).trans f4, (hb.cell 50).trans n0, (hb.cell 51).trans n1, (hb.cell 52).trans n2, (hb.cell 53).trans n3⟩)
  have HRVerify := hide (show (∀ W, Blk W w.heap.size 34 cs → W.rangeAt w.heap.size 54 FVerify.toList) ∧ FVerify.size = 52 from ⟨fun W hb => rVerify W _ hb, sVerify⟩)
  clear rVerify sVerify
  obtain ⟨x0, x1, x2, x3, x4, x5, x6, x7, qA⟩ := qA
  have QA := hide qA
  have QN := hide qVerify
  clear qA qVerify
  cases dVerify
  · rw [if_neg (by simp)]
    clear ha
    go_enter Tryz.func27, Tryz.ntmps27
    go_wp2_with first
      | ((with_reducible change wpList _ _ _ (⟨some 27, _, _, _, _, _⟩ :: _) _ _); refine wpList_yields (by kernel_rfl) (.agg FVerify) (ex_load 31 _ rfl w.heap.size 54 (by kernel_rfl) FVerify.toList _ (HRVerify.out.1 _ H0.out.1) Tryz.underlying31 rfl (by rw [Array.length_toList, HRVerify.out.2]; kernel_rfl)) ?_)
      | (go_at_call 51; refine (QN.out _).mono ?_; rintro e w1 ⟨rfl, b1⟩; go_loud (have H1 := hide (And.intro (H0.out.1.below' b1) (H0.out.2.trans (b1.mono H0.out.2.size))); clear b1; obtain ⟨c0, c4, m0, m1, m2, m3⟩ := HC.out _ H1.out.1))
    go_ret
    exact ⟨rfl, H1.out.2⟩
  by_cases hl : 0 < (n : Int)
  · rw [if_neg (by omega)]
    clear ha
    go_enter Tryz.func27, Tryz.ntmps27
    go_wp2_with first
      | ((with_reducible change wpList _ _ _ (⟨some 27, _, _, _, _, _⟩ :: _) _ _); refine wpList_yields (by kernel_rfl) (.agg FVerify) (ex_load 31 _ rfl w.heap.size 54 (by kernel_rfl) FVerify.toList _ (HRVerify.out.1 _ H0.out.1) Tryz.underlying31 rfl (by rw [Array.length_toList, HRVerify.out.2]; kernel_rfl)) ?_)
      | (go_at_call 51; refine (QN.out _).mono ?_; rintro e w1 ⟨rfl, b1⟩; go_loud (have H1 := hide (And.intro (H0.out.1.below' b1) (H0.out.2.trans (b1.mono H0.out.2.size))); clear b1; obtain ⟨c0, c4, m0, m1, m2, m3⟩ := HC.out _ H1.out.1))
    go_ret
    exact ⟨rfl, H1.out.2⟩
  have hl2 : ¬ 32 < (n : Int) := by omega
  have hn0 : n = 0 := by omega
  rcases ha with rfl | rfl
  · rw [if_pos ⟨rfl, hn0, rfl⟩]
    clear hn0
    go_enter Tryz.func27, Tryz.ntmps27
    go_wp2_with first
      | ((with_reducible change wpList _ _ _ (⟨some 27, _, _, _, _, _⟩ :: _) _ _); refine wpList_yields (by kernel_rfl) (.agg FVerify) (ex_load 31 _ rfl w.heap.size 54 (by kernel_rfl) FVerify.toList _ (HRVerify.out.1 _ H0.out.1) Tryz.underlying31 rfl (by rw [Array.length_toList, HRVerify.out.2]; kernel_rfl)) ?_)
      | (go_at_call 51; refine (QN.out _).mono ?_; rintro e w1 ⟨rfl, b1⟩; go_loud (have H1 := hide (And.intro (H0.out.1.below' b1) (H0.out.2.trans (b1.mono H0.out.2.size))); clear b1; obtain ⟨c0, c4, m0, m1, m2, m3⟩ := HC.out _ H1.out.1))
      | (go_at_call 52; refine (QA.out _).mono ?_; rintro e w2 ⟨rfl, b2⟩; go_loud (have H2 := hide (And.intro (H1.out.1.below' b2) (H1.out.2.trans (b2.mono H1.out.2.size))); clear b2; obtain ⟨c0, c4, m0, m1, m2, m3⟩ := HC.out _ H2.out.1))
    go_ret
    exact ⟨rfl, H2.out.2⟩
  · rw [if_neg (by omega)]
    clear hn0
    go_enter Tryz.func27, Tryz.ntmps27
    go_wp2_with first
      | ((with_reducible change wpList _ _ _ (⟨some 27, _, _, _, _, _⟩ :: _) _ _); refine wpList_yields (by kernel_rfl) (.agg FVerify) (ex_load 31 _ rfl w.heap.size 54 (by kernel_rfl) FVerify.toList _ (HRVerify.out.1 _ H0.out.1) Tryz.underlying31 rfl (by rw [Array.length_toList, HRVerify.out.2]; kernel_rfl)) ?_)
      | (go_at_call 51; refine (QN.out _).mono ?_; rintro e w1 ⟨rfl, b1⟩; go_loud (have H1 := hide (And.intro (H0.out.1.below' b1) (H0.out.2.trans (b1.mono H0.out.2.size))); clear b1; obtain ⟨c0, c4, m0, m1, m2, m3⟩ := HC.out _ H1.out.1))
      | (go_at_call 52; refine (QA.out _).mono ?_; rintro e w2 ⟨rfl, b2⟩; go_loud (have H2 := hide (And.intro (H1.out.1.below' b2) (H1.out.2.trans (b2.mono H1.out.2.size))); clear b2; obtain ⟨c0, c4, m0, m1, m2, m3⟩ := HC.out _ H2.out.1))
    go_ret
    exact ⟨rfl, H2.out.2⟩
set_option maxRecDepth 100000 in
set_option maxHeartbeats 8000000 in
theorem rchk_2 (cs : Array Value) (A : Option Addr) (n k : Nat) (z0 z1 z2 z3 : Int) (FRead : Array Value) (dRead : Bool) (a : Int) (w : World) (f0 : cs[0]? = some (.int .u8 2)) (f4 : cs[106]? = some (.slice A n k)) (hz : cs[102]? = some (.int .i64 z0) ∧ cs[103]? = some (.int .i64 z1) ∧ cs[104]? = some (.int .i64 z2) ∧ cs[105]? = some (.int .i64 z3)) (rRead : ∀ W g, Blk W g 34 cs → W.rangeAt g 2 FRead.toList) (sRead : FRead.size = 52) (qRead : ∀ W, Calls Tryz.prog 50 #[.agg FRead] W fun e w' => e = .returned (.bool dRead) ∧ Below W.heap.size W w') (qA : ∃ x0 x1 x2 x3 x4 x5 x6 x7 : Int, ∀ W, Calls Tryz.prog 52 #[.int .i64 z0, .int .i64 z1, .int .i64 z2, .int .i64 z3] W fun e w' => e = .returned (.tuple #[.agg #[.int .i64 x0, .int .i64 x1, .int .i64 x2, .int .i64 x3, .int .i64 x4, .int .i64 x5, .int .i64 x6, .int .i64 x7], .int .i64 a]) ∧ Below W.heap.size W w') (ha : a = 0 ∨ a = 92) :
    Calls Tryz.prog 27 #[.agg cs] w fun e w' => e = .returned (.int .i64 (if dRead = true ∧ n = 0 ∧ a = 0 then 0 else 5)) ∧ Below w.heap.size w w' := by
  obtain ⟨n0, n1, n2, n3⟩ := hz
  have H0 := hide (And.intro (Blk.new w 34 cs) ((Below.refl w.heap.size w).alloc (Nat.le_refl _) (.cells cs 34)))
  have HC := hide (show ∀ W, Blk W w.heap.size 34 cs → W.cell? ⟨w.heap.size, 0, none⟩ = some (.int .u8 2) ∧ W.cell? ⟨w.heap.size, 106, none⟩ = some (.slice A n k) ∧ W.cell? ⟨w.heap.size, 102, none⟩ = some (.int .i64 z0) ∧ W.cell? ⟨w.heap.size, 103, none⟩ = some (.int .i64 z1) ∧ W.cell? ⟨w.heap.size, 104, none⟩ = some (.int .i64 z2) ∧ W.cell? ⟨w.heap.size, 105, none⟩ = some (.int .i64 z3) from fun W hb => ⟨(hb.cell 0).trans f0, (hb.cell 106).trans f4, (hb.cell 102).trans n0, (hb.cell 103).trans n1, (hb.cell 104).trans n2, (hb.cell 105).trans n3⟩)
  have HRRead := hide (show (∀ W, Blk W w.heap.size 34 cs → W.rangeAt w.heap.size 2 FRead.toList) ∧ FRead.size = 52 from ⟨fun W hb => rRead W _ hb, sRead⟩)
  clear rRead sRead
  obtain ⟨x0, x1, x2, x3, x4, x5, x6, x7, qA⟩ := qA
  have QA := hide qA
  have QN := hide qRead
  clear qA qRead
  cases dRead
  · rw [if_neg (by simp)]
    clear ha
    go_enter Tryz.func27, Tryz.ntmps27
    go_wp2_with first
      | ((with_reducible change wpList _ _ _ (⟨some 17, _, _, _, _, _⟩ :: _) _ _); refine wpList_yields (by kernel_rfl) (.agg FRead) (ex_load 28 _ rfl w.heap.size 2 (by kernel_rfl) FRead.toList _ (HRRead.out.1 _ H0.out.1) Tryz.underlying28 rfl (by rw [Array.length_toList, HRRead.out.2]; kernel_rfl)) ?_)
      | (go_at_call 50; refine (QN.out _).mono ?_; rintro e w1 ⟨rfl, b1⟩; go_loud (have H1 := hide (And.intro (H0.out.1.below' b1) (H0.out.2.trans (b1.mono H0.out.2.size))); clear b1; obtain ⟨c0, c4, m0, m1, m2, m3⟩ := HC.out _ H1.out.1))
    go_ret
    exact ⟨rfl, H1.out.2⟩
  by_cases hl : 0 < (n : Int)
  · rw [if_neg (by omega)]
    clear ha
    go_enter Tryz.func27, Tryz.ntmps27
    go_wp2_with first
      | ((with_reducible change wpList _ _ _ (⟨some 17, _, _, _, _, _⟩ :: _) _ _); refine wpList_yields (by kernel_rfl) (.agg FRead) (ex_load 28 _ rfl w.heap.size 2 (by kernel_rfl) FRead.toList _ (HRRead.out.1 _ H0.out.1) Tryz.underlying28 rfl (by rw [Array.length_toList, HRRead.out.2]; kernel_rfl)) ?_)
      | (go_at_call 50; refine (QN.out _).mono ?_; rintro e w1 ⟨rfl, b1⟩; go_loud (have H1 := hide (And.intro (H0.out.1.below' b1) (H0.out.2.trans (b1.mono H0.out.2.size))); clear b1; obtain ⟨c0, c4, m0, m1, m2, m3⟩ := HC.out _ H1.out.1))
    go_ret
    exact ⟨rfl, H1.out.2⟩
  have hl2 : ¬ 32 < (n : Int) := by omega
  have hn0 : n = 0 := by omega
  rcases ha with rfl | rfl
  · rw [if_pos ⟨rfl, hn0, rfl⟩]
    clear hn0
    go_enter Tryz.func27, Tryz.ntmps27
    go_wp2_with first
      | ((with_reducible change wpList _ _ _ (⟨some 17, _, _, _, _, _⟩ :: _) _ _); refine wpList_yields (by kernel_rfl) (.agg FRead) (ex_load 28 _ rfl w.heap.size 2 (by kernel_rfl) FRead.toList _ (HRRead.out.1 _ H0.out.1) Tryz.underlying28 rfl (by rw [Array.length_toList, HRRead.out.2]; kernel_rfl)) ?_)
      | (go_at_call 50; refine (QN.out _).mono ?_; rintro e w1 ⟨rfl, b1⟩; go_loud (have H1 := hide (And.intro (H0.out.1.below' b1) (H0.out.2.trans (b1.mono H0.out.2.size))); clear b1; obtain ⟨c0, c4, m0, m1, m2, m3⟩ := HC.out _ H1.out.1))
      | (go_at_call 52; refine (QA.out _).mono ?_; rintro e w2 ⟨rfl, b2⟩; go_loud (have H2 := hide (And.intro (H1.out.1.below' b2) (H1.out.2.trans (b2.mono H1.out.2.size))); clear b2; obtain ⟨c0, c4, m0, m1, m2, m3⟩ := HC.out _ H2.out.1))
    go_ret
    exact ⟨rfl, H2.out.2⟩
  · rw [if_neg (by omega)]
    clear hn0
    go_enter Tryz.func27, Tryz.ntmps27
    go_wp2_with first
      | ((with_reducible change wpList _ _ _ (⟨some 17, _, _, _, _, _⟩ :: _) _ _); refine wpList_yields (by kernel_rfl) (.agg FRead) (ex_load 28 _ rfl w.heap.size 2 (by kernel_rfl) FRead.toList _ (HRRead.out.1 _ H0.out.1) Tryz.underlying28 rfl (by rw [Array.length_toList, HRRead.out.2]; kernel_rfl)) ?_)
      | (go_at_call 50; refine (QN.out _).mono ?_; rintro e w1 ⟨rfl, b1⟩; go_loud (have H1 := hide (And.intro (H0.out.1.below' b1) (H0.out.2.trans (b1.mono H0.out.2.size))); clear b1; obtain ⟨c0, c4, m0, m1, m2, m3⟩ := HC.out _ H1.out.1))
      | (go_at_call 52; refine (QA.out _).mono ?_; rintro e w2 ⟨rfl, b2⟩; go_loud (have H2 := hide (And.intro (H1.out.1.below' b2) (H1.out.2.trans (b2.mono H1.out.2.size))); clear b2; obtain ⟨c0, c4, m0, m1, m2, m3⟩ := HC.out _ H2.out.1))
    go_ret
    exact ⟨rfl, H2.out.2⟩
set_option maxRecDepth 100000 in
set_option maxHeartbeats 8000000 in
theorem rchk_3 (cs : Array Value) (A : Option Addr) (n k : Nat) (z0 z1 z2 z3 : Int) (FRead : Array Value) (dRead : Bool) (FVerify : Array Value) (dVerify : Bool) (w : World) (f0 : cs[0]? = some (.int .u8 3)) (f4 : cs[106]? = some (.slice A n k)) (hz : cs[50]? = some (.int .i64 z0) ∧ cs[51]? = some (.int .i64 z1) ∧ cs[52]? = some (.int .i64 z2) ∧ cs[53]? = some (.int .i64 z3)) (rRead : ∀ W g, Blk W g 34 cs → W.rangeAt g 2 FRead.toList) (sRead : FRead.size = 52) (qRead : ∀ W, Calls Tryz.prog 50 #[.agg FRead] W fun e w' => e = .returned (.bool dRead) ∧ Below W.heap.size W w') (rVerify : ∀ W g, Blk W g 34 cs → W.rangeAt g 54 FVerify.toList) (sVerify : FVerify.size = 52) (qVerify : ∀ W, Calls Tryz.prog 51 #[.agg FVerify] W fun e w' => e = .returned (.bool dVerify) ∧ Below W.heap.size W w') :
    Calls Tryz.prog 27 #[.agg cs] w fun e w' => e = .returned (.int .i64 (if dRead = true ∧ dVerify = true ∧ n ≤ 32 then 0 else 5)) ∧ Below w.heap.size w w' := by
  obtain ⟨n0, n1, n2, n3⟩ := hz
  have H0 := hide (And.intro (Blk.new w 34 cs) ((Below.refl w.heap.size w).alloc (Nat.le_refl _) (.cells cs 34)))
  have HC := hide (show ∀ W, Blk W w.heap.size 34 cs → W.cell? ⟨w.heap.size, 0, none⟩ = some (.int .u8 3) ∧ W.cell? ⟨w.heap.size, 106, none⟩ = some (.slice A n k) ∧ W.cell? ⟨w.heap.size, 50, none⟩ = some (.int .i64 z0) ∧ W.cell? ⟨w.heap.size, 51, none⟩ = some (.int .i64 z1) ∧ W.cell? ⟨w.heap.size, 52, none⟩ = some (.int .i64 z2) ∧ W.cell? ⟨w.heap.size, 53, none⟩ = some (.int .i64 z3) from fun W hb => ⟨(hb.cell 0).trans f0, (hb.cell 106).trans f4, (hb.cell 50).trans n0, (hb.cell 51).trans n1, (hb.cell 52).trans n2, (hb.cell 53).trans n3⟩)
  have HRRead := hide (show (∀ W, Blk W w.heap.size 34 cs → W.rangeAt w.heap.size 2 FRead.toList) ∧ FRead.size = 52 from ⟨fun W hb => rRead W _ hb, sRead⟩)
  clear rRead sRead
  have HRVerify := hide (show (∀ W, Blk W w.heap.size 34 cs → W.rangeAt w.heap.size 54 FVerify.toList) ∧ FVerify.size = 52 from ⟨fun W hb => rVerify W _ hb, sVerify⟩)
  clear rVerify sVerify
  have QR := hide qRead
  have QV := hide qVerify
  clear qRead qVerify
  cases dRead
  · rw [if_neg (by simp)]
    go_enter Tryz.func27, Tryz.ntmps27
    go_wp2_with first
      | ((with_reducible change wpList _ _ _ (⟨some 17, _, _, _, _, _⟩ :: _) _ _); refine wpList_yields (by kernel_rfl) (.agg FRead) (ex_load 28 _ rfl w.heap.size 2 (by kernel_rfl) FRead.toList _ (HRRead.out.1 _ H0.out.1) Tryz.underlying28 rfl (by rw [Array.length_toList, HRRead.out.2]; kernel_rfl)) ?_)
      | (go_at_call 50; refine (QR.out _).mono ?_; rintro e w1 ⟨rfl, b1⟩; go_loud (have H1 := hide (And.intro (H0.out.1.below' b1) (H0.out.2.trans (b1.mono H0.out.2.size))); clear b1; obtain ⟨c0, c4, m0, m1, m2, m3⟩ := HC.out _ H1.out.1))
      | ((with_reducible change wpList _ _ _ (⟨some 27, _, _, _, _, _⟩ :: _) _ _); refine wpList_yields (by kernel_rfl) (.agg FVerify) (ex_load 31 _ rfl w.heap.size 54 (by kernel_rfl) FVerify.toList _ (HRVerify.out.1 _ H1.out.1) Tryz.underlying31 rfl (by rw [Array.length_toList, HRVerify.out.2]; kernel_rfl)) ?_)
      | (go_at_call 51; refine (QV.out _).mono ?_; rintro e w2 ⟨rfl, b2⟩; go_loud (have H2 := hide (And.intro (H1.out.1.below' b2) (H1.out.2.trans (b2.mono H1.out.2.size))); clear b2; obtain ⟨c0, c4, m0, m1, m2, m3⟩ := HC.out _ H2.out.1))
    go_ret
    exact ⟨rfl, H1.out.2⟩
  cases dVerify
  · rw [if_neg (by simp)]
    go_enter Tryz.func27, Tryz.ntmps27
    go_wp2_with first
      | ((with_reducible change wpList _ _ _ (⟨some 17, _, _, _, _, _⟩ :: _) _ _); refine wpList_yields (by kernel_rfl) (.agg FRead) (ex_load 28 _ rfl w.heap.size 2 (by kernel_rfl) FRead.toList _ (HRRead.out.1 _ H0.out.1) Tryz.underlying28 rfl (by rw [Array.length_toList, HRRead.out.2]; kernel_rfl)) ?_)
      | (go_at_call 50; refine (QR.out _).mono ?_; rintro e w1 ⟨rfl, b1⟩; go_loud (have H1 := hide (And.intro (H0.out.1.below' b1) (H0.out.2.trans (b1.mono H0.out.2.size))); clear b1; obtain ⟨c0, c4, m0, m1, m2, m3⟩ := HC.out _ H1.out.1))
      | ((with_reducible change wpList _ _ _ (⟨some 27, _, _, _, _, _⟩ :: _) _ _); refine wpList_yields (by kernel_rfl) (.agg FVerify) (ex_load 31 _ rfl w.heap.size 54 (by kernel_rfl) FVerify.toList _ (HRVerify.out.1 _ H1.out.1) Tryz.underlying31 rfl (by rw [Array.length_toList, HRVerify.out.2]; kernel_rfl)) ?_)
      | (go_at_call 51; refine (QV.out _).mono ?_; rintro e w2 ⟨rfl, b2⟩; go_loud (have H2 := hide (And.intro (H1.out.1.below' b2) (H1.out.2.trans (b2.mono H1.out.2.size))); clear b2; obtain ⟨c0, c4, m0, m1, m2, m3⟩ := HC.out _ H2.out.1))
    go_ret
    exact ⟨rfl, H2.out.2⟩
  by_cases hl : 32 < (n : Int)
  · rw [if_neg (by omega)]
    go_enter Tryz.func27, Tryz.ntmps27
    go_wp2_with first
      | ((with_reducible change wpList _ _ _ (⟨some 17, _, _, _, _, _⟩ :: _) _ _); refine wpList_yields (by kernel_rfl) (.agg FRead) (ex_load 28 _ rfl w.heap.size 2 (by kernel_rfl) FRead.toList _ (HRRead.out.1 _ H0.out.1) Tryz.underlying28 rfl (by rw [Array.length_toList, HRRead.out.2]; kernel_rfl)) ?_)
      | (go_at_call 50; refine (QR.out _).mono ?_; rintro e w1 ⟨rfl, b1⟩; go_loud (have H1 := hide (And.intro (H0.out.1.below' b1) (H0.out.2.trans (b1.mono H0.out.2.size))); clear b1; obtain ⟨c0, c4, m0, m1, m2, m3⟩ := HC.out _ H1.out.1))
      | ((with_reducible change wpList _ _ _ (⟨some 27, _, _, _, _, _⟩ :: _) _ _); refine wpList_yields (by kernel_rfl) (.agg FVerify) (ex_load 31 _ rfl w.heap.size 54 (by kernel_rfl) FVerify.toList _ (HRVerify.out.1 _ H1.out.1) Tryz.underlying31 rfl (by rw [Array.length_toList, HRVerify.out.2]; kernel_rfl)) ?_)
      | (go_at_call 51; refine (QV.out _).mono ?_; rintro e w2 ⟨rfl, b2⟩; go_loud (have H2 := hide (And.intro (H1.out.1.below' b2) (H1.out.2.trans (b2.mono H1.out.2.size))); clear b2; obtain ⟨c0, c4, m0, m1, m2, m3⟩ := HC.out _ H2.out.1))
    go_ret
    exact ⟨rfl, H2.out.2⟩
  · rw [if_pos ⟨rfl, rfl, by omega⟩]
    go_enter Tryz.func27, Tryz.ntmps27
    go_wp2_with first
      | ((with_reducible change wpList _ _ _ (⟨some 17, _, _, _, _, _⟩ :: _) _ _); refine wpList_yields (by kernel_rfl) (.agg FRead) (ex_load 28 _ rfl w.heap.size 2 (by kernel_rfl) FRead.toList _ (HRRead.out.1 _ H0.out.1) Tryz.underlying28 rfl (by rw [Array.length_toList, HRRead.out.2]; kernel_rfl)) ?_)
      | (go_at_call 50; refine (QR.out _).mono ?_; rintro e w1 ⟨rfl, b1⟩; go_loud (have H1 := hide (And.intro (H0.out.1.below' b1) (H0.out.2.trans (b1.mono H0.out.2.size))); clear b1; obtain ⟨c0, c4, m0, m1, m2, m3⟩ := HC.out _ H1.out.1))
      | ((with_reducible change wpList _ _ _ (⟨some 27, _, _, _, _, _⟩ :: _) _ _); refine wpList_yields (by kernel_rfl) (.agg FVerify) (ex_load 31 _ rfl w.heap.size 54 (by kernel_rfl) FVerify.toList _ (HRVerify.out.1 _ H1.out.1) Tryz.underlying31 rfl (by rw [Array.length_toList, HRVerify.out.2]; kernel_rfl)) ?_)
      | (go_at_call 51; refine (QV.out _).mono ?_; rintro e w2 ⟨rfl, b2⟩; go_loud (have H2 := hide (And.intro (H1.out.1.below' b2) (H1.out.2.trans (b2.mono H1.out.2.size))); clear b2; obtain ⟨c0, c4, m0, m1, m2, m3⟩ := HC.out _ H2.out.1))
    go_ret
    exact ⟨rfl, H2.out.2⟩
set_option maxRecDepth 100000 in
set_option maxHeartbeats 8000000 in
theorem rchk_0 (cs : Array Value) (kd : Int) (w : World) (f0 : cs[0]? = some (.int .u8 kd)) (hk : kd < 1 ∨ 3 < kd) :
    Calls Tryz.prog 27 #[.agg cs] w fun e w' => e = .returned (.int .i64 5) ∧ Below w.heap.size w w' := by
  have H0 := hide ((Below.refl w.heap.size w).alloc (Nat.le_refl _) (.cells cs 34))
  by_cases h1 : kd < 1
  · clear hk
    go_enter Tryz.func27, Tryz.ntmps27
    go_wp2_with fail
    go_ret
    exact ⟨rfl, H0.out⟩
  · have h2 : 3 < kd := by omega
    clear hk
    go_enter Tryz.func27, Tryz.ntmps27
    go_wp2_with fail
    go_ret
    exact ⟨rfl, H0.out⟩
theorem rcheck_cap (cs : Array Value) (c : CP) (v : Value) (w : World) (h : Capy w cs c v) :
    Calls Tryz.prog 27 #[.agg cs] w fun e w' => e = .returned (.int .i64 (if c.may then 0 else 5)) ∧ Below w.heap.size w w' := by
  obtain ⟨A, k, rfl, -, -, -⟩ := h.by_.form
  have f0 := h.c0
  have f4 := h.lit
  obtain ⟨hn1, hn2⟩ := h.nums
  have hr : ∀ W g, Blk W g 34 cs → W.rangeAt g 2 c.rd.cells.toArray.toList := fun W g hb => by
    have := h.rdAt hb
    simpa using this
  have hv : ∀ W g, Blk W g 34 cs → W.rangeAt g 54 c.vf.cells.toArray.toList := fun W g hb => by
    have := h.vfAt hb
    simpa using this
  have sr : c.rd.cells.toArray.size = 52 := by simp [RV.cells_length h.wf.1]
  have sv : c.vf.cells.toArray.size = 52 := by simp [RV.cells_length h.wf.2.1]
  have hl0 : c.lit.length = 0 ↔ c.lit = [] := List.length_eq_zero_iff
  by_cases k1 : c.kind = 1
  · rw [k1] at f0
    have hm : (if c.may then (0 : Int) else 5) = if decide (c.vf = RV.zero) = true ∧ c.lit.length = 0 ∧ (if agOK c.rd.k c.rd.n c.rd.seg c.rd.size then (0 : Int) else 92) = 0 then 0 else 5 := by
      have e : (if agOK c.rd.k c.rd.n c.rd.seg c.rd.size then (0 : Int) else 92) = 0 ↔ c.rd.may := by
        unfold RV.may
        by_cases h : agOK c.rd.k c.rd.n c.rd.seg c.rd.size <;> simp [h]
      have e2 : c.may ↔ (decide (c.vf = RV.zero) = true ∧ c.lit.length = 0 ∧ (if agOK c.rd.k c.rd.n c.rd.seg c.rd.size then (0 : Int) else 92) = 0) := by
        rw [e, hl0]
        unfold CP.may
        simp [k1]
      by_cases hx : c.may
      · rw [if_pos hx, if_pos (e2.1 hx)]
      · rw [if_neg hx, if_neg (fun h => hx (e2.2 h))]
    rw [hm]
    exact rchk_1 cs A _ k _ _ _ _ _ _ _ w f0 f4 hn1 hv sv (fun W => rno_Verify c.vf W h.wf.2.1) (ragain_ex _ _ _ _) (by by_cases h : agOK c.rd.k c.rd.n c.rd.seg c.rd.size <;> simp [h])
  by_cases k2 : c.kind = 2
  · rw [k2] at f0
    have hm : (if c.may then (0 : Int) else 5) = if decide (c.rd = RV.zero) = true ∧ c.lit.length = 0 ∧ (if agOK c.vf.k c.vf.n c.vf.seg c.vf.size then (0 : Int) else 92) = 0 then 0 else 5 := by
      have e : (if agOK c.vf.k c.vf.n c.vf.seg c.vf.size then (0 : Int) else 92) = 0 ↔ c.vf.may := by
        unfold RV.may
        by_cases h : agOK c.vf.k c.vf.n c.vf.seg c.vf.size <;> simp [h]
      have e2 : c.may ↔ (decide (c.rd = RV.zero) = true ∧ c.lit.length = 0 ∧ (if agOK c.vf.k c.vf.n c.vf.seg c.vf.size then (0 : Int) else 92) = 0) := by
        rw [e, hl0]
        unfold CP.may
        simp [k2]
      by_cases hx : c.may
      · rw [if_pos hx, if_pos (e2.1 hx)]
      · rw [if_neg hx, if_neg (fun h => hx (e2.2 h))]
    rw [hm]
    exact rchk_2 cs A _ k _ _ _ _ _ _ _ w f0 f4 hn2 hr sr (fun W => rno_Read c.rd W h.wf.1) (ragain_ex _ _ _ _) (by by_cases h : agOK c.vf.k c.vf.n c.vf.seg c.vf.size <;> simp [h])
  by_cases k3 : c.kind = 3
  · rw [k3] at f0
    have hm : (if c.may then (0 : Int) else 5) = if decide (c.rd = RV.zero) = true ∧ decide (c.vf = RV.zero) = true ∧ c.lit.length ≤ 32 then 0 else 5 := by
      have e2 : c.may ↔ (decide (c.rd = RV.zero) = true ∧ decide (c.vf = RV.zero) = true ∧ c.lit.length ≤ 32) := by
        unfold CP.may
        simp [k3]
      by_cases hx : c.may
      · rw [if_pos hx, if_pos (e2.1 hx)]
      · rw [if_neg hx, if_neg (fun h => hx (e2.2 h))]
    rw [hm]
    exact rchk_3 cs A _ k _ _ _ _ _ _ _ _ w f0 f4 hn1 hr sr (fun W => rno_Read c.rd W h.wf.1) hv sv (fun W => rno_Verify c.vf W h.wf.2.1)
  · rw [if_neg (by unfold CP.may; simp [k1, k2, k3])]
    exact rchk_0 cs _ w f0 (by omega)
end Go.Proofs.YtcpceaflnnkhnaaGreatDoor
