/- The contract of the program's Again, and of Check. -/
import Derived.Test.YteaagngikiaokaaDoorCutA
import Derived.BigQuiet
import Derived.Deep.QuietTactic
namespace Go.Proofs.YteaagngikiaokaaDoor
open Go.RowKit
attribute [local go_sem ↓] Go.wp_at_zero Go.wp_at_succ

/-- The four numbers of a shape that may be. -/
def agOK (k n seg size : Int) : Prop := (1 ≤ n ∧ n ≤ 255 ∧ 1 ≤ k ∧ k ≤ n ∧ 1 ≤ seg) ∧ seg % k = 0 ∧ seg / k ≤ (upN 65536 k.toNat : Int) ∧ 32 < size ∧ size ≤ 16777216 ∧ upN size.toNat seg.toNat ≤ 512
def zeroShape : Value := .agg #[.int .i64 0, .int .i64 0, .int .i64 0, .int .i64 0, .int .i64 0, .int .i64 0, .int .i64 0, .int .i64 0]

def set8 (w : World) (g : Nat) (v0 v1 v2 v3 v4 v5 v6 v7 : Value) : World :=
  (((((((w.setCell ⟨g, 0, none⟩ v0).setCell ⟨g, 1, none⟩ v1).setCell ⟨g, 2, none⟩ v2).setCell ⟨g, 3, none⟩ v3).setCell ⟨g, 4, none⟩ v4).setCell ⟨g, 5, none⟩ v5).setCell ⟨g, 6, none⟩ v6).setCell ⟨g, 7, none⟩ v7
theorem blk_set8 {w : World} {g : Nat} {t : TypeId} {a0 a1 a2 a3 a4 a5 a6 a7 : Value} (h : Blk w g t #[a0, a1, a2, a3, a4, a5, a6, a7]) (v0 v1 v2 v3 v4 v5 v6 v7 : Value) :
    Blk (set8 w g v0 v1 v2 v3 v4 v5 v6 v7) g t #[v0, v1, v2, v3, v4, v5, v6, v7] := by
  have := (((((((h.set_ 0 v0).set_ 1 v1).set_ 2 v2).set_ 3 v3).set_ 4 v4).set_ 5 v5).set_ 6 v6).set_ 7 v7
  simpa [set8] using this
theorem set8_cells {w : World} {g : Nat} {t : TypeId} {a0 a1 a2 a3 a4 a5 a6 a7 : Value} (h : Blk w g t #[a0, a1, a2, a3, a4, a5, a6, a7]) (v0 v1 v2 v3 v4 v5 v6 v7 : Value) :
    (set8 w g v0 v1 v2 v3 v4 v5 v6 v7).cell? ⟨g, 0, none⟩ = some v0 ∧ (set8 w g v0 v1 v2 v3 v4 v5 v6 v7).cell? ⟨g, 1, none⟩ = some v1 ∧ (set8 w g v0 v1 v2 v3 v4 v5 v6 v7).cell? ⟨g, 2, none⟩ = some v2 ∧ (set8 w g v0 v1 v2 v3 v4 v5 v6 v7).cell? ⟨g, 3, none⟩ = some v3 ∧
    (set8 w g v0 v1 v2 v3 v4 v5 v6 v7).cell? ⟨g, 4, none⟩ = some v4 ∧ (set8 w g v0 v1 v2 v3 v4 v5 v6 v7).cell? ⟨g, 5, none⟩ = some v5 ∧ (set8 w g v0 v1 v2 v3 v4 v5 v6 v7).cell? ⟨g, 6, none⟩ = some v6 ∧ (set8 w g v0 v1 v2 v3 v4 v5 v6 v7).cell? ⟨g, 7, none⟩ = some v7 := by
  have hb := blk_set8 h v0 v1 v2 v3 v4 v5 v6 v7
  exact ⟨hb.cell 0, hb.cell 1, hb.cell 2, hb.cell 3, hb.cell 4, hb.cell 5, hb.cell 6, hb.cell 7⟩

set_option maxRecDepth 100000 in
set_option maxHeartbeats 1000000 in
theorem again_early (k n seg size : Int) (w : World) (h : ¬ (1 ≤ n ∧ n ≤ 255 ∧ 1 ≤ k ∧ k ≤ n ∧ 1 ≤ seg)) :
    Calls Tryd.prog 54 #[.int .i64 k, .int .i64 n, .int .i64 seg, .int .i64 size] w fun e w' => Below w.heap.size w w' ∧ e = .returned (.tuple #[zeroShape, .int .i64 92]) := by
  by_cases c1 : n < 1
  · have g1 : decide (n < 1) = true := decide_eq_true c1
    clear h c1
    go_enter Tryd.func54, Tryd.ntmps54
    go_wp2_with fail
    go_quiet (fail)
    go_wp2
    go_returns
    refine ⟨?_, rfl⟩
    go_grown
    exact below_drewN ((Below.refl _ w).alloc (Nat.le_refl _) _) _
  · have g1 : decide (n < 1) = false := decide_eq_false c1
    by_cases c2 : 255 < n
    · have g2 : decide (255 < n) = true := decide_eq_true c2
      clear h c1 c2
      go_enter Tryd.func54, Tryd.ntmps54
      go_wp2_with fail
      go_quiet (fail)
      go_wp2
      go_returns
      refine ⟨?_, rfl⟩
      go_grown
      exact below_drewN ((Below.refl _ w).alloc (Nat.le_refl _) _) _
    · have g2 : decide (255 < n) = false := decide_eq_false c2
      by_cases c3 : k < 1
      · have g3 : decide (k < 1) = true := decide_eq_true c3
        clear h c1 c2 c3
        go_enter Tryd.func54, Tryd.ntmps54
        go_wp2_with fail
        go_quiet (fail)
        go_wp2
        go_returns
        refine ⟨?_, rfl⟩
        go_grown
        exact below_drewN ((Below.refl _ w).alloc (Nat.le_refl _) _) _
      · have g3 : decide (k < 1) = false := decide_eq_false c3
        by_cases c4 : n < k
        · have g4 : decide (n < k) = true := decide_eq_true c4
          clear h c1 c2 c3 c4
          go_enter Tryd.func54, Tryd.ntmps54
          go_wp2_with fail
          go_quiet (fail)
          go_wp2
          go_returns
          refine ⟨?_, rfl⟩
          go_grown
          exact below_drewN ((Below.refl _ w).alloc (Nat.le_refl _) _) _
        · have g4 : decide (n < k) = false := decide_eq_false c4
          have g5 : decide (seg < 1) = true := decide_eq_true (by omega)
          clear h c1 c2 c3 c4
          go_enter Tryd.func54, Tryd.ntmps54
          go_wp2_with fail
          go_quiet (fail)
          go_wp2
          go_returns
          refine ⟨?_, rfl⟩
          go_grown
          exact below_drewN ((Below.refl _ w).alloc (Nat.le_refl _) _) _

set_option maxRecDepth 100000 in
set_option maxHeartbeats 8000000 in
theorem again_late (k n seg : Nat) (size : Int) (w : World) (h : 1 ≤ n ∧ n ≤ 255 ∧ 1 ≤ k ∧ k ≤ n ∧ 1 ≤ seg) (hseg : (seg : Int) ≤ 9223372036854775807) (hsz : -9223372036854775808 ≤ size ∧ size ≤ 9223372036854775807)
    (hbad : ¬ (seg % k = 0 ∧ seg / k ≤ upN 65536 k ∧ 32 < size ∧ size ≤ 16777216)) :
    Calls Tryd.prog 54 #[.int .i64 (k : Int), .int .i64 (n : Int), .int .i64 (seg : Int), .int .i64 size] w fun e w' => Below w.heap.size w w' ∧ e = .returned (.tuple #[zeroShape, .int .i64 92]) := by
  have hu : ∀ w, Calls Tryd.prog 71 #[.int .i64 65536, .int .i64 (k : Int)] w fun e w' => e = .returned (.int .i64 (upN 65536 k : Int)) ∧ w = w' := fun w => up_any 65536 k w (by omega) (by omega) (by omega)
  have hul := upN_le 65536 k (by omega)
  obtain ⟨m, hm⟩ : ∃ m : Nat, m = seg % k := ⟨_, rfl⟩
  obtain ⟨q, hq⟩ : ∃ q : Nat, q = seg / k := ⟨_, rfl⟩
  have e1 : (seg : Int) % (k : Int) = (m : Int) := by rw [hm]; rfl
  have e2 : (seg : Int) / (k : Int) = (q : Int) := by rw [hq]; rfl
  have e3 : (seg : Int).tmod (k : Int) = (m : Int) := by rw [hm]; rfl
  have e4 : (seg : Int).tdiv (k : Int) = (q : Int) := by rw [hq]; rfl
  have hm2 : m < k := by rw [hm]; exact Nat.mod_lt _ (by omega)
  have hq2 : q ≤ seg := by rw [hq]; exact Nat.div_le_self _ _
  have e5 : ¬ k = 0 := by omega
  have e6 : ¬ (k : Int) = 0 := by omega
  rw [← hm, ← hq] at hbad
  generalize upN 65536 k = U at *
  have i1 : decide ((n : Int) < 1) = false := decide_eq_false (by omega)
  have i2 : decide ((255 : Int) < (n : Int)) = false := decide_eq_false (by omega)
  have i3 : decide ((k : Int) < 1) = false := decide_eq_false (by omega)
  have i4 : decide ((n : Int) < (k : Int)) = false := decide_eq_false (by omega)
  have i6 : decide (n < k) = false := decide_eq_false (by omega)
  have wq : IntKind.i64.wrap (q : Int) = (q : Int) := IntWalk.i64_in _ (by omega)
  have i5 : decide ((seg : Int) < 1) = false := decide_eq_false (by omega)
  clear hm hq
  by_cases c1 : m = 0
  · have c1' : ((m : Int) == 0) = true := beq_iff_eq.2 (by omega)
    by_cases c2 : U < q
    · have c2' : decide ((U : Int) < (q : Int)) = true := decide_eq_true (by omega)
      have c2n : decide (U < q) = true := decide_eq_true c2
      clear hbad
      go_enter Tryd.func54, Tryd.ntmps54
      go_wp2_with fail
      go_quiet ((go_at_call 71; exact Calls.quiet_of_same ((hu _).mono fun e w' ⟨h1, h2⟩ => ⟨h1, h2.symm⟩)))
      go_wp2
      go_returns
      refine ⟨?_, rfl⟩
      go_grown
      exact below_drewN ((Below.refl _ w).alloc (Nat.le_refl _) _) _
    · have c2' : decide ((U : Int) < (q : Int)) = false := decide_eq_false (by omega)
      have c2n : decide (U < q) = false := decide_eq_false c2
      by_cases c3 : size ≤ 32
      · have c3' : decide (size ≤ 32) = true := decide_eq_true c3
        clear hbad
        go_enter Tryd.func54, Tryd.ntmps54
        go_wp2_with fail
        go_quiet ((go_at_call 71; exact Calls.quiet_of_same ((hu _).mono fun e w' ⟨h1, h2⟩ => ⟨h1, h2.symm⟩)))
        go_wp2
        go_returns
        refine ⟨?_, rfl⟩
        go_grown
        exact below_drewN ((Below.refl _ w).alloc (Nat.le_refl _) _) _
      · have c3' : decide (size ≤ 32) = false := decide_eq_false c3
        have c4 : decide (16777216 < size) = true := decide_eq_true (by omega)
        clear hbad
        go_enter Tryd.func54, Tryd.ntmps54
        go_wp2_with fail
        go_quiet ((go_at_call 71; exact Calls.quiet_of_same ((hu _).mono fun e w' ⟨h1, h2⟩ => ⟨h1, h2.symm⟩)))
        go_wp2
        go_returns
        refine ⟨?_, rfl⟩
        go_grown
        exact below_drewN ((Below.refl _ w).alloc (Nat.le_refl _) _) _
  · have c1' : ((m : Int) == 0) = false := beq_eq_false_iff_ne.2 (by omega)
    clear hbad
    go_enter Tryd.func54, Tryd.ntmps54
    go_wp2_with fail
    go_quiet ((go_at_call 71; exact Calls.quiet_of_same ((hu _).mono fun e w' ⟨h1, h2⟩ => ⟨h1, h2.symm⟩)))
    go_wp2
    go_returns
    refine ⟨?_, rfl⟩
    go_grown
    exact below_drewN ((Below.refl _ w).alloc (Nat.le_refl _) _) _

set_option maxRecDepth 100000 in
set_option maxHeartbeats 8000000 in
theorem again_shape (k n seg size : Nat) (w : World) (h : 1 ≤ n ∧ n ≤ 255 ∧ 1 ≤ k ∧ k ≤ n ∧ 1 ≤ seg)
    (hok : seg % k = 0 ∧ seg / k ≤ upN 65536 k ∧ 32 < size ∧ size ≤ 16777216) :
    Calls Tryd.prog 54 #[.int .i64 (k : Int), .int .i64 (n : Int), .int .i64 (seg : Int), .int .i64 (size : Int)] w fun e w' => Below w.heap.size w w' ∧
      e = .returned (if upN size seg ≤ 512 then .tuple #[shapeV k n seg size, .int .i64 0] else .tuple #[zeroShape, .int .i64 92]) := by
  have hsg : seg ≤ 1048576 := by
    have h1 := Nat.div_add_mod seg k
    have h2 := upN_spec 65536 k (by omega) (by omega)
    have h3 : k * (seg / k) ≤ k * upN 65536 k := Nat.mul_le_mul_left k hok.2.1
    have h4 : (upN 65536 k - 1) * k < 65536 := h2.2.1
    have h5 : k * upN 65536 k = (upN 65536 k - 1) * k + k := by
      obtain ⟨u, hu⟩ : ∃ u, upN 65536 k = u + 1 := ⟨upN 65536 k - 1, by omega⟩
      rw [hu, Nat.add_sub_cancel, Nat.mul_add, Nat.mul_comm]; omega
    omega
  have hs := fun w => shape_any k n seg size w (by omega) (by omega) (by omega) hsg (by omega) (by omega)
  have hu : ∀ w, Calls Tryd.prog 71 #[.int .i64 65536, .int .i64 (k : Int)] w fun e w' => e = .returned (.int .i64 (upN 65536 k : Int)) ∧ w = w' := fun w => up_any 65536 k w (by omega) (by omega) (by omega)
  have hul := upN_le 65536 k (by omega)
  obtain ⟨m, hm⟩ : ∃ m : Nat, m = seg % k := ⟨_, rfl⟩
  obtain ⟨q, hq⟩ : ∃ q : Nat, q = seg / k := ⟨_, rfl⟩
  have e1 : (seg : Int) % (k : Int) = (m : Int) := by rw [hm]; rfl
  have e2 : (seg : Int) / (k : Int) = (q : Int) := by rw [hq]; rfl
  have e3 : (seg : Int).tmod (k : Int) = (m : Int) := by rw [hm]; rfl
  have e4 : (seg : Int).tdiv (k : Int) = (q : Int) := by rw [hq]; rfl
  have hm2 : m < k := by rw [hm]; exact Nat.mod_lt _ (by omega)
  have hq2 : q ≤ seg := by rw [hq]; exact Nat.div_le_self _ _
  have e5 : ¬ k = 0 := by omega
  have e6 : ¬ (k : Int) = 0 := by omega
  rw [← hm, ← hq] at hok
  have hS := hide hs
  unfold shapeV at hs
  have hQ := upN_le size seg (by omega)
  have HS : Hid (∀ w, Calls Tryd.prog 72 #[.int .i64 (k : Int), .int .i64 (n : Int), .int .i64 (seg : Int), .int .i64 (size : Int)] w fun e w' => ∃ z5 z6 z7 : Int, e = .returned (.agg #[.int .i64 (k : Int), .int .i64 (n : Int), .int .i64 (seg : Int), .int .i64 (size : Int), .int .i64 (upN size seg : Int), .int .i64 z5, .int .i64 z6, .int .i64 z7]) ∧ Below w.heap.size w w' ∧ shapeV k n seg size = .agg #[.int .i64 (k : Int), .int .i64 (n : Int), .int .i64 (seg : Int), .int .i64 (size : Int), .int .i64 (upN size seg : Int), .int .i64 z5, .int .i64 z6, .int .i64 z7]) := fun w =>
    (hs w).mono fun e w' ⟨h1, h2⟩ => ⟨_, _, _, h1, h2, rfl⟩
  clear hs hS
  generalize upN 65536 k = U at *
  generalize upN size seg = Z at *
  have i1 : decide ((n : Int) < 1) = false := decide_eq_false (by omega)
  have i2 : decide ((255 : Int) < (n : Int)) = false := decide_eq_false (by omega)
  have i3 : decide ((k : Int) < 1) = false := decide_eq_false (by omega)
  have i4 : decide ((n : Int) < (k : Int)) = false := decide_eq_false (by omega)
  have i6 : decide (n < k) = false := decide_eq_false (by omega)
  have wq : IntKind.i64.wrap (q : Int) = (q : Int) := IntWalk.i64_in _ (by omega)
  have i5 : decide ((seg : Int) < 1) = false := decide_eq_false (by omega)
  have c1 : m = 0 := hok.1
  have c1' : ((m : Int) == 0) = true := beq_iff_eq.2 (by omega)
  have c2' : decide ((U : Int) < (q : Int)) = false := decide_eq_false (by omega)
  have c2n : decide (U < q) = false := decide_eq_false (by omega)
  have c3n : decide (size ≤ 32) = false := decide_eq_false (by omega)
  have c4n : decide (16777216 < size) = false := decide_eq_false (by omega)
  have c3 : decide ((size : Int) ≤ 32) = false := decide_eq_false (by omega)
  have c4 : decide ((16777216 : Int) < (size : Int)) = false := decide_eq_false (by omega)
  clear hm hq hok
  by_cases c5 : Z ≤ 512
  · rw [if_pos c5]
    have c5' : ¬ (512 : Int) < (Z : Int) := by omega
    go_enter Tryd.func54, Tryd.ntmps54
    go_wp2_with fail
    go_quiet ((go_at_call 71; exact Calls.quiet_of_same ((hu _).mono fun e w' ⟨h1, h2⟩ => ⟨h1, h2.symm⟩)))
    go_wp2_with fail
    refine (HS.out _).mono ?_
    rintro e w2 ⟨z5, z6, z7, rfl, b2, hz⟩
    have hzz := hide hz
    have hbl : Blk w2 w.heap.size 60 #[.int .i64 0, .int .i64 0, .int .i64 0, .int .i64 0, .int .i64 0, .int .i64 0, .int .i64 0, .int .i64 0] := Blk.below' (Blk.drewN (Blk.new w _ _) _) b2
    have B2 : Hid (Below w.heap.size w w2) := (below_drewN ((Below.refl _ w).alloc (Nat.le_refl _) _) _).trans (b2.mono (by simp))
    have f0 : ∀ o, (w2.alloc o).cell? ⟨w.heap.size, 0, none⟩ = some (.int .i64 0) := fun o => (hbl.alloc o).cell 0
    have g0 := fun o => (hbl.alloc o).frozen 0
    have f1 : ∀ o, (w2.alloc o).cell? ⟨w.heap.size, 1, none⟩ = some (.int .i64 0) := fun o => (hbl.alloc o).cell 1
    have g1 := fun o => (hbl.alloc o).frozen 1
    have f2 : ∀ o, (w2.alloc o).cell? ⟨w.heap.size, 2, none⟩ = some (.int .i64 0) := fun o => (hbl.alloc o).cell 2
    have g2 := fun o => (hbl.alloc o).frozen 2
    have f3 : ∀ o, (w2.alloc o).cell? ⟨w.heap.size, 3, none⟩ = some (.int .i64 0) := fun o => (hbl.alloc o).cell 3
    have g3 := fun o => (hbl.alloc o).frozen 3
    have f4 : ∀ o, (w2.alloc o).cell? ⟨w.heap.size, 4, none⟩ = some (.int .i64 0) := fun o => (hbl.alloc o).cell 4
    have g4 := fun o => (hbl.alloc o).frozen 4
    have f5 : ∀ o, (w2.alloc o).cell? ⟨w.heap.size, 5, none⟩ = some (.int .i64 0) := fun o => (hbl.alloc o).cell 5
    have g5 := fun o => (hbl.alloc o).frozen 5
    have f6 : ∀ o, (w2.alloc o).cell? ⟨w.heap.size, 6, none⟩ = some (.int .i64 0) := fun o => (hbl.alloc o).cell 6
    have g6 := fun o => (hbl.alloc o).frozen 6
    have f7 : ∀ o, (w2.alloc o).cell? ⟨w.heap.size, 7, none⟩ = some (.int .i64 0) := fun o => (hbl.alloc o).cell 7
    have g7 := fun o => (hbl.alloc o).frozen 7
    have hc : ∀ o, _ := fun o => set8_cells (hbl.alloc o) (.int .i64 (k : Int)) (.int .i64 (n : Int)) (.int .i64 (seg : Int)) (.int .i64 (size : Int)) (.int .i64 (Z : Int)) (.int .i64 z5) (.int .i64 z6) (.int .i64 z7)
    unfold set8 at hc
    have HC := hide hc
    clear hc
    clear hz hbl b2
    go_wp2
    try simp only [Exit.inBlock, Exit.then]
    refine bodyPost_ret (v := .tuple #[.agg #[.int .i64 (k : Int), .int .i64 (n : Int), .int .i64 (seg : Int), .int .i64 (size : Int), .int .i64 (Z : Int), .int .i64 z5, .int .i64 z6, .int .i64 z7], .int .i64 0]) (by simp [results, Tryd.results54, go_sem, HC.out]) rfl ?_
    refine ⟨?_, by rw [hzz.out]⟩
    have hB2 := B2.out
    have hsz2 : w.heap.size ≤ w2.heap.size := hB2.size
    go_grown
  · rw [if_neg c5]
    have c5' : (512 : Int) < (Z : Int) := by omega
    go_enter Tryd.func54, Tryd.ntmps54
    go_wp2_with fail
    go_quiet ((go_at_call 71; exact Calls.quiet_of_same ((hu _).mono fun e w' ⟨h1, h2⟩ => ⟨h1, h2.symm⟩)))
    go_wp2_with fail
    refine (HS.out _).mono ?_
    rintro e w2 ⟨z5, z6, z7, rfl, b2, hz⟩
    have hzz := hide hz
    have hbl : Blk w2 w.heap.size 60 #[.int .i64 0, .int .i64 0, .int .i64 0, .int .i64 0, .int .i64 0, .int .i64 0, .int .i64 0, .int .i64 0] := Blk.below' (Blk.drewN (Blk.new w _ _) _) b2
    have B2 : Hid (Below w.heap.size w w2) := (below_drewN ((Below.refl _ w).alloc (Nat.le_refl _) _) _).trans (b2.mono (by simp))
    have f0 : ∀ o, (w2.alloc o).cell? ⟨w.heap.size, 0, none⟩ = some (.int .i64 0) := fun o => (hbl.alloc o).cell 0
    have g0 := fun o => (hbl.alloc o).frozen 0
    have f1 : ∀ o, (w2.alloc o).cell? ⟨w.heap.size, 1, none⟩ = some (.int .i64 0) := fun o => (hbl.alloc o).cell 1
    have g1 := fun o => (hbl.alloc o).frozen 1
    have f2 : ∀ o, (w2.alloc o).cell? ⟨w.heap.size, 2, none⟩ = some (.int .i64 0) := fun o => (hbl.alloc o).cell 2
    have g2 := fun o => (hbl.alloc o).frozen 2
    have f3 : ∀ o, (w2.alloc o).cell? ⟨w.heap.size, 3, none⟩ = some (.int .i64 0) := fun o => (hbl.alloc o).cell 3
    have g3 := fun o => (hbl.alloc o).frozen 3
    have f4 : ∀ o, (w2.alloc o).cell? ⟨w.heap.size, 4, none⟩ = some (.int .i64 0) := fun o => (hbl.alloc o).cell 4
    have g4 := fun o => (hbl.alloc o).frozen 4
    have f5 : ∀ o, (w2.alloc o).cell? ⟨w.heap.size, 5, none⟩ = some (.int .i64 0) := fun o => (hbl.alloc o).cell 5
    have g5 := fun o => (hbl.alloc o).frozen 5
    have f6 : ∀ o, (w2.alloc o).cell? ⟨w.heap.size, 6, none⟩ = some (.int .i64 0) := fun o => (hbl.alloc o).cell 6
    have g6 := fun o => (hbl.alloc o).frozen 6
    have f7 : ∀ o, (w2.alloc o).cell? ⟨w.heap.size, 7, none⟩ = some (.int .i64 0) := fun o => (hbl.alloc o).cell 7
    have g7 := fun o => (hbl.alloc o).frozen 7
    have hc : ∀ o, _ := fun o => set8_cells (hbl.alloc o) (.int .i64 0) (.int .i64 0) (.int .i64 0) (.int .i64 0) (.int .i64 0) (.int .i64 0) (.int .i64 0) (.int .i64 0)
    unfold set8 at hc
    have HC := hide hc
    clear hc
    clear hz hbl b2
    go_wp2
    try simp only [Exit.inBlock, Exit.then]
    refine bodyPost_ret (v := .tuple #[.agg #[.int .i64 0, .int .i64 0, .int .i64 0, .int .i64 0, .int .i64 0, .int .i64 0, .int .i64 0, .int .i64 0], .int .i64 92]) (by simp [results, Tryd.results54, go_sem, HC.out]) rfl ?_
    refine ⟨?_, rfl⟩
    have hB2 := B2.out
    have hsz2 : w.heap.size ≤ w2.heap.size := hB2.size
    go_grown
end Go.Proofs.YteaagngikiaokaaDoor
