/- Joined texts: CutM. -/
import Derived.Test.YtbebgnjapenckaaGreatDoorJ1
import Derived.Deep.RegionHeld3
import Derived.Deep.DrawnRows
import Derived.Laws.Cover1
import Derived.Deep.RegionHeld
import Derived.Handy
import Derived.BigQuiet
import Derived.Deep.QuietTactic

/- Joined texts: CutA, CutB, CutC. -/


/- Contracts of the program's shapes: up, shape, Again. -/
namespace Go.Proofs.YtbebgnjapenckaaGreatDoor
open Go.RowKit
attribute [local go_sem ↓] Go.wp_at_zero Go.wp_at_succ

def upN (a b : Nat) : Nat := (a + b - 1) / b
theorem wrap64_nat (n : Nat) (h : n < 9223372036854775808) : wrap64 (n : Int) = (n : Int) := by unfold wrap64; omega

set_option maxRecDepth 100000 in
set_option maxHeartbeats 400000 in
theorem up_any (a b : Nat) (w : World) (hb : 1 ≤ b) (hb2 : b ≤ 1099511627776) (ha : a ≤ 1099511627776) :
    Calls Tryz.prog 25 #[.int .i64 (a : Int), .int .i64 (b : Int)] w fun e w' => e = .returned (.int .i64 (upN a b : Int)) ∧ w = w' := by
  obtain ⟨c, hc⟩ : ∃ c : Nat, c = a + b - 1 := ⟨_, rfl⟩
  have e1 : (a : Int) + (b : Int) - 1 = (c : Int) := by omega
  have e4 : ¬ (b : Int) = 0 := by omega
  have hcb : c / b ≤ c := Nat.div_le_self _ _
  have hfin : wrap64 ((c : Int) / (b : Int)) = (upN a b : Int) := by
    have h1 : (c : Int) / (b : Int) = ((c / b : Nat) : Int) := rfl
    rw [h1, wrap64_nat _ (by omega)]
    unfold upN
    rw [hc]
  rw [hc] at hfin
  have HF := hide hfin
  clear hcb hfin
  go_enter Tryz.func25, Tryz.ntmps25
  go_wp2
  go_ret
  exact ⟨ret_int HF.out, rfl⟩

def shapeV (k n seg size : Nat) : Value := .agg #[.int .i64 (k : Int), .int .i64 (n : Int), .int .i64 (seg : Int), .int .i64 (size : Int), .int .i64 (upN size seg : Int), .int .i64 ((size - (upN size seg - 1) * seg : Nat) : Int), .int .i64 ((seg / k : Nat) : Int), .int .i64 (upN (size - (upN size seg - 1) * seg) k : Int)]

theorem upN_le (a b : Nat) (hb : 1 ≤ b) : upN a b ≤ a := by
  unfold upN
  rcases Nat.eq_zero_or_pos a with h | h
  · subst h
    rw [Nat.zero_add, Nat.div_eq_of_lt (by omega)]
    exact Nat.le_refl _
  · have : (a + b - 1) / b ≤ (a * b) / b := Nat.div_le_div_right (by
      have := Nat.mul_le_mul (show 1 ≤ a from h) (show 1 ≤ b from hb)
      obtain ⟨a', rfl⟩ : ∃ a', a = a' + 1 := ⟨a - 1, by omega⟩
      obtain ⟨b', rfl⟩ : ∃ b', b = b' + 1 := ⟨b - 1, by omega⟩
      have : (a' + 1) * (b' + 1) = a' * b' + a' + b' + 1 := by rw [Nat.add_mul, Nat.mul_add]; omega
      have := Nat.zero_le (a' * b')
      omega)
    rwa [Nat.mul_div_cancel _ (by omega)] at this
theorem upN_spec (a b : Nat) (hb : 1 ≤ b) (ha : 1 ≤ a) : 1 ≤ upN a b ∧ (upN a b - 1) * b < a ∧ a ≤ upN a b * b := by
  unfold upN
  have h1 := Nat.div_add_mod (a + b - 1) b
  have h2 := Nat.mod_lt (a + b - 1) (show 0 < b by omega)
  generalize (a + b - 1) / b = q at *
  have hq : 1 ≤ q := by
    rcases Nat.eq_zero_or_pos q with h | h
    · subst h; rw [Nat.mul_zero] at h1; omega
    · exact h
  obtain ⟨q', rfl⟩ : ∃ q', q = q' + 1 := ⟨q - 1, by omega⟩
  rw [Nat.mul_add, Nat.mul_comm b q'] at h1
  rw [Nat.add_sub_cancel, Nat.add_mul]
  generalize q' * b = z at *
  omega

set_option maxRecDepth 100000 in
set_option maxHeartbeats 4000000 in
theorem shape_any (k n seg size : Nat) (w : World) (hk : 1 ≤ k) (hk2 : k ≤ 1048576) (hs : 1 ≤ seg) (hs2 : seg ≤ 1048576) (hz : 1 ≤ size) (hz2 : size ≤ 16777216) :
    Calls Tryz.prog 26 #[.int .i64 (k : Int), .int .i64 (n : Int), .int .i64 (seg : Int), .int .i64 (size : Int)] w fun e w' => e = .returned (shapeV k n seg size) ∧ Below w.heap.size w w' := by
  have u1 := fun w => up_any size seg w hs (by omega) (by omega)
  have h1 := upN_spec size seg hs hz
  have h2 := upN_le size seg hs
  have ht : size - (upN size seg - 1) * seg ≤ size := Nat.sub_le _ _
  have u2 := fun w => up_any (size - (upN size seg - 1) * seg) k w hk (by omega) (by omega)
  unfold shapeV
  generalize hA : upN size seg = A at *
  have h3 : ((A - 1) * seg : Nat) ≤ size := by omega
  have e1 : ((A : Int) - 1) * (seg : Int) = (((A - 1) * seg : Nat) : Int) := by rw [Int.natCast_mul]; congr 1; omega
  generalize hB : (A - 1) * seg = B at *
  generalize hC : upN (size - B) k = C at *
  obtain ⟨q, hq⟩ : ∃ q : Nat, q = seg / k := ⟨_, rfl⟩
  have e2 : (seg : Int) / (k : Int) = (q : Int) := by rw [hq]; rfl
  have hq2 : q ≤ 1048576 := by have := Nat.div_le_self seg k; omega
  have e4 : ¬ k = 0 := by omega
  rw [← hq]
  clear h1 hB hA hC hq
  go_enter Tryz.func26, Tryz.ntmps26
  go_wp2_with fail
  go_region_held3 (fun _ => True) (trivial) ((go_at_call 25; (with_reducible refine (u1 _).mono ?_); rintro e w1 ⟨rfl, rfl⟩))
  all_goals
    go_wp2_with fail
    rw [show (size : Int) - (B : Int) = ((size - B : Nat) : Int) by omega]
    refine (u2 _).mono ?_
    rintro e w2 ⟨rfl, rfl⟩
    go_wp2
    go_returns
    refine ⟨rfl, ?_⟩
    go_grown
end Go.Proofs.YtbebgnjapenckaaGreatDoor

/- The contract of the program's Again, and of Check. -/
namespace Go.Proofs.YtbebgnjapenckaaGreatDoor
open Go.RowKit
attribute [local go_sem ↓] Go.wp_at_zero Go.wp_at_succ

/-- The four numbers of a shape that may be. -/
def agOK (k n seg size : Int) : Prop := (1 ≤ n ∧ n ≤ 255 ∧ 1 ≤ k ∧ k ≤ n ∧ 1 ≤ seg) ∧ seg % k = 0 ∧ seg / k ≤ (upN 65536 k.toNat : Int) ∧ 32 < size ∧ size ≤ 16777216 ∧ upN size.toNat seg.toNat ≤ 512
def zeroShape : Value := .agg #[.int .i64 0, .int .i64 0, .int .i64 0, .int .i64 0, .int .i64 0, .int .i64 0, .int .i64 0, .int .i64 0]

def set8 (w : World) (g : Nat) (v0 v1 v2 v3 v4 v5 v6 v7 : Value) : World :=
  (((((((w.setCell ⟨g, 0, none⟩ v0).setCell ⟨g, 1, none⟩ v1).setCell ⟨g, 2, none⟩ v2).setCell ⟨g, 3, none⟩ v3).setCell ⟨g, 4, none⟩ v4).setCell ⟨g, 5, none⟩ v5).setCell ⟨g, 6, none⟩ v6).setCell ⟨g, 7, none⟩ v7
theorem blk_set8 {w : World} {g : Nat} {t : TypeId} {a0 a1 a2 a3 a4 a5 a6 a7 : Value} (h : Blk w g t #[a0, a1, a2, a3, a4, a5, a6, a7]) (v0 v1 v2 v3 v4 v5 v6 v7 : Value) :
    Blk (set8 w g v0 v1 v2 v3 v4 v5 v6 v7) g t #[v0, v1, v2, v3, v4, v5, v6, v7] := by
  have := (((((((h.set_ 0 v0).set_ 1 v1).set_ 2 v2).set_ 3 v3).set_ 4 v4).set_ 5 v5).set_ 6 v6).set_ 7 v7
  simpa [set8] using this
theorem set8_cells {w : World} {g : Nat} {t : TypeId} {a0 a1 a2 a3 a4 a5 a6 a7 : Value} (h : Blk w g t #[a0, a1, a2, a3, a4, a5, a6, a7]) (v0 v1 v2 v3 v4 v5 v6 v7 : Value) :
    (set8 w g v0 v1 v2 v3 v4 v5 v6 v7).cell? ⟨g, 0, none⟩ = some v0 ∧ (set8 w g v0 v1 v2 v3 v4 v5 v6 v7).cell? ⟨g, 1, none⟩ = some v1 ∧ (set8 w g v0 v1 v2 v3 v4 v5 v6 v7).cell? ⟨g, 2, none⟩ = some v2 ∧ (set8 w g v0 v1 v2 v3 v4 v5 v6 v7).cell? ⟨g, 3, none⟩ = some v3 ∧
    (set8 w g v0 v1 v2 v3 v4 v5 v6 v7).cell? ⟨g, 4, none⟩ = some v4 ∧ (set8 w g v0 v1 v2 v3 v4 v5 v6 v7).cell? ⟨g, 5, none⟩ = some v5 ∧ (set8 w g v0 v1 v2 v3 v4 v5 v6 v7).cell? ⟨g, 6, none⟩ = some v6 ∧ (set8 w g v0 v1 v2 v3 v4 v5 v6 v7).cell? ⟨g, 7, none⟩ = some v7 := by
  have hb := blk_set8 h v0 v1 v2 v3 v4 v5 v6 v7
  exact ⟨hb.cell 0, hb.cell 1, hb.cell 2, hb.cell 3, hb.cell 4, hb.cell 5, hb.cell 6, hb.cell 7⟩

set_option maxRecDepth 100000 in
set_option maxHeartbeats 1000000 in
theorem again_early (k n seg size : Int) (w : World) (h : ¬ (1 ≤ n ∧ n ≤ 255 ∧ 1 ≤ k ∧ k ≤ n ∧ 1 ≤ seg)) :
    Calls Tryz.prog 13 #[.int .i64 k, .int .i64 n, .int .i64 seg, .int .i64 size] w fun e w' => Below w.heap.size w w' ∧ e = .returned (.tuple #[zeroShape, .int .i64 92]) := by
  by_cases c1 : n < 1
  · have g1 : decide (n < 1) = true := decide_eq_true c1
    clear h c1
    go_enter Tryz.func13, Tryz.ntmps13
    go_wp2_with fail
    go_quiet (fail)
    go_wp2
    go_returns
    refine ⟨?_, rfl⟩
    go_grown
    exact below_drewN ((Below.refl _ w).alloc (Nat.le_refl _) _) _
  · have g1 : decide (n < 1) = false := decide_eq_false c1
    by_cases c2 : 255 < n
    · have g2 : decide (255 < n) = true := decide_eq_true c2
      clear h c1 c2
      go_enter Tryz.func13, Tryz.ntmps13
      go_wp2_with fail
      go_quiet (fail)
      go_wp2
      go_returns
      refine ⟨?_, rfl⟩
      go_grown
      exact below_drewN ((Below.refl _ w).alloc (Nat.le_refl _) _) _
    · have g2 : decide (255 < n) = false := decide_eq_false c2
      by_cases c3 : k < 1
      · have g3 : decide (k < 1) = true := decide_eq_true c3
        clear h c1 c2 c3
        go_enter Tryz.func13, Tryz.ntmps13
        go_wp2_with fail
        go_quiet (fail)
        go_wp2
        go_returns
        refine ⟨?_, rfl⟩
        go_grown
        exact below_drewN ((Below.refl _ w).alloc (Nat.le_refl _) _) _
      · have g3 : decide (k < 1) = false := decide_eq_false c3
        by_cases c4 : n < k
        · have g4 : decide (n < k) = true := decide_eq_true c4
          clear h c1 c2 c3 c4
          go_enter Tryz.func13, Tryz.ntmps13
          go_wp2_with fail
          go_quiet (fail)
          go_wp2
          go_returns
          refine ⟨?_, rfl⟩
          go_grown
          exact below_drewN ((Below.refl _ w).alloc (Nat.le_refl _) _) _
        · have g4 : decide (n < k) = false := decide_eq_false c4
          have g5 : decide (seg < 1) = true := decide_eq_true (by omega)
          clear h c1 c2 c3 c4
          go_enter Tryz.func13, Tryz.ntmps13
          go_wp2_with fail
          go_quiet (fail)
          go_wp2
          go_returns
          refine ⟨?_, rfl⟩
          go_grown
          exact below_drewN ((Below.refl _ w).alloc (Nat.le_refl _) _) _

set_option maxRecDepth 100000 in
set_option maxHeartbeats 8000000 in
theorem again_late (k n seg : Nat) (size : Int) (w : World) (h : 1 ≤ n ∧ n ≤ 255 ∧ 1 ≤ k ∧ k ≤ n ∧ 1 ≤ seg) (hseg : (seg : Int) ≤ 9223372036854775807) (hsz : -9223372036854775808 ≤ size ∧ size ≤ 9223372036854775807)
    (hbad : ¬ (seg % k = 0 ∧ seg / k ≤ upN 65536 k ∧ 32 < size ∧ size ≤ 16777216)) :
    Calls Tryz.prog 13 #[.int .i64 (k : Int), .int .i64 (n : Int), .int .i64 (seg : Int), .int .i64 size] w fun e w' => Below w.heap.size w w' ∧ e = .returned (.tuple #[zeroShape, .int .i64 92]) := by
  have hu : ∀ w, Calls Tryz.prog 25 #[.int .i64 65536, .int .i64 (k : Int)] w fun e w' => e = .returned (.int .i64 (upN 65536 k : Int)) ∧ w = w' := fun w => up_any 65536 k w (by omega) (by omega) (by omega)
  have hul := upN_le 65536 k (by omega)
  obtain ⟨m, hm⟩ : ∃ m : Nat, m = seg % k := ⟨_, rfl⟩
  obtain ⟨q, hq⟩ : ∃ q : Nat, q = seg / k := ⟨_, rfl⟩
  have e1 : (seg : Int) % (k : Int) = (m : Int) := by rw [hm]; rfl
  have e2 : (seg : Int) / (k : Int) = (q : Int) := by rw [hq]; rfl
  have e3 : (seg : Int).tmod (k : Int) = (m : Int) := by rw [hm]; rfl
  have e4 : (seg : Int).tdiv (k : Int) = (q : Int) := by rw [hq]; rfl
  have hm2 : m < k := by rw [hm]; exact Nat.mod_lt _ (by omega)
  have hq2 : q ≤ seg := by rw [hq]; exact Nat.div_le_self _ _
  have e5 : ¬ k = 0 := by omega
  have e6 : ¬ (k : Int) = 0 := by omega
  rw [← hm, ← hq] at hbad
  generalize upN 65536 k = U at *
  have i1 : decide ((n : Int) < 1) = false := decide_eq_false (by omega)
  have i2 : decide ((255 : Int) < (n : Int)) = false := decide_eq_false (by omega)
  have i3 : decide ((k : Int) < 1) = false := decide_eq_false (by omega)
  have i4 : decide ((n : Int) < (k : Int)) = false := decide_eq_false (by omega)
  have i6 : decide (n < k) = false := decide_eq_false (by omega)
  have wq : IntKind.i64.wrap (q : Int) = (q : Int) := IntWalk.i64_in _ (by omega)
  have i5 : decide ((seg : Int) < 1) = false := decide_eq_false (by omega)
  clear hm hq
  by_cases c1 : m = 0
  · have c1' : ((m : Int) == 0) = true := beq_iff_eq.2 (by omega)
    by_cases c2 : U < q
    · have c2' : decide ((U : Int) < (q : Int)) = true := decide_eq_true (by omega)
      have c2n : decide (U < q) = true := decide_eq_true c2
      clear hbad
      go_enter Tryz.func13, Tryz.ntmps13
      go_wp2_with fail
      go_quiet ((go_at_call 25; exact Calls.quiet_of_same ((hu _).mono fun e w' ⟨h1, h2⟩ => ⟨h1, h2.symm⟩)))
      go_wp2
      go_returns
      refine ⟨?_, rfl⟩
      go_grown
      exact below_drewN ((Below.refl _ w).alloc (Nat.le_refl _) _) _
    · have c2' : decide ((U : Int) < (q : Int)) = false := decide_eq_false (by omega)
      have c2n : decide (U < q) = false := decide_eq_false c2
      by_cases c3 : size ≤ 32
      · have c3' : decide (size ≤ 32) = true := decide_eq_true c3
        clear hbad
        go_enter Tryz.func13, Tryz.ntmps13
        go_wp2_with fail
        go_quiet ((go_at_call 25; exact Calls.quiet_of_same ((hu _).mono fun e w' ⟨h1, h2⟩ => ⟨h1, h2.symm⟩)))
        go_wp2
        go_returns
        refine ⟨?_, rfl⟩
        go_grown
        exact below_drewN ((Below.refl _ w).alloc (Nat.le_refl _) _) _
      · have c3' : decide (size ≤ 32) = false := decide_eq_false c3
        have c4 : decide (16777216 < size) = true := decide_eq_true (by omega)
        clear hbad
        go_enter Tryz.func13, Tryz.ntmps13
        go_wp2_with fail
        go_quiet ((go_at_call 25; exact Calls.quiet_of_same ((hu _).mono fun e w' ⟨h1, h2⟩ => ⟨h1, h2.symm⟩)))
        go_wp2
        go_returns
        refine ⟨?_, rfl⟩
        go_grown
        exact below_drewN ((Below.refl _ w).alloc (Nat.le_refl _) _) _
  · have c1' : ((m : Int) == 0) = false := beq_eq_false_iff_ne.2 (by omega)
    clear hbad
    go_enter Tryz.func13, Tryz.ntmps13
    go_wp2_with fail
    go_quiet ((go_at_call 25; exact Calls.quiet_of_same ((hu _).mono fun e w' ⟨h1, h2⟩ => ⟨h1, h2.symm⟩)))
    go_wp2
    go_returns
    refine ⟨?_, rfl⟩
    go_grown
    exact below_drewN ((Below.refl _ w).alloc (Nat.le_refl _) _) _

set_option maxRecDepth 100000 in
set_option maxHeartbeats 8000000 in
theorem again_shape (k n seg size : Nat) (w : World) (h : 1 ≤ n ∧ n ≤ 255 ∧ 1 ≤ k ∧ k ≤ n ∧ 1 ≤ seg)
    (hok : seg % k = 0 ∧ seg / k ≤ upN 65536 k ∧ 32 < size ∧ size ≤ 16777216) :
    Calls Tryz.prog 13 #[.int .i64 (k : Int), .int .i64 (n : Int), .int .i64 (seg : Int), .int .i64 (size : Int)] w fun e w' => Below w.heap.size w w' ∧
      e = .returned (if upN size seg ≤ 512 then .tuple #[shapeV k n seg size, .int .i64 0] else .tuple #[zeroShape, .int .i64 92]) := by
  have hsg : seg ≤ 1048576 := by
    have h1 := Nat.div_add_mod seg k
    have h2 := upN_spec 65536 k (by omega) (by omega)
    have h3 : k * (seg / k) ≤ k * upN 65536 k := Nat.mul_le_mul_left k hok.2.1
    have h4 : (upN 65536 k - 1) * k < 65536 := h2.2.1
    have h5 : k * upN 65536 k = (upN 65536 k - 1) * k + k := by
      obtain ⟨u, hu⟩ : ∃ u, upN 65536 k = u + 1 := ⟨upN 65536 k - 1, by omega⟩
      rw [hu, Nat.add_sub_cancel, Nat.mul_add, Nat.mul_comm]; omega
    omega
  have hs := fun w => shape_any k n seg size w (by omega) (by omega) (by omega) hsg (by omega) (by omega)
  have hu : ∀ w, Calls Tryz.prog 25 #[.int .i64 65536, .int .i64 (k : Int)] w fun e w' => e = .returned (.int .i64 (upN 65536 k : Int)) ∧ w = w' := fun w => up_any 65536 k w (by omega) (by omega) (by omega)
  have hul := upN_le 65536 k (by omega)
  obtain ⟨m, hm⟩ : ∃ m : Nat, m = seg % k := ⟨_, rfl⟩
  obtain ⟨q, hq⟩ : ∃ q : Nat, q = seg / k := ⟨_, rfl⟩
  have e1 : (seg : Int) % (k : Int) = (m : Int) := by rw [hm]; rfl
  have e2 : (seg : Int) / (k : Int) = (q : Int) := by rw [hq]; rfl
  have e3 : (seg : Int).tmod (k : Int) = (m : Int) := by rw [hm]; rfl
  have e4 : (seg : Int).tdiv (k : Int) = (q : Int) := by rw [hq]; rfl
  have hm2 : m < k := by rw [hm]; exact Nat.mod_lt _ (by omega)
  have hq2 : q ≤ seg := by rw [hq]; exact Nat.div_le_self _ _
  have e5 : ¬ k = 0 := by omega
  have e6 : ¬ (k : Int) = 0 := by omega
  rw [← hm, ← hq] at hok
  have hS := hide hs
  unfold shapeV at hs
  have hQ := upN_le size seg (by omega)
  have HS : Hid (∀ w, Calls Tryz.prog 26 #[.int .i64 (k : Int), .int .i64 (n : Int), .int .i64 (seg : Int), .int .i64 (size : Int)] w fun e w' => ∃ z5 z6 z7 : Int, e = .returned (.agg #[.int .i64 (k : Int), .int .i64 (n : Int), .int .i64 (seg : Int), .int .i64 (size : Int), .int .i64 (upN size seg : Int), .int .i64 z5, .int .i64 z6, .int .i64 z7]) ∧ Below w.heap.size w w' ∧ shapeV k n seg size = .agg #[.int .i64 (k : Int), .int .i64 (n : Int), .int .i64 (seg : Int), .int .i64 (size : Int), .int .i64 (upN size seg : Int), .int .i64 z5, .int .i64 z6, .int .i64 z7]) := fun w =>
    (hs w).mono fun e w' ⟨h1, h2⟩ => ⟨_, _, _, h1, h2, rfl⟩
  clear hs hS
  generalize upN 65536 k = U at *
  generalize upN size seg = Z at *
  have i1 : decide ((n : Int) < 1) = false := decide_eq_false (by omega)
  have i2 : decide ((255 : Int) < (n : Int)) = false := decide_eq_false (by omega)
  have i3 : decide ((k : Int) < 1) = false := decide_eq_false (by omega)
  have i4 : decide ((n : Int) < (k : Int)) = false := decide_eq_false (by omega)
  have i6 : decide (n < k) = false := decide_eq_false (by omega)
  have wq : IntKind.i64.wrap (q : Int) = (q : Int) := IntWalk.i64_in _ (by omega)
  have i5 : decide ((seg : Int) < 1) = false := decide_eq_false (by omega)
  have c1 : m = 0 := hok.1
  have c1' : ((m : Int) == 0) = true := beq_iff_eq.2 (by omega)
  have c2' : decide ((U : Int) < (q : Int)) = false := decide_eq_false (by omega)
  have c2n : decide (U < q) = false := decide_eq_false (by omega)
  have c3n : decide (size ≤ 32) = false := decide_eq_false (by omega)
  have c4n : decide (16777216 < size) = false := decide_eq_false (by omega)
  have c3 : decide ((size : Int) ≤ 32) = false := decide_eq_false (by omega)
  have c4 : decide ((16777216 : Int) < (size : Int)) = false := decide_eq_false (by omega)
  clear hm hq hok
  by_cases c5 : Z ≤ 512
  · rw [if_pos c5]
    have c5' : ¬ (512 : Int) < (Z : Int) := by omega
    go_enter Tryz.func13, Tryz.ntmps13
    go_wp2_with fail
    go_quiet ((go_at_call 25; exact Calls.quiet_of_same ((hu _).mono fun e w' ⟨h1, h2⟩ => ⟨h1, h2.symm⟩)))
    go_wp2_with fail
    refine (HS.out _).mono ?_
    rintro e w2 ⟨z5, z6, z7, rfl, b2, hz⟩
    have hzz := hide hz
    have hbl : Blk w2 w.heap.size 38 #[.int .i64 0, .int .i64 0, .int .i64 0, .int .i64 0, .int .i64 0, .int .i64 0, .int .i64 0, .int .i64 0] := Blk.below' (Blk.drewN (Blk.new w _ _) _) b2
    have B2 : Hid (Below w.heap.size w w2) := (below_drewN ((Below.refl _ w).alloc (Nat.le_refl _) _) _).trans (b2.mono (by simp))
    have f0 : ∀ o, (w2.alloc o).cell? ⟨w.heap.size, 0, none⟩ = some (.int .i64 0) := fun o => (hbl.alloc o).cell 0
    have g0 := fun o => (hbl.alloc o).frozen 0
    have f1 : ∀ o, (w2.alloc o).cell? ⟨w.heap.size, 1, none⟩ = some (.int .i64 0) := fun o => (hbl.alloc o).cell 1
    have g1 := fun o => (hbl.alloc o).frozen 1
    have f2 : ∀ o, (w2.alloc o).cell? ⟨w.heap.size, 2, none⟩ = some (.int .i64 0) := fun o => (hbl.alloc o).cell 2
    have g2 := fun o => (hbl.alloc o).frozen 2
    have f3 : ∀ o, (w2.alloc o).cell? ⟨w.heap.size, 3, none⟩ = some (.int .i64 0) := fun o => (hbl.alloc o).cell 3
    have g3 := fun o => (hbl.alloc o).frozen 3
    have f4 : ∀ o, (w2.alloc o).cell? ⟨w.heap.size, 4, none⟩ = some (.int .i64 0) := fun o => (hbl.alloc o).cell 4
    have g4 := fun o => (hbl.alloc o).frozen 4
    have f5 : ∀ o, (w2.alloc o).cell? ⟨w.heap.size, 5, none⟩ = some (.int .i64 0) := fun o => (hbl.alloc o).cell 5
    have g5 := fun o => (hbl.alloc o).frozen 5
    have f6 : ∀ o, (w2.alloc o).cell? ⟨w.heap.size, 6, none⟩ = some (.int .i64 0) := fun o => (hbl.alloc o).cell 6
    have g6 := fun o => (hbl.alloc o).frozen 6
    have f7 : ∀ o, (w2.alloc o).cell? ⟨w.heap.size, 7, none⟩ = some (.int .i64 0) := fun o => (hbl.alloc o).cell 7
    have g7 := fun o => (hbl.alloc o).frozen 7
    have hc : ∀ o, _ := fun o => set8_cells (hbl.alloc o) (.int .i64 (k : Int)) (.int .i64 (n : Int)) (.int .i64 (seg : Int)) (.int .i64 (size : Int)) (.int .i64 (Z : Int)) (.int .i64 z5) (.int .i64 z6) (.int .i64 z7)
    unfold set8 at hc
    have HC := hide hc
    clear hc
    clear hz hbl b2
    go_wp2
    try simp only [Exit.inBlock, Exit.then]
    refine bodyPost_ret (v := .tuple #[.agg #[.int .i64 (k : Int), .int .i64 (n : Int), .int .i64 (seg : Int), .int .i64 (size : Int), .int .i64 (Z : Int), .int .i64 z5, .int .i64 z6, .int .i64 z7], .int .i64 0]) (by simp [results, Tryz.results13, go_sem, HC.out]) rfl ?_
    refine ⟨?_, by rw [hzz.out]⟩
    have hB2 := B2.out
    have hsz2 : w.heap.size ≤ w2.heap.size := hB2.size
    go_grown
  · rw [if_neg c5]
    have c5' : (512 : Int) < (Z : Int) := by omega
    go_enter Tryz.func13, Tryz.ntmps13
    go_wp2_with fail
    go_quiet ((go_at_call 25; exact Calls.quiet_of_same ((hu _).mono fun e w' ⟨h1, h2⟩ => ⟨h1, h2.symm⟩)))
    go_wp2_with fail
    refine (HS.out _).mono ?_
    rintro e w2 ⟨z5, z6, z7, rfl, b2, hz⟩
    have hzz := hide hz
    have hbl : Blk w2 w.heap.size 38 #[.int .i64 0, .int .i64 0, .int .i64 0, .int .i64 0, .int .i64 0, .int .i64 0, .int .i64 0, .int .i64 0] := Blk.below' (Blk.drewN (Blk.new w _ _) _) b2
    have B2 : Hid (Below w.heap.size w w2) := (below_drewN ((Below.refl _ w).alloc (Nat.le_refl _) _) _).trans (b2.mono (by simp))
    have f0 : ∀ o, (w2.alloc o).cell? ⟨w.heap.size, 0, none⟩ = some (.int .i64 0) := fun o => (hbl.alloc o).cell 0
    have g0 := fun o => (hbl.alloc o).frozen 0
    have f1 : ∀ o, (w2.alloc o).cell? ⟨w.heap.size, 1, none⟩ = some (.int .i64 0) := fun o => (hbl.alloc o).cell 1
    have g1 := fun o => (hbl.alloc o).frozen 1
    have f2 : ∀ o, (w2.alloc o).cell? ⟨w.heap.size, 2, none⟩ = some (.int .i64 0) := fun o => (hbl.alloc o).cell 2
    have g2 := fun o => (hbl.alloc o).frozen 2
    have f3 : ∀ o, (w2.alloc o).cell? ⟨w.heap.size, 3, none⟩ = some (.int .i64 0) := fun o => (hbl.alloc o).cell 3
    have g3 := fun o => (hbl.alloc o).frozen 3
    have f4 : ∀ o, (w2.alloc o).cell? ⟨w.heap.size, 4, none⟩ = some (.int .i64 0) := fun o => (hbl.alloc o).cell 4
    have g4 := fun o => (hbl.alloc o).frozen 4
    have f5 : ∀ o, (w2.alloc o).cell? ⟨w.heap.size, 5, none⟩ = some (.int .i64 0) := fun o => (hbl.alloc o).cell 5
    have g5 := fun o => (hbl.alloc o).frozen 5
    have f6 : ∀ o, (w2.alloc o).cell? ⟨w.heap.size, 6, none⟩ = some (.int .i64 0) := fun o => (hbl.alloc o).cell 6
    have g6 := fun o => (hbl.alloc o).frozen 6
    have f7 : ∀ o, (w2.alloc o).cell? ⟨w.heap.size, 7, none⟩ = some (.int .i64 0) := fun o => (hbl.alloc o).cell 7
    have g7 := fun o => (hbl.alloc o).frozen 7
    have hc : ∀ o, _ := fun o => set8_cells (hbl.alloc o) (.int .i64 0) (.int .i64 0) (.int .i64 0) (.int .i64 0) (.int .i64 0) (.int .i64 0) (.int .i64 0) (.int .i64 0)
    unfold set8 at hc
    have HC := hide hc
    clear hc
    clear hz hbl b2
    go_wp2
    try simp only [Exit.inBlock, Exit.then]
    refine bodyPost_ret (v := .tuple #[.agg #[.int .i64 0, .int .i64 0, .int .i64 0, .int .i64 0, .int .i64 0, .int .i64 0, .int .i64 0, .int .i64 0], .int .i64 92]) (by simp [results, Tryz.results13, go_sem, HC.out]) rfl ?_
    refine ⟨?_, rfl⟩
    have hB2 := B2.out
    have hsz2 : w.heap.size ≤ w2.heap.size := hB2.size
    go_grown
end Go.Proofs.YtbebgnjapenckaaGreatDoor

/- The contract of the program's Again at whatever numbers, and of Check. -/
namespace Go.Proofs.YtbebgnjapenckaaGreatDoor
open Go.RowKit

instance (k n seg size : Int) : Decidable (agOK k n seg size) := by unfold agOK; infer_instance

theorem again_any (k n seg size : Int) (w : World) (hk : -9223372036854775808 ≤ k ∧ k ≤ 9223372036854775807) (hn : -9223372036854775808 ≤ n ∧ n ≤ 9223372036854775807) (hs : -9223372036854775808 ≤ seg ∧ seg ≤ 9223372036854775807) (hz : -9223372036854775808 ≤ size ∧ size ≤ 9223372036854775807) :
    Calls Tryz.prog 13 #[.int .i64 k, .int .i64 n, .int .i64 seg, .int .i64 size] w fun e w' => Below w.heap.size w w' ∧
      e = .returned (if agOK k n seg size then .tuple #[shapeV k.toNat n.toNat seg.toNat size.toNat, .int .i64 0] else .tuple #[zeroShape, .int .i64 92]) := by
  by_cases h : 1 ≤ n ∧ n ≤ 255 ∧ 1 ≤ k ∧ k ≤ n ∧ 1 ≤ seg
  · obtain ⟨k, rfl⟩ : ∃ k' : Nat, k = (k' : Int) := ⟨k.toNat, by omega⟩
    obtain ⟨n, rfl⟩ : ∃ k' : Nat, n = (k' : Int) := ⟨n.toNat, by omega⟩
    obtain ⟨seg, rfl⟩ : ∃ k' : Nat, seg = (k' : Int) := ⟨seg.toNat, by omega⟩
    have hh : 1 ≤ n ∧ n ≤ 255 ∧ 1 ≤ k ∧ k ≤ n ∧ 1 ≤ seg := by omega
    have e1 : (seg : Int) % (k : Int) = ((seg % k : Nat) : Int) := rfl
    have e2 : (seg : Int) / (k : Int) = ((seg / k : Nat) : Int) := rfl
    by_cases hok : seg % k = 0 ∧ seg / k ≤ upN 65536 k ∧ 32 < size ∧ size ≤ 16777216
    · obtain ⟨z, rfl⟩ : ∃ k' : Nat, size = (k' : Int) := ⟨size.toNat, by omega⟩
      refine (again_shape k n seg z w hh (by omega)).mono ?_
      rintro e w' ⟨h1, h2⟩
      refine ⟨h1, ?_⟩
      rw [h2]
      have hag : agOK k n seg z ↔ upN z seg ≤ 512 := by
        unfold agOK
        simp only [Int.toNat_natCast]
        rw [e1, e2]
        omega
      by_cases h5 : upN z seg ≤ 512
      · rw [if_pos h5, if_pos (hag.2 h5)]; simp
      · rw [if_neg h5, if_neg (fun h => h5 (hag.1 h))]
    · refine (again_late k n seg size w hh (by omega) hz hok).mono ?_
      rintro e w' ⟨h1, h2⟩
      refine ⟨h1, ?_⟩
      rw [h2, if_neg]
      intro hag
      unfold agOK at hag
      simp only [Int.toNat_natCast] at hag
      rw [e1, e2] at hag
      omega
  · refine (again_early k n seg size w h).mono ?_
    rintro e w' ⟨h1, h2⟩
    refine ⟨h1, ?_⟩
    rw [h2, if_neg (fun hag => h hag.1)]

/-- A Ueb's value. -/
def uebC (k n seg size : Int) (d : List Value) : Array Value := (.int .i64 k :: .int .i64 n :: .int .i64 seg :: .int .i64 size :: d).toArray


set_option maxRecDepth 100000 in
set_option maxHeartbeats 1000000 in
theorem check_any_ueb (k n seg size : Int) (d : List Value) (w : World) (hk : -9223372036854775808 ≤ k ∧ k ≤ 9223372036854775807) (hn : -9223372036854775808 ≤ n ∧ n ≤ 9223372036854775807) (hs : -9223372036854775808 ≤ seg ∧ seg ≤ 9223372036854775807) (hz : -9223372036854775808 ≤ size ∧ size ≤ 9223372036854775807) :
    Calls Tryz.prog 82 #[.agg (uebC k n seg size d)] w fun e w' => Below w.heap.size w w' ∧ e = .returned (.int .i64 (if agOK k n seg size then 0 else 133)) := by
  have q := fun w => again_any k n seg size w hk hn hs hz
  have f0 : (uebC k n seg size d)[0]? = some (.int .i64 k) := rfl
  have f1 : (uebC k n seg size d)[1]? = some (.int .i64 n) := rfl
  have f2 : (uebC k n seg size d)[2]? = some (.int .i64 seg) := rfl
  have f3 : (uebC k n seg size d)[3]? = some (.int .i64 size) := rfl
  have hal := (Below.refl w.heap.size w).alloc (Nat.le_refl _) (.cells (uebC k n seg size d) 40)
  have Q := hide q
  have HAL := hide hal
  clear q hal
  generalize uebC k n seg size d = cs at *
  by_cases hag : agOK k n seg size
  · rw [if_pos hag]
    have HQ : Hid (∀ w, Calls Tryz.prog 13 #[.int .i64 k, .int .i64 n, .int .i64 seg, .int .i64 size] w fun e w' => Below w.heap.size w w' ∧ e = .returned (.tuple #[shapeV k.toNat n.toNat seg.toNat size.toNat, .int .i64 0])) := fun w => by have := Q.out w; rwa [if_pos hag] at this
    unfold shapeV at HQ
    clear Q
    go_enter Tryz.func82, Tryz.ntmps82
    go_wp2_with fail
    refine (HQ.out _).mono ?_
    rintro e w1 ⟨b1, rfl⟩
    have B1 := hide (HAL.out.trans (b1.mono HAL.out.size))
    clear b1 HQ
    go_wp2
    go_ret
    refine ⟨?_, rfl⟩
    have := B1.out
    have := B1.out.size
    go_grown
  · rw [if_neg hag]
    have HQ : Hid (∀ w, Calls Tryz.prog 13 #[.int .i64 k, .int .i64 n, .int .i64 seg, .int .i64 size] w fun e w' => Below w.heap.size w w' ∧ e = .returned (.tuple #[zeroShape, .int .i64 92])) := fun w => by have := Q.out w; rwa [if_neg hag] at this
    unfold zeroShape at HQ
    clear Q
    go_enter Tryz.func82, Tryz.ntmps82
    go_wp2_with fail
    refine (HQ.out _).mono ?_
    rintro e w1 ⟨b1, rfl⟩
    have B1 := hide (HAL.out.trans (b1.mono HAL.out.size))
    clear b1 HQ
    go_wp2
    go_ret
    refine ⟨?_, rfl⟩
    have := B1.out
    have := B1.out.size
    go_grown
end Go.Proofs.YtbebgnjapenckaaGreatDoor
