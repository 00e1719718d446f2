import Derived.Test.YtdohebhbiokljaaGreatDoorJ1
import Derived.Deep.RegionHeld3
import Derived.Deep.DrawnRows
import Derived.Laws.Cover1
import Derived.Deep.RegionHeld
import Derived.Handy
import Derived.BigQuiet
import Derived.Deep.QuietTactic
import Derived.KernelRfl
import Derived.Lib.AtoiTie
import Derived.Lib.ItoaNum
import Derived.Lib.ItoaMem
import Derived.Test.YtdohebhbiokljaaGreatDoorShelf
import Derived.Lib.LaidTab
import Derived.Lib.QuietBelow
import Derived.Laws.BitsAll
import Derived.Test.YtdohebhbiokljaaGreatDoorRows
import Derived.ProofKit
import Derived.Stop.LaidErr
set_option linter.all false
namespace Go.Proofs.YtdohebhbiokljaaGreatDoor
open Go.RowKit
attribute [local go_sem ↓] Go.wp_at_zero Go.wp_at_succ
def upN (a b : Nat) : Nat := (a + b - 1) / b
theorem wrap64_nat (n : Nat) (h : n < 9223372036854775808) : wrap64 (n : Int) = (n : Int) := by unfold wrap64; omega
set_option maxRecDepth 100000 in
set_option maxHeartbeats 400000 in
theorem up_any (a b : Nat) (w : World) (hb : 1 ≤ b) (hb2 : b ≤ 1099511627776) (ha : a ≤ 1099511627776) :
  Calls Tryz.prog 88 #[.int .i64 (a : Int), .int .i64 (b : Int)] w fun e w' => e = .returned (.int .i64 (upN a b : Int)) ∧ w = w' := by
 obtain ⟨c, hc⟩ : ∃ c : Nat, c = a + b - 1 := ⟨_, rfl⟩
 have e1 : (a : Int) + (b : Int) - 1 = (c : Int) := by omega
 have e4 : ¬ (b : Int) = 0 := by omega
 have hcb : c / b ≤ c := Nat.div_le_self _ _
 have hfin : wrap64 ((c : Int) / (b : Int)) = (upN a b : Int) := by
  have h1 : (c : Int) / (b : Int) = ((c / b : Nat) : Int) := rfl
  rw [h1, wrap64_nat _ (by omega)]
  unfold upN
  rw [hc]
 rw [hc] at hfin
 have HF := hide hfin
 clear hcb hfin
 go_enter Tryz.func88, Tryz.ntmps88
 go_wp2
 go_ret
 exact ⟨ret_int HF.out, rfl⟩
def shapeV (k n seg size : Nat) : Value := .agg #[.int .i64 (k : Int), .int .i64 (n : Int), .int .i64 (seg : Int), .int .i64 (size : Int), .int .i64 (upN size seg : Int), .int .i64 ((size - (upN size seg - 1) * seg : Nat) : Int), .int .i64 ((seg / k : Nat) : Int), .int .i64 (upN (size - (upN size seg - 1) * seg) k : Int)]
theorem upN_le (a b : Nat) (hb : 1 ≤ b) : upN a b ≤ a := by
 unfold upN
 rcases Nat.eq_zero_or_pos a with h | h
 ·subst h
  rw [Nat.zero_add, Nat.div_eq_of_lt (by omega)]
  exact Nat.le_refl _
 ·have : (a + b - 1) / b ≤ (a * b) / b := Nat.div_le_div_right (by
   have := Nat.mul_le_mul (show 1 ≤ a from h) (show 1 ≤ b from hb)
   obtain ⟨a', rfl⟩ : ∃ a', a = a' + 1 := ⟨a - 1, by omega⟩
   obtain ⟨b', rfl⟩ : ∃ b', b = b' + 1 := ⟨b - 1, by omega⟩
   have : (a' + 1) * (b' + 1) = a' * b' + a' + b' + 1 := by rw [Nat.add_mul, Nat.mul_add]; omega
   have := Nat.zero_le (a' * b')
   omega)
  rwa [Nat.mul_div_cancel _ (by omega)] at this
theorem upN_spec (a b : Nat) (hb : 1 ≤ b) (ha : 1 ≤ a) : 1 ≤ upN a b ∧ (upN a b - 1) * b < a ∧ a ≤ upN a b * b := by
 unfold upN
 have h1 := Nat.div_add_mod (a + b - 1) b
 have h2 := Nat.mod_lt (a + b - 1) (show 0 < b by omega)
 generalize (a + b - 1) / b = q at *
 have hq : 1 ≤ q := by
  rcases Nat.eq_zero_or_pos q with h | h
  ·subst h; rw [Nat.mul_zero] at h1; omega
  ·exact h
 obtain ⟨q', rfl⟩ : ∃ q', q = q' + 1 := ⟨q - 1, by omega⟩
 rw [Nat.mul_add, Nat.mul_comm b q'] at h1
 rw [Nat.add_sub_cancel, Nat.add_mul]
 generalize q' * b = z at *
 omega
set_option maxRecDepth 100000 in
set_option maxHeartbeats 4000000 in
theorem shape_any (k n seg size : Nat) (w : World) (hk : 1 ≤ k) (hk2 : k ≤ 1048576) (hs : 1 ≤ seg) (hs2 : seg ≤ 1048576) (hz : 1 ≤ size) (hz2 : size ≤ 16777216) :
  Calls Tryz.prog 89 #[.int .i64 (k : Int), .int .i64 (n : Int), .int .i64 (seg : Int), .int .i64 (size : Int)] w fun e w' => e = .returned (shapeV k n seg size) ∧ Below w.heap.size w w' := by
 have u1 := fun w => up_any size seg w hs (by omega) (by omega)
 have h1 := upN_spec size seg hs hz
 have h2 := upN_le size seg hs
 have ht : size - (upN size seg - 1) * seg ≤ size := Nat.sub_le _ _
 have u2 := fun w => up_any (size - (upN size seg - 1) * seg) k w hk (by omega) (by omega)
 unfold shapeV
 generalize hA : upN size seg = A at *
 have h3 : ((A - 1) * seg : Nat) ≤ size := by omega
 have e1 : ((A : Int) - 1) * (seg : Int) = (((A - 1) * seg : Nat) : Int) := by rw [Int.natCast_mul]; congr 1; omega
 generalize hB : (A - 1) * seg = B at *
 generalize hC : upN (size - B) k = C at *
 obtain ⟨q, hq⟩ : ∃ q : Nat, q = seg / k := ⟨_, rfl⟩
 have e2 : (seg : Int) / (k : Int) = (q : Int) := by rw [hq]; rfl
 have hq2 : q ≤ 1048576 := by have := Nat.div_le_self seg k; omega
 have e4 : ¬ k = 0 := by omega
 rw [← hq]
 clear h1 hB hA hC hq
 go_enter Tryz.func89, Tryz.ntmps89
 go_wp2_with fail
 go_region_held3 (fun _ => True) (trivial) ((go_at_call 88; (with_reducible refine (u1 _).mono ?_); rintro e w1 ⟨rfl, rfl⟩))
 all_goals
  go_wp2_with fail
  rw [show (size : Int) - (B : Int) = ((size - B : Nat) : Int) by omega]
  refine (u2 _).mono ?_
  rintro e w2 ⟨rfl, rfl⟩
  go_wp2
  go_returns
  refine ⟨rfl, ?_⟩
  go_grown
end Go.Proofs.YtdohebhbiokljaaGreatDoor
namespace Go.Proofs.YtdohebhbiokljaaGreatDoor
open Go.RowKit
attribute [local go_sem ↓] Go.wp_at_zero Go.wp_at_succ
def agOK (k n seg size : Int) : Prop := (1 ≤ n ∧ n ≤ 255 ∧ 1 ≤ k ∧ k ≤ n ∧ 1 ≤ seg) ∧ seg % k = 0 ∧ seg / k ≤ (upN 65536 k.toNat : Int) ∧ 32 < size ∧ size ≤ 16777216 ∧ upN size.toNat seg.toNat ≤ 512
def zeroShape : Value := .agg #[.int .i64 0, .int .i64 0, .int .i64 0, .int .i64 0, .int .i64 0, .int .i64 0, .int .i64 0, .int .i64 0]
def set8 (w : World) (g : Nat) (v0 v1 v2 v3 v4 v5 v6 v7 : Value) : World :=
 (((((((w.setCell ⟨g, 0, none⟩ v0).setCell ⟨g, 1, none⟩ v1).setCell ⟨g, 2, none⟩ v2).setCell ⟨g, 3, none⟩ v3).setCell ⟨g, 4, none⟩ v4).setCell ⟨g, 5, none⟩ v5).setCell ⟨g, 6, none⟩ v6).setCell ⟨g, 7, none⟩ v7
theorem blk_set8 {w : World} {g : Nat} {t : TypeId} {a0 a1 a2 a3 a4 a5 a6 a7 : Value} (h : Blk w g t #[a0, a1, a2, a3, a4, a5, a6, a7]) (v0 v1 v2 v3 v4 v5 v6 v7 : Value) :
  Blk (set8 w g v0 v1 v2 v3 v4 v5 v6 v7) g t #[v0, v1, v2, v3, v4, v5, v6, v7] := by
 have := (((((((h.set_ 0 v0).set_ 1 v1).set_ 2 v2).set_ 3 v3).set_ 4 v4).set_ 5 v5).set_ 6 v6).set_ 7 v7
 simpa [set8] using this
theorem set8_cells {w : World} {g : Nat} {t : TypeId} {a0 a1 a2 a3 a4 a5 a6 a7 : Value} (h : Blk w g t #[a0, a1, a2, a3, a4, a5, a6, a7]) (v0 v1 v2 v3 v4 v5 v6 v7 : Value) :
  (set8 w g v0 v1 v2 v3 v4 v5 v6 v7).cell? ⟨g, 0, none⟩ = some v0 ∧ (set8 w g v0 v1 v2 v3 v4 v5 v6 v7).cell? ⟨g, 1, none⟩ = some v1 ∧ (set8 w g v0 v1 v2 v3 v4 v5 v6 v7).cell? ⟨g, 2, none⟩ = some v2 ∧ (set8 w g v0 v1 v2 v3 v4 v5 v6 v7).cell? ⟨g, 3, none⟩ = some v3 ∧
  (set8 w g v0 v1 v2 v3 v4 v5 v6 v7).cell? ⟨g, 4, none⟩ = some v4 ∧ (set8 w g v0 v1 v2 v3 v4 v5 v6 v7).cell? ⟨g, 5, none⟩ = some v5 ∧ (set8 w g v0 v1 v2 v3 v4 v5 v6 v7).cell? ⟨g, 6, none⟩ = some v6 ∧ (set8 w g v0 v1 v2 v3 v4 v5 v6 v7).cell? ⟨g, 7, none⟩ = some v7 := by
 have hb := blk_set8 h v0 v1 v2 v3 v4 v5 v6 v7
 exact ⟨hb.cell 0, hb.cell 1, hb.cell 2, hb.cell 3, hb.cell 4, hb.cell 5, hb.cell 6, hb.cell 7⟩
set_option maxRecDepth 100000 in
set_option maxHeartbeats 1000000 in
theorem again_early (k n seg size : Int) (w : World) (h : ¬ (1 ≤ n ∧ n ≤ 255 ∧ 1 ≤ k ∧ k ≤ n ∧ 1 ≤ seg)) :
  Calls Tryz.prog 64 #[.int .i64 k, .int .i64 n, .int .i64 seg, .int .i64 size] w fun e w' => Below w.heap.size w w' ∧ e = .returned (.tuple #[zeroShape, .int .i64 92]) := by
 by_cases c1 : n < 1
 ·have g1 : decide (n < 1) = true := decide_eq_true c1
  clear h c1
  go_enter Tryz.func64, Tryz.ntmps64
  go_wp2_with fail
  go_quiet (fail)
  go_wp2
  go_returns
  refine ⟨?_, rfl⟩
  go_grown
  exact below_drewN ((Below.refl _ w).alloc (Nat.le_refl _) _) _
 ·have g1 : decide (n < 1) = false := decide_eq_false c1
  by_cases c2 : 255 < n
  ·have g2 : decide (255 < n) = true := decide_eq_true c2
   clear h c1 c2
   go_enter Tryz.func64, Tryz.ntmps64
   go_wp2_with fail
   go_quiet (fail)
   go_wp2
   go_returns
   refine ⟨?_, rfl⟩
   go_grown
   exact below_drewN ((Below.refl _ w).alloc (Nat.le_refl _) _) _
  ·have g2 : decide (255 < n) = false := decide_eq_false c2
   by_cases c3 : k < 1
   ·have g3 : decide (k < 1) = true := decide_eq_true c3
    clear h c1 c2 c3
    go_enter Tryz.func64, Tryz.ntmps64
    go_wp2_with fail
    go_quiet (fail)
    go_wp2
    go_returns
    refine ⟨?_, rfl⟩
    go_grown
    exact below_drewN ((Below.refl _ w).alloc (Nat.le_refl _) _) _
   ·have g3 : decide (k < 1) = false := decide_eq_false c3
    by_cases c4 : n < k
    ·have g4 : decide (n < k) = true := decide_eq_true c4
     clear h c1 c2 c3 c4
     go_enter Tryz.func64, Tryz.ntmps64
     go_wp2_with fail
     go_quiet (fail)
     go_wp2
     go_returns
     refine ⟨?_, rfl⟩
     go_grown
     exact below_drewN ((Below.refl _ w).alloc (Nat.le_refl _) _) _
    ·have g4 : decide (n < k) = false := decide_eq_false c4
     have g5 : decide (seg < 1) = true := decide_eq_true (by omega)
     clear h c1 c2 c3 c4
     go_enter Tryz.func64, Tryz.ntmps64
     go_wp2_with fail
     go_quiet (fail)
     go_wp2
     go_returns
     refine ⟨?_, rfl⟩
     go_grown
     exact below_drewN ((Below.refl _ w).alloc (Nat.le_refl _) _) _
set_option maxRecDepth 100000 in
set_option maxHeartbeats 8000000 in
theorem again_late (k n seg : Nat) (size : Int) (w : World) (h : 1 ≤ n ∧ n ≤ 255 ∧ 1 ≤ k ∧ k ≤ n ∧ 1 ≤ seg) (hseg : (seg : Int) ≤ 9223372036854775807) (hsz : -9223372036854775808 ≤ size ∧ size ≤ 9223372036854775807)
  (hbad : ¬ (seg % k = 0 ∧ seg / k ≤ upN 65536 k ∧ 32 < size ∧ size ≤ 16777216)) :
  Calls Tryz.prog 64 #[.int .i64 (k : Int), .int .i64 (n : Int), .int .i64 (seg : Int), .int .i64 size] w fun e w' => Below w.heap.size w w' ∧ e = .returned (.tuple #[zeroShape, .int .i64 92]) := by
 have hu : ∀ w, Calls Tryz.prog 88 #[.int .i64 65536, .int .i64 (k : Int)] w fun e w' => e = .returned (.int .i64 (upN 65536 k : Int)) ∧ w = w' := fun w => up_any 65536 k w (by omega) (by omega) (by omega)
 have hul := upN_le 65536 k (by omega)
 obtain ⟨m, hm⟩ : ∃ m : Nat, m = seg % k := ⟨_, rfl⟩
 obtain ⟨q, hq⟩ : ∃ q : Nat, q = seg / k := ⟨_, rfl⟩
 have e1 : (seg : Int) % (k : Int) = (m : Int) := by rw [hm]; rfl
 have e2 : (seg : Int) / (k : Int) = (q : Int) := by rw [hq]; rfl
 have e3 : (seg : Int).tmod (k : Int) = (m : Int) := by rw [hm]; rfl
 have e4 : (seg : Int).tdiv (k : Int) = (q : Int) := by rw [hq]; rfl
 have hm2 : m < k := by rw [hm]; exact Nat.mod_lt _ (by omega)
 have hq2 : q ≤ seg := by rw [hq]; exact Nat.div_le_self _ _
 have e5 : ¬ k = 0 := by omega
 have e6 : ¬ (k : Int) = 0 := by omega
 rw [← hm, ← hq] at hbad
 generalize upN 65536 k = U at *
 have i1 : decide ((n : Int) < 1) = false := decide_eq_false (by omega)
 have i2 : decide ((255 : Int) < (n : Int)) = false := decide_eq_false (by omega)
 have i3 : decide ((k : Int) < 1) = false := decide_eq_false (by omega)
 have i4 : decide ((n : Int) < (k : Int)) = false := decide_eq_false (by omega)
 have i6 : decide (n < k) = false := decide_eq_false (by omega)
 have wq : IntKind.i64.wrap (q : Int) = (q : Int) := IntWalk.i64_in _ (by omega)
 have i5 : decide ((seg : Int) < 1) = false := decide_eq_false (by omega)
 clear hm hq
 by_cases c1 : m = 0
 ·have c1' : ((m : Int) == 0) = true := beq_iff_eq.2 (by omega)
  by_cases c2 : U < q
  ·have c2' : decide ((U : Int) < (q : Int)) = true := decide_eq_true (by omega)
   have c2n : decide (U < q) = true := decide_eq_true c2
   clear hbad
   go_enter Tryz.func64, Tryz.ntmps64
   go_wp2_with fail
   go_quiet ((go_at_call 88; exact Calls.quiet_of_same ((hu _).mono fun e w' ⟨h1, h2⟩ => ⟨h1, h2.symm⟩)))
   go_wp2
   go_returns
   refine ⟨?_, rfl⟩
   go_grown
   exact below_drewN ((Below.refl _ w).alloc (Nat.le_refl _) _) _
  ·have c2' : decide ((U : Int) < (q : Int)) = false := decide_eq_false (by omega)
   have c2n : decide (U < q) = false := decide_eq_false c2
   by_cases c3 : size ≤ 32
   ·have c3' : decide (size ≤ 32) = true := decide_eq_true c3
    clear hbad
    go_enter Tryz.func64, Tryz.ntmps64
    go_wp2_with fail
    go_quiet ((go_at_call 88; exact Calls.quiet_of_same ((hu _).mono fun e w' ⟨h1, h2⟩ => ⟨h1, h2.symm⟩)))
    go_wp2
    go_returns
    refine ⟨?_, rfl⟩
    go_grown
    exact below_drewN ((Below.refl _ w).alloc (Nat.le_refl _) _) _
   ·have c3' : decide (size ≤ 32) = false := decide_eq_false c3
    have c4 : decide (16777216 < size) = true := decide_eq_true (by omega)
    clear hbad
    go_enter Tryz.func64, Tryz.ntmps64
    go_wp2_with fail
    go_quiet ((go_at_call 88; exact Calls.quiet_of_same ((hu _).mono fun e w' ⟨h1, h2⟩ => ⟨h1, h2.symm⟩)))
    go_wp2
    go_returns
    refine ⟨?_, rfl⟩
    go_grown
    exact below_drewN ((Below.refl _ w).alloc (Nat.le_refl _) _) _
 ·have c1' : ((m : Int) == 0) = false := beq_eq_false_iff_ne.2 (by omega)
  clear hbad
  go_enter Tryz.func64, Tryz.ntmps64
  go_wp2_with fail
  go_quiet ((go_at_call 88; exact Calls.quiet_of_same ((hu _).mono fun e w' ⟨h1, h2⟩ => ⟨h1, h2.symm⟩)))
  go_wp2
  go_returns
  refine ⟨?_, rfl⟩
  go_grown
  exact below_drewN ((Below.refl _ w).alloc (Nat.le_refl _) _) _
set_option maxRecDepth 100000 in
set_option maxHeartbeats 8000000 in
theorem again_shape (k n seg size : Nat) (w : World) (h : 1 ≤ n ∧ n ≤ 255 ∧ 1 ≤ k ∧ k ≤ n ∧ 1 ≤ seg)
  (hok : seg % k = 0 ∧ seg / k ≤ upN 65536 k ∧ 32 < size ∧ size ≤ 16777216) :
  Calls Tryz.prog 64 #[.int .i64 (k : Int), .int .i64 (n : Int), .int .i64 (seg : Int), .int .i64 (size : Int)] w fun e w' => Below w.heap.size w w' ∧
   e = .returned (if upN size seg ≤ 512 then .tuple #[shapeV k n seg size, .int .i64 0] else .tuple #[zeroShape, .int .i64 92]) := by
 have hsg : seg ≤ 1048576 := by
  have h1 := Nat.div_add_mod seg k
  have h2 := upN_spec 65536 k (by omega) (by omega)
  have h3 : k * (seg / k) ≤ k * upN 65536 k := Nat.mul_le_mul_left k hok.2.1
  have h4 : (upN 65536 k - 1) * k < 65536 := h2.2.1
  have h5 : k * upN 65536 k = (upN 65536 k - 1) * k + k := by
   obtain ⟨u, hu⟩ : ∃ u, upN 65536 k = u + 1 := ⟨upN 65536 k - 1, by omega⟩
   rw [hu, Nat.add_sub_cancel, Nat.mul_add, Nat.mul_comm]; omega
  omega
 have hs := fun w => shape_any k n seg size w (by omega) (by omega) (by omega) hsg (by omega) (by omega)
 have hu : ∀ w, Calls Tryz.prog 88 #[.int .i64 65536, .int .i64 (k : Int)] w fun e w' => e = .returned (.int .i64 (upN 65536 k : Int)) ∧ w = w' := fun w => up_any 65536 k w (by omega) (by omega) (by omega)
 have hul := upN_le 65536 k (by omega)
 obtain ⟨m, hm⟩ : ∃ m : Nat, m = seg % k := ⟨_, rfl⟩
 obtain ⟨q, hq⟩ : ∃ q : Nat, q = seg / k := ⟨_, rfl⟩
 have e1 : (seg : Int) % (k : Int) = (m : Int) := by rw [hm]; rfl
 have e2 : (seg : Int) / (k : Int) = (q : Int) := by rw [hq]; rfl
 have e3 : (seg : Int).tmod (k : Int) = (m : Int) := by rw [hm]; rfl
 have e4 : (seg : Int).tdiv (k : Int) = (q : Int) := by rw [hq]; rfl
 have hm2 : m < k := by rw [hm]; exact Nat.mod_lt _ (by omega)
 have hq2 : q ≤ seg := by rw [hq]; exact Nat.div_le_self _ _
 have e5 : ¬ k = 0 := by omega
 have e6 : ¬ (k : Int) = 0 := by omega
 rw [← hm, ← hq] at hok
 have hS := hide hs
 unfold shapeV at hs
 have hQ := upN_le size seg (by omega)
 have HS : Hid (∀ w, Calls Tryz.prog 89 #[.int .i64 (k : Int), .int .i64 (n : Int), .int .i64 (seg : Int), .int .i64 (size : Int)] w fun e w' => ∃ z5 z6 z7 : Int, e = .returned (.agg #[.int .i64 (k : Int), .int .i64 (n : Int), .int .i64 (seg : Int), .int .i64 (size : Int), .int .i64 (upN size seg : Int), .int .i64 z5, .int .i64 z6, .int .i64 z7]) ∧ Below w.heap.size w w' ∧ shapeV k n seg size = .agg #[.int .i64 (k : Int), .int .i64 (n : Int), .int .i64 (seg : Int), .int .i64 (size : Int), .int .i64 (upN size seg : Int), .int .i64 z5, .int .i64 z6, .int .i64 z7]) := fun w =>
  (hs w).mono fun e w' ⟨h1, h2⟩ => ⟨_, _, _, h1, h2, rfl⟩
 clear hs hS
 generalize upN 65536 k = U at *
 generalize upN size seg = Z at *
 have i1 : decide ((n : Int) < 1) = false := decide_eq_false (by omega)
 have i2 : decide ((255 : Int) < (n : Int)) = false := decide_eq_false (by omega)
 have i3 : decide ((k : Int) < 1) = false := decide_eq_false (by omega)
 have i4 : decide ((n : Int) < (k : Int)) = false := decide_eq_false (by omega)
 have i6 : decide (n < k) = false := decide_eq_false (by omega)
 have wq : IntKind.i64.wrap (q : Int) = (q : Int) := IntWalk.i64_in _ (by omega)
 have i5 : decide ((seg : Int) < 1) = false := decide_eq_false (by omega)
 have c1 : m = 0 := hok.1
 have c1' : ((m : Int) == 0) = true := beq_iff_eq.2 (by omega)
 have c2' : decide ((U : Int) < (q : Int)) = false := decide_eq_false (by omega)
 have c2n : decide (U < q) = false := decide_eq_false (by omega)
 have c3n : decide (size ≤ 32) = false := decide_eq_false (by omega)
 have c4n : decide (16777216 < size) = false := decide_eq_false (by omega)
 have c3 : decide ((size : Int) ≤ 32) = false := decide_eq_false (by omega)
 have c4 : decide ((16777216 : Int) < (size : Int)) = false := decide_eq_false (by omega)
 clear hm hq hok
 by_cases c5 : Z ≤ 512
 ·rw [if_pos c5]
  have c5' : ¬ (512 : Int) < (Z : Int) := by omega
  go_enter Tryz.func64, Tryz.ntmps64
  go_wp2_with fail
  go_quiet ((go_at_call 88; exact Calls.quiet_of_same ((hu _).mono fun e w' ⟨h1, h2⟩ => ⟨h1, h2.symm⟩)))
  go_wp2_with fail
  refine (HS.out _).mono ?_
  rintro e w2 ⟨z5, z6, z7, rfl, b2, hz⟩
  have hzz := hide hz
  have hbl : Blk w2 w.heap.size 54 #[.int .i64 0, .int .i64 0, .int .i64 0, .int .i64 0, .int .i64 0, .int .i64 0, .int .i64 0, .int .i64 0] := Blk.below' (Blk.drewN (Blk.new w _ _) _) b2
  have B2 : Hid (Below w.heap.size w w2) := (below_drewN ((Below.refl _ w).alloc (Nat.le_refl _) _) _).trans (b2.mono (by simp))
  have f0 : ∀ o, (w2.alloc o).cell? ⟨w.heap.size, 0, none⟩ = some (.int .i64 0) := fun o => (hbl.alloc o).cell 0
  have g0 := fun o => (hbl.alloc o).frozen 0
  have f1 : ∀ o, (w2.alloc o).cell? ⟨w.heap.size, 1, none⟩ = some (.int .i64 0) := fun o => (hbl.alloc o).cell 1
  have g1 := fun o => (hbl.alloc o).frozen 1
  have f2 : ∀ o, (w2.alloc o).cell? ⟨w.heap.size, 2, none⟩ = some (.int .i64 0) := fun o => (hbl.alloc o).cell 2
  have g2 := fun o => (hbl.alloc o).frozen 2
  have f3 : ∀ o, (w2.alloc o).cell? ⟨w.heap.size, 3, none⟩ = some (.int .i64 0) := fun o => (hbl.alloc o).cell 3
  have g3 := fun o => (hbl.alloc o).frozen 3
  have f4 : ∀ o, (w2.alloc o).cell? ⟨w.heap.size, 4, none⟩ = some (.int .i64 0) := fun o => (hbl.alloc o).cell 4
  have g4 := fun o => (hbl.alloc o).frozen 4
  have f5 : ∀ o, (w2.alloc o).cell? ⟨w.heap.size, 5, none⟩ = some (.int .i64 0) := fun o => (hbl.alloc o).cell 5
  have g5 := fun o => (hbl.alloc o).frozen 5
  have f6 : ∀ o, (w2.alloc o).cell? ⟨w.heap.size, 6, none⟩ = some (.int .i64 0) := fun o => (hbl.alloc o).cell 6
  have g6 := fun o => (hbl.alloc o).frozen 6
  have f7 : ∀ o, (w2.alloc o).cell? ⟨w.heap.size, 7, none⟩ = some (.int .i64 0) := fun o => (hbl.alloc o).cell 7
  have g7 := fun o => (hbl.alloc o).frozen 7
  have hc : ∀ o, _ := fun o => set8_cells (hbl.alloc o) (.int .i64 (k : Int)) (.int .i64 (n : Int)) (.int .i64 (seg : Int)) (.int .i64 (size : Int)) (.int .i64 (Z : Int)) (.int .i64 z5) (.int .i64 z6) (.int .i64 z7)
  unfold set8 at hc
  have HC := hide hc
  clear hc
  clear hz hbl b2
  go_wp2
  try simp only [Exit.inBlock, Exit.then]
  refine bodyPost_ret (v := .tuple #[.agg #[.int .i64 (k : Int), .int .i64 (n : Int), .int .i64 (seg : Int), .int .i64 (size : Int), .int .i64 (Z : Int), .int .i64 z5, .int .i64 z6, .int .i64 z7], .int .i64 0]) (by simp [results, Tryz.results64, go_sem, HC.out]) rfl ?_
  refine ⟨?_, by rw [hzz.out]⟩
  have hB2 := B2.out
  have hsz2 : w.heap.size ≤ w2.heap.size := hB2.size
  go_grown
 ·rw [if_neg c5]
  have c5' : (512 : Int) < (Z : Int) := by omega
  go_enter Tryz.func64, Tryz.ntmps64
  go_wp2_with fail
  go_quiet ((go_at_call 88; exact Calls.quiet_of_same ((hu _).mono fun e w' ⟨h1, h2⟩ => ⟨h1, h2.symm⟩)))
  go_wp2_with fail
  refine (HS.out _).mono ?_
  rintro e w2 ⟨z5, z6, z7, rfl, b2, hz⟩
  have hzz := hide hz
  have hbl : Blk w2 w.heap.size 54 #[.int .i64 0, .int .i64 0, .int .i64 0, .int .i64 0, .int .i64 0, .int .i64 0, .int .i64 0, .int .i64 0] := Blk.below' (Blk.drewN (Blk.new w _ _) _) b2
  have B2 : Hid (Below w.heap.size w w2) := (below_drewN ((Below.refl _ w).alloc (Nat.le_refl _) _) _).trans (b2.mono (by simp))
  have f0 : ∀ o, (w2.alloc o).cell? ⟨w.heap.size, 0, none⟩ = some (.int .i64 0) := fun o => (hbl.alloc o).cell 0
  have g0 := fun o => (hbl.alloc o).frozen 0
  have f1 : ∀ o, (w2.alloc o).cell? ⟨w.heap.size, 1, none⟩ = some (.int .i64 0) := fun o => (hbl.alloc o).cell 1
  have g1 := fun o => (hbl.alloc o).frozen 1
  have f2 : ∀ o, (w2.alloc o).cell? ⟨w.heap.size, 2, none⟩ = some (.int .i64 0) := fun o => (hbl.alloc o).cell 2
  have g2 := fun o => (hbl.alloc o).frozen 2
  have f3 : ∀ o, (w2.alloc o).cell? ⟨w.heap.size, 3, none⟩ = some (.int .i64 0) := fun o => (hbl.alloc o).cell 3
  have g3 := fun o => (hbl.alloc o).frozen 3
  have f4 : ∀ o, (w2.alloc o).cell? ⟨w.heap.size, 4, none⟩ = some (.int .i64 0) := fun o => (hbl.alloc o).cell 4
  have g4 := fun o => (hbl.alloc o).frozen 4
  have f5 : ∀ o, (w2.alloc o).cell? ⟨w.heap.size, 5, none⟩ = some (.int .i64 0) := fun o => (hbl.alloc o).cell 5
  have g5 := fun o => (hbl.alloc o).frozen 5
  have f6 : ∀ o, (w2.alloc o).cell? ⟨w.heap.size, 6, none⟩ = some (.int .i64 0) := fun o => (hbl.alloc o).cell 6
  have g6 := fun o => (hbl.alloc o).frozen 6
  have f7 : ∀ o, (w2.alloc o).cell? ⟨w.heap.size, 7, none⟩ = some (.int .i64 0) := fun o => (hbl.alloc o).cell 7
  have g7 := fun o => (hbl.alloc o).frozen 7
  have hc : ∀ o, _ := fun o => set8_cells (hbl.alloc o) (.int .i64 0) (.int .i64 0) (.int .i64 0) (.int .i64 0) (.int .i64 0) (.int .i64 0) (.int .i64 0) (.int .i64 0)
  unfold set8 at hc
  have HC := hide hc
  clear hc
  clear hz hbl b2
  go_wp2
  try simp only [Exit.inBlock, Exit.then]
  refine bodyPost_ret (v := .tuple #[.agg #[.int .i64 0, .int .i64 0, .int .i64 0, .int .i64 0, .int .i64 0, .int .i64 0, .int .i64 0, .int .i64 0], .int .i64 92]) (by simp [results, Tryz.results64, go_sem, HC.out]) rfl ?_
  refine ⟨?_, rfl⟩
  have hB2 := B2.out
  have hsz2 : w.heap.size ≤ w2.heap.size := hB2.size
  go_grown
end Go.Proofs.YtdohebhbiokljaaGreatDoor
namespace Go.Proofs.YtdohebhbiokljaaGreatDoor
open Go.RowKit
instance (k n seg size : Int) : Decidable (agOK k n seg size) := by unfold agOK; infer_instance
theorem again_any (k n seg size : Int) (w : World) (hk : -9223372036854775808 ≤ k ∧ k ≤ 9223372036854775807) (hn : -9223372036854775808 ≤ n ∧ n ≤ 9223372036854775807) (hs : -9223372036854775808 ≤ seg ∧ seg ≤ 9223372036854775807) (hz : -9223372036854775808 ≤ size ∧ size ≤ 9223372036854775807) :
  Calls Tryz.prog 64 #[.int .i64 k, .int .i64 n, .int .i64 seg, .int .i64 size] w fun e w' => Below w.heap.size w w' ∧
   e = .returned (if agOK k n seg size then .tuple #[shapeV k.toNat n.toNat seg.toNat size.toNat, .int .i64 0] else .tuple #[zeroShape, .int .i64 92]) := by
 by_cases h : 1 ≤ n ∧ n ≤ 255 ∧ 1 ≤ k ∧ k ≤ n ∧ 1 ≤ seg
 ·obtain ⟨k, rfl⟩ : ∃ k' : Nat, k = (k' : Int) := ⟨k.toNat, by omega⟩
  obtain ⟨n, rfl⟩ : ∃ k' : Nat, n = (k' : Int) := ⟨n.toNat, by omega⟩
  obtain ⟨seg, rfl⟩ : ∃ k' : Nat, seg = (k' : Int) := ⟨seg.toNat, by omega⟩
  have hh : 1 ≤ n ∧ n ≤ 255 ∧ 1 ≤ k ∧ k ≤ n ∧ 1 ≤ seg := by omega
  have e1 : (seg : Int) % (k : Int) = ((seg % k : Nat) : Int) := rfl
  have e2 : (seg : Int) / (k : Int) = ((seg / k : Nat) : Int) := rfl
  by_cases hok : seg % k = 0 ∧ seg / k ≤ upN 65536 k ∧ 32 < size ∧ size ≤ 16777216
  ·obtain ⟨z, rfl⟩ : ∃ k' : Nat, size = (k' : Int) := ⟨size.toNat, by omega⟩
   refine (again_shape k n seg z w hh (by omega)).mono ?_
   rintro e w' ⟨h1, h2⟩
   refine ⟨h1, ?_⟩
   rw [h2]
   have hag : agOK k n seg z ↔ upN z seg ≤ 512 := by
    unfold agOK
    simp only [Int.toNat_natCast]
    rw [e1, e2]
    omega
   by_cases h5 : upN z seg ≤ 512
   ·rw [if_pos h5, if_pos (hag.2 h5)]; simp
   ·rw [if_neg h5, if_neg (fun h => h5 (hag.1 h))]
  ·refine (again_late k n seg size w hh (by omega) hz hok).mono ?_
   rintro e w' ⟨h1, h2⟩
   refine ⟨h1, ?_⟩
   rw [h2, if_neg]
   intro hag
   unfold agOK at hag
   simp only [Int.toNat_natCast] at hag
   rw [e1, e2] at hag
   omega
 ·refine (again_early k n seg size w h).mono ?_
  rintro e w' ⟨h1, h2⟩
  refine ⟨h1, ?_⟩
  rw [h2, if_neg (fun hag => h hag.1)]
def uebC (k n seg size : Int) (d : List Value) : Array Value := (.int .i64 k :: .int .i64 n :: .int .i64 seg :: .int .i64 size :: d).toArray
set_option maxRecDepth 100000 in
set_option maxHeartbeats 1000000 in
theorem check_any_ueb (k n seg size : Int) (d : List Value) (w : World) (hk : -9223372036854775808 ≤ k ∧ k ≤ 9223372036854775807) (hn : -9223372036854775808 ≤ n ∧ n ≤ 9223372036854775807) (hs : -9223372036854775808 ≤ seg ∧ seg ≤ 9223372036854775807) (hz : -9223372036854775808 ≤ size ∧ size ≤ 9223372036854775807) :
  Calls Tryz.prog 74 #[.agg (uebC k n seg size d)] w fun e w' => Below w.heap.size w w' ∧ e = .returned (.int .i64 (if agOK k n seg size then 0 else 133)) := by
 have q := fun w => again_any k n seg size w hk hn hs hz
 have f0 : (uebC k n seg size d)[0]? = some (.int .i64 k) := rfl
 have f1 : (uebC k n seg size d)[1]? = some (.int .i64 n) := rfl
 have f2 : (uebC k n seg size d)[2]? = some (.int .i64 seg) := rfl
 have f3 : (uebC k n seg size d)[3]? = some (.int .i64 size) := rfl
 have hal := (Below.refl w.heap.size w).alloc (Nat.le_refl _) (.cells (uebC k n seg size d) 25)
 have Q := hide q
 have HAL := hide hal
 clear q hal
 generalize uebC k n seg size d = cs at *
 by_cases hag : agOK k n seg size
 ·rw [if_pos hag]
  have HQ : Hid (∀ w, Calls Tryz.prog 64 #[.int .i64 k, .int .i64 n, .int .i64 seg, .int .i64 size] w fun e w' => Below w.heap.size w w' ∧ e = .returned (.tuple #[shapeV k.toNat n.toNat seg.toNat size.toNat, .int .i64 0])) := fun w => by have := Q.out w; rwa [if_pos hag] at this
  unfold shapeV at HQ
  clear Q
  go_enter Tryz.func74, Tryz.ntmps74
  go_wp2_with fail
  refine (HQ.out _).mono ?_
  rintro e w1 ⟨b1, rfl⟩
  have B1 := hide (HAL.out.trans (b1.mono HAL.out.size))
  clear b1 HQ
  go_wp2
  go_ret
  refine ⟨?_, rfl⟩
  have := B1.out
  have := B1.out.size
  go_grown
 ·rw [if_neg hag]
  have HQ : Hid (∀ w, Calls Tryz.prog 64 #[.int .i64 k, .int .i64 n, .int .i64 seg, .int .i64 size] w fun e w' => Below w.heap.size w w' ∧ e = .returned (.tuple #[zeroShape, .int .i64 92])) := fun w => by have := Q.out w; rwa [if_neg hag] at this
  unfold zeroShape at HQ
  clear Q
  go_enter Tryz.func74, Tryz.ntmps74
  go_wp2_with fail
  refine (HQ.out _).mono ?_
  rintro e w1 ⟨b1, rfl⟩
  have B1 := hide (HAL.out.trans (b1.mono HAL.out.size))
  clear b1 HQ
  go_wp2
  go_ret
  refine ⟨?_, rfl⟩
  have := B1.out
  have := B1.out.size
  go_grown
end Go.Proofs.YtdohebhbiokljaaGreatDoor
namespace Go.Proofs.YtdohebhbiokljaaGreatDoor
def val (B : Nat) (l : List Nat) : Nat := l.foldl (fun a x => B * a + x) 0
@[simp] theorem val_nil (B : Nat) : val B [] = 0 := rfl
def dig (B : Nat) : Nat → Nat → List Nat
 | 0, _ => []
 | n + 1, X => dig B n (X / B) ++ [X % B]
@[simp] theorem dig_length (B n X : Nat) : (dig B n X).length = n := by
 induction n generalizing X with
 | zero => rfl
 | succ n ih => simp [dig, ih]
@[irreducible] def m32 (n : Nat) : Nat := n % 4294967296
def letterN (d : Nat) : UInt8 := UInt8.ofNat (if d < 26 then 97 + d else 24 + d)
def worthN (c : UInt8) : Option Nat :=
 if 97 ≤ c.toNat ∧ c.toNat ≤ 122 then some (c.toNat - 97) else if 50 ≤ c.toNat ∧ c.toNat ≤ 55 then some (c.toNat - 50 + 26) else none
def nats (b : List UInt8) : List Nat := b.map (·.toNat)
@[simp] theorem nats_length (b : List UInt8) : (nats b).length = b.length := by simp [nats]
def lets (n : Nat) : Nat := (8 * n + 4) / 5
def big (b : List UInt8) : Nat := val 256 (nats b) * 2 ^ (5 * lets b.length - 8 * b.length)
def letters (b : List UInt8) : List UInt8 := (dig 32 (lets b.length) (big b)).map letterN
@[simp] theorem letters_length (b : List UInt8) : (letters b).length = lets b.length := by simp [letters]
def part (b : List UInt8) (k e : Nat) : List UInt8 := (dig 32 e (val 256 (nats (b.take k)) / 2 ^ (8 * k - 5 * e))).map letterN
@[simp] theorem part_length (b : List UInt8) (k e : Nat) : (part b k e).length = e := by simp [part]
def worths (s : List UInt8) : List Nat := s.map fun c => (worthN c).getD 0
@[simp] theorem worths_length (s : List UInt8) : (worths s).length = s.length := by simp [worths]
def bytesN (n X : Nat) : List UInt8 := (dig 256 n X).map UInt8.ofNat
@[simp] theorem bytesN_length (n X : Nat) : (bytesN n X).length = n := by simp [bytesN]
def part8 (s : List UInt8) (k e : Nat) : List UInt8 := bytesN e (val 32 (worths (s.take k)) / 2 ^ (5 * k - 8 * e))
@[simp] theorem part8_length (s : List UInt8) (k e : Nat) : (part8 s k e).length = e := by simp [part8]
end Go.Proofs.YtdohebhbiokljaaGreatDoor
namespace Go.Proofs.YtdohebhbiokljaaGreatDoor
end Go.Proofs.YtdohebhbiokljaaGreatDoor
namespace Go.Proofs.YtdohebhbiokljaaGreatDoor
open Go.Lib
theorem decFrom_snoc (l : List UInt8) (b : UInt8) : ∀ acc, decFrom acc (l ++ [b]) = (decFrom acc l).bind fun n => (digitVal b).map fun d => n * 10 + d := by
 induction l with
 | nil => intro acc; simp only [List.nil_append, decFrom]; cases digitVal b <;> rfl
 | cons c l ih =>
  intro acc
  simp only [List.cons_append, decFrom]
  cases digitVal c with
  | none => rfl
  | some d => exact ih _
theorem digit_of {d : Nat} (h : d < 10) : digitVal (UInt8.ofNat (48 + d)) = some d := by
 have e : (UInt8.ofNat (48 + d)).toNat = 48 + d := by rw [UInt8.toNat_ofNat']; omega
 unfold digitVal
 rw [e, if_pos (by omega)]
 congr
 omega
theorem digit_back {b : UInt8} {d : Nat} (h : digitVal b = some d) : d < 10 ∧ b = UInt8.ofNat (48 + d) := by
 obtain ⟨h1, h2, h3⟩ := digitVal_eq h
 refine ⟨by omega, UInt8.toNat_inj.1 ?_⟩
 rw [UInt8.toNat_ofNat']
 omega
theorem decFrom_digits (x : Nat) : decFrom 0 (decDigits x) = some x := by
 induction x using Nat.strongRecOn with
 | _ x ih =>
  rw [decDigits]
  split
  ·rename_i h
   simp only [decFrom, digit_of h]
   simp
  ·rename_i h
   rw [decFrom_snoc, ih (x / 10) (by omega), digit_of (Nat.mod_lt _ (by omega))]
   simp only [Option.bind_some, Option.map_some]
   congr
   omega
theorem digits_ne (x : Nat) : decDigits x ≠ [] := by
 rw [decDigits]
 split
 ·simp
 ·simp
theorem digits_head {x : Nat} (h : 1 ≤ x) : (decDigits x)[0]? ≠ some 48 := by
 induction x using Nat.strongRecOn with
 | _ x ih =>
  rw [decDigits]
  split
  ·rename_i hx
   simp only [List.getElem?_cons_zero, ne_eq, Option.some.injEq]
   intro e
   have := congrArg UInt8.toNat e
   rw [UInt8.toNat_ofNat'] at this
   have h48 : (48 : UInt8).toNat = 48 := rfl
   rw [h48] at this
   omega
  ·rename_i hx
   have hl : 0 < (decDigits (x / 10)).length := List.length_pos_iff.2 (digits_ne _)
   rw [List.getElem?_append_left hl]
   exact ih (x / 10) (by omega) (by omega)
theorem digits_length_le : ∀ (k x : Nat), x < 10 ^ (k + 1) → (decDigits x).length ≤ k + 1 := by
 intro k
 induction k with
 | zero =>
  intro x h
  rw [decDigits, dif_pos (by simpa using h)]
  simp
 | succ k ih =>
  intro x h
  rw [decDigits]
  split
  ·simp
  ·have := ih (x / 10) (by rw [Nat.pow_succ] at h; omega)
   simp only [List.length_append, List.length_singleton]
   omega
theorem digits_long {x : Nat} (h : 1 < (decDigits x).length) : 10 ≤ x := by
 rcases Nat.lt_or_ge x 10 with h1 | h1
 ·rw [decDigits, dif_pos h1] at h
  simp at h
 ·exact h1
def rdv (l : List UInt8) : Option Nat := if l.length = 0 ∨ 19 < l.length ∨ (1 < l.length ∧ l[0]? = some 48) then none else decFrom 0 l
theorem rdv_digits {x : Nat} (h : x < 10000000000000000000) : rdv (decDigits x) = some x := by
 unfold rdv
 have h1 := digits_length_le 18 x h
 rw [if_neg, decFrom_digits]
 rintro (h0 | h0 | ⟨h0, h2⟩)
 ·exact digits_ne x (List.eq_nil_of_length_eq_zero h0)
 ·omega
 ·exact digits_head (by have := digits_long h0; omega) h2
theorem digits_of (n : Nat) : ∀ (l : List UInt8) (x : Nat), l.length = n + 1 → (1 < l.length → l[0]? ≠ some 48) → decFrom 0 l = some x → decDigits x = l := by
 induction n with
 | zero =>
  intro l x hl _ hd
  match l, hl with
  | [b], _ =>
   simp only [decFrom] at hd
   cases hb : digitVal b with
   | none => rw [hb] at hd; cases hd
   | some d =>
    rw [hb] at hd
    obtain ⟨h1, h2⟩ := digit_back hb
    simp at hd
    subst hd
    rw [decDigits, dif_pos h1, h2]
 | succ n ih =>
  intro l x hl h0 hd
  have hne : l ≠ [] := by intro e; rw [e] at hl; simp at hl
  have hs := List.dropLast_concat_getLast hne
  generalize l.getLast hne = b at hs
  have hml : l.dropLast.length = n + 1 := by rw [List.length_dropLast, hl]; rfl
  generalize l.dropLast = m at hs hml
  subst hs
  rw [decFrom_snoc] at hd
  cases hm : decFrom 0 m with
  | none => rw [hm] at hd; cases hd
  | some y =>
   rw [hm] at hd
   cases hb : digitVal b with
   | none => rw [hb] at hd; cases hd
   | some d =>
    rw [hb] at hd
    simp only [Option.bind_some, Option.map_some, Option.some.injEq] at hd
    obtain ⟨h1, h2⟩ := digit_back hb
    have hm0 : (m ++ [b])[0]? = m[0]? := List.getElem?_append_left (by omega)
    have hh : m[0]? ≠ some 48 := by rw [← hm0]; exact h0 (by rw [List.length_append, hml]; simp)
    have hy := ih m y hml (fun _ => hh) hm
    have hy1 : 1 ≤ y := by
     rcases Nat.eq_zero_or_pos y with h | h
     ·exfalso
      rw [h, decDigits, dif_pos (by omega)] at hy
      rw [← hy] at hh
      exact hh rfl
     ·exact h
    rw [← hd, decDigits, dif_neg (by omega), show (y * 10 + d) / 10 = y by omega, show (y * 10 + d) % 10 = d by omega, hy, h2]
theorem rdv_some {l : List UInt8} {x : Nat} (h : rdv l = some x) : l = decDigits x ∧ x < 10000000000000000000 := by
 unfold rdv at h
 split at h
 ·cases h
 ·rename_i hc
  have h1 : ¬ l.length = 0 := fun e => hc (.inl e)
  have h2 : ¬ 19 < l.length := fun e => hc (.inr (.inl e))
  have h3 : 1 < l.length → l[0]? ≠ some 48 := fun e f => hc (.inr (.inr ⟨e, f⟩))
  refine ⟨(digits_of (l.length - 1) l x (by omega) h3 h).symm, ?_⟩
  have := decFrom_lt l 0 x h
  have hp : 10 ^ l.length ≤ 10 ^ 19 := Nat.pow_le_pow_right (by decide) (by omega)
  have e19 : (10 : Nat) ^ 19 = 10000000000000000000 := by decide
  omega
theorem decFrom_ge : ∀ (l : List UInt8) (acc n : Nat), decFrom acc l = some n → acc ≤ n := by
 intro l
 induction l with
 | nil => intro acc n h; simp only [decFrom, Option.some.injEq] at h; omega
 | cons b l ih =>
  intro acc n h
  simp only [decFrom] at h
  cases hb : digitVal b with
  | none => rw [hb] at h; cases h
  | some d =>
   rw [hb] at h
   have := ih _ _ h
   omega
theorem parse_of : ∀ (l : List UInt8) (acc n : Nat), decFrom acc l = some n → n < 18446744073709551616 → parseUint10 acc l = .ok n := by
 intro l
 induction l with
 | nil => intro acc n h _; simp only [decFrom, Option.some.injEq] at h; simp only [parseUint10, h]
 | cons b l ih =>
  intro acc n h hn
  simp only [decFrom] at h
  cases hb : digitVal b with
  | none => rw [hb] at h; cases h
  | some d =>
   rw [hb] at h
   obtain ⟨h1, h2, h3⟩ := digitVal_eq hb
   have hge := decFrom_ge _ _ _ h
   simp only [parseUint10]
   rw [if_pos ⟨h1, h2⟩, if_neg (by omega), if_neg (by omega), ← h3]
   exact ih _ _ h hn
theorem atoi_digits {x : Nat} (h : x ≤ 9223372036854775807) : atoiAll (decDigits x) = .ok (x : Int) := by
 have hd := decFrom_digits x
 have hp := parse_of _ 0 x hd (by omega)
 have hne := digits_ne x
 generalize decDigits x = l at *
 match l, hne with
 | c :: r, _ =>
  simp only [decFrom] at hd
  cases hb : digitVal c with
  | none => rw [hb] at hd; cases hd
  | some d =>
   obtain ⟨h1, h2, _⟩ := digitVal_eq hb
   simp only [atoiAll]
   rw [if_neg (by omega)]
   have hm : parseMag (c :: r) = .ok x := by
    unfold parseMag
    rw [if_neg (by simp)]
    exact hp
   rw [hm]
   simp only
   rw [if_neg (by omega), if_neg (by omega), if_neg (by omega)]
def rd (l : List UInt8) (most : Int) : Option Nat := match rdv l with
 | some x => if (x : Int) ≤ most then some x else none
 | none => none
theorem rd_ok {l : List UInt8} {most v : Int} (h0 : 0 ≤ v) (h1 : v ≤ most) (hm : most ≤ 9223372036854775807) (hl : l = itoa v) : rd l most = some v.toNat := by
 obtain ⟨x, rfl⟩ : ∃ x : Nat, v = (x : Int) := ⟨v.toNat, by omega⟩
 rw [itoa_nonneg] at hl
 unfold rd
 rw [hl, rdv_digits (by omega)]
 simp only
 rw [if_pos h1]
 rfl
theorem rd_some {l : List UInt8} {most : Int} {x : Nat} (h : rd l most = some x) (hm : most ≤ 9223372036854775807) : atoiAll l = .ok (x : Int) ∧ (x : Int) ≤ most ∧ l = itoa (x : Int) := by
 unfold rd at h
 cases hr : rdv l with
 | none => rw [hr] at h; cases h
 | some y =>
  rw [hr] at h
  simp only at h
  split at h
  ·rename_i hy
   injection h with h
   subst h
   obtain ⟨h1, _⟩ := rdv_some hr
   refine ⟨?_, hy, by rw [itoa_nonneg]; exact h1⟩
   rw [h1]
   exact atoi_digits (by omega)
  ·cases h
end Go.Proofs.YtdohebhbiokljaaGreatDoor
namespace Go.Proofs.YtdohebhbiokljaaGreatDoor
open Go.Lib
def okc (c : UInt8) : Bool := c.toNat != 58 && c.toNat != 47
theorem itoa_okc (x : Int) (h : 0 ≤ x) : ∀ c ∈ itoa x, okc c = true := by
 obtain ⟨n, rfl⟩ := Int.eq_ofNat_of_zero_le h
 rw [itoa_nonneg]
 intro c hc
 have hd := decFrom_digits n
 have : ∀ (l : List UInt8) (a b : Nat), decFrom a l = some b → ∀ c ∈ l, okc c = true := by
  intro l
  induction l with
  | nil => intro a b _ c hc; cases hc
  | cons y r ih =>
   intro a b hab c hc
   unfold decFrom at hab
   cases hy : digitVal y with
   | none => simp [hy] at hab
   | some d =>
    simp only [hy] at hab
    rcases List.mem_cons.1 hc with rfl | hc
    ·obtain ⟨hd, rfl⟩ := digit_back hy
     unfold okc
     rw [UInt8.toNat_ofNat']
     simp
     omega
    ·exact ih _ _ hab c hc
 exact this _ _ _ hd c hc
end Go.Proofs.YtdohebhbiokljaaGreatDoor
namespace Go.Proofs.YtdohebhbiokljaaGreatDoor
open Go.RowKit Go.Lib
abbrev Rw := List UInt8 × List UInt8
def fld (b : List UInt8) : List UInt8 := itoa (b.length : Int) ++ 58 :: (b ++ [44])
def enc (r : Rw) : List UInt8 := fld r.1 ++ fld r.2
def encs (rs : List Rw) : List UInt8 := rs.flatMap enc
def leB (a b : List UInt8) : Bool := Op.bytesLess a b || a == b
def rowB (rs : List Rw) (i : Nat) : Bool := match rs[i]? with
 | none => false
 | some r => decide (i < 64) && decide (1 ≤ r.1.length) && decide (r.1.length ≤ 64) && decide (r.2.length ≤ 65536) && (i == 0 || match rs[i - 1]? with
  | none => false
  | some p => !leB r.1 p.1)
def may (rs : List Rw) : Prop := ∀ i, i < rs.length → rowB rs i = true
theorem rowB_some {rs : List Rw} {i : Nat} (h : rowB rs i = true) : ∃ r, rs[i]? = some r ∧ i < 64 ∧ 1 ≤ r.1.length ∧ r.1.length ≤ 64 ∧ r.2.length ≤ 65536 := by
 unfold rowB at h
 cases hr : rs[i]? with
 | none => rw [hr] at h; cases h
 | some r =>
  rw [hr] at h
  simp only [Bool.and_eq_true, decide_eq_true_eq] at h
  exact ⟨r, rfl, h.1.1.1.1, h.1.1.1.2, h.1.1.2, h.1.2⟩
theorem rowB_congr {a b : List Rw} {i : Nat} (h : ∀ j, j ≤ i → a[j]? = b[j]?) : rowB a i = rowB b i := by
 unfold rowB
 rw [h i (Nat.le_refl _), h (i - 1) (Nat.sub_le _ _)]
theorem rowB_append (a b : List Rw) (i : Nat) (h : i < a.length) : rowB (a ++ b) i = rowB a i :=
 rowB_congr fun j hj => by rw [List.getElem?_append_left (by omega)]
theorem may_len {rs : List Rw} (h : may rs) : rs.length ≤ 64 := by
 rcases Nat.lt_or_ge 64 rs.length with h' | h'
 ·obtain ⟨_, _, h2, _⟩ := rowB_some (h 64 h')
  omega
 ·exact h'
@[simp] theorem encs_nil : encs [] = [] := rfl
theorem encs_cons (r : Rw) (rs : List Rw) : encs (r :: rs) = enc r ++ encs rs := rfl
theorem encs_snoc (a : List Rw) (r : Rw) : encs (a ++ [r]) = encs a ++ enc r := by simp [encs]
def takeF (l : List UInt8) (most : Nat) : Option (List UInt8 × List UInt8) :=
 if 7 ≤ (l.takeWhile (· != 58)).length then none else
 match l.drop (l.takeWhile (· != 58)).length with
 | [] => none
 | _ :: r => match rd (l.takeWhile (· != 58)) (most : Int) with
  | none => none
  | some n => if r[n]? = some 44 then some (r.take n, r.drop (n + 1)) else none
theorem itoa_no58 (n : Nat) : ∀ c ∈ itoa (n : Int), (c != 58) = true := by
 intro c hc
 have := itoa_okc (n : Int) (by omega) c hc
 unfold okc at this
 simp only [Bool.and_eq_true, bne_iff_ne] at this ⊢
 intro h
 exact this.1 (by rw [h]; rfl)
theorem takeWhile_all {p : UInt8 → Bool} (a : List UInt8) (c : UInt8) (r : List UInt8) (h : ∀ x ∈ a, p x = true) (hc : p c = false) : (a ++ c :: r).takeWhile p = a := by
 induction a with
 | nil => simp [hc]
 | cons x a ih =>
  rw [List.cons_append, List.takeWhile_cons, if_pos (h x (List.mem_cons_self ..)), ih fun y hy => h y (List.mem_cons_of_mem _ hy)]
theorem itoa_nat (n : Nat) : itoa (n : Int) = decDigits n := by unfold itoa; rw [if_neg (by omega)]; simp
theorem itoa_len (n : Nat) (h : n ≤ 65536) : (itoa (n : Int)).length ≤ 5 := by
 rw [itoa_nat]
 exact digits_length_le 4 n (by omega)
theorem fld_take (b r : List UInt8) : (fld b ++ r).takeWhile (· != 58) = itoa (b.length : Int) := by
 unfold fld
 rw [List.append_assoc, List.cons_append]
 exact takeWhile_all _ _ _ (itoa_no58 _) rfl
theorem takeF_fld (b r : List UInt8) (most : Nat) (h : b.length ≤ most) (hm : most ≤ 65536) : takeF (fld b ++ r) most = some (b, r) := by
 unfold takeF
 rw [fld_take, if_neg (by have := itoa_len b.length (by omega); omega)]
 have h1 : (fld b ++ r).drop (itoa (b.length : Int)).length = 58 :: (b ++ 44 :: r) := by
  unfold fld
  rw [List.append_assoc, List.drop_left]
  simp
 rw [h1, rd_ok (v := (b.length : Int)) (by omega) (by omega) (by omega) rfl]
 simp
theorem takeF_some {l : List UInt8} {most : Nat} {b r : List UInt8} (h : takeF l most = some (b, r)) (hm : most ≤ 65536) : l = fld b ++ r ∧ b.length ≤ most := by
 unfold takeF at h
 split at h
 ·cases h
 ·rename_i h7
  rcases hd : l.drop (l.takeWhile (· != 58)).length with _ | ⟨c, r0⟩
  ·rw [hd] at h; cases h
  ·rw [hd] at h
   simp only at h
   rcases hr : rd (l.takeWhile (· != 58)) (most : Int) with _ | n
   ·rw [hr] at h; cases h
   ·rw [hr] at h
    simp only at h
    split at h
    ·rename_i h44
     obtain ⟨-, hn, hp⟩ := rd_some hr (by omega)
     simp only [Option.some.injEq, Prod.mk.injEq] at h
     obtain ⟨rfl, rfl⟩ := h
     have hlt : n < r0.length := (List.getElem?_eq_some_iff.1 h44).1
     have hbl : (r0.take n).length = n := by rw [List.length_take]; omega
     have hc : c = 58 := by
      have h1 : l = l.takeWhile (· != 58) ++ l.dropWhile (· != 58) := List.takeWhile_append_dropWhile.symm
      have h2 : l.drop (l.takeWhile (· != 58)).length = l.dropWhile (· != 58) := by
       conv => lhs; rw [h1]
       rw [List.takeWhile_append_dropWhile]
       conv => lhs; arg 2; rw [h1]
       rw [List.drop_left]
      rw [h2] at hd
      have h3 := List.head?_dropWhile_not (fun x : UInt8 => x != 58) l
      rw [hd] at h3
      simpa using h3
     refine ⟨?_, by omega⟩
     have h1 : l = l.take (l.takeWhile (· != 58)).length ++ l.drop (l.takeWhile (· != 58)).length := (List.take_append_drop _ _).symm
     have h2 : l.take (l.takeWhile (· != 58)).length = l.takeWhile (· != 58) := by
      have h4 : l = l.takeWhile (· != 58) ++ l.dropWhile (· != 58) := List.takeWhile_append_dropWhile.symm
      generalize l.takeWhile (· != 58) = x at *
      rw [h4, List.take_left]
     rw [h1, hd, h2, hp, hc]
     unfold fld
     rw [hbl]
     have h3 : r0 = r0.take n ++ 44 :: r0.drop (n + 1) := by
      conv => lhs; rw [← List.take_append_drop n r0]
      rw [List.drop_eq_getElem_cons hlt, (List.getElem?_eq_some_iff.1 h44).2]
     conv => lhs; rw [h3]
     simp
    ·cases h
theorem fld_pos (b : List UInt8) : 0 < (fld b).length := by unfold fld; simp; omega
def takeR (l : List UInt8) : Option (Rw × List UInt8) := match takeF l 64 with
 | none => none
 | some (n, r) => match takeF r 65536 with
  | none => none
  | some (v, r') => some ((n, v), r')
theorem takeR_enc (x : Rw) (r : List UInt8) (h1 : x.1.length ≤ 64) (h2 : x.2.length ≤ 65536) : takeR (enc x ++ r) = some (x, r) := by
 unfold takeR enc
 rw [List.append_assoc, takeF_fld _ _ _ h1 (by omega)]
 simp only
 rw [takeF_fld _ _ _ h2 (by omega)]
theorem takeR_some {l : List UInt8} {x : Rw} {r : List UInt8} (h : takeR l = some (x, r)) : l = enc x ++ r ∧ x.1.length ≤ 64 ∧ x.2.length ≤ 65536 := by
 unfold takeR at h
 rcases h1 : takeF l 64 with _ | ⟨n, r1⟩
 ·rw [h1] at h; cases h
 ·rw [h1] at h
  simp only at h
  rcases h2 : takeF r1 65536 with _ | ⟨v, r2⟩
  ·rw [h2] at h; cases h
  ·rw [h2] at h
   simp only [Option.some.injEq, Prod.mk.injEq] at h
   obtain ⟨rfl, rfl⟩ := h
   obtain ⟨a1, a2⟩ := takeF_some h1 (by omega)
   obtain ⟨b1, b2⟩ := takeF_some h2 (by omega)
   refine ⟨?_, a2, b2⟩
   rw [a1, b1]; unfold enc; rw [List.append_assoc]
theorem enc_pos (x : Rw) : 0 < (enc x).length := by unfold enc; rw [List.length_append]; have := fld_pos x.1; omega
theorem takeR_lt {l : List UInt8} {x : Rw} {r : List UInt8} (h : takeR l = some (x, r)) : r.length < l.length := by
 rw [(takeR_some h).1, List.length_append]; have := enc_pos x; omega
def unp (total : Nat) (done : List Rw) (rest : List UInt8) : List Rw × Nat × Nat :=
 if rest.length = 0 then (done, 0, 0) else
 match h : takeR rest with
 | none => ([], total - rest.length, 131)
 | some (x, r) => if rowB (done ++ [x]) done.length = true then unp total (done ++ [x]) r else ([], total - rest.length, 131)
termination_by rest.length
decreasing_by exact takeR_lt h
theorem unp_nil (t : Nat) (done : List Rw) : unp t done [] = (done, 0, 0) := by rw [unp]; simp
theorem unp_none {t : Nat} {done : List Rw} {rest : List UInt8} (h0 : 0 < rest.length) (h : takeR rest = none) : unp t done rest = ([], t - rest.length, 131) := by
 rw [unp, if_neg (by omega)]
 split
 ·rfl
 ·rename_i h'; rw [h] at h'; cases h'
theorem unp_some {t : Nat} {done : List Rw} {rest : List UInt8} {x : Rw} {r : List UInt8} (h : takeR rest = some (x, r)) :
  unp t done rest = if rowB (done ++ [x]) done.length = true then unp t (done ++ [x]) r else ([], t - rest.length, 131) := by
 rw [unp, if_neg (by have := takeR_lt h; omega)]
 split
 ·rename_i h'; rw [h] at h'; cases h'
 ·rename_i h'; rw [h] at h'; cases h'; rfl
theorem unp_encs (t : Nat) : ∀ (rs done : List Rw), may (done ++ rs) → unp t done (encs rs) = (done ++ rs, 0, 0)
 | [], done, _ => by rw [encs_nil, unp_nil]; simp
 | x :: rs, done, h => by
  have hx := h done.length (by simp)
  obtain ⟨r, hr, _, h1, h2, h3⟩ := rowB_some hx
  have hxr : x = r := by simpa using hr
  subst hxr
  rw [encs_cons, unp_some (takeR_enc x _ h2 h3)]
  have h4 : rowB (done ++ [x]) done.length = true := by
   rw [← hx]
   refine rowB_congr fun j hj => ?_
   rw [show done ++ x :: rs = (done ++ [x]) ++ rs by simp, List.getElem?_append_left (l₁ := done ++ [x]) (by simp; omega)]
  rw [if_pos h4, unp_encs t rs (done ++ [x]) (by simpa using h)]
  simp
theorem unp_ok (t : Nat) (n : Nat) : ∀ (rest : List UInt8) (done : List Rw), rest.length ≤ n →
  (∃ rs, unp t done rest = (done ++ rs, 0, 0) ∧ rest = encs rs ∧ ∀ i, done.length ≤ i → i < (done ++ rs).length → rowB (done ++ rs) i = true) ∨
  (∃ q, 0 < q ∧ q ≤ rest.length ∧ unp t done rest = ([], t - q, 131)) := by
 induction n with
 | zero =>
  intro rest done h
  have : rest = [] := List.eq_nil_of_length_eq_zero (by omega)
  subst this
  exact .inl ⟨[], by rw [unp_nil]; simp, rfl, fun i h1 h2 => by simp at h2; omega⟩
 | succ n ih =>
  intro rest done h
  rcases Nat.eq_zero_or_pos rest.length with h0 | h0
  ·have : rest = [] := List.eq_nil_of_length_eq_zero h0
   subst this
   exact .inl ⟨[], by rw [unp_nil]; simp, rfl, fun i h1 h2 => by simp at h2; omega⟩
  ·rcases hr : takeR rest with _ | ⟨x, r⟩
   ·exact .inr ⟨rest.length, h0, Nat.le_refl _, unp_none h0 hr⟩
   ·by_cases hb : rowB (done ++ [x]) done.length = true
    ·rw [unp_some hr, if_pos hb]
     have hlt := takeR_lt hr
     rcases ih r (done ++ [x]) (by omega) with ⟨rs, h1, h2, h3⟩ | ⟨q, h1, h2, h3⟩
     ·refine .inl ⟨x :: rs, by rw [h1]; simp, by rw [(takeR_some hr).1, h2, encs_cons], ?_⟩
      intro i hi hi2
      rw [show done ++ x :: rs = done ++ [x] ++ rs by simp] at hi2 ⊢
      rcases Nat.eq_or_lt_of_le hi with he | he
      ·rw [← he, rowB_append _ _ _ (by simp), hb]
      ·exact h3 i (by simp; omega) hi2
     ·exact .inr ⟨q, h1, by omega, h3⟩
    ·exact .inr ⟨rest.length, h0, Nat.le_refl _, by rw [unp_some hr, if_neg hb]⟩
def unpack (l : List UInt8) : List Rw × Nat × Nat := unp l.length [] l
theorem unpack_encs (rs : List Rw) (h : may rs) : unpack (encs rs) = (rs, 0, 0) := by
 unfold unpack; rw [unp_encs _ rs [] (by simpa using h)]; simp
theorem unpack_cases (l : List UInt8) : (∃ rs, unpack l = (rs, 0, 0) ∧ l = encs rs ∧ may rs) ∨ (∃ p, p < l.length ∧ unpack l = ([], p, 131)) := by
 rcases unp_ok l.length l.length l [] (Nat.le_refl _) with ⟨rs, h1, h2, h3⟩ | ⟨q, h1, h2, h3⟩
 ·refine .inl ⟨rs, by unfold unpack; rw [h1]; simp, h2, fun i hi => ?_⟩
  have := h3 i (by simp) (by simpa using hi)
  simpa using this
 ·exact .inr ⟨l.length - q, by omega, h3⟩
theorem may_mem {rs : List Rw} (h : may rs) : ∀ x ∈ rs, x.1.length ≤ 64 ∧ x.2.length ≤ 65536 := by
 intro x hx
 obtain ⟨i, hi⟩ := List.mem_iff_getElem?.1 hx
 obtain ⟨r, hr, _, _, h2, h3⟩ := rowB_some (h i (List.getElem?_eq_some_iff.1 hi).1)
 rw [hi] at hr
 cases hr
 exact ⟨h2, h3⟩
end Go.Proofs.YtdohebhbiokljaaGreatDoor
namespace Go.Proofs.YtdohebhbiokljaaGreatDoor
open Go.RowKit
theorem below_grow (w : World) (q : Nat) (os : Array Obj) : Below w.heap.size w (Sort.grow (w.drewN q) os) :=
 ⟨rfl, rfl, rfl, by simp [Sort.grow], fun k hk => by simp [Sort.grow, Array.getElem?_append, hk]⟩
theorem wf64 {x : Int} (h : (Lit.int .i64 x).wf = true) : -9223372036854775808 ≤ x ∧ x ≤ 9223372036854775807 := by
 simpa [Lit.wf, IntKind.min, IntKind.max, IntKind.bits, IntKind.signed] using h
def Tab (w : World) : Prop := Lib.TabIs Tryz.prog w "internal/strconv.uint64pow10" .u64 Lib.pow10Tab
theorem Tab.below {w w' : World} (h : Tab w) (hb : Below w.heap.size w w') : Tab w' := by
 unfold Tab Lib.TabIs World.var? at *
 cases hg : Tryz.prog.globalNamed "internal/strconv.uint64pow10" with
 | none => simp [hg] at h
 | some g =>
  simp only [hg, Option.bind_some] at h ⊢
  have hlt : g < w.heap.size := by
   rcases Nat.lt_or_ge g w.heap.size with h' | h'
   ·exact h'
   ·simp [Array.getElem?_eq_none h'] at h
  rw [hb.block g hlt]
  exact h
def itoaS (n : Int) : ByteArray := ⟨(Lib.itoa n).toArray⟩
theorem lst_itoaS (n : Int) : lst (itoaS n) = Lib.itoa n := by simp [lst, itoaS]
theorem itoa_any (n : Int) (w : World) (hn : -9223372036854775808 ≤ n ∧ n ≤ 9223372036854775807) (ht : Tab w) :
  Calls Tryz.prog 95 #[.int .i64 n] w fun e w' => e = .returned (.string (itoaS n)) ∧ Below w.heap.size w w' :=
 (Tryz.strconv_Itoa n hn.1 hn.2 w ht).mono fun e w' ⟨he, k, os, hw⟩ => ⟨he, by rw [hw]; exact below_grow w k os⟩
def numS (x : Int) : ByteArray := if x < 0 then ⟨#[]⟩ else itoaS x
def numE (x : Int) : Int := if x < 0 then 102 else 0
theorem bnumber_any (x : Int) (w : World) (hx : -9223372036854775808 ≤ x ∧ x ≤ 9223372036854775807) (ht : Tab w) :
  Calls Tryz.prog 76 #[.int .i64 x] w fun e w' => e = .returned (.tuple #[.string (numS x), .int .i64 (numE x)]) ∧ Below w.heap.size w w' := by
 have q := itoa_any x w hx ht
 unfold numS numE
 by_cases h : x < 0
 ·rw [if_pos h, if_pos h]
  go_enter Tryz.func76, Tryz.ntmps76
  go_wp2
  go_ret2
  exact ⟨rfl, Below.refl _ _⟩
 ·rw [if_neg h, if_neg h]
  generalize itoaS x = t at *
  go_enter Tryz.func76, Tryz.ntmps76
  go_wp2_with fail
  refine q.mono ?_
  rintro e w' ⟨rfl, hb⟩
  go_wp2
  go_ret2
  exact ⟨rfl, hb⟩
theorem lst_eq_mk {a : ByteArray} {l : List UInt8} (h : lst a = l) : a = ⟨l.toArray⟩ := by
 cases a
 simp only [lst] at h
 rw [← h]
def dgc (d : Nat) : UInt8 := UInt8.ofNat (48 + d)
theorem str_one (w : World) (d : Nat) (hd : d < 10) : (convert 34 9 (.slice (some ⟨w.heap.size, 0, none⟩) 1 1)).run Tryz.prog (w.alloc (.cells #[.int .u8 (48 + (d : Int))] 5)) =
  .ok (.string ⟨#[dgc d]⟩) (w.alloc (.cells #[.int .u8 (48 + (d : Int))] 5)) := by
 have e : ((UInt8.ofNat (48 + d)).toNat : Int) = 48 + (d : Int) := by rw [UInt8.toNat_ofNat']; omega
 rw [← e]
 have n1 := Blk.new w 5 #[.int .u8 ((UInt8.ofNat (48 + d)).toNat : Int)]
 have hby : By (w.alloc (.cells #[.int .u8 ((UInt8.ofNat (48 + d)).toNat : Int)] 5)) (.slice (some ⟨w.heap.size, 0, none⟩) 1 1) [UInt8.ofNat (48 + d)] := by
  refine ⟨rfl, some ⟨w.heap.size, 0, none⟩, 1, rfl, Nat.le_refl 1, by unfold maxLen; omega, fun _ => ⟨w.heap.size, 0, rfl, n1.lt, fun j _ => ?_⟩⟩
  rw [Nat.zero_add, n1.cell, ← Array.getElem?_toList]
  rfl
 obtain ⟨t, ht, hrun⟩ := run_str (P := Tryz.prog) hby 34 9 5 Tryz.underlying34 Tryz.underlying5 Tryz.underlying9
 rw [hrun, lst_eq_mk ht]
 rfl
theorem digits_split (y : Nat) (h : 10 ≤ y) : Lib.decDigits y = Lib.decDigits (y / 10) ++ [UInt8.ofNat (48 + y % 10)] := by
 rw [Lib.decDigits, dif_neg (by omega)]
set_option maxRecDepth 100000 in
set_option maxHeartbeats 1600000 in
theorem rnumber_any (x : Int) (w : World) (hx : -9223372036854775808 ≤ x ∧ x ≤ 9223372036854775807) :
  Calls Tryz.prog 82 #[.int .i64 x] w fun e w' => e = .returned (.tuple #[.string (numS x), .int .i64 (numE x)]) ∧ Below w.heap.size w w' := by
 unfold numS numE
 by_cases h : x < 0
 ·rw [if_pos h, if_pos h]
  go_enter Tryz.func82, Tryz.ntmps82
  go_wp2
  go_ret2
  exact ⟨rfl, Below.refl _ _⟩
 ·rw [if_neg h, if_neg h]
  obtain ⟨X, rfl⟩ : ∃ X : Nat, x = (X : Int) := ⟨x.toNat, by omega⟩
  have hS : lst (itoaS (X : Int)) = Lib.decDigits X := by rw [lst_itoaS, Lib.itoa_nonneg]
  have hlen := digits_length_le 18 X (by omega)
  generalize itoaS (X : Int) = R at *
  have HS := hide (And.intro hS hlen)
  have hxl : X ≤ 9223372036854775807 := by omega
  clear hS hlen hx h
  go_enter Tryz.func82, Tryz.ntmps82
  go_wp2
  go_loopw [0, 4] (fun u0 u4 wr => ∃ (y : Nat) (t : ByteArray), y ≤ 9223372036854775807 ∧ u0 = .int .i64 (y : Int) ∧ u4 = .string t ∧ Lib.decDigits X = Lib.decDigits y ++ lst t ∧ t.size ≤ 19 ∧ Below w.heap.size w wr) (fun u0 _ _ => (intOf u0).toNat)
  case atStart => exact ⟨X, ⟨#[]⟩, hxl, rfl, rfl, by simp [lst], by decide, Below.refl _ _⟩
  case round =>
   obtain ⟨y, t, hy, rfl, rfl, hdig, htl, hbel⟩ := hrel
   have HD := hide hdig
   clear hdig
   by_cases h10 : 10 ≤ y
   ·have i1 : (y : Int) ≥ 10 := by omega
    have hdl : y % 10 < 10 := Nat.mod_lt _ (by omega)
    have hsp := digits_split y h10
    have hql : y / 10 < y := by omega
    have ht : (y : Int).tmod 10 = ((y % 10 : Nat) : Int) := rfl
    have ht2 : (y : Int) % 10 = ((y % 10 : Nat) : Int) := by omega
    have hq : (y : Int).tdiv 10 = ((y / 10 : Nat) : Int) := rfl
    have hq2 : (y : Int) / 10 = ((y / 10 : Nat) : Int) := by omega
    generalize y % 10 = d at *
    generalize y / 10 = q at *
    have hrun := str_one wr d hdl
    have HN := hide (show Lib.decDigits X = Lib.decDigits q ++ lst ((⟨#[dgc d]⟩ : ByteArray) ++ t) by
     rw [HD.out, hsp]; simp [lst, dgc])
    have HB := hide (hbel.alloc hbel.size (.cells #[.int .u8 (48 + (d : Int))] 5))
    have HSZ := hide (show ((⟨#[dgc d]⟩ : ByteArray) ++ t).size ≤ 19 by
     have h1 := congrArg List.length HN.out
     rw [List.length_append, lst_len] at h1
     have := HS.out.2
     omega)
    clear hsp
    go_wp2
    go_roundw
    case rel => exact ⟨q, _, by omega, rfl, rfl, HN.out, HSZ.out, HB.out⟩
    case measure => simp [intOf]; omega
   ·have i1 : ¬ (y : Int) ≥ 10 := by omega
    have hrun := str_one wr y (by omega)
    have HN := hide (show (⟨#[dgc y]⟩ : ByteArray) ++ t = R by
     rw [lst_eq_mk (a := R) (l := lst R) rfl, HS.out.1, HD.out, Lib.decDigits, dif_pos (by omega)]
     rw [lst_eq_mk (a := (⟨#[dgc y]⟩ : ByteArray) ++ t) rfl]
     simp [lst, dgc])
    have HB := hide (hbel.alloc hbel.size (.cells #[.int .u8 (48 + (y : Int))] 5))
    have hn := HN.out
    clear HN
    subst hn
    go_wp2
    go_ret2
    exact ⟨rfl, HB.out⟩
def rdN (l : List UInt8) (most : Int) : Int := match rd l most with
 | some x => (x : Int)
 | none => 0
def rdE (l : List UInt8) (most : Int) : Int := match rd l most with
 | some _ => 0
 | none => 102
def Err (w : World) : Prop := (∃ tp p, w.var? Tryz.prog "strconv.ErrSyntax" = some #[.iface tp p]) ∧ ∃ tp p, w.var? Tryz.prog "strconv.ErrRange" = some #[.iface tp p]
set_option maxRecDepth 100000 in
set_option maxHeartbeats 1600000 in
theorem bread_any (s : ByteArray) (most : Int) (w : World) (hs : s.size ≤ 1048576) (hm : -9223372036854775808 ≤ most ∧ most ≤ 9223372036854775807) (ht : Tab w) (he : Err w) :
  Calls Tryz.prog 107 #[.string s, .int .i64 most] w fun e w' => e = .returned (.tuple #[.int .i64 (rdN (lst s) most), .int .i64 (rdE (lst s) most)]) ∧ Below w.heap.size w w' := by
 have key : ∀ v, Lib.atoiAll (lst s) = .ok v → -9223372036854775808 ≤ v ∧ v ≤ 9223372036854775807 := fun v hv => Lib.atoiAll_bounds hv
 rcases ha : Lib.atoiAll (lst s) with v | _ | _
 ·
  have q := Tryz.strconv_Atoi_ok s (by omega) v ha w
  have q' : Calls Tryz.prog 119 #[.string s] w fun e w' => e = .returned (.tuple #[.int .i64 v, .nilIface]) ∧ Below w.heap.size w w' := q.mono fun e w' ⟨h1, h2⟩ => ⟨h1, by
   rcases h2 with h2 | ⟨t, h2⟩
   ·rw [h2]; exact Below.refl _ _
   ·rw [h2]; exact Lib.bytesWorld_below _ _ _⟩
  have hv := key v ha
  have HT := hide ht
  have HA := hide ha
  clear q key ht ha he
  by_cases h0 : v < 0
  ·have hr : rd (lst s) most = none := by
    cases hr : rd (lst s) most with
    | none => rfl
    | some x =>
     have := (rd_some hr hm.2).1
     rw [HA.out] at this
     injection this with this
     omega
   unfold rdN rdE
   rw [hr]
   clear hr
   go_enter Tryz.func107, Tryz.ntmps107
   go_wp2_with fail
   refine q'.mono ?_
   rintro e w' ⟨rfl, hb⟩
   go_wp2
   go_ret2
   exact ⟨rfl, hb⟩
  ·by_cases h1 : v > most
   ·have hr : rd (lst s) most = none := by
     cases hr : rd (lst s) most with
     | none => rfl
     | some x =>
      have h2 := rd_some hr hm.2
      have := h2.1
      rw [HA.out] at this
      injection this with this
      omega
    unfold rdN rdE
    rw [hr]
    clear hr
    go_enter Tryz.func107, Tryz.ntmps107
    go_wp2_with fail
    refine q'.mono ?_
    rintro e w' ⟨rfl, hb⟩
    go_wp2
    go_ret2
    exact ⟨rfl, hb⟩
   ·have q2 := fun w' ht' => itoa_any v w' hv ht'
    by_cases hi : itoaS v = s
    ·have hr : rd (lst s) most = some v.toNat := rd_ok (by omega) (by omega) hm.2 (by rw [← lst_itoaS, hi])
     have hvv : ((v.toNat : Nat) : Int) = v := by omega
     unfold rdN rdE
     rw [hr]
     simp only [hvv]
     rw [hi] at q2
     clear hr hi hvv
     go_enter Tryz.func107, Tryz.ntmps107
     go_wp2_with fail
     refine q'.mono ?_
     rintro e w1 ⟨rfl, hb⟩
     have q3 := q2 w1 (HT.out.below hb)
     go_wp2_with fail
     refine q3.mono ?_
     rintro e w2 ⟨rfl, hb2⟩
     have HB := hide (hb.trans (hb2.mono hb.size))
     clear hb hb2 q3
     go_wp2
     go_ret2
     exact ⟨rfl, HB.out⟩
    ·have hr : rd (lst s) most = none := by
      cases hr : rd (lst s) most with
      | none => rfl
      | some x =>
       have h2 := rd_some hr hm.2
       have h3 := h2.1
       rw [HA.out] at h3
       injection h3 with h3
       exfalso
       apply hi
       rw [lst_eq_mk (a := s) rfl, h2.2.2, ← h3]
       rfl
     have hne : ((itoaS v).toList == s.toList) = false := by
      rw [beq_eq_false_iff_ne, str_toList, str_toList]
      intro h
      refine hi ?_
      rw [lst_eq_mk (a := s) rfl, lst_eq_mk (a := itoaS v) (l := lst s) h]
     unfold rdN rdE
     rw [hr]
     clear hr hi
     generalize itoaS v = z at *
     go_enter Tryz.func107, Tryz.ntmps107
     go_wp2_with fail
     refine q'.mono ?_
     rintro e w1 ⟨rfl, hb⟩
     have q3 := q2 w1 (HT.out.below hb)
     go_wp2_with fail
     refine q3.mono ?_
     rintro e w2 ⟨rfl, hb2⟩
     have HB := hide (hb.trans (hb2.mono hb.size))
     clear hb hb2 q3
     go_wp2
     go_ret2
     exact ⟨rfl, HB.out⟩
 ·
  obtain ⟨⟨tp, p, hvar⟩, _⟩ := he
  have q := Any.strconv_Atoi_syntax_var Tryz.laysC172 s (by omega) ha tp p w hvar
  have hr : rd (lst s) most = none := by
   cases hr : rd (lst s) most with
   | none => rfl
   | some x =>
    have := (rd_some hr hm.2).1
    rw [ha] at this
    cases this
  unfold rdN rdE
  rw [hr]
  clear hr ha key ht hvar
  go_enter Tryz.func107, Tryz.ntmps107
  go_wp2_with fail
  refine q.mono ?_
  rintro e w' ⟨n, rfl, _, _, hb⟩
  go_wp2
  go_ret2
  exact ⟨rfl, hb⟩
 ·
  obtain ⟨_, tp, p, hvar⟩ := he
  have q := Tryz.strconv_Atoi_range_var s (by omega) ha tp p w hvar
  have hr : rd (lst s) most = none := by
   cases hr : rd (lst s) most with
   | none => rfl
   | some x =>
    have := (rd_some hr hm.2).1
    rw [ha] at this
    cases this
  unfold rdN rdE
  rw [hr]
  clear hr ha key ht hvar
  go_enter Tryz.func107, Tryz.ntmps107
  go_wp2_with fail
  refine q.mono ?_
  rintro e w' ⟨n, rfl, _, _, hb⟩
  go_wp2
  go_ret2
  exact ⟨rfl, hb⟩
end Go.Proofs.YtdohebhbiokljaaGreatDoor
namespace Go.Proofs.YtdohebhbiokljaaGreatDoor
open Go.RowKit
end Go.Proofs.YtdohebhbiokljaaGreatDoor
namespace Go.Proofs.YtdohebhbiokljaaGreatDoor
open Go.RowKit
theorem var_below {w w' : World} {n : String} {cs : Array Value} (h : w.var? Tryz.prog n = some cs) (hb : Below w.heap.size w w') : w'.var? Tryz.prog n = some cs := by
 unfold World.var? at *
 cases hg : Tryz.prog.globalNamed n with
 | none => simp [hg] at h
 | some g =>
  simp only [hg, Option.bind_some] at h ⊢
  have hlt : g < w.heap.size := by
   rcases Nat.lt_or_ge g w.heap.size with h' | h'
   ·exact h'
   ·simp [Array.getElem?_eq_none h'] at h
  rw [hb.block g hlt]
  exact h
theorem Err.below {w w' : World} (h : Err w) (hb : Below w.heap.size w w') : Err w' := by
 obtain ⟨⟨t1, p1, h1⟩, t2, p2, h2⟩ := h
 exact ⟨⟨t1, p1, var_below h1 hb⟩, t2, p2, var_below h2 hb⟩
theorem gES : Tryz.prog.globalNamed "strconv.ErrSyntax" = some 2 := by kernel_rfl
theorem gESType : (Tryz.prog.globals[2]?).map (·.type) = some 169 := by kernel_rfl
theorem gER : Tryz.prog.globalNamed "strconv.ErrRange" = some 3 := by kernel_rfl
theorem gERType : (Tryz.prog.globals[3]?).map (·.type) = some 169 := by kernel_rfl
theorem gTab : Tryz.prog.globalNamed "internal/strconv.uint64pow10" = some 1 := by kernel_rfl
theorem gTabType : (Tryz.prog.globals[1]?).map (·.type) = some 197 := by kernel_rfl
theorem star : "*" ++ "errors.errorString" = "*errors.errorString" := by decide
theorem rowES (u : TypeId) (h : Tryz.prog.typeName? 3 u = some "*errors.errorString") : u = 211 :=
 typeName_ptr_named (nm := "errors.errorString") (by rw [star]; kernel_rfl) (by kernel_rfl) (by decide) u (by rw [star]; exact h)
theorem of_laid {W : World} {r : List (String × DataW Unit)}
  (h0 : laidMet Tryz.prog (("internal/strconv.uint64pow10", Rows.laid_internal_strconv_uint64pow10) :: ("strconv.ErrRange", Rows.laid_strconv_ErrRange) :: ("strconv.ErrSyntax", Rows.laid_strconv_ErrSyntax) :: r) W) : Tab W ∧ Err W := by
 have e : (Rows.laid_internal_strconv_uint64pow10 : DataW Unit) = Lib.tabData .u64 Lib.pow10Tab := by kernel_rfl
 have h2 := h0.tail
 have h3 := h2.tail
 rw [e] at h0
 obtain ⟨a0, s0, hv0, -, -, -⟩ := laid_sentinel h2 gER gERType Tryz.underlying169 rowES Tryz.underlying211 Tryz.underlying213 rfl rfl Tryz.underlying9 (by kernel_rfl) (by kernel_rfl)
 obtain ⟨a1, s1, hv1, -, -, -⟩ := laid_sentinel h3 gES gESType Tryz.underlying169 rowES Tryz.underlying211 Tryz.underlying213 rfl rfl Tryz.underlying9 (by kernel_rfl) (by kernel_rfl)
 exact ⟨Lib.tabIs_of_head gTab gTabType Tryz.underlying197 Tryz.underlying128 (by kernel_rfl) (by kernel_rfl) h0, ⟨_, _, hv1⟩, _, _, hv0⟩
end Go.Proofs.YtdohebhbiokljaaGreatDoor
