/- Contracts of the program's shapes: up, shape, Again. -/
import Derived.Test.YteaagngikiaokaaDoorUebA
import Derived.Handy
namespace Go.Proofs.YteaagngikiaokaaDoor
open Go.RowKit
attribute [local go_sem ↓] Go.wp_at_zero Go.wp_at_succ

def upN (a b : Nat) : Nat := (a + b - 1) / b
theorem wrap64_nat (n : Nat) (h : n < 9223372036854775808) : wrap64 (n : Int) = (n : Int) := by unfold wrap64; omega

set_option maxRecDepth 100000 in
set_option maxHeartbeats 400000 in
theorem up_any (a b : Nat) (w : World) (hb : 1 ≤ b) (hb2 : b ≤ 1099511627776) (ha : a ≤ 1099511627776) :
    Calls Tryd.prog 71 #[.int .i64 (a : Int), .int .i64 (b : Int)] w fun e w' => e = .returned (.int .i64 (upN a b : Int)) ∧ w = w' := by
  obtain ⟨c, hc⟩ : ∃ c : Nat, c = a + b - 1 := ⟨_, rfl⟩
  have e1 : (a : Int) + (b : Int) - 1 = (c : Int) := by omega
  have e4 : ¬ (b : Int) = 0 := by omega
  have hcb : c / b ≤ c := Nat.div_le_self _ _
  have hfin : wrap64 ((c : Int) / (b : Int)) = (upN a b : Int) := by
    have h1 : (c : Int) / (b : Int) = ((c / b : Nat) : Int) := rfl
    rw [h1, wrap64_nat _ (by omega)]
    unfold upN
    rw [hc]
  rw [hc] at hfin
  have HF := hide hfin
  clear hcb hfin
  go_enter Tryd.func71, Tryd.ntmps71
  go_wp2
  go_ret
  exact ⟨ret_int HF.out, rfl⟩

def shapeV (k n seg size : Nat) : Value := .agg #[.int .i64 (k : Int), .int .i64 (n : Int), .int .i64 (seg : Int), .int .i64 (size : Int), .int .i64 (upN size seg : Int), .int .i64 ((size - (upN size seg - 1) * seg : Nat) : Int), .int .i64 ((seg / k : Nat) : Int), .int .i64 (upN (size - (upN size seg - 1) * seg) k : Int)]

theorem upN_le (a b : Nat) (hb : 1 ≤ b) : upN a b ≤ a := by
  unfold upN
  rcases Nat.eq_zero_or_pos a with h | h
  · subst h
    rw [Nat.zero_add, Nat.div_eq_of_lt (by omega)]
    exact Nat.le_refl _
  · have : (a + b - 1) / b ≤ (a * b) / b := Nat.div_le_div_right (by
      have := Nat.mul_le_mul (show 1 ≤ a from h) (show 1 ≤ b from hb)
      obtain ⟨a', rfl⟩ : ∃ a', a = a' + 1 := ⟨a - 1, by omega⟩
      obtain ⟨b', rfl⟩ : ∃ b', b = b' + 1 := ⟨b - 1, by omega⟩
      have : (a' + 1) * (b' + 1) = a' * b' + a' + b' + 1 := by rw [Nat.add_mul, Nat.mul_add]; omega
      have := Nat.zero_le (a' * b')
      omega)
    rwa [Nat.mul_div_cancel _ (by omega)] at this
theorem upN_spec (a b : Nat) (hb : 1 ≤ b) (ha : 1 ≤ a) : 1 ≤ upN a b ∧ (upN a b - 1) * b < a ∧ a ≤ upN a b * b := by
  unfold upN
  have h1 := Nat.div_add_mod (a + b - 1) b
  have h2 := Nat.mod_lt (a + b - 1) (show 0 < b by omega)
  generalize (a + b - 1) / b = q at *
  have hq : 1 ≤ q := by
    rcases Nat.eq_zero_or_pos q with h | h
    · subst h; rw [Nat.mul_zero] at h1; omega
    · exact h
  obtain ⟨q', rfl⟩ : ∃ q', q = q' + 1 := ⟨q - 1, by omega⟩
  rw [Nat.mul_add, Nat.mul_comm b q'] at h1
  rw [Nat.add_sub_cancel, Nat.add_mul]
  generalize q' * b = z at *
  omega

set_option maxRecDepth 100000 in
set_option maxHeartbeats 4000000 in
theorem shape_any (k n seg size : Nat) (w : World) (hk : 1 ≤ k) (hk2 : k ≤ 1048576) (hs : 1 ≤ seg) (hs2 : seg ≤ 1048576) (hz : 1 ≤ size) (hz2 : size ≤ 16777216) :
    Calls Tryd.prog 72 #[.int .i64 (k : Int), .int .i64 (n : Int), .int .i64 (seg : Int), .int .i64 (size : Int)] w fun e w' => e = .returned (shapeV k n seg size) ∧ Below w.heap.size w w' := by
  have u1 := fun w => up_any size seg w hs (by omega) (by omega)
  have h1 := upN_spec size seg hs hz
  have h2 := upN_le size seg hs
  have ht : size - (upN size seg - 1) * seg ≤ size := Nat.sub_le _ _
  have u2 := fun w => up_any (size - (upN size seg - 1) * seg) k w hk (by omega) (by omega)
  unfold shapeV
  generalize hA : upN size seg = A at *
  have h3 : ((A - 1) * seg : Nat) ≤ size := by omega
  have e1 : ((A : Int) - 1) * (seg : Int) = (((A - 1) * seg : Nat) : Int) := by rw [Int.natCast_mul]; congr 1; omega
  generalize hB : (A - 1) * seg = B at *
  generalize hC : upN (size - B) k = C at *
  obtain ⟨q, hq⟩ : ∃ q : Nat, q = seg / k := ⟨_, rfl⟩
  have e2 : (seg : Int) / (k : Int) = (q : Int) := by rw [hq]; rfl
  have hq2 : q ≤ 1048576 := by have := Nat.div_le_self seg k; omega
  have e4 : ¬ k = 0 := by omega
  rw [← hq]
  clear h1 hB hA hC hq
  go_enter Tryd.func72, Tryd.ntmps72
  go_wp2_with fail
  go_region_held3 (fun _ => True) (trivial) ((go_at_call 71; (with_reducible refine (u1 _).mono ?_); rintro e w1 ⟨rfl, rfl⟩))
  all_goals
    go_wp2_with fail
    rw [show (size : Int) - (B : Int) = ((size - B : Nat) : Int) by omega]
    refine (u2 _).mono ?_
    rintro e w2 ⟨rfl, rfl⟩
    go_wp2
    go_returns
    refine ⟨rfl, ?_⟩
    go_grown
end Go.Proofs.YteaagngikiaokaaDoor
