/- Contracts of the document's up, laid and Check. -/
import Derived.Test.YteaagngikiaokaaDoorShrG
import Derived.BigQuiet
import Derived.Deep.QuietTactic
namespace Go.Proofs.YteaagngikiaokaaDoor
open Go.RowKit

theorem upN_two (a b : Nat) (hb : 1 ≤ b) : upN a b = a / b + (a % b + b - 1) / b := by
  unfold upN
  have h := Nat.div_add_mod a b
  have e : a + b - 1 = b * (a / b) + (a % b + b - 1) := by omega
  rw [e, Nat.mul_add_div (by omega)]

set_option maxRecDepth 100000 in
set_option maxHeartbeats 1000000 in
theorem rup_any (a b : Nat) (w : World) (hb : 1 ≤ b) (hb2 : b ≤ 1099511627776) (ha : a ≤ 1099511627776) :
    Calls Tryd.prog 75 #[.int .i64 (a : Int), .int .i64 (b : Int)] w fun e w' => e = .returned (.int .i64 (upN a b : Int)) ∧ ∃ n, w' = w.drewN n := by
  have h2 := upN_two a b hb
  have hle := upN_le a b hb
  obtain ⟨q, hq⟩ : ∃ q : Nat, q = a / b := ⟨_, rfl⟩
  obtain ⟨r, hr⟩ : ∃ q : Nat, q = a % b := ⟨_, rfl⟩
  obtain ⟨u, hu⟩ : ∃ q : Nat, q = r + b := ⟨_, rfl⟩
  obtain ⟨v, hv⟩ : ∃ q : Nat, q = r + b - 1 := ⟨_, rfl⟩
  obtain ⟨s, hs⟩ : ∃ q : Nat, q = v / b := ⟨_, rfl⟩
  have hrb : r < b := by rw [hr]; exact Nat.mod_lt _ (by omega)
  have hqa : q ≤ a := by rw [hq]; exact Nat.div_le_self _ _
  have hsv : s ≤ v := by rw [hs]; exact Nat.div_le_self _ _
  have e1 : (a : Int).tdiv (b : Int) = (q : Int) := by rw [hq]; rfl
  have e2 : (a : Int).tmod (b : Int) = (r : Int) := by rw [hr]; rfl
  have e1' : (a : Int) / (b : Int) = (q : Int) := by rw [hq]; rfl
  have e2' : (a : Int) % (b : Int) = (r : Int) := by rw [hr]; rfl
  have e3 : (v : Int).tdiv (b : Int) = (s : Int) := by rw [hs]; rfl
  have e3' : (v : Int) / (b : Int) = (s : Int) := by rw [hs]; rfl
  have w1 : IntKind.i64.wrap (q : Int) = (q : Int) := IntWalk.i64_in _ (by omega)
  have w2 : IntKind.i64.wrap (r : Int) = (r : Int) := IntWalk.i64_in _ (by omega)
  have w3 : IntKind.i64.wrap ((r : Int) + (b : Int)) = (u : Int) := by rw [IntWalk.i64_in _ (by omega)]; omega
  have w4 : IntKind.i64.wrap ((u : Int) - 1) = (v : Int) := by rw [IntWalk.i64_in _ (by omega)]; omega
  have w5 : IntKind.i64.wrap (s : Int) = (s : Int) := IntWalk.i64_in _ (by omega)
  have w6 : IntKind.i64.wrap ((q : Int) + (s : Int)) = (upN a b : Int) := by rw [IntWalk.i64_in _ (by omega), h2, ← hq, ← hr, ← hv, ← hs]; rfl
  have n1 : ¬ b = 0 := by omega
  have n2 : ¬ (b : Int) = 0 := by omega
  generalize upN a b = U at *
  clear hq hr hu hv hs h2 hle hrb hqa hsv
  go_enter Tryd.func75, Tryd.ntmps75
  go_wp2
  go_quiet (fail)
  go_wp2
  go_ret
  exact ⟨rfl, _, rfl⟩

set_option maxRecDepth 100000 in
set_option maxHeartbeats 4000000 in
theorem rlaid_any (k n seg size : Nat) (w : World) (hk : 1 ≤ k) (hk2 : k ≤ 1048576) (hs : 1 ≤ seg) (hs2 : seg ≤ 1048576) (hz : 1 ≤ size) (hz2 : size ≤ 16777216) :
    Calls Tryd.prog 74 #[.int .i64 (k : Int), .int .i64 (n : Int), .int .i64 (seg : Int), .int .i64 (size : Int)] w fun e w' => e = .returned (shapeV k n seg size) ∧ Below w.heap.size w w' := by
  have u1 := fun w => rup_any size seg w hs (by omega) (by omega)
  have h1 := upN_spec size seg hs hz
  have h2 := upN_le size seg hs
  have ht : size - (upN size seg - 1) * seg ≤ size := Nat.sub_le _ _
  have u2 := fun w => rup_any (size - (upN size seg - 1) * seg) k w hk (by omega) (by omega)
  unfold shapeV
  generalize hA : upN size seg = A at *
  have h3 : ((A - 1) * seg : Nat) ≤ size := by omega
  have e1 : ((A : Int) - 1) * (seg : Int) = (((A - 1) * seg : Nat) : Int) := by rw [Int.natCast_mul]; congr 1; omega
  generalize hB : (A - 1) * seg = B at *
  generalize hC : upN (size - B) k = C at *
  obtain ⟨q, hq⟩ : ∃ q : Nat, q = seg / k := ⟨_, rfl⟩
  have e2 : (seg : Int) / (k : Int) = (q : Int) := by rw [hq]; rfl
  have hq2 : q ≤ 1048576 := by have := Nat.div_le_self seg k; omega
  have e4 : ¬ k = 0 := by omega
  have e5 : IntKind.i64.wrap ((A : Int) - 1) = (A : Int) - 1 := IntWalk.i64_in _ (by omega)
  have e6 : IntKind.i64.wrap (B : Int) = (B : Int) := IntWalk.i64_in _ (by omega)
  obtain ⟨T, hT⟩ : ∃ T : Nat, T = size - B := ⟨_, rfl⟩
  have e7 : IntKind.i64.wrap ((size : Int) - (B : Int)) = (T : Int) := by rw [IntWalk.i64_in _ (by omega)]; omega
  have e8 : IntKind.i64.wrap (q : Int) = (q : Int) := IntWalk.i64_in _ (by omega)
  rw [← hq]
  rw [← hT] at u2 ⊢
  clear h1 hB hA hC hq hT
  have U1 := hide u1
  have U2 := hide u2
  clear u1 u2
  go_enter Tryd.func74, Tryd.ntmps74
  go_wp2_with fail
  refine (U1.out _).mono ?_
  rintro e w1 ⟨rfl, m1, rfl⟩
  go_wp2_with fail
  refine (U2.out _).mono ?_
  rintro e w1 ⟨rfl, m2, rfl⟩
  go_wp2
  go_returns
  refine ⟨rfl, ?_⟩
  go_grown
  refine below_drewN ?_ _
  go_grown
  refine below_drewN ?_ _
  go_grown
end Go.Proofs.YteaagngikiaokaaDoor
