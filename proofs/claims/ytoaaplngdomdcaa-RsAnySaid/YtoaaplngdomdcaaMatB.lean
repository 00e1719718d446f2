/- The document's field of numbers, the power loops, primes, NewMod. -/
import Derived.Test.YtoaaplngdomdcaaMatA
namespace Go.Proofs.Ytoaaplngdomdcaa
open Go.RowKit

def fadd (p a b : Nat) : Nat := (a + b) % p
def fsub (p a b : Nat) : Nat := (a + p - b % p) % p
def fmul (p a b : Nat) : Nat := a * b % p
def pw (p n x y : Nat) : Nat := if h : n = 0 then x else pw p (n / 2) (if n % 2 = 1 then fmul p x y else x) (fmul p y y)
termination_by n
decreasing_by omega
def finv (p a : Nat) : Nat := pw p (p - 2) 1 (a % p) % p
theorem pw_zero (p x y : Nat) : pw p 0 x y = x := by unfold pw; simp
theorem pw_odd (p n x y : Nat) (h : n % 2 = 1) : pw p n x y = pw p (n / 2) (fmul p x y) (fmul p y y) := by
  rw [pw, dif_neg (by omega), if_pos h]
theorem pw_even (p n x y : Nat) (h0 : 0 < n) (h : n % 2 = 0) : pw p n x y = pw p (n / 2) x (fmul p y y) := by
  rw [pw, dif_neg (by omega), if_neg (by omega)]
theorem fmul_lt (p a b : Nat) (hp : 0 < p) : fmul p a b < p := Nat.mod_lt _ hp
theorem fmul_mod (p a b : Nat) : (a % p) * (b % p) % p = fmul p a b := (Nat.mul_mod a b p).symm
theorem fsub_mod (p a b : Nat) (hp : 0 < p) : (a % p + p - b % p) % p = fsub p a b := by
  have := Nat.mod_lt b hp
  unfold fsub
  rw [show a % p + p - b % p = a % p + (p - b % p) by omega, show a + p - b % p = a + (p - b % p) by omega, Nat.add_mod, Nat.mod_mod, ← Nat.add_mod]

set_option maxHeartbeats 800000 in
theorem radd_any (p a b : Nat) (w : World) (hp : 0 < p) (hp2 : p ≤ 2147483648) (ha : (a : Int) ≤ 4294967295) (hb : (b : Int) ≤ 4294967295) :
    Calls Try.prog 19 #[.int .u32 (p : Int), .int .u32 (a : Int), .int .u32 (b : Int)] w fun e w' => e = .returned (.int .u32 ((fadd p a b : Nat) : Int)) ∧ ∃ q, w' = w.drewN q := by
  unfold fadd
  rw [Nat.add_mod]
  obtain ⟨x, hx⟩ : ∃ x, x = a % p := ⟨_, rfl⟩
  obtain ⟨y, hy⟩ : ∃ y, y = b % p := ⟨_, rfl⟩
  have hxl : x < p := by rw [hx]; exact Nat.mod_lt _ hp
  have hyl : y < p := by rw [hy]; exact Nat.mod_lt _ hp
  have hxe : (a : Int).tmod (p : Int) = (x : Int) := by rw [hx, Int.tmod_eq_emod_of_nonneg (by omega)]; simp
  have hye : (b : Int).tmod (p : Int) = (y : Int) := by rw [hy, Int.tmod_eq_emod_of_nonneg (by omega)]; simp
  rw [← hx, ← hy]
  have HX := hide hx
  have HY := hide hy
  clear hx hy
  obtain ⟨r, hr⟩ : ∃ r, r = (x + y) % p := ⟨_, rfl⟩
  have hrl : r < p := by rw [hr]; exact Nat.mod_lt _ hp
  have hre : ((x : Int) + (y : Int)).tmod (p : Int) = (r : Int) := by rw [hr, Int.tmod_eq_emod_of_nonneg (by omega)]; simp
  rw [← hr]
  have HR := hide hr
  clear hr
  have hn : ¬ p = 0 := by omega
  have g1 : ((p : Int) == 0) = false := by simp; omega
  have w1 : IntKind.u64.wrap (x : Int) = (x : Int) := u64_id _ (by omega) (by omega)
  have w2 : IntKind.u64.wrap (y : Int) = (y : Int) := u64_id _ (by omega) (by omega)
  have w3 : IntKind.u64.wrap ((x : Int) + (y : Int)) = (x : Int) + (y : Int) := u64_id _ (by omega) (by omega)
  have w4 : IntKind.u64.wrap (p : Int) = (p : Int) := u64_id _ (by omega) (by omega)
  have w5 : IntKind.u32.wrap (r : Int) = (r : Int) := u32_id _ (by omega) (by omega)
  have w6 : IntKind.u32.wrap (x : Int) = (x : Int) := u32_id _ (by omega) (by omega)
  have w7 : IntKind.u32.wrap (y : Int) = (y : Int) := u32_id _ (by omega) (by omega)
  have w8 : IntKind.u64.wrap (r : Int) = (r : Int) := u64_id _ (by omega) (by omega)
  go_enter Try.func19, Try.ntmps19
  go_wp2
  go_quiet (fail)
  go_wp2
  go_ret
  exact ⟨rfl, _, rfl⟩

set_option maxHeartbeats 800000 in
theorem rsub_any (p a b : Nat) (w : World) (hp : 0 < p) (hp2 : p ≤ 2147483648) (ha : (a : Int) ≤ 4294967295) (hb : (b : Int) ≤ 4294967295) :
    Calls Try.prog 21 #[.int .u32 (p : Int), .int .u32 (a : Int), .int .u32 (b : Int)] w fun e w' => e = .returned (.int .u32 ((fsub p a b : Nat) : Int)) ∧ ∃ q, w' = w.drewN q := by
  rw [← fsub_mod p a b hp]
  obtain ⟨x, hx⟩ : ∃ x, x = a % p := ⟨_, rfl⟩
  obtain ⟨y, hy⟩ : ∃ y, y = b % p := ⟨_, rfl⟩
  have hxl : x < p := by rw [hx]; exact Nat.mod_lt _ hp
  have hyl : y < p := by rw [hy]; exact Nat.mod_lt _ hp
  have hxe : (a : Int).tmod (p : Int) = (x : Int) := by rw [hx, Int.tmod_eq_emod_of_nonneg (by omega)]; simp
  have hye : (b : Int).tmod (p : Int) = (y : Int) := by rw [hy, Int.tmod_eq_emod_of_nonneg (by omega)]; simp
  rw [← hx, ← hy]
  have HX := hide hx
  have HY := hide hy
  clear hx hy
  obtain ⟨r, hr⟩ : ∃ r, r = (x + p - y) % p := ⟨_, rfl⟩
  have hrl : r < p := by rw [hr]; exact Nat.mod_lt _ hp
  have hre : ((x : Int) + (p : Int) - (y : Int)).tmod (p : Int) = (r : Int) := by rw [hr, Int.tmod_eq_emod_of_nonneg (by omega), Int.natCast_emod]; congr 1; omega
  rw [← hr]
  have HR := hide hr
  clear hr
  have hn : ¬ p = 0 := by omega
  have g1 : ((p : Int) == 0) = false := by simp; omega
  have w1 : IntKind.u64.wrap (x : Int) = (x : Int) := u64_id _ (by omega) (by omega)
  have w2 : IntKind.u64.wrap (y : Int) = (y : Int) := u64_id _ (by omega) (by omega)
  have w3 : IntKind.u64.wrap ((x : Int) + (p : Int)) = (x : Int) + (p : Int) := u64_id _ (by omega) (by omega)
  have w9 : IntKind.u64.wrap ((x : Int) + (p : Int) - (y : Int)) = (x : Int) + (p : Int) - (y : Int) := u64_id _ (by omega) (by omega)
  have w4 : IntKind.u64.wrap (p : Int) = (p : Int) := u64_id _ (by omega) (by omega)
  have w5 : IntKind.u32.wrap (r : Int) = (r : Int) := u32_id _ (by omega) (by omega)
  have w6 : IntKind.u32.wrap (x : Int) = (x : Int) := u32_id _ (by omega) (by omega)
  have w7 : IntKind.u32.wrap (y : Int) = (y : Int) := u32_id _ (by omega) (by omega)
  have w8 : IntKind.u64.wrap (r : Int) = (r : Int) := u64_id _ (by omega) (by omega)
  go_enter Try.func21, Try.ntmps21
  go_wp2
  go_quiet (fail)
  go_wp2
  go_ret
  exact ⟨rfl, _, rfl⟩

set_option maxHeartbeats 800000 in
theorem rmul_any (p a b : Nat) (w : World) (hp : 0 < p) (hp2 : p ≤ 2147483648) (ha : (a : Int) ≤ 4294967295) (hb : (b : Int) ≤ 4294967295) :
    Calls Try.prog 23 #[.int .u32 (p : Int), .int .u32 (a : Int), .int .u32 (b : Int)] w fun e w' => e = .returned (.int .u32 ((fmul p a b : Nat) : Int)) ∧ ∃ q, w' = w.drewN q := by
  rw [← fmul_mod p a b]
  obtain ⟨x, hx⟩ : ∃ x, x = a % p := ⟨_, rfl⟩
  obtain ⟨y, hy⟩ : ∃ y, y = b % p := ⟨_, rfl⟩
  have hxl : x < p := by rw [hx]; exact Nat.mod_lt _ hp
  have hyl : y < p := by rw [hy]; exact Nat.mod_lt _ hp
  have hxe : (a : Int).tmod (p : Int) = (x : Int) := by rw [hx, Int.tmod_eq_emod_of_nonneg (by omega)]; simp
  have hye : (b : Int).tmod (p : Int) = (y : Int) := by rw [hy, Int.tmod_eq_emod_of_nonneg (by omega)]; simp
  rw [← hx, ← hy]
  have HX := hide hx
  have HY := hide hy
  clear hx hy
  obtain ⟨m1, m2⟩ := mul_u64 x y (by omega) (by omega)
  obtain ⟨m, hm⟩ : ∃ m, m = x * y := ⟨_, rfl⟩
  rw [← hm] at m1 m2 ⊢
  have HM := hide hm
  clear hm
  obtain ⟨r, hr⟩ : ∃ r, r = m % p := ⟨_, rfl⟩
  have hrl : r < p := by rw [hr]; exact Nat.mod_lt _ hp
  have hre : (m : Int).tmod (p : Int) = (r : Int) := by rw [hr, Int.tmod_eq_emod_of_nonneg (by omega)]; simp
  rw [← hr]
  have HR := hide hr
  clear hr
  have hn : ¬ p = 0 := by omega
  have g1 : ((p : Int) == 0) = false := by simp; omega
  have w1 : IntKind.u64.wrap (x : Int) = (x : Int) := u64_id _ (by omega) (by omega)
  have w2 : IntKind.u64.wrap (y : Int) = (y : Int) := u64_id _ (by omega) (by omega)
  have w4 : IntKind.u64.wrap (p : Int) = (p : Int) := u64_id _ (by omega) (by omega)
  have w5 : IntKind.u32.wrap (r : Int) = (r : Int) := u32_id _ (by omega) (by omega)
  have w6 : IntKind.u32.wrap (x : Int) = (x : Int) := u32_id _ (by omega) (by omega)
  have w7 : IntKind.u32.wrap (y : Int) = (y : Int) := u32_id _ (by omega) (by omega)
  have w8 : IntKind.u64.wrap (r : Int) = (r : Int) := u64_id _ (by omega) (by omega)
  go_enter Try.func23, Try.ntmps23
  go_wp2
  go_quiet (fail)
  go_wp2
  go_ret
  exact ⟨rfl, _, rfl⟩

theorem mod_int (a p : Nat) : (a : Int) % (p : Int) = ((a % p : Nat) : Int) := by simp

set_option maxHeartbeats 800000 in
theorem rown_any (p a : Nat) (w : World) (hp : 0 < p) (hp2 : p ≤ 2147483648) (ha : (a : Int) ≤ 4294967295) :
    Calls Try.prog 64 #[.int .u32 (p : Int), .int .u32 (a : Int)] w fun e w' => e = .returned (.int .u32 ((a % p : Nat) : Int)) ∧ w = w' := by
  have g1 : ((p : Int) == 0) = false := by simp; omega
  have hn : (p : Int) ≠ 0 := by omega
  have hm := mod_int a p
  have hl := Nat.mod_lt a hp
  go_enter Try.func64, Try.ntmps64
  go_wp2
  go_ret
  exact ⟨rfl, rfl⟩
end Go.Proofs.Ytoaaplngdomdcaa
