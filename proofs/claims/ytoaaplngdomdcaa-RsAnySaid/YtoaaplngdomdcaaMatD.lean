/- The document's inverse, primes, NewMod. -/
import Derived.Test.YtoaaplngdomdcaaMatC
namespace Go.Proofs.Ytoaaplngdomdcaa
open Go.RowKit

set_option maxHeartbeats 800000 in
theorem rinverse_any (p a : Nat) (w : World) (hp : 1 < p) (hp2 : p ≤ 2147483648) (ha : (a : Int) ≤ 4294967295) :
    Calls Try.prog 17 #[.int .u32 (p : Int), .int .u32 (a : Int)] w fun e w' => e = .returned (.tuple (if a % p = 0 then #[.int .u32 0, .bool false] else #[.int .u32 ((finv p a : Nat) : Int), .bool true])) ∧ ∃ q, w' = w.drewN q := by
  have h1 := rown_any p a w (by omega) hp2 (by omega)
  unfold finv
  have hme := mod_int a p
  obtain ⟨y, hy⟩ : ∃ y, y = a % p := ⟨_, rfl⟩
  rw [← hy] at h1 hme ⊢
  have hyl : y < p := by rw [hy]; exact Nat.mod_lt _ (by omega)
  have gp : ((p : Int) == 0) = false := by simp; omega
  have gn : (p : Int) ≠ 0 := by omega
  by_cases h0 : y = 0
  · rw [if_pos h0]
    subst h0
    clear hy hyl
    go_enter Try.func17, Try.ntmps17
    go_wp2_with fail
    refine h1.mono ?_
    rintro e w' ⟨rfl, rfl⟩
    go_wp2
    go_ret2
    exact ⟨rfl, 0, rfl⟩
  · rw [if_neg h0]
    have g0 : ((y : Int) == 0) = false := by simp; omega
    have i1 : (2 : Int) ≤ (p : Int) := by omega
    have i2 : (p : Int) ≤ 2147483648 := by omega
    clear hy
    have b1 : (0 : Int) ≤ (a : Int) % (p : Int) := by omega
    have b2 : (a : Int) % (p : Int) ≤ 2147483648 := by omega
    have HME := hide hme
    clear hme
    go_enter Try.func17, Try.ntmps17
    go_wp2_with fail
    refine h1.mono ?_
    rintro e w' ⟨rfl, rfl⟩
    go_wp2
    go_loopw [7, 8, 9] (fun u7 u8 u9 wr => ∃ z o n q : Nat, u8 = .int .u32 (z : Int) ∧ u7 = .int .u32 (o : Int) ∧ u9 = .int .u32 (n : Int) ∧ z ≤ 2147483648 ∧ o ≤ 2147483648 ∧ n ≤ 2147483648 ∧ pw p n o z = pw p (p - 2) 1 y ∧ wr = w.drewN q) (fun _ _ u9 _ => (intOf u9).toNat)
    case atStart => exact ⟨y, 1, p - 2, 0, by rw [HME.out], rfl, by go_num, by omega, by omega, by omega, rfl, rfl⟩
    case round =>
      obtain ⟨z, o, n, q, rfl, rfl, rfl, hz, ho, hn, hq, rfl⟩ := hrel
      have HQ := hide hq
      clear hq
      have m1 := fun w => rmul_any p o z w (by omega) hp2 (by omega) (by omega)
      have m2 := fun w => rmul_any p z z w (by omega) hp2 (by omega) (by omega)
      obtain ⟨x1, hx1⟩ : ∃ x, x = fmul p o z := ⟨_, rfl⟩
      obtain ⟨x2, hx2⟩ : ∃ x, x = fmul p z z := ⟨_, rfl⟩
      rw [← hx1] at m1
      rw [← hx2] at m2
      have l1 : x1 < p := by rw [hx1]; exact fmul_lt _ _ _ (by omega)
      have l2 : x2 < p := by rw [hx2]; exact fmul_lt _ _ _ (by omega)
      have HX1 := hide hx1
      have HX2 := hide hx2
      clear hx1 hx2
      by_cases hn0 : 0 < n
      · have hand := mod_int n 2
        have hand2 : (n : Int) % 2 = ((n % 2 : Nat) : Int) := hand
        clear hand
        obtain ⟨b, hb⟩ : ∃ b, b = n % 2 := ⟨_, rfl⟩
        rw [← hb] at hand2
        have hbb : b = 0 ∨ b = 1 := by omega
        have HB := hide hb
        clear hb
        rcases hbb with rfl | rfl
        · go_wp2_with fail
          refine (m2 _).mono ?_
          rintro e w' ⟨rfl, q2, rfl⟩
          go_wp2
          go_roundw
          case rel => exact ⟨x2, o, n / 2, q + q2, rfl, rfl, by go_num, by omega, by omega, by omega, by rw [← HQ.out, pw_even p n o z hn0 HB.out.symm, HX2.out], by first | rfl | rw [World.drewN_drewN]⟩
          case measure => simp [intOf]; omega
        · go_wp2_with fail
          refine (m1 _).mono ?_
          rintro e w' ⟨rfl, q2, rfl⟩
          go_wp2_with fail
          refine (m2 _).mono ?_
          rintro e w' ⟨rfl, q3, rfl⟩
          go_wp2
          go_roundw
          case rel => exact ⟨x2, x1, n / 2, q + q2 + q3, rfl, rfl, by go_num, by omega, by omega, by omega, by rw [← HQ.out, pw_odd p n o z HB.out.symm, HX2.out, HX1.out], by first | rfl | rw [World.drewN_drewN, World.drewN_drewN]⟩
          case measure => simp [intOf]; omega
      · have hn1 : n = 0 := by omega
        subst hn1
        have h2 := mod_int o p
        have hq := HQ.out
        rw [pw_zero] at hq
        subst hq
        obtain ⟨r, hr⟩ : ∃ r, r = pw p (p - 2) 1 y % p := ⟨_, rfl⟩
        rw [← hr] at h2
        have HR := hide hr
        clear hr
        go_wp2
        go_ret2
        refine ⟨?_, _, rfl⟩
        rw [← HR.out]
        exact congrArg (fun x => Ending.returned (.tuple #[.int .u32 x, .bool true])) h2

/-- A prime number. -/
def PrimeN (p : Nat) : Prop := 2 ≤ p ∧ ∀ e, 2 ≤ e → e * e ≤ p → p % e ≠ 0
noncomputable def primeB (p : Nat) : Bool := @decide (PrimeN p) (Classical.propDecidable _)
theorem primeB_true {p : Nat} (h : PrimeN p) : primeB p = true := @decide_eq_true _ (Classical.propDecidable _) h
theorem primeB_false {p : Nat} (h : ¬ PrimeN p) : primeB p = false := @decide_eq_false _ (Classical.propDecidable _) h
theorem primeB_iff {p : Nat} : primeB p = true ↔ PrimeN p := @decide_eq_true_iff _ (Classical.propDecidable _)
noncomputable def primeR (p : Nat) : Bool := primeB p && decide (p ≤ 2147483648)
theorem primeR_true {p : Nat} (h : PrimeN p) (h2 : p ≤ 2147483648) : primeR p = true := by simp [primeR, primeB_true h, h2]
theorem primeR_false {p : Nat} (h : ¬ PrimeN p) : primeR p = false := by simp [primeR, primeB_false h]
theorem primeR_big {p : Nat} (h : 2147483648 < p) : primeR p = false := by simp [primeR]; omega
theorem prime_more {p d : Nat} (h : ∀ e, 2 ≤ e → e < d → p % e ≠ 0) (h2 : p % d ≠ 0) : ∀ e, 2 ≤ e → e < d + 1 → p % e ≠ 0 := by
  intro e h3 h4
  rcases Nat.lt_or_ge e d with h5 | h5
  · exact h e h3 h5
  · have : e = d := by omega
    subst this; exact h2
theorem prime_end {p d : Nat} (hp : 2 ≤ p) (h : ∀ e, 2 ≤ e → e < d → p % e ≠ 0) (h2 : p < d * d) : PrimeN p := by
  refine ⟨hp, fun e h3 h4 => h e h3 ?_⟩
  rcases Nat.lt_or_ge e d with h5 | h5
  · exact h5
  · have := Nat.mul_le_mul h5 h5
    omega
theorem sq_small {p d : Nat} (hp : p ≤ 4294967295) (h : d * d ≤ p) : d ≤ 65535 := by
  rcases Nat.lt_or_ge d 65536 with h5 | h5
  · omega
  · have := Nat.mul_le_mul h5 h5
    omega

set_option maxHeartbeats 800000 in
theorem prime_any (p : Nat) (w : World) (hp2 : (p : Int) ≤ 4294967295) :
    Calls Try.prog 62 #[.int .u32 (p : Int)] w fun e w' => e = .returned (.bool (primeB p)) ∧ w = w' := by
  by_cases h2 : p < 2
  · go_enter Try.func62, Try.ntmps62
    go_wp2
    go_ret
    exact ⟨ret_bool (primeB_false fun h => by have := h.1; omega).symm, rfl⟩
  · have hp : 2 ≤ p := by omega
    go_enter Try.func62, Try.ntmps62
    go_wp2
    go_loopw [3] (fun u3 wr => ∃ d : Nat, u3 = .int .u64 (d : Int) ∧ 2 ≤ d ∧ d ≤ 65536 ∧ (∀ e, 2 ≤ e → e < d → p % e ≠ 0) ∧ wr = w) (fun u3 _ => 65536 - (intOf u3).toNat)
    case atStart => exact ⟨2, rfl, by omega, by omega, fun e h3 h4 => by omega, rfl⟩
    case round =>
      obtain ⟨d, rfl, hd2, hd, hall, rfl⟩ := hrel
      have HALL := hide hall
      clear hall
      obtain ⟨m1, m2⟩ := mul_u64 d d (by omega) (by omega)
      obtain ⟨m, hm⟩ : ∃ m, m = d * d := ⟨_, rfl⟩
      rw [← hm] at m1 m2
      have hs : m ≤ p → d ≤ 65535 := fun h => sq_small (p := p) (by omega) (by omega)
      have he := mod_int p d
      have hn : (d : Int) ≠ 0 := by omega
      have HM := hide hm
      clear hm
      by_cases hmp : m ≤ p
      · have hs2 := hs hmp
        obtain ⟨r, hr⟩ : ∃ r, r = p % d := ⟨_, rfl⟩
        rw [← hr] at he
        have hrl : r < d := by rw [hr]; exact Nat.mod_lt _ (by omega)
        have HR := hide hr
        clear hr hs
        by_cases hr0 : r = 0
        · subst hr0
          clear hrl
          go_wp2
          go_ret
          exact ⟨ret_bool (primeB_false fun h => absurd HR.out.symm (h.2 d hd2 (by have := HM.out; omega))).symm, rfl⟩
        · have g1 : ((r : Int) == 0) = false := by simp; omega
          go_wp2
          go_roundw
          case rel => exact ⟨d + 1, by go_num, by omega, by omega, prime_more HALL.out (by rw [← HR.out]; exact hr0), by first | rfl | trivial⟩
          case measure => simp [intOf]; omega
      · go_wp2
        go_ret
        exact ⟨ret_bool (primeB_true (prime_end hp HALL.out (by have := HM.out; omega))).symm, rfl⟩

set_option maxHeartbeats 800000 in
theorem rprime_any (p : Nat) (w : World) (hp2 : (p : Int) ≤ 4294967295) :
    Calls Try.prog 13 #[.int .u32 (p : Int)] w fun e w' => e = .returned (.bool (primeR p)) ∧ w = w' := by
  by_cases h2 : p < 2
  · go_enter Try.func13, Try.ntmps13
    go_wp2
    go_ret
    exact ⟨ret_bool (primeR_false fun h => by have := h.1; omega).symm, rfl⟩
  by_cases h3 : 2147483648 < p
  · have hp : 2 ≤ p := by omega
    go_enter Try.func13, Try.ntmps13
    go_wp2
    go_ret
    exact ⟨ret_bool (primeR_big h3).symm, rfl⟩
  · have hp : 2 ≤ p := by omega
    have hp3 : p ≤ 2147483648 := by omega
    go_enter Try.func13, Try.ntmps13
    go_wp2
    go_loopw [3] (fun u3 wr => ∃ d : Nat, u3 = .int .u32 (d : Int) ∧ 2 ≤ d ∧ d ≤ 65536 ∧ (∀ e, 2 ≤ e → e < d → p % e ≠ 0) ∧ wr = w) (fun u3 _ => 65536 - (intOf u3).toNat)
    case atStart => exact ⟨2, rfl, by omega, by omega, fun e h3 h4 => by omega, rfl⟩
    case round =>
      obtain ⟨d, rfl, hd2, hd, hall, rfl⟩ := hrel
      have HALL := hide hall
      clear hall
      obtain ⟨m1, m2⟩ := mul_u64 d d (by omega) (by omega)
      obtain ⟨m, hm⟩ : ∃ m, m = d * d := ⟨_, rfl⟩
      rw [← hm] at m1 m2
      have hs : m ≤ p → d ≤ 65535 := fun h => sq_small (p := p) (by omega) (by omega)
      have he := mod_int p d
      have hn : (d : Int) ≠ 0 := by omega
      have HM := hide hm
      clear hm
      by_cases hmp : m ≤ p
      · have hs2 := hs hmp
        obtain ⟨r, hr⟩ : ∃ r, r = p % d := ⟨_, rfl⟩
        rw [← hr] at he
        have hrl : r < d := by rw [hr]; exact Nat.mod_lt _ (by omega)
        have HR := hide hr
        clear hr hs
        by_cases hr0 : r = 0
        · subst hr0
          clear hrl
          go_wp2
          go_ret
          exact ⟨ret_bool (primeR_false fun h => absurd HR.out.symm (h.2 d hd2 (by have := HM.out; omega))).symm, rfl⟩
        · have g1 : ((r : Int) == 0) = false := by simp; omega
          go_wp2
          go_roundw
          case rel => exact ⟨d + 1, by go_num, by omega, by omega, prime_more HALL.out (by rw [← HR.out]; exact hr0), by first | rfl | trivial⟩
          case measure => simp [intOf]; omega
      · go_wp2
        go_ret
        exact ⟨ret_bool (primeR_true (prime_end hp HALL.out (by have := HM.out; omega)) hp3).symm, rfl⟩
end Go.Proofs.Ytoaaplngdomdcaa
