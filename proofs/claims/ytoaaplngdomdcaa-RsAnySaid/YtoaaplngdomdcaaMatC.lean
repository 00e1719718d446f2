/- Inverses in the field of numbers. -/
import Derived.Test.YtoaaplngdomdcaaMatB
namespace Go.Proofs.Ytoaaplngdomdcaa
open Go.RowKit

theorem u64_and1 (n : Nat) (hn : n ≤ 18446744073709551615) : bits .and .u64 (n : Int) 1 = ((n % 2 : Nat) : Int) := by
  have := u64_and_nat n 1 (by omega) (by omega)
  rw [show (1 : Nat) = 2 ^ 1 - 1 from rfl, Nat.and_two_pow_sub_one_eq_mod] at this
  exact this

set_option maxHeartbeats 800000 in
theorem minverse_any (v : Value) (p a : Nat) (w : World) (hm : MP w v p) (hp : 1 < p) (hp2 : p ≤ 2147483648) (ha : (a : Int) ≤ 4294967295) :
    Calls Try.prog 16 #[v, .int .u32 (a : Int)] w fun e w' => e = .returned (.tuple (if a % p = 0 then #[.int .u32 0, .bool false] else #[.int .u32 ((finv p a : Nat) : Int), .bool true])) ∧ w = w' := by
  have h1 := told_any v p a w hm (by omega) hp2 (by omega)
  unfold finv
  obtain ⟨y, hy⟩ : ∃ y, y = a % p := ⟨_, rfl⟩
  rw [← hy] at h1 ⊢
  have hyl : y < p := by rw [hy]; exact Nat.mod_lt _ (by omega)
  have HM := hide hm
  obtain ⟨g, rfl, hg, hc⟩ := hm
  by_cases h0 : y = 0
  · rw [if_pos h0]
    subst h0
    clear hy hyl
    go_enter Try.func16, Try.ntmps16
    go_wp2_with fail
    refine h1.mono ?_
    rintro e w' ⟨rfl, rfl⟩
    go_wp2
    go_ret2
    exact ⟨rfl, rfl⟩
  · rw [if_neg h0]
    have g0 : ((y : Int) == 0) = false := by simp; omega
    have i1 : (2 : Int) ≤ (p : Int) := by omega
    have i2 : (p : Int) ≤ 2147483648 := by omega
    clear hy
    go_enter Try.func16, Try.ntmps16
    go_wp2_with fail
    refine h1.mono ?_
    rintro e w' ⟨rfl, rfl⟩
    go_wp2
    go_loopw [1, 6, 7] (fun u1 u6 u7 wr => ∃ z o n : Nat, u1 = .int .u32 (z : Int) ∧ u6 = .int .u32 (o : Int) ∧ u7 = .int .u64 (n : Int) ∧ z ≤ 2147483648 ∧ o ≤ 2147483648 ∧ n ≤ 2147483648 ∧ pw p n o z = pw p (p - 2) 1 y ∧ wr = w) (fun _ _ u7 _ => (intOf u7).toNat)
    case atStart => exact ⟨y, 1, p - 2, rfl, rfl, by go_num, by omega, by omega, by omega, rfl, rfl⟩
    case round =>
      obtain ⟨z, o, n, rfl, rfl, rfl, hz, ho, hn, hq, rfl⟩ := hrel
      have HQ := hide hq
      clear hq
      have m1 := mmul_any _ p o z wr HM.out (by omega) hp2 (by omega) (by omega)
      have m2 := mmul_any _ p z z wr HM.out (by omega) hp2 (by omega) (by omega)
      rw [fmul_mod] at m1 m2
      obtain ⟨x1, hx1⟩ : ∃ x, x = fmul p o z := ⟨_, rfl⟩
      obtain ⟨x2, hx2⟩ : ∃ x, x = fmul p z z := ⟨_, rfl⟩
      rw [← hx1] at m1
      rw [← hx2] at m2
      have l1 : x1 < p := by rw [hx1]; exact fmul_lt _ _ _ (by omega)
      have l2 : x2 < p := by rw [hx2]; exact fmul_lt _ _ _ (by omega)
      have HX1 := hide hx1
      have HX2 := hide hx2
      clear hx1 hx2
      by_cases hn0 : 0 < n
      · have hand := u64_and1 n (by omega)
        obtain ⟨b, hb⟩ : ∃ b, b = n % 2 := ⟨_, rfl⟩
        rw [← hb] at hand
        have hbb : b = 0 ∨ b = 1 := by omega
        have HB := hide hb
        clear hb
        rcases hbb with rfl | rfl
        · go_wp2_with fail
          refine m2.mono ?_
          rintro e w' ⟨rfl, rfl⟩
          go_wp2
          go_roundw
          case rel => exact ⟨x2, o, n / 2, rfl, rfl, by go_num, by omega, by omega, by omega, by rw [← HQ.out, pw_even p n o z hn0 HB.out.symm, HX2.out], by first | rfl | trivial⟩
          case measure => simp [intOf]; omega
        · go_wp2_with fail
          refine m1.mono ?_
          rintro e w' ⟨rfl, rfl⟩
          go_wp2_with fail
          refine m2.mono ?_
          rintro e w' ⟨rfl, rfl⟩
          go_wp2
          go_roundw
          case rel => exact ⟨x2, x1, n / 2, rfl, rfl, by go_num, by omega, by omega, by omega, by rw [← HQ.out, pw_odd p n o z HB.out.symm, HX2.out, HX1.out], by first | rfl | trivial⟩
          case measure => simp [intOf]; omega
      · have hn1 : n = 0 := by omega
        subst hn1
        have h2 := told_any _ p o wr HM.out (by omega) hp2 (by omega)
        have hq := HQ.out
        rw [pw_zero] at hq
        subst hq
        go_wp2_with fail
        refine h2.mono ?_
        rintro e w' ⟨rfl, rfl⟩
        go_wp2
        go_ret2
        exact ⟨rfl, rfl⟩
end Go.Proofs.Ytoaaplngdomdcaa
