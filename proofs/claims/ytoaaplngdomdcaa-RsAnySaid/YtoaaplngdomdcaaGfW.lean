/- Contracts of the field's functions: the product, the inverse, and the methods of Field that the matrices call. -/
import Derived.Test.YtoaaplngdomdcaaKit
import Derived.Test.YtoaaplngdomdcaaGf
import Derived.Laws.BitsAll
namespace Go.Proofs.Ytoaaplngdomdcaa
open Go.RowKit

set_option maxHeartbeats 800000 in
theorem gmul_any (x y : UInt8) (w : World) :
    Calls Try.prog 116 #[.int .u8 (x.toNat : Int), .int .u8 (y.toNat : Int)] w fun e w' => e = .returned (.int .u8 ((bmul x y).toNat : Int)) ∧ w = w' := by
  have hx := x.toNat_lt
  have hy := y.toNat_lt
  rw [bmul_toNat]
  obtain ⟨G, hG⟩ : ∃ G, G = gmul x.toNat y.toNat := ⟨_, rfl⟩
  rw [← hG]
  have H0 : Hid (gm 8 0 x.toNat y.toNat = G) := hG.symm
  clear hG
  generalize x.toNat = X at *
  generalize y.toNat = Y at *
  go_enter Try.func116, Try.ntmps116
  go_wp2
  go_loopw [0, 1, 5, 6] (fun a b p _ wr => ∃ A B P n : Nat, A < 256 ∧ P < 256 ∧ B < 256 ∧ B < 2 ^ n ∧ gm n P A B = G ∧ a = .int .u8 (A : Int) ∧ b = .int .u8 (B : Int) ∧ p = .int .u8 (P : Int) ∧ w = wr) (fun _ b _ _ _ => (intOf b).toNat)
  case atStart => exact ⟨X, Y, 0, 8, hx, by omega, hy, hy, H0.out, rfl, rfl, rfl, rfl⟩
  case round =>
    clear H0 hx hy
    obtain ⟨A, B, P, n, hA, hP, hB, hBn, hG, rfl, rfl, rfl, rfl⟩ := hrel
    have HG := hide hG
    have HB := hide hBn
    clear hG hBn
    by_cases hb : B = 0
    · subst hb
      have hb2 : ((0 : Nat) : Int) = 0 := rfl
      go_wp2
      go_ret
      refine ⟨ret_int ?_, rfl⟩
      have := HG.out
      rw [gm_b0] at this
      rw [this]
    · obtain ⟨n, rfl⟩ : ∃ m, n = m + 1 := by
        rcases n with _ | n
        · have := HB.out; simp at this; omega
        · exact ⟨n, rfl⟩
      have h3 : bits .xor .u8 (P : Int) (A : Int) = ((P ^^^ A : Nat) : Int) := u8_xor_nat P A hP hA
      have hPA := xor_lt hP hA
      have hgA := gx_lt A hA
      have hb0 : ¬ ((B : Int) = 0) := by omega
      have hBn2 : B / 2 < 2 ^ n := by have := HB.out; rw [Nat.pow_succ] at this; omega
      have HB2 := hide hBn2
      clear hBn2 HB
      have hAl : A < 128 → bits .and .u8 (A : Int) 128 = 0 := fun hA2 => by
        have := u8_and_nat A 128 hA (by omega)
        rw [show A &&& 128 = 0 by have := nat_bit 7 A; rw [show A / 2 ^ 7 % 2 = 0 by omega] at this; simpa using this] at this
        exact this
      have hAh : ¬ A < 128 → bits .and .u8 (A : Int) 128 = 128 := fun hA2 => by
        have := u8_and_nat A 128 hA (by omega)
        rw [show A &&& 128 = 128 by have := nat_bit 7 A; rw [show A / 2 ^ 7 % 2 = 1 by omega] at this; simpa using this] at this
        exact this
      have hgl : A < 128 → gx A = 2 * A := fun h => by unfold gx; rw [if_pos h]
      have hgh : ¬ A < 128 → bits .xor .u8 ((2 * A - 256 : Nat) : Int) 29 = ((gx A : Nat) : Int) := fun h => by
        unfold gx
        rw [if_neg h]
        exact u8_xor_nat _ 29 (by omega) (by omega)
      have hwr : ¬ A < 128 → IntKind.u8.wrap ((A : Int) * 2) = ((2 * A - 256 : Nat) : Int) := fun h => by
        rw [IntKind.wrap_u8']
        omega
      rcases Nat.mod_two_eq_zero_or_one B with hm | hm
      · have h1 : bits .and .u8 (B : Int) 1 = 0 := by
          have := u8_and_nat B 1 hB (by omega)
          rw [nat_mask1, hm] at this
          exact this
        have hstep : gm n P (gx A) (B / 2) = G := by
          have := HG.out
          simp only [gm] at this
          rwa [if_pos hm] at this
        have HG := hide hstep
        clear hstep
        by_cases hA2 : A < 128
        · have h2 := hAl hA2
          have h4 := hide (hgl hA2)
          clear hAl hAh hgl hgh hwr
          go_wp2
          go_roundw
          case rel => exact ⟨gx A, B / 2, P, n, hgA, hP, by omega, HB2.out, HG.out, by rw [h4.out]; go_num, by go_num, rfl, trivial⟩
          case measure => simp [intOf]; omega
        · have h2 := hAh hA2
          have h4 := hgh hA2
          have h5 := hwr hA2
          clear hAl hAh hgl hgh hwr
          go_wp2
          go_roundw
          case rel => exact ⟨gx A, B / 2, P, n, hgA, hP, by omega, HB2.out, HG.out, rfl, by go_num, rfl, trivial⟩
          case measure => simp [intOf]; omega
      · have h1 : bits .and .u8 (B : Int) 1 = 1 := by
          have := u8_and_nat B 1 hB (by omega)
          rw [nat_mask1, hm] at this
          exact this
        have hstep : gm n (P ^^^ A) (gx A) (B / 2) = G := by
          have := HG.out
          simp only [gm] at this
          rwa [if_neg (by omega)] at this
        have HG := hide hstep
        clear hstep
        by_cases hA2 : A < 128
        · have h2 := hAl hA2
          have h4 := hide (hgl hA2)
          clear hAl hAh hgl hgh hwr
          go_wp2
          go_roundw
          case rel => exact ⟨gx A, B / 2, P ^^^ A, n, hgA, hPA, by omega, HB2.out, HG.out, by rw [h4.out]; go_num, by go_num, rfl, trivial⟩
          case measure => simp [intOf]; omega
        · have h2 := hAh hA2
          have h4 := hgh hA2
          have h5 := hwr hA2
          clear hAl hAh hgl hgh hwr
          go_wp2
          go_roundw
          case rel => exact ⟨gx A, B / 2, P ^^^ A, n, hgA, hPA, by omega, HB2.out, HG.out, rfl, by go_num, rfl, trivial⟩
          case measure => simp [intOf]; omega

def bpw : Nat → UInt8 → UInt8 → UInt8
  | 0, _, p => p
  | n + 1, a, p => bpw n (bmul a a) (bmul p (bmul a a))
theorem bpw_toNat (n : Nat) : ∀ a p : UInt8, (bpw n a p).toNat = gpw n a.toNat p.toNat := by
  induction n with
  | zero => intro a p; rfl
  | succ n ih => intro a p; simp only [bpw, gpw, ih, bmul_toNat]
theorem bpw_inv {x : UInt8} (h : x ≠ 0) : bpw 7 x 1 = binv x := by
  apply UInt8.toNat_inj.1
  have h' : ¬ x.toNat = 0 := fun h0 => h (UInt8.toNat_inj.1 (by simpa using h0))
  rw [bpw_toNat, binv_toNat, ginv, if_neg h']
  rfl
theorem binv_zero : binv 0 = 0 := by
  apply UInt8.toNat_inj.1
  rw [binv_toNat]
  rfl

set_option maxHeartbeats 800000 in
theorem ginv_any (x : UInt8) (w : World) :
    Calls Try.prog 66 #[.int .u8 (x.toNat : Int)] w fun e w' => (∃ n : Int, e = .returned (.tuple #[.int .u8 ((binv x).toNat : Int), .int .i64 n]) ∧ (n = 0 ↔ x ≠ 0)) ∧ w = w' := by
  by_cases h0 : x = 0
  · subst h0
    have e0 : (((0 : UInt8).toNat : Nat) : Int) = 0 := rfl
    rw [binv_zero, e0]
    go_enter Try.func66, Try.ntmps66
    go_wp2
    go_ret2
    exact ⟨⟨60, rfl, by decide⟩, rfl⟩
  · have hx0 : ((x.toNat : Int) == 0) = false := by
      have : ¬ ((x.toNat : Int) = 0) := fun h => h0 (UInt8.toNat_inj.1 (by simpa using h))
      simp only [beq_eq_false_iff_ne]
      exact this
    have H0 := hide (bpw_inv h0)
    have HX := hide h0
    clear h0
    generalize binv x = R at *
    go_enter Try.func66, Try.ntmps66
    go_wp2
    go_loopw [0, 4, 7] (fun a p i wr => ∃ (y z : UInt8) (k : Nat), k ≤ 7 ∧ Hid (bpw (7 - k) y z = R) ∧ a = .int .u8 (y.toNat : Int) ∧ p = .int .u8 (z.toNat : Int) ∧ i = .int .i64 (k : Int) ∧ w = wr) (fun _ _ i _ => 7 - (intOf i).toNat)
    case atStart => exact ⟨x, 1, 0, by omega, H0, rfl, rfl, rfl, rfl⟩
    case round =>
      clear H0
      obtain ⟨y, z, k, hk, HR, rfl, rfl, rfl, rfl⟩ := hrel
      by_cases hk7 : k < 7
      · have hR2 : bpw (7 - (k + 1)) (bmul y y) (bmul z (bmul y y)) = R := by
          have := HR.out
          rwa [show 7 - k = (7 - (k + 1)) + 1 by omega] at this
        have HR := hide hR2
        clear hR2
        have q1 := gmul_any y y w
        have q2 := gmul_any z (bmul y y) w
        go_wp2_with fail
        refine q1.mono ?_
        rintro e w' ⟨rfl, rfl⟩
        go_wp2_with fail
        refine q2.mono ?_
        rintro e w' ⟨rfl, rfl⟩
        go_wp2
        go_roundw
        case rel => exact ⟨bmul y y, bmul z (bmul y y), k + 1, by omega, HR, rfl, rfl, by go_num, trivial⟩
        case measure => simp [intOf]; omega
      · have hk8 : k = 7 := by omega
        subst hk8
        have hR := HR.out
        simp only [bpw, Nat.sub_self] at hR
        subst hR
        go_wp2
        go_ret2
        exact ⟨⟨0, rfl, by simpa using HX.out⟩, rfl⟩
end Go.Proofs.Ytoaaplngdomdcaa
