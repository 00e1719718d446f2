/- The contract of the document's ReadNumber. -/
import Derived.Test.YteaagngikiaokaaDoorNumW
namespace Go.Proofs.YteaagngikiaokaaDoor
open Go.RowKit

theorem u64id (x : Int) (h0 : 0 ≤ x) (h1 : x < 18446744073709551616) : IntKind.u64.wrap x = x := by
  simp [IntKind.wrap, IntKind.bits, IntKind.signed]
  omega

set_option maxRecDepth 100000 in
set_option maxHeartbeats 3200000 in
theorem rread_any (s : ByteArray) (most : Int) (w : World) (hs : s.size ≤ 1048576) (hm : -9223372036854775808 ≤ most ∧ most ≤ 9223372036854775807) :
    Calls Tryd.prog 65 #[.string s, .int .i64 most] w fun e w' => e = .returned (.tuple #[.int .i64 (rdN (lst s) most), .int .i64 (rdE (lst s) most)]) ∧ w = w' := by
  have hlen := lst_len s
  by_cases hA : s.size = 0
  · have hr : rd (lst s) most = none := by unfold rd rdv; rw [if_pos (.inl (by omega))]
    unfold rdN rdE
    rw [hr]
    have g : ((s.size : Int) == 0) = true := by rw [beq_iff_eq]; omega
    clear hr hlen hA
    go_enter Tryd.func65, Tryd.ntmps65
    go_wp2
    go_ret2
    exact ⟨rfl, rfl⟩
  have gA : ((s.size : Int) == 0) = false := by rw [beq_eq_false_iff_ne]; omega
  by_cases hB : 19 < s.size
  · have hr : rd (lst s) most = none := by unfold rd rdv; rw [if_pos (.inr (.inl (by omega)))]
    unfold rdN rdE
    rw [hr]
    have g : (s.size : Int) > 19 := by omega
    clear hr hlen
    go_enter Tryd.func65, Tryd.ntmps65
    go_wp2
    go_ret2
    exact ⟨rfl, rfl⟩
  have gB : ¬ (s.size : Int) > 19 := by omega
  have h0 : 0 < s.size := by omega
  have hg0 := lst_get s 0 h0
  by_cases hC : 1 < s.size ∧ s[0] = 48
  · have hr : rd (lst s) most = none := by unfold rd rdv; rw [if_pos (.inr (.inr ⟨by omega, by rw [hg0, hC.2]⟩))]
    unfold rdN rdE
    rw [hr]
    have g : (s.size : Int) > 1 := by omega
    have g2 : ((s[0].toNat : Int) == 48) = true := by rw [hC.2]; rfl
    have g3 : (0 : Int) < (s.size : Int) := by omega
    clear hr hlen hC hg0
    go_enter Tryd.func65, Tryd.ntmps65
    go_wp2
    go_ret2
    exact ⟨rfl, rfl⟩
  have hrdv : rdv (lst s) = Lib.decFrom 0 (lst s) := by
    unfold rdv
    rw [if_neg]
    rintro (h | h | ⟨h, h2⟩)
    · omega
    · omega
    · rw [hg0] at h2
      injection h2 with h2
      exact hC ⟨by omega, h2⟩
  have HR := hide hrdv
  have HL := hide hlen
  have hD : ¬ (s.size : Int) > 1 ∨ ((s.size : Int) > 1 ∧ ((s[0].toNat : Int) == 48) = false) := by
    by_cases h1 : 1 < s.size
    · refine .inr ⟨by omega, ?_⟩
      simp only [beq_eq_false_iff_ne]
      intro e
      exact hC ⟨h1, UInt8.toNat_inj.1 (by have : s[0].toNat = 48 := by omega
                                          rw [this]; rfl)⟩
    · exact .inl (by omega)
  have g3 : (0 : Int) < (s.size : Int) := by omega
  clear hrdv hlen hC hg0 hA
  rcases hD with hD | ⟨hD, hD2⟩
  all_goals
    go_enter Tryd.func65, Tryd.ntmps65
    go_wp2
    go_loopw [6, 7] (fun u6 u7 wr => ∃ i n : Nat, i ≤ s.size ∧ u7 = .int .i64 (i : Int) ∧ u6 = .int .u64 (n : Int) ∧ Lib.decFrom 0 ((lst s).take i) = some n ∧ w = wr) (fun _ u7 _ => s.size - (intOf u7).toNat)
    case atStart => exact ⟨0, 0, by omega, rfl, rfl, by simp [Lib.decFrom], rfl⟩
    case round =>
      obtain ⟨i, n, hi, rfl, rfl, hdec, rfl⟩ := hrel
      have hlt := Lib.decFrom_lt _ _ _ hdec
      have hnb : i ≤ 18 → n < 1000000000000000000 := fun hi18 => by
        have hp : 10 ^ ((lst s).take i).length ≤ 10 ^ 18 := Nat.pow_le_pow_right (by decide) (by rw [List.length_take]; omega)
        have e18 : (10 : Nat) ^ 18 = 1000000000000000000 := by decide
        omega
      have hnb2 : n < 10000000000000000000 := by
        have hp : 10 ^ ((lst s).take i).length ≤ 10 ^ 19 := Nat.pow_le_pow_right (by decide) (by rw [List.length_take]; omega)
        have e19 : (10 : Nat) ^ 19 = 10000000000000000000 := by decide
        omega
      have HD := hide hdec
      clear hdec hlt
      by_cases hil : i < s.size
      · have i1 : (i : Int) < (s.size : Int) := by omega
        have i2 : (0 : Int) ≤ (i : Int) := by omega
        have hn18 := hnb (by omega)
        have hgi := lst_get s i hil
        have HG := hide hgi
        have hc8 := s[i].toNat_lt
        clear hnb hnb2 hgi
        by_cases hdig : 48 ≤ s[i].toNat ∧ s[i].toNat ≤ 57
        · have hdv : Lib.digitVal s[i] = some (s[i].toNat - 48) := by unfold Lib.digitVal; rw [if_pos hdig]
          have HN := hide (Lib.decFrom_take (lst s) i 0 n s[i] _ HD.out HG.out hdv)
          have d1 : ¬ (s[i].toNat : Int) < 48 := by omega
          have d2 : ¬ (s[i].toNat : Int) > 57 := by omega
          have hw0 : IntKind.u8.wrap ((s[i].toNat : Int) - 48) = (s[i].toNat : Int) - 48 := by rw [IntKind.wrap_u8']; omega
          have hw1 : IntKind.u64.wrap ((s[i].toNat : Int) - 48) = (s[i].toNat : Int) - 48 := u64id _ (by omega) (by omega)
          have hw2 : IntKind.u64.wrap (10 * (n : Int)) = 10 * (n : Int) := u64id _ (by omega) (by omega)
          have hw3 : IntKind.u64.wrap (10 * (n : Int) + ((s[i].toNat : Int) - 48)) = 10 * (n : Int) + ((s[i].toNat : Int) - 48) := u64id _ (by omega) (by omega)
          have hfin : 10 * (n : Int) + ((s[i].toNat : Int) - 48) = ((n * 10 + (s[i].toNat - 48) : Nat) : Int) := by omega
          have HF := hide hfin
          clear hdv hfin
          go_wp2
          go_roundw
          case rel => exact ⟨i + 1, n * 10 + (s[i].toNat - 48), by omega, by go_num, by first | (rw [← HF.out]; done) | (congr 1; have := HF.out; omega), HN.out, by first | rfl | trivial⟩
          case measure => simp [intOf]; omega
        · have hr : rd (lst s) most = none := by
            unfold rd
            rw [HR.out]
            cases hd : Lib.decFrom 0 (lst s) with
            | none => rfl
            | some m =>
              obtain ⟨d, hd2⟩ := Lib.digit_of_decFrom _ _ _ hd i _ HG.out
              have := Lib.digitVal_eq hd2
              omega
          have HRR := hide (show rdN (lst s) most = 0 ∧ rdE (lst s) most = 102 by unfold rdN rdE; rw [hr]; exact ⟨rfl, rfl⟩)
          clear hr
          by_cases hlo : s[i].toNat < 48
          · have d1 : (s[i].toNat : Int) < 48 := by omega
            go_wp2
            go_ret2
            exact ⟨by rw [HRR.out.1, HRR.out.2]; rfl, rfl⟩
          · have d1 : ¬ (s[i].toNat : Int) < 48 := by omega
            have d2 : (s[i].toNat : Int) > 57 := by omega
            go_wp2
            go_ret2
            exact ⟨by rw [HRR.out.1, HRR.out.2]; rfl, rfl⟩
      · have his : i = s.size := by omega
        have hd := HD.out
        rw [his, ← HL.out, List.take_of_length_le (Nat.le_refl _)] at hd
        have hrv : rdv (lst s) = some n := by rw [HR.out, hd]
        have i1 : ¬ (i : Int) < (s.size : Int) := by omega
        have hwn : IntKind.u64.wrap (n : Int) = (n : Int) := u64id _ (by omega) (by omega)
        clear HD hd his hnb
        by_cases hm0 : most < 0
        · have hr : rd (lst s) most = none := by unfold rd; rw [hrv]; simp only; rw [if_neg (by omega)]
          have HRR := hide (show rdN (lst s) most = 0 ∧ rdE (lst s) most = 102 by unfold rdN rdE; rw [hr]; exact ⟨rfl, rfl⟩)
          clear hr hrv
          go_wp2
          go_ret2
          exact ⟨by rw [HRR.out.1, HRR.out.2]; rfl, rfl⟩
        · have hwm : IntKind.u64.wrap most = most := u64id _ (by omega) (by omega)
          by_cases hnm : (n : Int) > most
          · have hr : rd (lst s) most = none := by unfold rd; rw [hrv]; simp only; rw [if_neg (by omega)]
            have HRR := hide (show rdN (lst s) most = 0 ∧ rdE (lst s) most = 102 by unfold rdN rdE; rw [hr]; exact ⟨rfl, rfl⟩)
            clear hr hrv
            go_wp2
            go_ret2
            exact ⟨by rw [HRR.out.1, HRR.out.2]; rfl, rfl⟩
          · have hr : rd (lst s) most = some n := by unfold rd; rw [hrv]; simp only; rw [if_pos (by omega)]
            have hwi : IntKind.i64.wrap (n : Int) = (n : Int) := by simp [IntKind.wrap, IntKind.bits, IntKind.signed]; omega
            have HRR := hide (show rdN (lst s) most = (n : Int) ∧ rdE (lst s) most = 0 by unfold rdN rdE; rw [hr]; exact ⟨rfl, rfl⟩)
            clear hr hrv
            go_wp2
            go_ret2
            exact ⟨by rw [HRR.out.1, HRR.out.2]; rfl, rfl⟩
end Go.Proofs.YteaagngikiaokaaDoor
