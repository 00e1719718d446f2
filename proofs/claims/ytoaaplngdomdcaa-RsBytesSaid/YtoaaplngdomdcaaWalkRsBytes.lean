/- RsBytes: each byte by itself. -/
import Derived.Test.YtoaaplngdomdcaaRsE
namespace Go.Proofs.Ytoaaplngdomdcaa
open Go.RowKit

set_option maxRecDepth 100000 in
set_option maxHeartbeats 4000000 in
theorem law_rsbytes (k n : Int) (vb : Value) (l : List UInt8) (at_ : Int) (w : World) (_hk : (Lit.int .i64 k).wf = true) (_hn : (Lit.int .i64 n).wf = true) (hb : By w vb l) (hl : l.length ≤ 140737488351232) (hat : (Lit.int .i64 at_).wf = true) :
    Calls Try.prog 5 #[.int .i64 k, .int .i64 n, vb, .int .i64 at_] w fun e w' => e = .returned (.bool true) ∧ Below w.heap.size w w' := by
  have q0 := lives_any w
  by_cases hkn : 1 ≤ k ∧ k ≤ n ∧ n ≤ 255
  · obtain ⟨K, rfl⟩ : ∃ K : Nat, k = (K : Int) := ⟨k.toNat, by omega⟩
    obtain ⟨N, rfl⟩ : ∃ N : Nat, n = (N : Int) := ⟨n.toNat, by omega⟩
    have hK1 : 1 ≤ K := by omega
    have hKN : K ≤ N := by omega
    have hN : N ≤ 255 := by omega
    clear hkn
    have HB := hide hb
    obtain ⟨A, c, rfl, _, _, _⟩ := hb.form
    clear hb
    go_enter Try.func5, Try.ntmps5
    go_wp2_with fail
    refine q0.mono ?_
    rintro e w1 ⟨rfl, hb1⟩
    have q1 := rsnew_any K N w1 hK1 hKN hN
    go_wp2_with fail
    refine q1.mono ?_
    rintro e w2 ⟨gc, rfl, hc, hb2⟩
    have HC2 := hide (And.intro hc (hb1.trans (hb2.mono hb1.size)))
    have q2 := leven_any K _ l w2 (HB.out.below HC2.out.2) hK1 (by omega) (by omega)
    obtain ⟨m, hm⟩ : ∃ m, m = l.length / K := ⟨_, rfl⟩
    obtain ⟨D, hD⟩ : ∃ D, D = pieceD l m := ⟨_, rfl⟩
    rw [← hm, ← hD] at q2
    have hml : m ≤ 140737488351232 := by rw [hm]; exact Nat.le_trans (Nat.div_le_self _ _) hl
    clear q0 q1 hc hb1 hb2 hm hD
    go_wp2_with fail
    refine q2.mono ?_
    rintro e w3 ⟨vd, rfl, hov, hb3⟩
    have HD3 := hide (And.intro (hov.ls hb3) (And.intro (HC2.out.1.below hb3) (HC2.out.2.trans (hb3.mono HC2.out.2.size))))
    clear q2 hov hb3 HC2
    have q3 := encode_any gc K N m vd D w3 HD3.out.2.1 hK1 hKN hN HD3.out.1 (by omega)
    obtain ⟨Ad, cd, rfl, _⟩ := HD3.out.1.rows
    go_wp2_with fail
    refine q3.mono ?_
    rintro e w4 ⟨va, rfl, hown, hb4⟩
    have hD4 := HD3.out.1.below hb4
    have HD4 := hide (And.intro hD4 (And.intro (HD3.out.2.1.below hb4) (HD3.out.2.2.trans (hb4.mono HD3.out.2.2.size))))
    obtain ⟨Aa, ca, rfl, hca1, hca2, hrowa⟩ := hown.ls.rows
    have HA4 := hide hown.ls
    obtain ⟨Ad', cd', he, _, _, hrowd⟩ := hD4.rows
    injection he with e1 _ e3
    subst e1 e3
    clear q3 hown hb4 HD3 hD4
    obtain ⟨b0, o0, B0, d0, hAd, hlt0, hcell0, hd01, hd02, _, _⟩ := hrowd 0 (by omega)
    subst hAd
    rw [Nat.add_zero] at hcell0
    have i0 : (0 : Int) < (K : Int) := by omega
    have hnn : ((N : Int) != (N : Int)) = false := by simp
    by_cases hm0 : m = 0
    · obtain ⟨bl, ol, Bl, dl, rfl, _, hcelll, _, _, _, _⟩ := hrowa (N - 1) (by omega)
      have hw1 : IntKind.i64.wrap ((N : Int) - 1) = ((N - 1 : Nat) : Int) := by
        simp [IntKind.wrap, IntKind.bits, IntKind.signed]
        omega
      have i1 : ((N - 1 : Nat) : Int) < (N : Int) := by omega
      have i2 : (0 : Int) ≤ ((N - 1 : Nat) : Int) := by omega
      have hm1 : (m : Int) = 0 := by omega
      clear hrowa hrowd hm0
      go_wp2
      go_ret
      exact ⟨rfl, HD4.out.2.2⟩
    · have hm1 : ((m : Int) == 0) = false := by simp; omega
      have q4 := fun w => pick_any at_ m w (by omega) (by omega) hat
      have hp := pickN_lt (x := at_) (n := m) (by omega)
      generalize pickN at_ m = I at *
      go_wp2_with fail
      refine (q4 _).mono ?_
      rintro e w' ⟨rfl, rfl⟩
      have HP := hide hrowd
      have HQ := hide hrowa
      clear q4 hrowd hrowa
      go_wp2
      go_loopw [15, 16] (fun u15 u16 wr => ∃ j : Nat, j ≤ K ∧ u16 = .int .i64 (j : Int) ∧ OV w4 wr w4.heap.size 38 u15 (rowsOf 1 (fun j _ => D j I) j) ∧ Below w4.heap.size w4 wr) (fun _ u16 _ => K - (intOf u16).toNat)
      case atStart => exact ⟨0, by omega, rfl, OV.nil _ _ _ _, Below.refl _ _⟩
      case round =>
        obtain ⟨j, hj, rfl, hown, hbel⟩ := hrel
        have HO := hide hown
        clear hown
        by_cases hlt : j < K
        · have j1 : (j : Int) < (K : Int) := by omega
          have j2 : (0 : Int) ≤ (j : Int) := by omega
          obtain ⟨b, o, B, d, hAd, hltb, hcell, hd1, hd2, hby, hel⟩ := HP.out j hlt
          injection hAd with hAd
          injection hAd with e1 e2 _
          subst e1 e2
          obtain ⟨b2, o2, rfl, hlt2, hcell2⟩ := hel I hp
          have hcellr : wr.cell? ⟨b0, o0 + j, none⟩ = some (.slice (some ⟨b2, o2, none⟩) m d) := (hbel.cell (p := ⟨b0, o0 + j, none⟩) hltb).trans hcell
          have hview : By w4 (.slice (some ⟨b2, o2 + I, none⟩) 1 (d - I)) ((List.range 1).map fun _ => D j I) := by
            have h := By.part (l := (List.range m).map (D j)) (by rw [List.length_map, List.length_range]; exact hby) I 1 (by rw [List.length_map, List.length_range]; omega) (d - I) (by omega) (by omega)
            have e : (((List.range m).map (D j)).drop I).take 1 = (List.range 1).map fun _ => D j I := by
              rw [List.drop_eq_getElem_cons (by rw [List.length_map, List.length_range]; omega)]
              simp
            rw [e] at h
            exact h
          have HV := hide hview
          obtain ⟨xs, hxs, hxl⟩ := HO.out
          have HX := hide (And.intro hxs hxl)
          have HLR := hide (rowsOf_length 1 (fun j _ => D j I) j)
          have hw1 : IntKind.i64.wrap ((I : Int) + 1) = ((I + 1 : Nat) : Int) := by
            simp [IntKind.wrap, IntKind.bits, IntKind.signed]
            omega
          have k1 : (0 : Int) ≤ (I : Int) := by omega
          have k2 : (I : Int) ≤ ((I + 1 : Nat) : Int) := by omega
          have k3 : ((I + 1 : Nat) : Int) ≤ (d : Int) := by omega
          have k4 : ¬ d = I := by omega
          have k5 : ¬ I = d := by omega
          have k6 : I + 1 - I = 1 := by omega
          unfold maxLen at hd2
          clear hxs hxl hview hby hel hcell hcell2
          go_wp2_with (at_builtin; go_loud (refine wpList_push1 elemL HX.out.1 hbel hbel.size (by rw [HLR.out]; unfold maxLen; omega) (by rw [HLR.out]; omega) (.slice (some ⟨b2, o2 + I, none⟩) 1 (d - I)) rfl rfl _ _ rfl rfl rfl ?_); intro v1 w5 ho5 hb5 _ hg5 _; have HP5 := hide (OV.pushed HX.out.1 HX.out.2 HV.out ho5); clear ho5 hg5)
          go_roundw
          case rel => exact ⟨j + 1, by omega, by go_num, by rw [rowsOf_succ]; exact HP5.out, hb5⟩
          case measure => simp [intOf]; omega
        · have hjK : j = K := by omega
          have hO := HO.out
          rw [hjK] at hO
          have hO2 := hO.ls hbel
          obtain ⟨A1, c1, hv1, _⟩ := hO2.rows
          subst hv1
          have q5 := encode_any gc K N 1 _ (fun j _ => D j I) wr (HD4.out.2.1.below hbel) hK1 hKN hN hO2 (by omega)
          have HB5 := hide (And.intro hbel (HD4.out.2.2.trans (hbel.mono HD4.out.2.2.size)))
          have hjl : ¬ (j : Int) < (K : Int) := by omega
          clear hO hO2 HO hjK hbel
          go_wp2_with fail
          refine q5.mono ?_
          rintro e w6 ⟨vl, rfl, hownl, hb6⟩
          have hL6 := hownl.ls
          obtain ⟨Al, cl, rfl, _, _, hrowl⟩ := hL6.rows
          have HL6 := hide hrowl
          have HB6 := hide (And.intro (HB5.out.1.trans (hb6.mono HB5.out.1.size)) (HB5.out.2.trans (hb6.mono HB5.out.2.size)))
          clear q5 hownl hL6 hrowl hb6 HB5
          go_wp2
          go_loopw [19] (fun u19 wr => ∃ i : Nat, i ≤ N ∧ u19 = .int .i64 (i : Int) ∧ Dr w6 wr) (fun u19 _ => N - (intOf u19).toNat)
          case atStart => exact ⟨0, by omega, rfl, Dr.refl _⟩
          case round =>
            obtain ⟨i, hi, rfl, hdr⟩ := hrel
            by_cases hin : i < N
            · have j1 : (i : Int) < (N : Int) := by omega
              have j2 : (0 : Int) ≤ (i : Int) := by omega
              obtain ⟨ba, oa, Ba, da, rfl, hlta, hcella, _, _, _, hela⟩ := HQ.out i hin
              obtain ⟨ba2, oa2, rfl, hlta2, hcella2⟩ := hela I hp
              obtain ⟨bl, ol, Bl, dl, rfl, hltl, hcelll, _, _, _, hell⟩ := HL6.out i hin
              obtain ⟨bl2, ol2, rfl, hltl2, hcelll2⟩ := hell 0 (by omega)
              rw [Nat.add_zero] at hcelll2
              obtain ⟨X, hX⟩ : ∃ X, X = encE K D i I := ⟨_, rfl⟩
              rw [← hX] at hcella2
              rw [show encE K (fun j _ => D j I) i 0 = X by rw [hX]; rfl] at hcelll2
              have g1 : wr.cell? ⟨ba, oa + i, none⟩ = some (.slice (some ⟨ba2, oa2, none⟩) m da) := (hdr.cell _).trans ((HB6.out.1.cell (p := ⟨ba, oa + i, none⟩) hlta).trans hcella)
              have g2 : wr.cell? ⟨ba2, oa2 + I, none⟩ = some (.int .u8 (X.toNat : Int)) := (hdr.cell _).trans ((HB6.out.1.cell (p := ⟨ba2, oa2 + I, none⟩) hlta2).trans hcella2)
              have g3 : wr.cell? ⟨bl, ol + i, none⟩ = some (.slice (some ⟨bl2, ol2, none⟩) 1 dl) := (hdr.cell _).trans hcelll
              have g4 : wr.cell? ⟨bl2, ol2, none⟩ = some (.int .u8 (X.toNat : Int)) := (hdr.cell _).trans hcelll2
              have g5 : wr.cell? ⟨b0, o0, none⟩ = some (.slice B0 m d0) := (hdr.cell _).trans ((HB6.out.1.cell (p := ⟨b0, o0, none⟩) hlt0).trans hcell0)
              have k1 : (I : Int) < (m : Int) := by omega
              have k2 : (0 : Int) ≤ (I : Int) := by omega
              have hmm : ((m : Int) != (m : Int)) = false := by simp
              have hxx : ((X.toNat : Int) != (X.toNat : Int)) = false := by simp
              clear hcella hcella2 hcelll hcelll2 hela hell hX hcell0
              go_wp2
              go_quiet (fail)
              go_wp2
              go_roundw
              case rel => exact ⟨i + 1, by omega, by go_num, hdr.drewN _⟩
              case measure => simp [intOf]; omega
            · have hiN : ¬ (i : Int) < (N : Int) := by omega
              go_wp2
              go_ret
              exact ⟨rfl, HB6.out.2.trans (hdr.below.mono HB6.out.2.size)⟩
  · have q1 := fun w => rsnew_bad k n w hkn
    clear hkn
    obtain ⟨A, c, rfl, _, _, _⟩ := hb.form
    clear hb
    go_enter Try.func5, Try.ntmps5
    go_wp2_with fail
    refine q0.mono ?_
    rintro e w1 ⟨rfl, hb1⟩
    go_wp2_with fail
    refine (q1 _).mono ?_
    rintro e w' ⟨rfl, rfl⟩
    go_wp2
    go_ret
    exact ⟨rfl, hb1⟩
end Go.Proofs.Ytoaaplngdomdcaa
