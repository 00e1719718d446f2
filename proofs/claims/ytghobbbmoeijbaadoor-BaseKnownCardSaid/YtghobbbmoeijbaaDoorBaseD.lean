/- Contract of the program's Bytes. -/
import Derived.Test.YtghobbbmoeijbaaDoorBaseC
import Derived.Test.YtghobbbmoeijbaaDoorLst
import Derived.BigGuardPart
namespace Go.Proofs.YtghobbbmoeijbaaDoor
open Go.RowKit


theorem pow_small (h : Nat) (hh : h ≤ 8) : 2 ^ h ≤ 256 := by
  have := Nat.pow_le_pow_right (n := 2) (by omega) hh
  omega
theorem mask_cast (h : Nat) (hh : h ≤ 8) : ((2 : Int) ^ h - 1) % 4294967296 = ((2 ^ h - 1 : Nat) : Int) := by
  have h1 := pow_small h hh
  have h2 := Nat.two_pow_pos h
  have h3 : (2 : Int) ^ h = ((2 ^ h : Nat) : Int) := by rw [Int.natCast_pow]; rfl
  rw [h3]
  omega
theorem worthI_none (c : UInt8) (h : worthN c = none) : worthI c = -1 := by unfold worthI; rw [h]
theorem worthI_some (c : UInt8) (d : Nat) (h : worthN c = some d) : worthI c = (d : Int) := by unfold worthI; rw [h]

/-- Where the run jumps to the label: the place of the fault stands in slot 8. -/
def AtLetter (s : ByteArray) (w0 : World) (a : Act) (w : World) : Prop :=
  ∃ (k : Nat) (u0 u1 u2 u3 u4 u5 u6 u7 u8 u9 u10 u11 u12 u13 u14 u15 u16 u17 u18 u19 u20 u21 u22 u23 u24 u25 u26 u27 u28 u29 u30 u31 u32 u33 u34 u35 u36 u37 u38 u39 u40 u41 u42 u43 u44 u45 u46 u47 u48 u49 u50 u51 u52 u53 u54 : Value), bad (lst s) = some k ∧ u8 = .int .i64 (k : Int) ∧ Below w0.heap.size w0 w ∧ a = ⟨#[u0, u1, u2, u3, u4, u5, u6, u7, u8, u9, u10, u11, u12, u13, u14, u15, u16, u17, u18, u19, u20, u21, u22, u23, u24, u25, u26, u27, u28, u29, u30, u31, u32, u33, u34, u35, u36, u37, u38, u39, u40, u41, u42, u43, u44, u45, u46, u47, u48, u49, u50, u51, u52, u53, u54], []⟩

set_option maxRecDepth 100000 in
set_option maxHeartbeats 1000000 in
theorem bbytes_any (s : ByteArray) (w : World) (hs : s.size ≤ 140737488355328) :
    Calls Tryd.prog 18 #[.string s] w fun e w' => ∃ v, e = .returned (.tuple #[v, .int .i64 ((decode (lst s)).2.1 : Int), .int .i64 ((decode (lst s)).2.2 : Int)]) ∧
      Own w' w.heap.size 5 v (decode (lst s)).1 ∧ Below w.heap.size w w' := by
  have hlen := lst_len s
  have HLEN := hide hlen
  clear hlen
  go_enter Tryd.func18, Tryd.ntmps18
  go_wp2
  refine wp_scope_jumps 0 (AtLetter s w) (fun _ _ => 0) rfl ?_ ?_
  rotate_left
  · rintro a w1 ⟨k, u0, u1, u2, u3, u4, u5, u6, u7, u8, u9, u10, u11, u12, u13, u14, u15, u16, u17, u18, u19, u20, u21, u22, u23, u24, u25, u26, u27, u28, u29, u30, u31, u32, u33, u34, u35, u36, u37, u38, u39, u40, u41, u42, u43, u44, u45, u46, u47, u48, u49, u50, u51, u52, u53, u54, hbad, rfl, hbel, rfl⟩
    have HB := hide hbad
    clear hbad
    go_wp2
    simp only [Exit.jump]
    go_ret3
    refine ⟨.slice none 0 0, ?_, ?_, hbel⟩
    · unfold decode; rw [HB.out]; rfl
    · unfold decode; rw [HB.out]; exact Own.nil _ _ _
  go_wp2
  go_loopw [5, 6, 7, 8, 9, 12] (fun u5 u6 u7 _ _ u12 wr => ∃ k e h N : Nat, k ≤ s.size ∧ 8 * e + h = 5 * k ∧ h < 8 ∧ u12 = .int .i64 (k : Int) ∧ u7 = .int .i64 (h : Int) ∧ u6 = .int .u32 (N : Int) ∧
      N = m32 (val 32 (worths ((lst s).take k))) ∧ Own wr w.heap.size 5 u5 (part8 (lst s) k e) ∧ good (lst s) k ∧ Below w.heap.size w wr) (fun _ _ _ _ _ u12 _ => s.size - (intOf u12).toNat)
  case atStart => exact ⟨0, 0, 0, 0, by omega, by omega, by omega, rfl, rfl, rfl, by simp [worths, m32_eq], by simpa [part8, bytesN, dig] using Own.nil w w.heap.size 5, good_zero _, Below.refl _ _⟩
  case round =>
    obtain ⟨k, e, h, N, hk, heh, hh, rfl, rfl, rfl, hN, hown, hgood, hbel⟩ := hrel
    have HN := hide hN
    have HO := hide hown
    have HE := hide heh
    have HG := hide hgood
    have hN32 : (N : Int) ≤ 4294967295 := by have := m32_lt (val 32 (worths ((lst s).take k))); omega
    clear hN hown heh hgood
    by_cases hlt : k < s.size
    · have hx := lst_get s k hlt
      have HX := hide hx
      clear hx
      have hwc := worth_any (s[k]'hlt)
      rcases hwn : worthN (s[k]'hlt) with _ | d
      · rw [worthI_none _ hwn] at hwc
        have HW := hide hwn
        clear hwn
        go_wp2_with (go_at_call 29; ((with_reducible refine (hwc _).mono ?_)); rintro e w' ⟨rfl, rfl⟩)
        go_step3
        simp only [Exit.then, Exit.inBlock, Exit.jump]
        refine ⟨rfl, k, _, _, _, _, _, _, _, _, _, _, _, _, _, _, _, _, _, _, _, _, _, _, _, _, _, _, _, _, _, _, _, _, _, _, _, _, _, _, _, _, _, _, _, _, _, _, _, _, _, _, _, _, _, _, _, bad_some _ k _ HG.out HX.out HW.out, rfl, hbel, rfl⟩
      · rw [worthI_some _ _ hwn] at hwc
        have hd32 := (letter_worth _ _ hwn).2
        have HW := hide hwn
        clear hwn
        obtain ⟨NB, hNB⟩ : ∃ NB : Nat, NB = (N * 32) % 4294967296 + d := ⟨_, rfl⟩
        have hor : bits .or .u32 ((N : Int) * 32 % 4294967296) (d : Int) = (NB : Int) := by
          rw [show ((N : Int) * 32 % 4294967296) = ((N * 32 % 4294967296 : Nat) : Int) by omega, u32_or_nat _ _ (by omega) (by omega), or_five32 _ _ hd32, hNB]
        have hNB2 : NB = m32 (val 32 (worths ((lst s).take (k + 1)))) := by
          rw [hNB, HN.out, m32_five _ _ hd32, val_take_snoc _ k _ HX.out, HW.out]; rfl
        have hNB3 : (NB : Int) ≤ 4294967295 := by have := m32_lt (val 32 (worths ((lst s).take (k + 1)))); omega
        have HNB := hide hNB2
        clear hNB2 hNB
        have hh8 : (h : Int) < 8 := by omega
        by_cases h3 : 3 ≤ h
        · obtain ⟨y, hy⟩ : ∃ y : UInt8, y = UInt8.ofNat (NB / 2 ^ (h - 3) % 256) := ⟨_, rfl⟩
          have hyi : (NB : Int) / 2 ^ (h - 3) % 256 = (y.toNat : Int) := by
            rw [div_pow_cast, hy, UInt8.toNat_ofNat']; omega
          have HY := hide hy
          clear hy
          go_wp2_with (first
            | (go_at_call 29; ((with_reducible refine (hwc _).mono ?_)); rintro e w' ⟨rfl, rfl⟩)
            | (at_builtin; go_loud (refine wpList_pushB elem8 HO.out hbel hbel.size (by rw [part8_length]; have := HE.out; omega) y rfl _ _ rfl rfl rfl ?_); intro v1 w1 hown1 hbel1 hgr1 _))
          go_roundw
          case rel =>
            refine ⟨k + 1, e + 1, h - 3, NB, by omega, by have := HE.out; omega, by omega, by go_num, by go_num, rfl, HNB.out, ?_, good_succ _ k _ HG.out HX.out (by rw [HW.out]; rfl), hbel1⟩
            rw [part8_byte _ (k + 1) e (by have := HE.out; omega), part8_letter _ k e _ HX.out (by have := HE.out; omega), show 5 * (k + 1) - 8 * (e + 1) = h - 3 by have := HE.out; omega]
            have hyv : UInt8.ofNat (val 32 (worths ((lst s).take (k + 1))) / 2 ^ (h - 3) % 256) = y := by
              rw [HY.out, HNB.out, show (256 : Nat) = 2 ^ 8 from rfl, m32_bits _ _ 8 (by omega)]
            rw [hyv]
            exact hown1
          case measure => simp [intOf]; omega
        · go_wp2_with (go_at_call 29; ((with_reducible refine (hwc _).mono ?_)); rintro e w' ⟨rfl, rfl⟩)
          go_roundw
          case rel =>
            refine ⟨k + 1, e, h + 5, NB, by omega, by have := HE.out; omega, by omega, by go_num, by go_num, rfl, HNB.out, ?_, good_succ _ k _ HG.out HX.out (by rw [HW.out]; rfl), hbel⟩
            rw [part8_letter _ k e _ HX.out (by have := HE.out; omega)]
            exact HO.out
          case measure => simp [intOf]; omega
    · have hks : k = s.size := by omega
      subst hks
      have hend := part8_end (lst s) e h (by have := HE.out; have := HLEN.out; omega) hh
      have h8 : 5 * (lst s).length % 8 = h := by have := HE.out; have := HLEN.out; omega
      have H8 := hide h8
      clear h8
      by_cases h5 : 5 ≤ h
      · have g1 : decide ((5 : Int) ≤ (h : Int)) = true := by simp; omega
        go_wp2
        simp only [Exit.jump]
        go_ret3
        have hd : decode (lst s) = ([], s.size - 1, 101) := by
          unfold decode
          rw [bad_none _ (by have := HG.out; rwa [HLEN.out])]
          simp only []
          rw [if_pos (.inl (by rw [H8.out]; exact h5)), HLEN.out]
        have h0 : 1 ≤ s.size := by have := HE.out; omega
        rw [hd]
        refine ⟨.slice none 0 0, ?_, Own.nil _ _ _, hbel⟩
        rw [show ((s.size - 1 : Nat) : Int) = (s.size : Int) - 1 by omega]
        rfl
      · have g1 : decide ((5 : Int) ≤ (h : Int)) = false := by simp; omega
        obtain ⟨T, hT⟩ : ∃ T : Nat, T = N % 2 ^ h := ⟨_, rfl⟩
        have hmask : bits .and .u32 (N : Int) ((2 ^ h - 1) % 4294967296) = (T : Int) := by
          rw [mask_cast h (by omega), u32_and_nat _ _ (by omega) (by have := pow_small h (by omega); omega), Nat.and_two_pow_sub_one_eq_mod, hT]
        have hTv : T = val 32 (worths (lst s)) % 2 ^ (5 * (lst s).length % 8) := by
          rw [hT, HN.out, m32_low _ _ (by omega), ← HLEN.out, List.take_length, show 5 * (lst s).length % 8 = h by have := HE.out; have := HLEN.out; omega]
        have hgood : bad (lst s) = none := bad_none _ (by have := HG.out; rwa [HLEN.out])
        have HT := hide hTv
        have HB := hide hgood
        clear hT hTv hgood
        by_cases hT0 : T = 0
        · have g2 : ((T : Int) != 0) = false := by rw [hT0]; rfl
          have hd : decode (lst s) = (part8 (lst s) s.size e, 0, 0) := by
            unfold decode
            rw [HB.out]
            simp only []
            rw [if_neg (by rw [← HT.out, H8.out]; omega)]
            rw [HLEN.out] at hend
            rw [hend, HLEN.out]
          have HD := hide hd
          clear hd hend hT0
          go_wp2
          simp only [Exit.jump]
          go_ret3
          rw [HD.out]
          exact ⟨u5, rfl, HO.out, hbel⟩
        · have g2 : ((T : Int) != 0) = true := by rw [bne_iff_ne]; omega
          have hd : decode (lst s) = ([], s.size - 1, 101) := by
            unfold decode
            rw [HB.out]
            simp only []
            rw [if_pos (.inr (by rw [← HT.out]; exact hT0)), HLEN.out]
          have h0 : 1 ≤ s.size := by
            rcases Nat.eq_zero_or_pos s.size with h0 | h0
            · have h1 := HT.out
              rw [← HLEN.out] at h0
              rw [List.eq_nil_of_length_eq_zero h0] at h1
              exact absurd h1 hT0
            · exact h0
          have HD := hide hd
          clear hd hend hT0
          go_wp2
          simp only [Exit.jump]
          go_ret3
          rw [HD.out]
          refine ⟨.slice none 0 0, ?_, Own.nil _ _ _, hbel⟩
          rw [show ((s.size - 1 : Nat) : Int) = (s.size : Int) - 1 by omega]
          rfl
end Go.Proofs.YtghobbbmoeijbaaDoor
