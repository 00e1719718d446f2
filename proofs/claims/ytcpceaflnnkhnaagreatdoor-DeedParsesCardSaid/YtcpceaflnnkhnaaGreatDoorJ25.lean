/- Joined texts: BaseE. -/
import Derived.Test.YtcpceaflnnkhnaaGreatDoorJ2

/- Contracts of the document's value of a letter and its Bytes. -/
namespace Go.Proofs.YtcpceaflnnkhnaaGreatDoor
open Go.RowKit

theorem worth_first (c : UInt8) (i : Nat) (hi : i < 32) (h : letterN i = c) : worthI c = (i : Int) := by
  subst h
  exact worthI_some _ _ (worth_letter i hi)
theorem worth_none (c : UInt8) (h : ∀ j, j < 32 → letterN j ≠ c) : worthI c = -1 := by
  refine worthI_none _ ?_
  rcases hw : worthN c with _ | d
  · rfl
  · exact absurd (letter_worth c d hw).1 (h d (letter_worth c d hw).2)

set_option maxHeartbeats 400000 in
theorem value_any (c : UInt8) (w : World) :
    Calls Tryz.prog 98 #[.int .u8 (c.toNat : Int)] w fun e w' => e = .returned (.int .i64 (worthI c)) ∧ w = w' := by
  go_enter Tryz.func98, Tryz.ntmps98
  go_wp2
  go_loop [3] (fun u3 => ∃ i : Nat, i ≤ 32 ∧ u3 = .int .i64 (i : Int) ∧ ∀ j, j < i → letterN j ≠ c) (fun u3 => 32 - (intOf u3).toNat)
  case atStart => exact ⟨0, by omega, rfl, fun j hj => by omega⟩
  case round =>
    obtain ⟨i, hi, rfl, hno⟩ := hrel
    have HN := hide hno
    clear hno
    by_cases hlt : i < 32
    · have hat := alphS_at i hlt (by show i < 32; exact hlt)
      have HA := hide hat
      clear hat
      have hx : i < alphS.size := by show i < 32; exact hlt
      go_wp2
      · have hq : (((alphS[i]'hx).toNat : Int) == (c.toNat : Int)) = true := by assumption
        go_ret
        refine ⟨ret_int (worth_first c i hlt ?_).symm, rfl⟩
        rw [← HA.out]
        exact u8_int.1 (beq_iff_eq.1 hq)
      · have hq : (((alphS[i]'hx).toNat : Int) == (c.toNat : Int)) = false := by assumption
        go_round
        case rel =>
          refine ⟨i + 1, by omega, by go_num, fun j hj => ?_⟩
          by_cases hji : j = i
          · subst hji
            rw [← HA.out]
            intro he
            rw [he] at hq
            simp at hq
          · exact HN.out j (by omega)
        case measure => simp [intOf]; omega
    · have h32 : i = 32 := by omega
      subst h32
      go_wp2
      go_ret
      exact ⟨ret_int (worth_none c HN.out).symm, rfl⟩
set_option maxRecDepth 100000 in
set_option maxHeartbeats 2000000 in
theorem rbytes_any (s : ByteArray) (w : World) (hs : s.size ≤ 140737488351232) :
    Calls Tryz.prog 84 #[.string s] w fun e w' => ∃ v, e = .returned (.tuple #[v, .int .i64 ((decode (lst s)).2.1 : Int), .int .i64 ((decode (lst s)).2.2 : Int)]) ∧
      Own w' w.heap.size 5 v (decode (lst s)).1 ∧ Below w.heap.size w w' := by
  have hlen := lst_len s
  have HLEN := hide hlen
  clear hlen
  go_enter Tryz.func84, Tryz.ntmps84
  go_wp2
  go_loop [5] (fun u5 => ∃ k : Nat, k ≤ s.size ∧ u5 = .int .i64 (k : Int) ∧ good (lst s) k) (fun u5 => s.size - (intOf u5).toNat)
  case atStart => exact ⟨0, by omega, rfl, good_zero _⟩
  case round =>
    obtain ⟨k, hk, rfl, hgood⟩ := hrel
    have HG := hide hgood
    clear hgood
    by_cases hlt : k < s.size
    · have hx := lst_get s k hlt
      have HX := hide hx
      clear hx
      have hwc := value_any (s[k]'hlt)
      rcases hwn : worthN (s[k]'hlt) with _ | d
      · rw [worthI_none _ hwn] at hwc
        have HB := hide (bad_some _ k _ HG.out HX.out hwn)
        clear hwn
        go_wp2_with (go_at_call 98; ((with_reducible refine (hwc _).mono ?_)); rintro e w' ⟨rfl, rfl⟩)
        go_ret3
        have hd : decode (lst s) = ([], k, 100) := by unfold decode; rw [HB.out]
        rw [hd]
        exact ⟨.slice none 0 0, rfl, Own.nil _ _ _, Below.refl _ _⟩
      · rw [worthI_some _ _ hwn] at hwc
        have HW := hide hwn
        clear hwn
        go_wp2_with (go_at_call 98; ((with_reducible refine (hwc _).mono ?_)); rintro e w' ⟨rfl, rfl⟩)
        go_round
        case rel => exact ⟨k + 1, by omega, by go_num, good_succ _ k _ HG.out HX.out (by rw [HW.out]; rfl)⟩
        case measure => simp [intOf]; omega
    · have hks : k = s.size := by omega
      have hgood : good (lst s) (lst s).length := by have := HG.out; rw [HLEN.out, ← hks]; exact this
      have HG2 := hide hgood
      have HB := hide (bad_none _ hgood)
      clear HG hgood hks
      obtain ⟨n, hn⟩ : ∃ n : Nat, n = 5 * s.size / 8 := ⟨_, rfl⟩
      have hni : 5 * (s.size : Int) / 8 = (n : Int) := by omega
      have hlc := rlength_any n
      have HN := hide hn
      by_cases h5 : 5 * s.size % 8 < 5
      · have hle : lets n = s.size := by rw [hn]; exact (lets_back _).2 h5
        rw [hle] at hlc
        have g1 : ((s.size : Int) != (s.size : Int)) = false := by simp
        have H5 := hide h5
        clear hn h5
        have hnb : (n : Int) ≤ 87960930222000 := by have := HN.out; omega
        have hlc1 := fun wx => hlc wx (by omega)
        have hdec : decide (0 < s.size) = true ∨ decide (0 < s.size) = false := by
          rcases decide (0 < s.size) <;> simp
        rcases hdec with g2 | g2
        all_goals
          go_wp2_with (go_at_call 99; ((with_reducible refine (hlc1 _).mono ?_)); rintro e w' ⟨rfl, rfl⟩)
          go_loopw [7, 8, 9, 10, 11] (fun u7 u8 _ _ _ wr => ∃ i : Nat, i ≤ n ∧ u8 = .int .i64 (i : Int) ∧ Own wr w.heap.size 5 u7 ((bytesN n (val 32 (worths (lst s)) / 2 ^ (5 * (lst s).length % 8))).take i) ∧ Below w.heap.size w wr) (fun _ u8 _ _ _ _ => n - (intOf u8).toNat)
          case atStart => exact ⟨0, by omega, rfl, by simpa using Own.nil w w.heap.size 5, Below.refl _ _⟩
          case round =>
            obtain ⟨i, hi, rfl, hown, hbel⟩ := hrel
            have HO := hide hown
            clear hown
            by_cases hin : i < n
            · go_wp2
              go_loopw [9, 10, 11] (fun u9 u10 _ wx => ∃ k X : Nat, k ≤ 8 ∧ u10 = .int .i64 (k : Int) ∧ u9 = .int .i64 (X : Int) ∧ X = val 32 (worths (lst s)) / 2 ^ (5 * (lst s).length - 8 * i - k) % 2 ^ k ∧ wx = wr) (fun _ u10 _ _ => 8 - (intOf u10).toNat)
              case atStart => exact ⟨0, 0, by omega, rfl, rfl, by simp [Nat.mod_one], rfl⟩
              case round =>
                obtain ⟨k, X, hk8, rfl, rfl, hX, rfl⟩ := hrel
                have hX256 : X < 256 := by
                  rw [hX]
                  exact Nat.lt_of_lt_of_le (Nat.mod_lt _ (Nat.two_pow_pos _)) (by rw [show 256 = 2 ^ 8 from rfl]; exact Nat.pow_le_pow_right (by omega) hk8)
                have HX := hide hX
                clear hX
                by_cases hlk : k < 8
                · have hat : (8 * i + k) / 5 < s.size := by have := HN.out; omega
                  have hx := lst_get s _ hat
                  have hwc := value_any (s[(8 * i + k) / 5]'hat)
                  obtain ⟨d, hwn⟩ : ∃ d, worthN (s[(8 * i + k) / 5]'hat) = some d := Option.isSome_iff_exists.1 (HG2.out _ _ (by rw [HLEN.out]; exact hat) hx)
                  rw [worthI_some _ _ hwn] at hwc
                  have hd32 := (letter_worth _ _ hwn).2
                  obtain ⟨B, hB⟩ : ∃ B : Nat, B = bit5 (lst s) (8 * i + k) := ⟨_, rfl⟩
                  have hB1 : B ≤ 1 := by rw [hB]; unfold bit5; omega
                  have hshift : ((d : Int) / 2 ^ (4 - (8 * i + k) % 5)).tmod 2 = (B : Int) := by
                    rw [div_pow_cast, hB]
                    unfold bit5
                    rw [List.getD_eq_getElem?_getD, hx, Option.getD_some, hwn]
                    rfl
                  have hbit := bit5_val (lst s) (8 * i + k) (by rw [HLEN.out]; have := HN.out; omega)
                  rw [← hB] at hbit
                  have hstep := bits_step (val 32 (worths (lst s))) (5 * (lst s).length - 8 * i - k) k (by rw [HLEN.out]; have := HN.out; omega)
                  rw [show 5 * (lst s).length - 8 * i - k - 1 = 5 * (lst s).length - 1 - (8 * i + k) by omega, ← hbit, ← HX.out] at hstep
                  have HS := hide hstep
                  clear hstep hbit hB hwn hx
                  go_wp2_with (go_at_call 98; ((with_reducible refine (hwc _).mono ?_)); rintro e w' ⟨rfl, rfl⟩)
                  go_roundw
                  case rel => exact ⟨k + 1, 2 * X + B, by omega, by go_num, by go_num, by rw [HS.out, show 5 * (lst s).length - 1 - (8 * i + k) = 5 * (lst s).length - 8 * i - (k + 1) by omega], by trivial⟩
                  case measure => simp [intOf]; omega
                · have hk8' : k = 8 := by omega
                  subst hk8'
                  obtain ⟨y, hy⟩ : ∃ y : UInt8, X = y.toNat := ⟨UInt8.ofNat X, by rw [UInt8.toNat_ofNat']; omega⟩
                  subst hy
                  have hy8 := y.toNat_lt
                  go_wp2_with (at_builtin; go_loud (refine wpList_pushB elem8 HO.out hbel hbel.size (by rw [List.length_take, bytesN_length]; omega) y rfl _ _ rfl rfl rfl ?_); intro v1 w1 hown1 hbel1 hgr1 _)
                  go_roundw
                  case rel =>
                    refine ⟨i + 1, by omega, by go_num, ?_, hbel1⟩
                    rw [take_snoc _ i _ (bytesN_get n _ i hin)]
                    have hyv : UInt8.ofNat (val 32 (worths (lst s)) / 2 ^ (5 * (lst s).length % 8) / 2 ^ (8 * (n - 1 - i)) % 2 ^ 8) = y := by
                      rw [Nat.div_div_eq_div_mul, ← Nat.pow_add]
                      apply UInt8.toNat_inj.1
                      rw [HX.out, UInt8.toNat_ofNat', show 5 * (lst s).length % 8 + 8 * (n - 1 - i) = 5 * (lst s).length - 8 * i - 8 by rw [HLEN.out]; have := HN.out; omega]
                      omega
                    rw [hyv]
                    exact hown1
                  case measure => simp [intOf]; omega
            · have hin' : i = n := by omega
              subst hin'
              have hO := HO.out
              rw [List.take_of_length_le (by simp)] at hO
              have HO := hide hO
              clear hO
              have hrl := rletters_any u7 _ wr HO.out.by_ (by rw [bytesN_length]; omega)
              have hback := letters_back (lst s) HG2.out (by rw [HLEN.out]; exact H5.out)
              have hnn : i = 5 * (lst s).length / 8 := by rw [HLEN.out]; exact HN.out
              rw [← hnn] at hback
              have HBK := hide hback
              have HNN := hide hnn
              clear hback hnn
              by_cases hz : val 32 (worths (lst s)) % 2 ^ (5 * (lst s).length % 8) = 0
              · have hd : decode (lst s) = (bytesN i (val 32 (worths (lst s)) / 2 ^ (5 * (lst s).length % 8)), 0, 0) := by
                  unfold decode
                  rw [HB.out]
                  simp only []
                  rw [if_neg (by have := H5.out; rw [← HLEN.out] at this; omega), ← HNN.out]
                have HD := hide hd
                have HZ := hide hz
                clear hd hz
                go_wp2_with (go_at_call 47; refine hrl.mono ?_; rintro e w1 ⟨t, rfl, ht, hbel1⟩; have g3 : (t.toList == s.toList) = true := (by rw [str_toList, str_toList, ht, HBK.out.2 HZ.out]; simp); clear ht)
                go_ret3
                rw [HD.out]
                exact ⟨u7, rfl, HO.out.below hbel1, hbel.trans (hbel1.mono hbel.size)⟩
              · have hd : decode (lst s) = ([], s.size - 1, 101) := by
                  unfold decode
                  rw [HB.out]
                  simp only []
                  rw [if_pos (.inr hz), HLEN.out]
                have h0 : 1 ≤ s.size := by
                  rcases Nat.eq_zero_or_pos s.size with h0 | h0
                  · rw [← HLEN.out] at h0
                    rw [List.eq_nil_of_length_eq_zero h0] at hz
                    exact absurd rfl hz
                  · exact h0
                have HD := hide hd
                have HZ := hide hz
                clear hd hz
                go_wp2_with (go_at_call 47; refine hrl.mono ?_; rintro e w1 ⟨t, rfl, ht, hbel1⟩; have g3 : (t.toList == s.toList) = false := (by rw [str_toList, str_toList, ht]; rw [beq_eq_false_iff_ne]; intro hc; exact HZ.out (HBK.out.1 hc)); clear ht)
                go_ret3
                rw [HD.out]
                refine ⟨.slice none 0 0, ?_, Own.nil _ _ _, hbel.trans (hbel1.mono hbel.size)⟩
                rw [show ((s.size - 1 : Nat) : Int) = (s.size : Int) - 1 by omega]
                rfl
      · have h0 : 1 ≤ s.size := by omega
        have hne : lets n ≠ s.size := by rw [hn]; intro h; exact h5 ((lets_back _).1 h)
        have g1 : ((lets n : Int) != (s.size : Int)) = true := by rw [bne_iff_ne]; omega
        have g2 : decide (0 < s.size) = true := by simp; omega
        have hnb : (n : Int) ≤ 87960930222000 := by omega
        have hlc1 := fun wx => hlc wx (by omega)
        have hd : decode (lst s) = ([], s.size - 1, 101) := by
          unfold decode
          rw [HB.out]
          simp only []
          rw [if_pos (.inl (by rw [HLEN.out]; omega)), HLEN.out]
        have HD := hide hd
        clear hd hn hne h5
        go_wp2_with (go_at_call 99; ((with_reducible refine (hlc1 _).mono ?_)); rintro e w' ⟨rfl, rfl⟩)
        go_ret3
        rw [HD.out]
        refine ⟨.slice none 0 0, ?_, Own.nil _ _ _, Below.refl _ _⟩
        rw [show ((s.size - 1 : Nat) : Int) = (s.size : Int) - 1 by omega]
        rfl
end Go.Proofs.YtcpceaflnnkhnaaGreatDoor
