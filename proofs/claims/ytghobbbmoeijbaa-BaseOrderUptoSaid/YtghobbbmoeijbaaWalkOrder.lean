/- BaseOrder: of two lists of bytes of one length the letters stand in the order of the lists. Condition: each list has at most 1048576 bytes. -/
import Derived.Test.YtghobbbmoeijbaaBaseD
import Derived.Test.YtghobbbmoeijbaaB10O
namespace Go.Proofs.Ytghobbbmoeijbaa
open Go.RowKit

set_option maxHeartbeats 400000 in
theorem rank_any (c : UInt8) (w : World) :
    Calls Try.prog 17 #[.int .u8 (c.toNat : Int)] w fun e w' => e = .returned (.int .i64 (if 97 ≤ (c.toNat : Int) then (c.toNat : Int) - 97 else (c.toNat : Int))) ∧ w = w' := by
  have hc := c.toNat_lt
  by_cases h : 97 ≤ (c.toNat : Int)
  · rw [if_pos h]
    go_enter Try.func17, Try.ntmps17
    go_wp2
    go_ret
    exact ⟨rfl, rfl⟩
  · rw [if_neg h]
    go_enter Try.func17, Try.ntmps17
    go_wp2
    go_ret
    exact ⟨rfl, rfl⟩

theorem by_new (w : World) (e : TypeId) (l : List UInt8) (h : l.length ≤ 1000) : By (w.alloc (.cells (bcells l).toArray e)) (.slice (some ⟨w.heap.size, 0, none⟩) l.length l.length) l := by
  have hb := Blk.new w e (bcells l).toArray
  have := hb.own (base := 0) (e := e) (n := l.length) (cap := l.length) (sz := 1) rfl (Nat.zero_le _) (by simp) (Nat.le_refl _) (by unfold maxLen; omega)
  have := Sl.of_own this
  simpa [By, List.take_of_length_le] using this

set_option maxRecDepth 100000 in
set_option maxHeartbeats 2000000 in
theorem law_order (va : Value) (a : List UInt8) (vb : Value) (b : List UInt8) (w : World) (ha : By w va a) (hla : a.length ≤ 1048576) (hb : By w vb b) (hlb : b.length ≤ 1048576) :
    Calls Try.prog 5 #[va, vb] w fun e w' => e = .returned (.bool true) ∧ Below w.heap.size w w' := by
  have HA := hide ha
  have HB := hide hb
  obtain ⟨A, c, hv, hc, hm, hca⟩ := ha.form
  subst hv
  obtain ⟨B, d, hv, hd, hmd, hcb⟩ := hb.form
  subst hv
  unfold maxLen at hm hmd
  clear ha hb
  have hn := by_new w 5 [255] (by simp)
  have H0 := hide (bletters_any _ [255] _ hn (by simp))
  have h1 : ∀ w, Calls Try.prog 16 #[.int .i64 1] w fun e w' => e = .returned (.int .i64 2) ∧ w = w' := fun w => blength_any 1 w (by omega)
  by_cases hlen : a.length = b.length
  · have g1 : ((a.length : Int) != (b.length : Int)) = false := by simp [hlen]
    have HL := hide hlen
    clear hlen
    go_enter Try.func5, Try.ntmps5
    go_wp2_with fail
    refine H0.out.mono ?_
    rintro e w1 ⟨s0, rfl, hs0, b1⟩
    have c1 : Below w.heap.size w w1 := ((Below.refl _ w).alloc (Nat.le_refl _) (.cells (bcells [255]).toArray 5)).trans (b1.mono (by simp))
    have g0 : (s0.toList == [55, 52]) = true := by rw [str_toList, hs0]; decide +kernel
    have C1 := hide c1
    clear hs0 c1 b1
    go_wp2_with (go_at_call 16; ((with_reducible refine (h1 _).mono ?_)); rintro e w' ⟨rfl, rfl⟩)
    refine (bletters_any _ a w1 (HA.out.below C1.out) (by omega)).mono ?_
    rintro e w2 ⟨s, rfl, hs, b2⟩
    have C2 := hide (C1.out.trans (b2.mono C1.out.size))
    have HS := hide hs
    clear hs b2
    go_wp2_with fail
    refine (bletters_any _ b w2 (HB.out.below C2.out) (by omega)).mono ?_
    rintro e w3 ⟨t, rfl, ht, b3⟩
    have C3 := hide (C2.out.trans (b3.mono C2.out.size))
    have HT := hide ht
    clear ht b3
    have hsz : s.size = lets a.length := by rw [← lst_len, lst, HS.out, letters_length]
    have htz : t.size = lets a.length := by rw [← lst_len, lst, HT.out, letters_length, HL.out]
    have g2 : ((s.size : Int) != (t.size : Int)) = false := by rw [hsz, htz]; simp
    have hmax : (s.size : Int) ≤ 1677722 := by rw [hsz]; unfold lets; omega
    have HSZ := hide hsz
    have HTZ := hide htz
    clear hsz htz
    go_wp2
    go_loopw [4, 7, 8, 9, 10] (fun _ u7 _ _ _ wr => ∃ i : Nat, i ≤ a.length ∧ u7 = .int .i64 (i : Int) ∧ a.take i = b.take i ∧ Below w.heap.size w wr) (fun _ u7 _ _ _ _ => a.length - (intOf u7).toNat)
    case atStart => exact ⟨0, by omega, rfl, by simp, C3.out⟩
    case round =>
      obtain ⟨i, hi, rfl, htk, hbel⟩ := hrel
      have HTK := hide htk
      clear htk
      by_cases hlt : i < a.length
      · have hlt2 : i < b.length := by have := HL.out; omega
        obtain ⟨x, hx⟩ : ∃ x, a[i]? = some x := ⟨_, List.getElem?_eq_getElem hlt⟩
        obtain ⟨y, hy⟩ : ∃ y, b[i]? = some y := ⟨_, List.getElem?_eq_getElem hlt2⟩
        obtain ⟨g, o, rfl, hgl, hcell⟩ := hca i x hx
        obtain ⟨g2, o2, rfl, hgl2, hcell2⟩ := hcb i y hy
        have hcx : wr.cell? ⟨g, o + i, none⟩ = some (.int .u8 (x.toNat : Int)) := (hbel.cell (p := ⟨g, o + i, none⟩) hgl).trans hcell
        have hcy : wr.cell? ⟨g2, o2 + i, none⟩ = some (.int .u8 (y.toNat : Int)) := (hbel.cell (p := ⟨g2, o2 + i, none⟩) hgl2).trans hcell2
        have HX := hide hx
        have HY := hide hy
        clear hx hy hca hcb
        have i1 : (i : Int) < (a.length : Int) := by omega
        have i2 : (i : Int) < (b.length : Int) := by omega
        have i3 : (0 : Int) ≤ (i : Int) := by omega
        have hx8 := x.toNat_lt
        have hy8 := y.toNat_lt
        by_cases hxy : x = y
        · have gd : ((x.toNat : Int) == (y.toNat : Int)) = true := by simp [hxy]
          go_wp2
          go_quiet (fail)
          go_wp2
          go_roundw
          case rel => exact ⟨i + 1, by omega, by go_num, (same_step a b i x y HX.out HY.out HTK.out).2 hxy, below_drewN hbel _⟩
          case measure => simp [intOf]; omega
        · have gd : ((x.toNat : Int) == (y.toNat : Int)) = false := by
            rw [beq_eq_false_iff_ne]; intro h; exact hxy (u8_int.1 h)
          go_wp2
          go_quiet (fail)
          go_wp2
          go_loopw [4, 8, 9, 10] (fun _ u8 _ _ wx => ∃ k : Nat, k ≤ s.size ∧ u8 = .int .i64 (k : Int) ∧ (letters a).take k = (letters b).take k ∧ ∃ q, wx = wr.drewN q) (fun _ u8 _ _ _ => s.size - (intOf u8).toNat)
          case atStart => exact ⟨0, by omega, rfl, by simp, _, rfl⟩
          case round =>
            obtain ⟨k, hk, rfl, hlk, q, rfl⟩ := hrel
            have HLK := hide hlk
            clear hlk
            by_cases hks : k < s.size
            · have hkt : k < t.size := by rw [HTZ.out, ← HSZ.out]; exact hks
              have hsc : (letters a)[k]? = some s[k] := by rw [← HS.out]; exact lst_get s k hks
              have htc : (letters b)[k]? = some t[k] := by rw [← HT.out]; exact lst_get t k hkt
              have k1 : (k : Int) < (s.size : Int) := by omega
              have k2 : (k : Int) < (t.size : Int) := by omega
              have k3 : (0 : Int) ≤ (k : Int) := by omega
              have HSC := hide hsc
              have HTC := hide htc
              clear hsc htc
              by_cases hst : s[k] = t[k]
              · have ge : (((s[k]).toNat : Int) != ((t[k]).toNat : Int)) = false := by simp [hst]
                go_wp2
                go_quiet (fail)
                go_wp2
                go_roundw
                case rel => exact ⟨k + 1, by omega, by go_num, (same_step _ _ k _ _ HSC.out HTC.out HLK.out).2 hst, _, rfl⟩
                case measure => simp [intOf]; omega
              · have ge : (((s[k]).toNat : Int) != ((t[k]).toNat : Int)) = true := by
                  rw [bne_iff_ne]; intro h; exact hst (u8_int.1 h)
                have hr1 := rank_any (s[k])
                have hr2 := rank_any (t[k])
                have hlaw := order_law a b i k x y _ _ HL.out HTK.out HX.out HY.out hxy HLK.out HSC.out HTC.out hst
                unfold placeOf at hlaw
                obtain ⟨S, hS⟩ : ∃ S, S = s[k] := ⟨_, rfl⟩
                obtain ⟨T, hT⟩ : ∃ T, T = t[k] := ⟨_, rfl⟩
                rw [← hS, ← hT] at hlaw
                rw [← hS] at hr1
                rw [← hT] at hr2
                have HS2 := hide hS
                have HT2 := hide hT
                have hS8 := S.toNat_lt
                have hT8 := T.toNat_lt
                have cs : (97 ≤ (S.toNat : Int) ∨ (S.toNat : Int) < 97) := by omega
                have ct : (97 ≤ (T.toNat : Int) ∨ (T.toNat : Int) < 97) := by omega
                have cx : ((x.toNat : Int) < (y.toNat : Int) ∨ (y.toNat : Int) ≤ (x.toNat : Int)) := by omega
                have HW := hide hlaw
                have esk : ((s[k]).toNat : Int) = (S.toNat : Int) := by rw [hS]
                have etk : ((t[k]).toNat : Int) = (T.toNat : Int) := by rw [hT]
                clear hlaw hS hT
                go_wp2
                go_quiet (fail)
                rcases cs with cs | cs <;> rcases ct with ct | ct <;> rcases cx with cx | cx
                all_goals
                  have hl := HW.out
                  first | rw [if_pos cs] at hl hr1 | rw [if_neg (by omega)] at hl hr1
                  first | rw [if_pos ct] at hl hr2 | rw [if_neg (by omega)] at hl hr2
                  clear HW
                  first
                    | (have hq : x.toNat < y.toNat := by omega
                       have hp := hl.2 hq)
                    | (have hq : ¬ x.toNat < y.toNat := by omega
                       have hp := mt hl.1 hq
                       have hp2 := Int.not_lt.1 hp)
                  clear hl
                  go_wp2_with (go_at_call 17; first | ((with_reducible refine (hr1 _).mono ?_); rintro e w' ⟨rfl, rfl⟩) | ((with_reducible refine (hr2 _).mono ?_); rintro e w' ⟨rfl, rfl⟩))
                  go_quiet (fail)
                  go_wp2
                  go_ret
                  refine ⟨ret_bool ?_, below_drewN (below_drewN hbel _) _⟩
                  first | rfl | (simp; omega)
            · exfalso
              have h1 := HLK.out
              rw [List.take_of_length_le (by rw [letters_length, ← HSZ.out]; omega), List.take_of_length_le (by rw [letters_length, ← HL.out, ← HSZ.out]; omega)] at h1
              have h2 := letters_inj h1
              have h3 := HX.out
              rw [h2, HY.out] at h3
              injection h3 with h3
              exact hxy h3.symm
      · have hil : i = a.length := by omega
        have hab : a = b := by
          have := HTK.out
          rwa [List.take_of_length_le (by omega), List.take_of_length_le (by have := HL.out; omega)] at this
        have g3 : (s.toList == t.toList) = true := by rw [str_toList, str_toList, HS.out, HT.out, hab]; simp
        have hge : (a.length : Int) ≤ (i : Int) := by omega
        clear hil hab
        go_wp2
        go_ret
        exact ⟨rfl, hbel⟩
  · have g1 : ((a.length : Int) != (b.length : Int)) = true := by rw [bne_iff_ne]; omega
    go_enter Try.func5, Try.ntmps5
    go_wp2_with fail
    refine H0.out.mono ?_
    rintro e w1 ⟨s0, rfl, hs0, b1⟩
    have c1 : Below w.heap.size w w1 := ((Below.refl _ w).alloc (Nat.le_refl _) (.cells (bcells [255]).toArray 5)).trans (b1.mono (by simp))
    have g0 : (s0.toList == [55, 52]) = true := by rw [str_toList, hs0]; decide +kernel
    clear hs0
    go_wp2_with (go_at_call 16; ((with_reducible refine (h1 _).mono ?_)); rintro e w' ⟨rfl, rfl⟩)
    go_ret
    exact ⟨rfl, c1⟩
end Go.Proofs.Ytghobbbmoeijbaa
