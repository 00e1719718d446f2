/- BaseBack: of every list of bytes and every number: there and back; no text has a colon or a stroke in it. -/
import Derived.Test.YtghobbbmoeijbaaDoorBackP
import Derived.Test.YtghobbbmoeijbaaDoorBaseD
import Derived.Test.YtghobbbmoeijbaaDoorEscC
import Derived.Test.YtghobbbmoeijbaaDoorNumL
import Derived.Lib.ItoaLen
namespace Go.Proofs.YtghobbbmoeijbaaDoor
open Go.RowKit

set_option maxHeartbeats 400000 in
theorem clean_yes (s : ByteArray) (w : World) (hs : s.size ≤ 140737488355328) (h : ∀ c ∈ lst s, okc c = true) :
    Calls Tryd.prog 23 #[.string s] w fun e w' => e = .returned (.bool true) ∧ w = w' := by
  have HS := hide h
  clear h
  go_enter Tryd.func23, Tryd.ntmps23
  go_wp2
  go_loopw [3] (fun i wr => ∃ k : Nat, k ≤ s.size ∧ i = .int .i64 k ∧ w = wr) (fun i _ => s.size - (intOf i).toNat)
  case atStart => exact ⟨0, by omega, rfl, rfl⟩
  case round =>
    obtain ⟨k, hk, rfl, rfl⟩ := hrel
    by_cases hlt : k < s.size
    · have hx := HS.out s[k] (List.mem_of_getElem? (lst_get s k hlt))
      have h1 : ((s[k].toNat : Int) == 58) = false := by
        unfold okc at hx
        simp only [Bool.and_eq_true, bne_iff_ne] at hx
        simp only [beq_eq_false_iff_ne]
        omega
      have h2 : ((s[k].toNat : Int) == 47) = false := by
        unfold okc at hx
        simp only [Bool.and_eq_true, bne_iff_ne] at hx
        simp only [beq_eq_false_iff_ne]
        omega
      have i1 : (k : Int) < (s.size : Int) := by omega
      have i3 : (0 : Int) ≤ (k : Int) := by omega
      clear hx
      go_wp2
      go_roundw
      case rel => exact ⟨k + 1, by omega, by go_num, trivial⟩
      case measure => simp [intOf]; omega
    · have hge : ¬ ((k : Int) < (s.size : Int)) := by omega
      go_wp2
      go_ret
      exact ⟨rfl, rfl⟩

set_option maxRecDepth 100000 in
set_option maxHeartbeats 2000000 in
theorem law_back (v : Value) (l : List UInt8) (x : Int) (w : World) (ha : By w v l) (hl : l.length ≤ 1048576) (hx : (Lit.int .i64 x).wf = true) (ht : Tab w) (he : Err w) :
    Calls Tryd.prog 7 #[v, .int .i64 x] w fun e w' => e = .returned (.bool true) ∧ Below w.heap.size w w' := by
  have hx := wf64 hx
  have HX := hide hx
  have HL := hide hl
  have HA := hide ha
  have HT := hide (And.intro ht he)
  obtain ⟨A, c, hv, hc, hm, _⟩ := ha.form
  subst hv
  unfold maxLen at hm
  clear ha ht he hx hl
  go_enter Tryd.func7, Tryd.ntmps7
  go_wp2_with fail
  refine (bletters_any _ l w HA.out (by have := HL.out; omega)).mono ?_
  rintro e w1 ⟨s, rfl, hs, b1⟩
  have hsl : s.size ≤ 2097152 := by
    have : s.data.toList.length = lets l.length := by rw [hs, letters_length]
    unfold lets at this
    have hl := HL.out
    simp at this
    omega
  have d1 : decode (lst s) = (l, 0, 0) := by rw [show lst s = letters l from hs, decode_letters]
  have q1 := bbytes_any s w1 (by omega)
  rw [d1] at q1
  have HQ := hide q1
  have HS := hide hs
  have HB := hide b1
  clear d1 q1 hs b1
  go_wp2_with fail
  refine HQ.out.mono ?_
  rintro e w2 ⟨v2, rfl, o2, b2⟩
  have C2 := HB.out.trans (b2.mono HB.out.size)
  obtain ⟨A2, c2, hv2, _⟩ := o2.by_.form
  subst hv2
  clear HB HQ
  go_wp2_with fail
  refine (same_any _ _ l l _ o2.by_ (HA.out.below C2)).mono ?_
  rw [decide_eq_true rfl]
  rintro e w3 ⟨rfl, b3⟩
  have C3 := hide (C2.trans (b3.mono C2.size))
  clear C2 b2 b3 o2
  go_wp2_with fail
  refine (blength_any (l.length : Int) w3 (by have := HL.out; omega)).mono ?_
  rintro e w4 ⟨rfl, rfl⟩
  have g1 : ((s.size : Int) != blen (l.length : Int)) = false := by
    rw [bne_eq_false_iff_eq, blen_lets, ← letters_length, ← HS.out]
    simp
  go_wp2_with fail
  refine (clean_yes s _ (by omega) (by rw [show lst s = letters l from HS.out]; exact letters_okc l)).mono ?_
  rintro e w4 ⟨rfl, rfl⟩
  have g2 : (s.toList == []) = ((l.length : Int) == 0) := by
    rw [str_toList, HS.out, Bool.eq_iff_iff, beq_iff_eq, beq_iff_eq, letters_nil]
    omega
  go_wp2_with fail
  clear g1 g2
  refine (besc_any _ l _ (HA.out.below C3.out) (by have := HL.out; omega)).mono ?_
  rintro e w4 ⟨t, rfl, hs4, b4⟩
  have htl : t.size ≤ 3145729 := by
    have : t.data.toList.length = (escape l).length := by rw [hs4]
    have h2 := escBody_len l
    have h3 : (escape l).length ≤ 3 * l.length + 1 := by
      unfold escape
      split
      · simp
      · omega
    have hl := HL.out
    simp at this
    omega
  have d1 : unescape (lst t) = (l, 0, 0) := by rw [show lst t = escape l from hs4, unescape_escape]
  have q1 := bunesc_any t w4 (by omega)
  rw [d1] at q1
  have HQ := hide q1
  have HS4 := hide hs4
  have C4 := hide (C3.out.trans (b4.mono C3.out.size))
  clear d1 q1 hs4 b4 C3
  go_wp2_with fail
  refine HQ.out.mono ?_
  rintro e w5 ⟨v5, rfl, o5, b5⟩
  have C5 := C4.out.trans (b5.mono C4.out.size)
  obtain ⟨A5, c5, hv5, _⟩ := o5.by_.form
  subst hv5
  clear HQ C4
  go_wp2_with fail
  refine (same_any _ _ l l _ o5.by_ (HA.out.below C5)).mono ?_
  rw [decide_eq_true rfl]
  rintro e w6 ⟨rfl, b6⟩
  have C6 := hide (C5.trans (b6.mono C5.size))
  clear C5 b5 b6 o5
  go_wp2_with fail
  refine (clean_yes t _ (by omega) (by rw [show lst t = escape l from HS4.out]; exact escape_okc l)).mono ?_
  rintro e w7 ⟨rfl, rfl⟩
  have g3 : (t.toList == []) = false := by
    rw [str_toList, HS4.out, beq_eq_false_iff_ne]
    exact escape_nil l
  go_wp2_with fail
  clear g3
  refine (bnumber_any x _ HX.out (HT.out.1.below C6.out)).mono ?_
  rintro e w7 ⟨rfl, b7⟩
  have C7 := hide (C6.out.trans (b7.mono C6.out.size))
  clear b7 C6
  by_cases h0 : x < 0
  · unfold numS numE
    rw [if_pos h0, if_pos h0]
    go_wp2_with fail
    go_ret
    exact ⟨rfl, C7.out⟩
  · unfold numS numE
    rw [if_neg h0, if_neg h0]
    have hb := HX.out
    have h21 : (itoaS x).size ≤ 21 := by
      have := Lib.itoa_length_le x hb.1 hb.2
      rw [← lst_itoaS, lst_len] at this
      exact this
    have q1 := bread_any (itoaS x) x w7 (by omega) hb (HT.out.1.below C7.out) (HT.out.2.below C7.out)
    have q2 := fun w8 h1 h2 => bread_any (itoaS x) (x - 1) w8 (by omega) ⟨by omega, by omega⟩ h1 h2
    rw [lst_itoaS] at q1
    simp only [lst_itoaS] at q2
    unfold rdN rdE at q1 q2
    rw [rd_self x (by omega) hb.2] at q1
    rw [rd_below x (by omega) hb.2] at q2
    simp only at q1 q2
    rw [show ((x.toNat : Nat) : Int) = x by omega] at q1
    have hcl : ∀ c ∈ lst (itoaS x), okc c = true := by rw [lst_itoaS]; exact itoa_okc x (by omega)
    have g3 : ((itoaS x).toList == []) = false := by
      rw [str_toList, beq_eq_false_iff_ne]
      show lst (itoaS x) ≠ []
      rw [lst_itoaS]
      exact itoa_nil x (by omega)
    have Q1 := hide q1
    have Q2 := hide q2
    have HC := hide hcl
    have h00 : wrap64 (x - 1) = x - 1 := by unfold wrap64; omega
    generalize itoaS x = z at *
    clear q1 q2 hcl hb
    go_wp2_with fail
    refine Q1.out.mono ?_
    rintro e w8 ⟨rfl, b8⟩
    have C8 := hide (C7.out.trans (b8.mono C7.out.size))
    clear b8 C7 Q1
    go_wp2_with fail
    refine (Q2.out _ (HT.out.1.below C8.out) (HT.out.2.below C8.out)).mono ?_
    rintro e w9 ⟨rfl, b9⟩
    have C9 := hide (C8.out.trans (b9.mono C8.out.size))
    clear b9 C8 Q2
    go_wp2_with fail
    refine (clean_yes z _ (by omega) HC.out).mono ?_
    rintro e w10 ⟨rfl, rfl⟩
    go_wp2_with fail
    go_ret
    exact ⟨rfl, C9.out⟩
end Go.Proofs.YtghobbbmoeijbaaDoor
