/- BaseOne: a text that is read is the one text of what it is read as. -/
import Derived.Test.YtghobbbmoeijbaaDoorOneP
import Derived.Test.YtghobbbmoeijbaaDoorBaseD
import Derived.Test.YtghobbbmoeijbaaDoorEscC
import Derived.Test.YtghobbbmoeijbaaDoorNumL
import Derived.Test.YtghobbbmoeijbaaDoorConB
namespace Go.Proofs.YtghobbbmoeijbaaDoor
open Go.RowKit

set_option maxRecDepth 100000 in
set_option maxHeartbeats 4000000 in
theorem law_one (s : ByteArray) (most : Int) (w : World) (hs : s.size ≤ 1048576) (hm : (Lit.int .i64 most).wf = true) (ht : Tab w) (he : Err w) :
    Calls Tryd.prog 6 #[.string s, .int .i64 most] w fun e w' => e = .returned (.bool true) ∧ Below w.heap.size w w' := by
  have hm := wf64 hm
  have HM := hide hm
  have HT := hide (And.intro ht he)
  clear ht he hm
  have p1 := fun w => bbytes_any s w (by omega)
  have p2 := fun w => bunesc_any s w (by omega)
  have p3 := fun w h1 h2 => bread_any s most w hs HM.out h1 h2
  have l1 := decode_len (lst s)
  have l2 := unescape_len (lst s)
  rw [lst_len] at l1 l2
  have d1 := letters_decode (lst s) (decode (lst s)).1 (decode (lst s)).2.1
  have d2 := escape_unescape (lst s) (unescape (lst s)).1 (unescape (lst s)).2.1
  have e1 : decode (lst s) = ((decode (lst s)).1, (decode (lst s)).2.1, (decode (lst s)).2.2) := rfl
  have e2 : unescape (lst s) = ((unescape (lst s)).1, (unescape (lst s)).2.1, (unescape (lst s)).2.2) := rfl
  generalize (decode (lst s)).1 = x1 at *
  generalize (decode (lst s)).2.1 = x2 at *
  generalize (decode (lst s)).2.2 = x3 at *
  generalize (unescape (lst s)).1 = y1 at *
  generalize (unescape (lst s)).2.1 = y2 at *
  generalize (unescape (lst s)).2.2 = y3 at *
  have D1 : Hid (x3 = 0 → letters x1 = lst s) := fun h => d1 (by rw [e1, h])
  have D2 : Hid (y3 = 0 → escape y1 = lst s) := fun h => d2 (by rw [e2, h])
  have P1 := hide p1
  have P2 := hide p2
  have P3 := hide p3
  clear p1 p2 p3 d1 d2 e1 e2
  have kc := fun (w : World) (C : Array Value) (n c : Nat) => Lib.run_convert_bytes_const (P := Tryd.prog) w 36 5 C n c Tryd.underlying36 Tryd.underlying5
  have H0 := hide (bletters_any _ [102, 111, 111, 98, 97, 114] _ (by_marked w 5 (6, 7) [102, 111, 111, 98, 97, 114] (by simp)) (by simp))
  go_enter Tryd.func6, Tryd.ntmps6
  go_wp2_with fail
  refine H0.out.mono ?_
  rintro e w1 ⟨s0, rfl, hs0, b1⟩
  have c1 : Below w.heap.size w w1 := ((Below.refl _ w).alloc (Nat.le_refl _) (.cells (bcells [102, 111, 111, 98, 97, 114]).toArray 5 (6, 7))).trans (b1.mono (by simp))
  have g0 : (s0.toList == [109, 122, 120, 119, 54, 121, 116, 98, 111, 105]) = true := by rw [str_toList, hs0]; decide +kernel
  have C1 := hide c1
  clear hs0 c1 b1 H0 kc
  go_wp2_with fail
  clear g0
  refine (P1.out w1).mono ?_
  rintro e w2 ⟨v2, rfl, o2, b2⟩
  have C2 := C1.out.trans (b2.mono C1.out.size)
  obtain ⟨A2, c2, hv2, _⟩ := o2.by_.form
  subst hv2
  have O2 := hide o2
  have HC2 := hide C2
  clear C1 b2 o2 C2 P1
  by_cases hx : x3 = 0
  · have E1 := hide (D1.out hx)
    subst hx
    go_wp2_with fail
    refine (bletters_any _ x1 _ O2.out.by_ (by omega)).mono ?_
    rintro e wa ⟨ta, rfl, hsa, ba⟩
    have hta : s = ta := by
      apply ByteArray.ext
      apply Array.toList_inj.1
      rw [hsa]; exact E1.out.symm
    subst hta
    have HC2' := hide (HC2.out.trans (ba.mono HC2.out.size))
    clear hsa ba HC2
    have HC2 := HC2'
    clear HC2'
    go_wp2_with fail
    refine (P2.out _).mono ?_
    rintro e w3 ⟨v3, rfl, o3, b3⟩
    have C3 := HC2.out.trans (b3.mono HC2.out.size)
    obtain ⟨A3, c3, hv3, _⟩ := o3.by_.form
    subst hv3
    have O3 := hide o3
    have HC3 := hide C3
    clear b3 o3 C3 HC2
    by_cases hy : y3 = 0
    · have E2 := hide (D2.out hy)
      subst hy
      go_wp2_with fail
      refine (besc_any _ y1 _ O3.out.by_ (by omega)).mono ?_
      rintro e w4 ⟨t4, rfl, hs4, b4⟩
      have ht4 : s = t4 := by
        apply ByteArray.ext
        apply Array.toList_inj.1
        rw [hs4]; exact E2.out.symm
      subst ht4
      have HC4 := hide (HC3.out.trans (b4.mono HC3.out.size))
      clear hs4 b4 HC3
      go_wp2_with fail
      refine (P3.out _ (HT.out.1.below HC4.out) (HT.out.2.below HC4.out)).mono ?_
      rintro e w5 ⟨rfl, b5⟩
      have HC5 := hide (HC4.out.trans (b5.mono HC4.out.size))
      clear b5 HC4
      rcases hr : rd (lst s) most with _ | n
      · have hn : rdN (lst s) most = 0 := by unfold rdN; rw [hr]
        have he : rdE (lst s) most = 102 := by unfold rdE; rw [hr]
        rw [hn, he]
        go_wp2_with fail
        go_ret
        exact ⟨rfl, HC5.out⟩
      · have hn : rdN (lst s) most = (n : Int) := by unfold rdN; rw [hr]
        have he : rdE (lst s) most = 0 := by unfold rdE; rw [hr]
        rw [hn, he]
        obtain ⟨-, hle, hs2⟩ := rd_some hr HM.out.2
        have hn64 : (n : Int) ≤ 9223372036854775807 := by have := HM.out.2; omega
        have hnu : numS (n : Int) = s := by
          unfold numS
          rw [if_neg (by omega)]
          apply ByteArray.ext
          have h1 : lst (itoaS (n : Int)) = lst s := by rw [lst_itoaS, hs2]
          unfold lst at h1
          exact Array.toList_inj.1 h1
        have heu : numE (n : Int) = 0 := by unfold numE; rw [if_neg (by omega)]
        have q5 := bnumber_any (n : Int) w5 ⟨by omega, hn64⟩ (HT.out.1.below HC5.out)
        rw [hnu, heu] at q5
        have Q5 := hide q5
        have g5 : decide ((n : Int) ≤ most) = true := decide_eq_true hle
        have g6 : decide ((0 : Int) ≤ (n : Int)) = true := decide_eq_true (by omega)
        clear q5 hr hs2 hn he hnu heu
        go_wp2_with fail
        clear g5 g6
        refine Q5.out.mono ?_
        rintro e w6 ⟨rfl, b6⟩
        have HC6 := hide (HC5.out.trans (b6.mono HC5.out.size))
        clear b6 HC5 Q5
        have g5 : decide ((n : Int) ≤ most) = true := decide_eq_true hle
        have g6 : decide ((0 : Int) ≤ (n : Int)) = true := decide_eq_true (by omega)
        go_wp2_with fail
        go_ret
        exact ⟨rfl, HC6.out⟩
    · have g3 : ((y3 : Int) == 0) = false := by rw [beq_eq_false_iff_ne]; omega
      have HC4 := HC3
      go_wp2_with fail
      refine (P3.out _ (HT.out.1.below HC4.out) (HT.out.2.below HC4.out)).mono ?_
      rintro e w5 ⟨rfl, b5⟩
      have HC5 := hide (HC4.out.trans (b5.mono HC4.out.size))
      clear b5 HC4
      rcases hr : rd (lst s) most with _ | n
      · have hn : rdN (lst s) most = 0 := by unfold rdN; rw [hr]
        have he : rdE (lst s) most = 102 := by unfold rdE; rw [hr]
        rw [hn, he]
        go_wp2_with fail
        go_ret
        exact ⟨rfl, HC5.out⟩
      · have hn : rdN (lst s) most = (n : Int) := by unfold rdN; rw [hr]
        have he : rdE (lst s) most = 0 := by unfold rdE; rw [hr]
        rw [hn, he]
        obtain ⟨-, hle, hs2⟩ := rd_some hr HM.out.2
        have hn64 : (n : Int) ≤ 9223372036854775807 := by have := HM.out.2; omega
        have hnu : numS (n : Int) = s := by
          unfold numS
          rw [if_neg (by omega)]
          apply ByteArray.ext
          have h1 : lst (itoaS (n : Int)) = lst s := by rw [lst_itoaS, hs2]
          unfold lst at h1
          exact Array.toList_inj.1 h1
        have heu : numE (n : Int) = 0 := by unfold numE; rw [if_neg (by omega)]
        have q5 := bnumber_any (n : Int) w5 ⟨by omega, hn64⟩ (HT.out.1.below HC5.out)
        rw [hnu, heu] at q5
        have Q5 := hide q5
        have g5 : decide ((n : Int) ≤ most) = true := decide_eq_true hle
        have g6 : decide ((0 : Int) ≤ (n : Int)) = true := decide_eq_true (by omega)
        clear q5 hr hs2 hn he hnu heu
        go_wp2_with fail
        clear g5 g6
        refine Q5.out.mono ?_
        rintro e w6 ⟨rfl, b6⟩
        have HC6 := hide (HC5.out.trans (b6.mono HC5.out.size))
        clear b6 HC5 Q5
        have g5 : decide ((n : Int) ≤ most) = true := decide_eq_true hle
        have g6 : decide ((0 : Int) ≤ (n : Int)) = true := decide_eq_true (by omega)
        go_wp2_with fail
        go_ret
        exact ⟨rfl, HC6.out⟩
  · have g2 : ((x3 : Int) == 0) = false := by rw [beq_eq_false_iff_ne]; omega
    go_wp2_with fail
    refine (P2.out _).mono ?_
    rintro e w3 ⟨v3, rfl, o3, b3⟩
    have C3 := HC2.out.trans (b3.mono HC2.out.size)
    obtain ⟨A3, c3, hv3, _⟩ := o3.by_.form
    subst hv3
    have O3 := hide o3
    have HC3 := hide C3
    clear b3 o3 C3 HC2
    by_cases hy : y3 = 0
    · have E2 := hide (D2.out hy)
      subst hy
      go_wp2_with fail
      refine (besc_any _ y1 _ O3.out.by_ (by omega)).mono ?_
      rintro e w4 ⟨t4, rfl, hs4, b4⟩
      have ht4 : s = t4 := by
        apply ByteArray.ext
        apply Array.toList_inj.1
        rw [hs4]; exact E2.out.symm
      subst ht4
      have HC4 := hide (HC3.out.trans (b4.mono HC3.out.size))
      clear hs4 b4 HC3
      go_wp2_with fail
      refine (P3.out _ (HT.out.1.below HC4.out) (HT.out.2.below HC4.out)).mono ?_
      rintro e w5 ⟨rfl, b5⟩
      have HC5 := hide (HC4.out.trans (b5.mono HC4.out.size))
      clear b5 HC4
      rcases hr : rd (lst s) most with _ | n
      · have hn : rdN (lst s) most = 0 := by unfold rdN; rw [hr]
        have he : rdE (lst s) most = 102 := by unfold rdE; rw [hr]
        rw [hn, he]
        go_wp2_with fail
        go_ret
        exact ⟨rfl, HC5.out⟩
      · have hn : rdN (lst s) most = (n : Int) := by unfold rdN; rw [hr]
        have he : rdE (lst s) most = 0 := by unfold rdE; rw [hr]
        rw [hn, he]
        obtain ⟨-, hle, hs2⟩ := rd_some hr HM.out.2
        have hn64 : (n : Int) ≤ 9223372036854775807 := by have := HM.out.2; omega
        have hnu : numS (n : Int) = s := by
          unfold numS
          rw [if_neg (by omega)]
          apply ByteArray.ext
          have h1 : lst (itoaS (n : Int)) = lst s := by rw [lst_itoaS, hs2]
          unfold lst at h1
          exact Array.toList_inj.1 h1
        have heu : numE (n : Int) = 0 := by unfold numE; rw [if_neg (by omega)]
        have q5 := bnumber_any (n : Int) w5 ⟨by omega, hn64⟩ (HT.out.1.below HC5.out)
        rw [hnu, heu] at q5
        have Q5 := hide q5
        have g5 : decide ((n : Int) ≤ most) = true := decide_eq_true hle
        have g6 : decide ((0 : Int) ≤ (n : Int)) = true := decide_eq_true (by omega)
        clear q5 hr hs2 hn he hnu heu
        go_wp2_with fail
        clear g5 g6
        refine Q5.out.mono ?_
        rintro e w6 ⟨rfl, b6⟩
        have HC6 := hide (HC5.out.trans (b6.mono HC5.out.size))
        clear b6 HC5 Q5
        have g5 : decide ((n : Int) ≤ most) = true := decide_eq_true hle
        have g6 : decide ((0 : Int) ≤ (n : Int)) = true := decide_eq_true (by omega)
        go_wp2_with fail
        go_ret
        exact ⟨rfl, HC6.out⟩
    · have g3 : ((y3 : Int) == 0) = false := by rw [beq_eq_false_iff_ne]; omega
      have HC4 := HC3
      go_wp2_with fail
      refine (P3.out _ (HT.out.1.below HC4.out) (HT.out.2.below HC4.out)).mono ?_
      rintro e w5 ⟨rfl, b5⟩
      have HC5 := hide (HC4.out.trans (b5.mono HC4.out.size))
      clear b5 HC4
      rcases hr : rd (lst s) most with _ | n
      · have hn : rdN (lst s) most = 0 := by unfold rdN; rw [hr]
        have he : rdE (lst s) most = 102 := by unfold rdE; rw [hr]
        rw [hn, he]
        go_wp2_with fail
        go_ret
        exact ⟨rfl, HC5.out⟩
      · have hn : rdN (lst s) most = (n : Int) := by unfold rdN; rw [hr]
        have he : rdE (lst s) most = 0 := by unfold rdE; rw [hr]
        rw [hn, he]
        obtain ⟨-, hle, hs2⟩ := rd_some hr HM.out.2
        have hn64 : (n : Int) ≤ 9223372036854775807 := by have := HM.out.2; omega
        have hnu : numS (n : Int) = s := by
          unfold numS
          rw [if_neg (by omega)]
          apply ByteArray.ext
          have h1 : lst (itoaS (n : Int)) = lst s := by rw [lst_itoaS, hs2]
          unfold lst at h1
          exact Array.toList_inj.1 h1
        have heu : numE (n : Int) = 0 := by unfold numE; rw [if_neg (by omega)]
        have q5 := bnumber_any (n : Int) w5 ⟨by omega, hn64⟩ (HT.out.1.below HC5.out)
        rw [hnu, heu] at q5
        have Q5 := hide q5
        have g5 : decide ((n : Int) ≤ most) = true := decide_eq_true hle
        have g6 : decide ((0 : Int) ≤ (n : Int)) = true := decide_eq_true (by omega)
        clear q5 hr hs2 hn he hnu heu
        go_wp2_with fail
        clear g5 g6
        refine Q5.out.mono ?_
        rintro e w6 ⟨rfl, b6⟩
        have HC6 := hide (HC5.out.trans (b6.mono HC5.out.size))
        clear b6 HC5 Q5
        have g5 : decide ((n : Int) ≤ most) = true := decide_eq_true hle
        have g6 : decide ((0 : Int) ≤ (n : Int)) = true := decide_eq_true (by omega)
        go_wp2_with fail
        go_ret
        exact ⟨rfl, HC6.out⟩
end Go.Proofs.YtghobbbmoeijbaaDoor
