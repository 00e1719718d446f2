/- BaseLetters: of every list of bytes the program's Letters gives what the document's gives, and leaves what it was handed alone; and the program's Length is as the document says, of every number. Condition: the list has at most 1048576 bytes. -/
import Derived.Test.YtghobbbmoeijbaaBaseC
namespace Go.Proofs.Ytghobbbmoeijbaa
open Go.RowKit

set_option maxRecDepth 100000 in
set_option maxHeartbeats 2000000 in
theorem law_letters (v : Value) (l : List UInt8) (n : Int) (w : World) (ha : By w v l) (hl : l.length ≤ 1048576) (hw : (Lit.int .i64 n).wf = true) :
    Calls Try.prog 4 #[v, .int .i64 n] w fun e w' => e = .returned (.bool true) ∧ Below w.heap.size w w' := by
  have H0 := hide (lent_any v l w ha (by omega))
  have HA := hide ha
  obtain ⟨A, c, hv, hc, hm, _⟩ := ha.form
  subst hv
  unfold maxLen at hm
  clear ha
  have hcase : 1152921504606846975 < n ∨ (1 ≤ n ∧ n ≤ 1152921504606846975) ∨ n ≤ 0 := by omega
  have hcall : ∀ m : Int, 1 ≤ m → m ≤ 1152921504606846975 → ∀ w, Calls Try.prog 16 #[.int .i64 m] w fun e w' => e = .returned (.int .i64 (m / 5 * 8 + (m % 5 * 8 + 4) / 5)) ∧ w = w' := fun m h1 h2 w => by
    have := blength_any m w h2
    rwa [blen, if_neg (by omega)] at this
  have hcall0 : ∀ m : Int, m ≤ 0 → ∀ w, Calls Try.prog 16 #[.int .i64 m] w fun e w' => e = .returned (.int .i64 0) ∧ w = w' := fun m h1 w => by
    have := blength_any m w (by omega)
    rwa [blen, if_pos (by omega)] at this
  have HC := hide hcall
  have HC0 := hide hcall0
  clear hcall hcall0
  go_enter Try.func4, Try.ntmps4
  go_wp2_with fail
  refine H0.out.mono ?_
  rintro e w1 ⟨vf, rfl, o1, b1⟩
  obtain ⟨g, cap, hvf, _, _⟩ := o1.form (by simp)
  subst hvf
  have hfl : (l ++ marks 0 l.length 70).length = l.length + 70 := by simp
  rw [hfl] at o1 ⊢
  have hcap : l.length + 70 ≤ cap := by
    obtain ⟨_, A', c', hv', h1, _⟩ := o1.by_
    injection hv' with _ _ hc'
    rw [hfl] at h1
    omega
  have i1 : (0 : Int) ≤ (l.length : Int) := by omega
  have i2 : (l.length : Int) ≤ (cap : Int) := by omega
  have hby := o1.front
  go_wp2_with fail
  refine (bletters_any _ l w1 hby (by omega)).mono ?_
  rintro e w2 ⟨s1, rfl, hs1, b2⟩
  have HS1 := hide hs1
  have ob2 := o1.below b2
  have hA2 := (HA.out.below b1).below b2
  have c2 := b1.trans (b2.mono b1.size)
  clear hs1
  go_wp2_with fail
  refine (kept_any _ _ _ l w2 ob2.by_ hA2 (by omega)).mono ?_
  rw [decide_eq_true rfl]
  rintro e w3 ⟨rfl, b3⟩
  have ob3 := ob2.below b3
  have c3 := c2.trans (b3.mono c2.size)
  go_wp2_with fail
  refine (over_any _ _ _ w3 ob3 (by rw [hfl]; omega)).mono ?_
  rintro e w4 ⟨rfl, b4, _, _⟩
  have c4 := c3.trans b4
  have hA4 := HA.out.below c4
  clear o1 b1 hby ob2 hA2 c2 b3 ob3 c3 b4
  have HR := hide (rletters_any _ l w4 hA4 (by omega))
  have C4 := hide c4
  clear c4 hA4
  rcases hcase with hn | ⟨hn, hn2⟩ | hn
  · have hc1 := HC.out 1 (by omega) (by omega)
    go_wp2_with fail
    refine HR.out.mono ?_
    rintro e w5 ⟨s2, rfl, hs2, b5⟩
    have g1 : (s1.toList == s2.toList) = true := by rw [str_toList, str_toList, HS1.out, hs2]; simp
    clear hs2
    go_wp2_with (go_at_call 16; ((with_reducible refine (hc1 _).mono ?_)); rintro e w' ⟨rfl, rfl⟩)
    go_ret
    exact ⟨rfl, C4.out.trans (b5.mono C4.out.size)⟩
  · have hc1 := HC.out n hn hn2
    go_wp2_with fail
    refine HR.out.mono ?_
    rintro e w5 ⟨s2, rfl, hs2, b5⟩
    have g1 : (s1.toList == s2.toList) = true := by rw [str_toList, str_toList, HS1.out, hs2]; simp
    clear hs2
    go_wp2_with (go_at_call 16; ((with_reducible refine (hc1 _).mono ?_)); rintro e w' ⟨rfl, rfl⟩)
    go_ret
    exact ⟨rfl, C4.out.trans (b5.mono C4.out.size)⟩
  · have hc1 := HC0.out n hn
    go_wp2_with fail
    refine HR.out.mono ?_
    rintro e w5 ⟨s2, rfl, hs2, b5⟩
    have g1 : (s1.toList == s2.toList) = true := by rw [str_toList, str_toList, HS1.out, hs2]; simp
    clear hs2
    go_wp2_with (go_at_call 16; ((with_reducible refine (hc1 _).mono ?_)); rintro e w' ⟨rfl, rfl⟩)
    go_ret
    exact ⟨rfl, C4.out.trans (b5.mono C4.out.size)⟩
end Go.Proofs.Ytghobbbmoeijbaa
