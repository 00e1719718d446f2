/- BaseEscape: of every list of bytes and every two texts the program's Escape and Unescape give what the document's give; what was handed in is left alone, what is handed out lies in memory of its own. Condition: each has at most 1048576 bytes. -/
import Derived.Test.YtghobbbmoeijbaaEscD
import Derived.Test.YtghobbbmoeijbaaApart
namespace Go.Proofs.Ytghobbbmoeijbaa
open Go.RowKit

theorem unescL_len (n : Nat) : ∀ (s : List UInt8) (i : Nat) (acc : List UInt8), s.length ≤ n → (unescL s i acc).1.length ≤ acc.length + s.length := by
  induction n with
  | zero =>
    intro s i acc hn
    have : s = [] := List.eq_nil_of_length_eq_zero (by omega)
    subst this
    rw [unescL_nil]; simp
  | succ n ih =>
    intro s i acc hn
    rcases s with _ | ⟨c, r⟩
    · rw [unescL_nil]; simp
    · simp only [List.length_cons] at hn ⊢
      by_cases hp : plainN c.toNat = true
      · rw [unescL_plain _ _ _ _ hp]
        have := ih r (i + 1) (acc ++ [c]) (by omega)
        simp only [List.length_append, List.length_singleton] at this
        omega
      · by_cases h37 : c.toNat = 37
        · rcases r with _ | ⟨x, _ | ⟨y, r⟩⟩
          · rw [unescL_short _ _ _ _ h37 (by simp)]; simp
          · rw [unescL_short _ _ _ _ h37 (by simp)]; simp
          · rw [unescL_pair _ _ _ _ _ _ h37]
            rcases digN x.toNat with _ | a
            · simp
            · rcases digN y.toNat with _ | b
              · simp
              · simp only [List.length_cons] at hn ⊢
                split
                · simp
                · have := ih r (i + 3) (acc ++ [UInt8.ofNat (16 * a + b)]) (by omega)
                  simp only [List.length_append, List.length_singleton] at this
                  omega
        · rw [unescL_other _ _ _ _ (by simpa using hp) h37]; simp
theorem unescape_len (s : List UInt8) : (unescape s).1.length ≤ s.length := by
  unfold unescape
  split
  · simp
  · split
    · simp
    · have := unescL_len s.length s 0 [] (Nat.le_refl _)
      simpa using this

set_option maxRecDepth 100000 in
set_option maxHeartbeats 2000000 in
theorem law_escape (v : Value) (l : List UInt8) (s t : ByteArray) (w : World) (ha : By w v l) (hl : l.length ≤ 1048576) (hs : s.size ≤ 1048576) (ht : t.size ≤ 1048576) :
    Calls Try.prog 6 #[v, .string s, .string t] w fun e w' => e = .returned (.bool true) ∧ Below w.heap.size w w' := by
  have H0 := hide (lent_any v l w ha (by omega))
  have HA := hide ha
  obtain ⟨A, c, hv, hc, hm, _⟩ := ha.form
  subst hv
  unfold maxLen at hm
  clear ha
  have hls := unescape_len (lst s)
  have hlt := unescape_len (lst t)
  rw [lst_len] at hls hlt
  obtain ⟨D, hD⟩ : ∃ D, D = unescape (lst s) := ⟨_, rfl⟩
  obtain ⟨E, hE⟩ : ∃ E, E = unescape (lst t) := ⟨_, rfl⟩
  have r1 := fun w => runesc_any s w (by omega)
  have r2 := fun w => runesc_any t w (by omega)
  have p1 := fun w => bunesc_any s w (by omega)
  have p2 := fun w => bunesc_any t w (by omega)
  rw [← hD] at r1 p1 hls
  rw [← hE] at r2 p2 hlt
  clear hD hE
  have R1 := hide r1
  have R2 := hide r2
  have P1 := hide p1
  have P2 := hide p2
  clear r1 r2 p1 p2
  go_enter Try.func6, Try.ntmps6
  go_wp2_with fail
  refine H0.out.mono ?_
  rintro e w1 ⟨vf, rfl, o1, b1⟩
  obtain ⟨g, cap, hvf, _, _⟩ := o1.form (by simp)
  subst hvf
  have hfl : (l ++ marks 0 l.length 70).length = l.length + 70 := by simp
  rw [hfl] at o1 ⊢
  have hcap : l.length + 70 ≤ cap := by
    obtain ⟨_, A', c', hv', h1, _⟩ := o1.by_
    injection hv' with _ _ hc'
    rw [hfl] at h1
    omega
  have i1 : (0 : Int) ≤ (l.length : Int) := by omega
  have i2 : (l.length : Int) ≤ (cap : Int) := by omega
  have hby := o1.front
  go_wp2_with fail
  refine (besc_any _ l w1 hby (by omega)).mono ?_
  rintro e w2 ⟨s1, rfl, hs1, b2⟩
  have HS1 := hide hs1
  have ob2 := o1.below b2
  have hA2 := (HA.out.below b1).below b2
  have c2 := b1.trans (b2.mono b1.size)
  clear hs1
  go_wp2_with fail
  refine (kept_any _ _ _ l w2 ob2.by_ hA2 (by omega)).mono ?_
  rw [decide_eq_true rfl]
  rintro e w3 ⟨rfl, b3⟩
  have ob3 := ob2.below b3
  have c3 := c2.trans (b3.mono c2.size)
  go_wp2_with fail
  refine (over_any _ _ _ w3 ob3 (by rw [hfl]; omega)).mono ?_
  rintro e w4 ⟨rfl, b4, _, _⟩
  have C4 := c3.trans b4
  clear o1 b1 hby ob2 hA2 c2 b3 ob3 c3 b4 hfl i1 i2
  go_wp2_with fail
  refine (R1.out _).mono ?_
  rintro e w5 ⟨v1, rfl, o1, b1⟩
  have C5 := C4.trans (b1.mono C4.size)
  go_wp2_with fail
  refine (R2.out _).mono ?_
  rintro e w6 ⟨v2, rfl, o2, b2⟩
  have C6 := C5.trans (b2.mono C5.size)
  go_wp2_with fail
  refine (P1.out _).mono ?_
  rintro e w7 ⟨v3, rfl, o3, b3⟩
  have C7 := C6.trans (b3.mono C6.size)
  go_wp2_with fail
  refine (P2.out _).mono ?_
  rintro e w8 ⟨v4, rfl, o4, b4⟩
  have C8 := C7.trans (b4.mono C7.size)
  go_wp2_with fail
  refine (P1.out _).mono ?_
  rintro e w9 ⟨v5, rfl, o5, b5⟩
  have C9 := C8.trans (b5.mono C8.size)
  go_wp2_with fail
  refine (resc_any _ l w9 (HA.out.below C9) (by omega)).mono ?_
  rintro e w10 ⟨s2, rfl, hs2, b6⟩
  have C10 := C9.trans (b6.mono C9.size)
  have g1 : (s1.toList == s2.toList) = true := by rw [str_toList, str_toList, HS1.out, hs2]; simp
  clear hs2
  have hA := ((((o1.below b2).below b3).below b4).below b5).below b6
  have hB := (((o2.below b3).below b4).below b5).below b6
  have x3 := ((o3.below b4).below b5).below b6
  have x4 := (o4.below b5).below b6
  have x5 := o5.below b6
  have a34 : Apt v3 v4 := apt_later o3 o4 (Nat.le_refl _)
  have a35 : Apt v3 v5 := apt_later o3 o5 b4.size
  have a45 : Apt v4 v5 := apt_later o4 o5 (Nat.le_refl _)
  obtain ⟨A3, c3, hv3, _⟩ := o3.by_.form
  obtain ⟨A4, c4, hv4, _⟩ := o4.by_.form
  obtain ⟨A5, c5, hv5, _⟩ := o5.by_.form
  subst hv3 hv4 hv5
  go_wp2_with fail
  refine (same_any _ _ D.1 D.1 _ x3.by_ hA.by_).mono ?_
  rw [decide_eq_true rfl]
  rintro e w11 ⟨rfl, b11⟩
  have C11 := C10.trans (b11.mono C10.size)
  go_wp2_with fail
  refine (same_any _ _ E.1 E.1 _ (x4.by_.below b11) (hB.by_.below b11)).mono ?_
  rw [decide_eq_true rfl]
  rintro e w12 ⟨rfl, b12⟩
  have C12 := C11.trans (b12.mono C11.size)
  go_wp2_with fail
  refine (same_any _ _ D.1 D.1 _ ((x5.by_.below b11).below b12) ((hA.by_.below b11).below b12)).mono ?_
  rw [decide_eq_true rfl]
  rintro e w13 ⟨rfl, b13⟩
  have C13 := C12.trans (b13.mono C12.size)
  have y3 := (((x3.below b11).below b12).below b13).base C6.size
  have y4 := (((x4.below b11).below b12).below b13).base C7.size
  have y5 := (((x5.below b11).below b12).below b13).base C8.size
  go_wp2_with fail
  refine (apart3 w.heap.size C13.size y3 y4 y5 a34 a35 a45 (by omega) (by omega) (by omega)).mono ?_
  rintro e w14 ⟨rfl, b14⟩
  go_wp2_with fail
  go_ret
  exact ⟨rfl, C13.trans b14⟩
end Go.Proofs.Ytghobbbmoeijbaa
