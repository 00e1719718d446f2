/- BaseBytes: of every two texts the program's Bytes gives what the document's gives, in new memory: the call returns true and leaves all that was there as it was. Condition: each text has at most 2^47 - 4096 letters (the form reaches no farther). -/
import Derived.Test.YtghobbbmoeijbaaBaseE
import Derived.Test.YtghobbbmoeijbaaApart
namespace Go.Proofs.Ytghobbbmoeijbaa
open Go.RowKit

theorem decode_len (l : List UInt8) : (decode l).1.length ≤ l.length := by
  unfold decode
  split
  · simp
  · split
    · simp
    · simp; omega

set_option maxRecDepth 100000 in
set_option maxHeartbeats 2000000 in
theorem law_bytes (s t : ByteArray) (w : World) (hs : s.size ≤ 140737488351232) (ht : t.size ≤ 140737488351232) :
    Calls Try.prog 3 #[.string s, .string t] w fun e w' => e = .returned (.bool true) ∧ Below w.heap.size w w' := by
  have hls := decode_len (lst s)
  have hlt := decode_len (lst t)
  rw [lst_len] at hls hlt
  obtain ⟨D, hD⟩ : ∃ D, D = decode (lst s) := ⟨_, rfl⟩
  obtain ⟨E, hE⟩ : ∃ E, E = decode (lst t) := ⟨_, rfl⟩
  have r1 := fun w => rbytes_any s w hs
  have r2 := fun w => rbytes_any t w ht
  have p1 := fun w => bbytes_any s w (by omega)
  have p2 := fun w => bbytes_any t w (by omega)
  rw [← hD] at r1 p1 hls
  rw [← hE] at r2 p2 hlt
  clear hD hE
  have R1 := hide r1
  have R2 := hide r2
  have P1 := hide p1
  have P2 := hide p2
  clear r1 r2 p1 p2
  go_enter Try.func3, Try.ntmps3
  go_wp2_with fail
  refine (R1.out _).mono ?_
  rintro e w1 ⟨v1, rfl, o1, b1⟩
  go_wp2_with fail
  refine (R2.out _).mono ?_
  rintro e w2 ⟨v2, rfl, o2, b2⟩
  go_wp2_with fail
  refine (P1.out _).mono ?_
  rintro e w3 ⟨v3, rfl, o3, b3⟩
  go_wp2_with fail
  refine (P2.out _).mono ?_
  rintro e w4 ⟨v4, rfl, o4, b4⟩
  go_wp2_with fail
  refine (P1.out _).mono ?_
  rintro e w5 ⟨v5, rfl, o5, b5⟩
  go_wp2_with fail
  have x1 := ((o1.below b2).below b3).below b4
  have x2 := (o2.below b3).below b4
  have x3 := (o3.below b4).below b5
  have x4 := o4.below b5
  have a34 : Apt v3 v4 := apt_later o3 o4 (Nat.le_refl _)
  have a35 : Apt v3 v5 := apt_later o3 o5 b4.size
  have a45 : Apt v4 v5 := apt_later o4 o5 (Nat.le_refl _)
  have hA := x1.below b5
  have hB := x2.below b5
  have hw1 := b1.trans (b2.mono b1.size)
  have hw2 := hw1.trans (b3.mono hw1.size)
  have hw3 := hw2.trans (b4.mono hw2.size)
  have hw4 := hw3.trans (b5.mono hw3.size)
  obtain ⟨A3, c3, hv3, _⟩ := o3.by_.form
  obtain ⟨A4, c4, hv4, _⟩ := o4.by_.form
  obtain ⟨A5, c5, hv5, _⟩ := o5.by_.form
  subst hv3 hv4 hv5
  refine (same_any _ _ D.1 D.1 _ x3.by_ hA.by_).mono ?_
  rw [decide_eq_true rfl]
  rintro e w6 ⟨rfl, b6⟩
  go_wp2_with fail
  refine (same_any _ _ E.1 E.1 _ (x4.by_.below b6) (hB.by_.below b6)).mono ?_
  rw [decide_eq_true rfl]
  rintro e w7 ⟨rfl, b7⟩
  go_wp2_with fail
  refine (same_any _ _ D.1 D.1 _ ((o5.by_.below b6).below b7) ((hA.by_.below b6).below b7)).mono ?_
  rw [decide_eq_true rfl]
  rintro e w8 ⟨rfl, b8⟩
  have hw5 := hw4.trans (b6.mono hw4.size)
  have hw6 := hw5.trans (b7.mono hw5.size)
  have hw7 := hw6.trans (b8.mono hw6.size)
  have y3 := (((x3.below b6).below b7).below b8).base hw1.size
  have y4 := (((x4.below b6).below b7).below b8).base hw2.size
  have y5 := (((o5.below b6).below b7).below b8).base hw3.size
  go_wp2_with fail
  refine (apart3 w.heap.size hw7.size y3 y4 y5 a34 a35 a45 (by omega) (by omega) (by omega)).mono ?_
  rintro e w9 ⟨rfl, b9⟩
  go_wp2_with fail
  go_ret
  exact ⟨rfl, hw7.trans b9⟩
end Go.Proofs.Ytghobbbmoeijbaa
