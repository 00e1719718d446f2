/- Joined texts: DocB. -/
import Derived.Test.YtcpceaflnnkhnaaGreatDoorJ32
import Derived.Test.YtcpceaflnnkhnaaGreatDoorJ2
import Derived.Test.YtcpceaflnnkhnaaGreatDoorJ18
import Derived.Lib.ItoaLen

/- The document's Word, numbers and Size. (Printed by wip/docb.py.) -/
namespace Go.Proofs.YtcpceaflnnkhnaaGreatDoor
open Go.RowKit

set_option maxRecDepth 100000 in
set_option maxHeartbeats 8000000 in
theorem kword_any (k : Nat) (d : Bool) (w : World) (hk : k = 1 ∨ k = 2 ∨ k = 3) :
    Calls Tryz.prog 46 #[.int .u8 (k : Int), .bool d] w fun e w' => e = .returned (.string ⟨(wordL k d).toArray⟩) ∧ Below w.heap.size w w' := by
  have H0 := hide (Below.refl w.heap.size w)
  rcases hk with rfl | rfl | rfl <;> cases d
  all_goals
    go_enter Tryz.func46, Tryz.ntmps46
    go_wp2
    go_ret
    exact ⟨by kernel_rfl, H0.out⟩
theorem numS_le (x : Int) (h : -9223372036854775808 ≤ x ∧ x ≤ 9223372036854775807) : (numS x).size ≤ 21 := by
  rw [← lst_len]
  unfold numS
  split
  · simp [lst]
  · rw [lst_itoaS]
    exact Lib.itoa_length_le x h.1 h.2
set_option maxRecDepth 100000 in
set_option maxHeartbeats 8000000 in
theorem rnumbers_any (z0 z1 z2 z3 : Int) (w : World) (h0 : -9223372036854775808 ≤ z0 ∧ z0 ≤ 9223372036854775807) (h1 : -9223372036854775808 ≤ z1 ∧ z1 ≤ 9223372036854775807) (h2 : -9223372036854775808 ≤ z2 ∧ z2 ≤ 9223372036854775807) (h3 : -9223372036854775808 ≤ z3 ∧ z3 ≤ 9223372036854775807) :
    Calls Tryz.prog 48 #[.int .i64 z0, .int .i64 z1, .int .i64 z2, .int .i64 z3] w fun e w' => ∃ s : ByteArray, e = .returned (.string s) ∧ lst s = 58 :: (numL z0 ++ 58 :: (numL z1 ++ 58 :: (numL z2 ++ 58 :: numL z3))) ∧ s.size ≤ 100 ∧ Below w.heap.size w w' := by
  have R0 := hide (Below.refl w.heap.size w)
  have hn : ∀ z : Int, -9223372036854775808 ≤ z ∧ z ≤ 9223372036854775807 → ∃ x : ByteArray, ∃ e : Int, x.size ≤ 21 ∧ lst x = numL z ∧ ∀ W, Calls Tryz.prog 69 #[.int .i64 z] W fun e' w' => e' = .returned (.tuple #[.string x, .int .i64 e]) ∧ Below W.heap.size W w' := fun z hz => ⟨_, _, numS_le z hz, rfl, fun W => rnumber_any z W hz⟩
  obtain ⟨x0, e0, s0, l0, q0⟩ := hn z0 h0
  obtain ⟨x1, e1, s1, l1, q1⟩ := hn z1 h1
  obtain ⟨x2, e2, s2, l2, q2⟩ := hn z2 h2
  obtain ⟨x3, e3, s3, l3, q3⟩ := hn z3 h3
  have Q0 := hide q0
  have Q1 := hide q1
  have Q2 := hide q2
  have Q3 := hide q3
  have HL := hide (And.intro l0 (And.intro l1 (And.intro l2 l3)))
  clear hn h0 h1 h2 h3 q0 q1 q2 q3 l0 l1 l2 l3
  go_enter Tryz.func48, Tryz.ntmps48
  go_wp2_with fail
  refine (Q0.out _).mono ?_
  rintro e w1 ⟨rfl, b⟩
  have R1 := hide (Below.step R0.out b)
  clear b
  go_wp2_with fail
  refine (Q1.out _).mono ?_
  rintro e w2 ⟨rfl, b⟩
  have R2 := hide (Below.step R1.out b)
  clear b
  go_wp2_with fail
  refine (Q2.out _).mono ?_
  rintro e w3 ⟨rfl, b⟩
  have R3 := hide (Below.step R2.out b)
  clear b
  go_wp2_with fail
  refine (Q3.out _).mono ?_
  rintro e w4 ⟨rfl, b⟩
  have R4 := hide (Below.step R3.out b)
  clear b
  go_wp2_with fail
  go_ret
  refine ⟨_, rfl, ?_, ?_, R4.out⟩
  · simp only [lst_append, HL.out.1, HL.out.2.1, HL.out.2.2.1, HL.out.2.2.2]
    rw [show lst ⟨#[58]⟩ = [58] from rfl]
    simp only [List.append_assoc, List.cons_append, List.nil_append]
  · simp only [ByteArray.size_append]
    rw [show ByteArray.size ⟨#[58]⟩ = 1 from rfl]
    omega
end Go.Proofs.YtcpceaflnnkhnaaGreatDoor
