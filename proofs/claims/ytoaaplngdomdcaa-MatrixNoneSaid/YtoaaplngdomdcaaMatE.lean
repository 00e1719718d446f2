/- NewMod. -/
import Derived.Test.YtoaaplngdomdcaaMatD
namespace Go.Proofs.Ytoaaplngdomdcaa
open Go.RowKit

set_option maxHeartbeats 800000 in
theorem newmod_no (p : Nat) (w : World) (hp2 : (p : Int) ≤ 4294967295) (h : primeR p = false) :
    Calls Try.prog 12 #[.int .u32 (p : Int)] w fun e w' => e = .returned (.tuple #[.pointer none, .int .i64 73]) ∧ w = w' := by
  have h1 := prime_any p w hp2
  have hx : 2147483648 < p ∨ (p ≤ 2147483648 ∧ primeB p = false) := by
    unfold primeR at h
    simp at h
    by_cases h2 : p ≤ 2147483648
    · right
      refine ⟨h2, ?_⟩
      cases hb : primeB p
      · rfl
      · have := h hb; omega
    · left; omega
  clear h
  rcases hx with hx | ⟨hx, hb⟩
  · go_enter Try.func12, Try.ntmps12
    go_wp2
    go_ret2
    exact ⟨rfl, rfl⟩
  · rw [hb] at h1
    clear hb
    go_enter Try.func12, Try.ntmps12
    go_wp2_with fail
    refine h1.mono ?_
    rintro e w' ⟨rfl, rfl⟩
    go_wp2
    go_ret2
    exact ⟨rfl, rfl⟩

set_option maxHeartbeats 800000 in
theorem newmod_yes (p : Nat) (w : World) (h : primeR p = true) :
    Calls Try.prog 12 #[.int .u32 (p : Int)] w fun e w' => ∃ g, e = .returned (.tuple #[.pointer (some ⟨g, 0, none⟩), .int .i64 0]) ∧ MP w' (.pointer (some ⟨g, 0, none⟩)) p ∧ Below w.heap.size w w' := by
  have hx : primeB p = true ∧ p ≤ 2147483648 := by
    unfold primeR at h
    simpa using h
  obtain ⟨hb, hp⟩ := hx
  have h1 := prime_any p w (by omega)
  rw [hb] at h1
  clear hb h
  go_enter Try.func12, Try.ntmps12
  go_wp2_with fail
  refine h1.mono ?_
  rintro e w' ⟨rfl, rfl⟩
  go_wp2
  go_ret2
  refine ⟨_, rfl, ⟨_, rfl, ?_, ?_⟩, (Below.refl _ w).alloc (Nat.le_refl _) _⟩
  · simp
  · exact (Blk.new w _ _).cell 0
end Go.Proofs.Ytoaaplngdomdcaa
