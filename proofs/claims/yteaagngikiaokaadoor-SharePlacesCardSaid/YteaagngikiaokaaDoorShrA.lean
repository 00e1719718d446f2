/- Contracts of the program's trees' widths, of the nodes beside the way from leaf 0 up, which is a range over a function. -/
import Derived.Test.YteaagngikiaokaaDoorCutC
import Derived.RangeFuncBox
import Derived.RangeFuncLeaves
import Derived.Shelf.Abstract
import Derived.WalkKit
import Derived.OwnWalkIn
import Derived.TacticsInMore
import Derived.LoopNIn
import Derived.LoopIn
import Derived.Maps.AppendAt
namespace Go.Proofs.YteaagngikiaokaaDoor
open Go.RowKit Go.Shelf

def wd : Nat → Nat → Nat → Nat
  | 0, x, _ => x
  | f + 1, x, n => if x < n then wd f (x * 2) n else x
def wid (n : Nat) : Nat := wd 9 1 n
theorem wd_le : ∀ (f x n : Nat), wd f x n ≤ x * 2 ^ f
  | 0, x, n => by simp [wd]
  | f + 1, x, n => by
    unfold wd
    split
    · have := wd_le f (x * 2) n
      rw [Nat.mul_assoc, ← Nat.pow_succ'] at this
      exact this
    · exact Nat.le_mul_of_pos_right _ (Nat.pow_pos (by omega))
theorem wd_pos : ∀ (f x n : Nat), 1 ≤ x → 1 ≤ wd f x n
  | 0, x, n, h => by simpa [wd] using h
  | f + 1, x, n, h => by
    unfold wd
    split
    · exact wd_pos f (x * 2) n (by omega)
    · exact h
theorem wid_le (n : Nat) : wid n ≤ 512 := wd_le 9 1 n
theorem wid_pos (n : Nat) : 1 ≤ wid n := wd_pos 9 1 n (by omega)

set_option maxRecDepth 100000 in
set_option maxHeartbeats 400000 in
theorem width_any (n : Nat) (w : World) (h : 1 ≤ n ∧ n ≤ 512) :
    Calls Tryd.prog 90 #[.int .i64 (n : Int)] w fun e w' => e = .returned (.tuple #[.int .i64 (wid n : Int), .int .i64 0]) ∧ w = w' := by
  have h1 : ¬ (n : Int) < 1 := by omega
  have h2 : ¬ 512 < (n : Int) := by omega
  go_enter Tryd.func90, Tryd.ntmps90
  go_wp2
  go_loopw [4] (fun u4 wr => ∃ f x : Nat, u4 = .int .i64 (x : Int) ∧ x * 2 ^ f = 512 ∧ 1 ≤ x ∧ wd f x n = wid n ∧ wr = w) (fun i _ => 1024 - (intOf i).toNat)
  case atStart => exact ⟨9, 1, rfl, by decide, by omega, rfl, rfl⟩
  case round =>
    obtain ⟨f, x, rfl, hf, hx, hw, rfl⟩ := hrel
    by_cases hlt : x < n
    · obtain ⟨g, rfl⟩ : ∃ g, f = g + 1 := by
        rcases f with _ | g
        · rw [Nat.pow_zero] at hf; omega
        · exact ⟨g, rfl⟩
      have i1 : (x : Int) < (n : Int) := by omega
      have e2 : IntKind.i64.wrap ((x : Int) * 2) = ((x * 2 : Nat) : Int) := by rw [IntWalk.i64_in _ (by omega)]; omega
      go_wp2
      go_roundw
      case rel => exact ⟨g, x * 2, by go_num, by rw [Nat.mul_assoc, ← Nat.pow_succ']; exact hf, by omega, by rw [← hw]; simp [wd, hlt], trivial⟩
      case measure => simp [intOf]; omega
    · have i1 : (n : Int) ≤ (x : Int) := by omega
      have e2 : x = wid n := by
        rw [← hw]
        rcases f with _ | f
        · rfl
        · simp [wd, hlt]
      go_wp2
      go_ret2
      exact ⟨by rw [e2]; rfl, rfl⟩

set_option maxRecDepth 100000 in
set_option maxHeartbeats 400000 in
theorem nodes_any (n : Nat) (w : World) (h : 1 ≤ n ∧ n ≤ 512) :
    Calls Tryd.prog 84 #[.int .i64 (n : Int)] w fun e w' => e = .returned (.int .i64 (2 * (wid n : Int) - 1)) ∧ w = w' := by
  have Q := hide (width_any n w h)
  have h1 := wid_le n
  have h2 := wid_pos n
  generalize wid n = m at *
  go_enter Tryd.func84, Tryd.ntmps84
  go_wp2_with fail
  refine Q.out.mono ?_
  rintro e w1 ⟨rfl, rfl⟩
  go_wp2
  go_ret
  exact ⟨by go_num, rfl⟩

set_option maxRecDepth 100000 in
set_option maxHeartbeats 400000 in
theorem node_any (n : Nat) (w : World) (h : 1 ≤ n ∧ n ≤ 512) :
    Calls Tryd.prog 88 #[.int .i64 (n : Int), .int .i64 0] w fun e w' => e = .returned (.tuple #[.int .i64 (wid n : Int), .int .i64 0]) ∧ w = w' := by
  have Q := hide (width_any n w h)
  have h1 := wid_le n
  have h2 := wid_pos n
  have i1 : ¬ (n : Int) ≤ 0 := by omega
  have i2 : 0 < (n : Int) := by omega
  generalize wid n = m at *
  go_enter Tryd.func88, Tryd.ntmps88
  go_wp2_with fail
  refine Q.out.mono ?_
  rintro e w1 ⟨rfl, rfl⟩
  go_wp2
  go_ret2
  exact ⟨rfl, rfl⟩

set_option maxRecDepth 100000 in
set_option maxHeartbeats 400000 in
theorem up_tree (n : Nat) (w : World) (h : 1 ≤ n ∧ n ≤ 512) :
    Calls Tryd.prog 89 #[.int .i64 (n : Int), .int .i64 0] w fun e w' => e = .returned (.func (.func 100) #[] #[.pointer (some ⟨w.heap.size, 0, none⟩)]) ∧ w' = w.alloc (.cells #[.int .i64 (wid n : Int)] 3) := by
  have Q := hide (node_any n w h)
  have h1 := wid_le n
  have h2 := wid_pos n
  generalize wid n = m at *
  go_enter Tryd.func89, Tryd.ntmps89
  go_wp2_with fail
  refine Q.out.mono ?_
  rintro e w1 ⟨rfl, rfl⟩
  go_wp2
  go_ret
  exact ⟨rfl, rfl⟩
end Go.Proofs.YteaagngikiaokaaDoor
