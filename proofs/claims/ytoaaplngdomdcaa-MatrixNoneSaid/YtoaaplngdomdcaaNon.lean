/- Contracts of the fields and matrices that are nil, or that nobody made. -/
import Derived.Test.YtoaaplngdomdcaaMatE
namespace Go.Proofs.Ytoaaplngdomdcaa
open Go.RowKit

/-- No field: nil, or a Mod of 0. -/
def MNo (w : World) (v : Value) : Prop := v = .pointer none ∨ ∃ g, v = .pointer (some ⟨g, 0, none⟩) ∧ g < w.heap.size ∧ w.cell? ⟨g, 0, none⟩ = some (.int .u64 0)
theorem MNo.below {w w' : World} {v : Value} (h : MNo w v) (hb : Below w.heap.size w w') : MNo w' v := by
  rcases h with h | ⟨g, h1, h2, h3⟩
  · exact .inl h
  · have := hb.size
    exact .inr ⟨g, h1, by omega, (hb.cell (p := ⟨g, 0, none⟩) h2).trans h3⟩
theorem told_no (v : Value) (x : Int) (w : World) (h : MNo w v) : Calls Try.prog 63 #[v, .int .u64 x] w fun e w' => e = .returned (.int .u32 0) ∧ w = w' := by
  rcases h with rfl | ⟨g, rfl, h2, h3⟩
  all_goals
    go_enter Try.func63, Try.ntmps63
    go_wp2
    go_ret
    exact ⟨rfl, rfl⟩
theorem one_no (v : Value) (w : World) (h : MNo w v) : Calls Try.prog 15 #[v] w fun e w' => e = .returned (.int .u32 0) ∧ w = w' := by
  have Q := hide (told_no v 1 w h)
  clear h
  go_enter Try.func15, Try.ntmps15
  go_wp2_with fail
  refine Q.out.mono ?_
  rintro e w' ⟨rfl, rfl⟩
  go_wp2
  go_ret
  exact ⟨rfl, rfl⟩
theorem add_no (v : Value) (w : World) (h : MNo w v) : Calls Try.prog 18 #[v, .int .u32 1, .int .u32 2] w fun e w' => e = .returned (.int .u32 0) ∧ w = w' := by
  have Q := hide (told_no v 3 w h)
  clear h
  go_enter Try.func18, Try.ntmps18
  go_wp2_with fail
  refine Q.out.mono ?_
  rintro e w' ⟨rfl, rfl⟩
  go_wp2
  go_ret
  exact ⟨rfl, rfl⟩
theorem sub_no (v : Value) (w : World) (h : MNo w v) : Calls Try.prog 20 #[v, .int .u32 1, .int .u32 2] w fun e w' => e = .returned (.int .u32 0) ∧ w = w' := by
  rcases h with rfl | ⟨g, rfl, h2, h3⟩
  all_goals
    go_enter Try.func20, Try.ntmps20
    go_wp2
    go_ret
    exact ⟨rfl, rfl⟩
theorem mul_no (v : Value) (w : World) (h : MNo w v) : Calls Try.prog 22 #[v, .int .u32 3, .int .u32 4] w fun e w' => e = .returned (.int .u32 0) ∧ w = w' := by
  have Q := hide (fun x => told_no v x w h)
  clear h
  go_enter Try.func22, Try.ntmps22
  go_wp2_with fail
  refine (Q.out _).mono ?_
  rintro e w' ⟨rfl, rfl⟩
  go_wp2_with fail
  refine (Q.out _).mono ?_
  rintro e w' ⟨rfl, rfl⟩
  go_wp2_with fail
  refine (Q.out _).mono ?_
  rintro e w' ⟨rfl, rfl⟩
  go_wp2
  go_ret
  exact ⟨rfl, rfl⟩
theorem inv_no (v : Value) (w : World) (h : MNo w v) : Calls Try.prog 16 #[v, .int .u32 3] w fun e w' => e = .returned (.tuple #[.int .u32 0, .bool false]) ∧ w = w' := by
  have Q := hide (fun x => told_no v x w h)
  clear h
  go_enter Try.func16, Try.ntmps16
  go_wp2_with fail
  refine (Q.out _).mono ?_
  rintro e w' ⟨rfl, rfl⟩
  go_wp2
  go_ret2
  exact ⟨rfl, rfl⟩

/-- No matrix: nil, or one that nobody made. -/
def XNo (w : World) (v : Value) : Prop := v = .pointer none ∨ ∃ g, v = .pointer (some ⟨g, 0, none⟩) ∧ g < w.heap.size ∧ w.cell? ⟨g, 0, none⟩ = some .nilIface
theorem XNo.ptr {w : World} {v : Value} (h : XNo w v) : ∃ A, v = .pointer A := by
  rcases h with h | ⟨g, h1, _⟩
  · exact ⟨_, h⟩
  · exact ⟨_, h1⟩
theorem XNo.below {w w' : World} {v : Value} (h : XNo w v) (hb : Below w.heap.size w w') : XNo w' v := by
  rcases h with h | ⟨g, h1, h2, h3⟩
  · exact .inl h
  · have := hb.size
    exact .inr ⟨g, h1, by omega, (hb.cell (p := ⟨g, 0, none⟩) h2).trans h3⟩
/-- A matrix that was made. -/
def XYes (w : World) (v : Value) : Prop := ∃ g t u, v = .pointer (some ⟨g, 0, none⟩) ∧ g < w.heap.size ∧ w.cell? ⟨g, 0, none⟩ = some (.iface t u)
theorem XYes.below {w w' : World} {v : Value} (h : XYes w v) (hb : Below w.heap.size w w') : XYes w' v := by
  obtain ⟨g, t, u, h1, h2, h3⟩ := h
  have := hb.size
  exact ⟨g, t, u, h1, by omega, (hb.cell (p := ⟨g, 0, none⟩) h2).trans h3⟩
theorem made_no (v : Value) (w : World) (h : XNo w v) : Calls Try.prog 84 #[v] w fun e w' => e = .returned (.bool false) ∧ w = w' := by
  rcases h with rfl | ⟨g, rfl, h2, h3⟩
  all_goals
    go_enter Try.func84, Try.ntmps84
    go_wp2
    go_ret
    exact ⟨rfl, rfl⟩
theorem made_yes (v : Value) (w : World) (h : XYes w v) : Calls Try.prog 84 #[v] w fun e w' => e = .returned (.bool true) ∧ w = w' := by
  obtain ⟨g, t, u, rfl, h2, h3⟩ := h
  go_enter Try.func84, Try.ntmps84
  go_wp2
  go_ret
  exact ⟨rfl, rfl⟩
set_option maxRecDepth 100000 in
theorem at_no (v : Value) (i j : Int) (w : World) (h : XNo w v) : Calls Try.prog 42 #[v, .int .i64 i, .int .i64 j] w fun e w' => e = .returned (.tuple #[.int .u32 0, .int .i64 1]) ∧ w = w' := by
  have Q := hide (made_no v w h)
  clear h
  go_enter Try.func42, Try.ntmps42
  go_wp2_with fail
  refine Q.out.mono ?_
  rintro e w' ⟨rfl, rfl⟩
  go_wp2
  go_ret2
  exact ⟨rfl, rfl⟩
theorem rows_no (v : Value) (w : World) (h : XNo w v) : Calls Try.prog 48 #[v] w fun e w' => e = .returned (.int .i64 0) ∧ w = w' := by
  have Q := hide (made_no v w h)
  clear h
  go_enter Try.func48, Try.ntmps48
  go_wp2_with fail
  refine Q.out.mono ?_
  rintro e w' ⟨rfl, rfl⟩
  go_wp2
  go_ret
  exact ⟨rfl, rfl⟩
theorem cols_no (v : Value) (w : World) (h : XNo w v) : Calls Try.prog 49 #[v] w fun e w' => e = .returned (.int .i64 0) ∧ w = w' := by
  have Q := hide (made_no v w h)
  clear h
  go_enter Try.func49, Try.ntmps49
  go_wp2_with fail
  refine Q.out.mono ?_
  rintro e w' ⟨rfl, rfl⟩
  go_wp2
  go_ret
  exact ⟨rfl, rfl⟩
theorem rank_no (v : Value) (w : World) (h : XNo w v) : Calls Try.prog 50 #[v] w fun e w' => e = .returned (.int .i64 0) ∧ w = w' := by
  have Q := hide (made_no v w h)
  clear h
  go_enter Try.func50, Try.ntmps50
  go_wp2_with fail
  refine Q.out.mono ?_
  rintro e w' ⟨rfl, rfl⟩
  go_wp2
  go_ret
  exact ⟨rfl, rfl⟩
set_option maxRecDepth 100000 in
theorem inverse_no (v : Value) (w : World) (h : XNo w v) : Calls Try.prog 46 #[v] w fun e w' => e = .returned (.tuple #[.pointer none, .int .i64 1]) ∧ w = w' := by
  have Q := hide (made_no v w h)
  clear h
  go_enter Try.func46, Try.ntmps46
  go_wp2_with fail
  refine Q.out.mono ?_
  rintro e w' ⟨rfl, rfl⟩
  go_wp2
  go_ret2
  exact ⟨rfl, rfl⟩
set_option maxRecDepth 100000 in
theorem times_no (v : Value) (A : Option Addr) (n c : Nat) (w : World) (h : XNo w v) : Calls Try.prog 44 #[v, .slice A n c] w fun e w' => e = .returned (.tuple #[.slice none 0 0, .int .i64 1]) ∧ Below w.heap.size w w' := by
  have Q := hide (fun w' (hb : Below w.heap.size w w') => made_no v w' (h.below hb))
  obtain ⟨PA, rfl⟩ := h.ptr
  clear h
  go_enter Try.func44, Try.ntmps44
  go_wp2_with fail
  refine (Q.out _ ((Below.refl _ w).alloc (Nat.le_refl _) _)).mono ?_
  rintro e w' ⟨rfl, rfl⟩
  go_wp2
  go_ret2
  exact ⟨rfl, (Below.refl _ w).alloc (Nat.le_refl _) _⟩
set_option maxRecDepth 100000 in
theorem solve_no (v : Value) (A : Option Addr) (n c : Nat) (w : World) (h : XNo w v) : Calls Try.prog 47 #[v, .slice A n c] w fun e w' => e = .returned (.tuple #[.slice none 0 0, .int .i64 1]) ∧ Below w.heap.size w w' := by
  have Q := hide (fun w' (hb : Below w.heap.size w w') => made_no v w' (h.below hb))
  obtain ⟨PA, rfl⟩ := h.ptr
  clear h
  go_enter Try.func47, Try.ntmps47
  go_wp2_with fail
  refine (Q.out _ (((Below.refl _ w).alloc (Nat.le_refl _) _).alloc (by simp) _)).mono ?_
  rintro e w' ⟨rfl, rfl⟩
  go_wp2
  go_ret2
  exact ⟨rfl, ((Below.refl _ w).alloc (Nat.le_refl _) _).alloc (by simp) _⟩
set_option maxRecDepth 100000 in
theorem pick_no (v : Value) (A : Option Addr) (n c : Nat) (w : World) (h : XNo w v) : Calls Try.prog 45 #[v, .slice A n c] w fun e w' => e = .returned (.tuple #[.pointer none, .int .i64 1]) ∧ Below w.heap.size w w' := by
  have Q := hide (fun w' (hb : Below w.heap.size w w') => made_no v w' (h.below hb))
  obtain ⟨PA, rfl⟩ := h.ptr
  clear h
  go_enter Try.func45, Try.ntmps45
  go_wp2_with fail
  refine (Q.out _ (((Below.refl _ w).alloc (Nat.le_refl _) _).alloc (by simp) _)).mono ?_
  rintro e w' ⟨rfl, rfl⟩
  go_wp2
  go_ret2
  exact ⟨rfl, ((Below.refl _ w).alloc (Nat.le_refl _) _).alloc (by simp) _⟩
set_option maxRecDepth 100000 in
theorem mmul_no (v : Value) (u : Option Addr) (w : World) (h : XNo w v) : Calls Try.prog 43 #[v, .pointer u] w fun e w' => e = .returned (.tuple #[.pointer none, .int .i64 1]) ∧ Below w.heap.size w w' := by
  have Q := hide (fun w' (hb : Below w.heap.size w w') => made_no v w' (h.below hb))
  obtain ⟨PA, rfl⟩ := h.ptr
  clear h
  go_enter Try.func43, Try.ntmps43
  go_wp2_with fail
  refine (Q.out _ (((Below.refl _ w).alloc (Nat.le_refl _) _).alloc (by simp) _)).mono ?_
  rintro e w' ⟨rfl, rfl⟩
  go_wp2
  go_ret2
  exact ⟨rfl, ((Below.refl _ w).alloc (Nat.le_refl _) _).alloc (by simp) _⟩
set_option maxRecDepth 100000 in
theorem mmul_no2 (v u : Value) (w : World) (h : XYes w v) (h2 : XNo w u) : Calls Try.prog 43 #[v, u] w fun e w' => e = .returned (.tuple #[.pointer none, .int .i64 1]) ∧ Below w.heap.size w w' := by
  have Q := hide (fun w' (hb : Below w.heap.size w w') => made_yes v w' (h.below hb))
  have Q2 := hide (fun w' (hb : Below w.heap.size w w') => made_no u w' (h2.below hb))
  obtain ⟨g, t0, u0, rfl, -⟩ := h
  obtain ⟨PB, rfl⟩ := h2.ptr
  clear h2
  go_enter Try.func43, Try.ntmps43
  go_wp2_with fail
  refine (Q.out _ (((Below.refl _ w).alloc (Nat.le_refl _) _).alloc (by simp) _)).mono ?_
  rintro e w' ⟨rfl, rfl⟩
  go_wp2_with fail
  refine (Q2.out _ (((Below.refl _ w).alloc (Nat.le_refl _) _).alloc (by simp) _)).mono ?_
  rintro e w' ⟨rfl, rfl⟩
  go_wp2
  go_ret2
  exact ⟨rfl, ((Below.refl _ w).alloc (Nat.le_refl _) _).alloc (by simp) _⟩
set_option maxRecDepth 100000 in
theorem same_no (v u : Value) (w : World) (h : XNo w v) : Calls Try.prog 51 #[v, u] w fun e w' => e = .returned (.bool false) ∧ Below w.heap.size w w' := by
  have Q := hide (fun w' (hb : Below w.heap.size w w') => made_no v w' (h.below hb))
  clear h
  go_enter Try.func51, Try.ntmps51
  go_wp2
  go_quiet ((go_at_call 84; with_reducible exact Calls.quiet_of_same ((Q.out _ (below_drewN (Below.refl _ _) _)).mono fun _ _ ⟨a, b⟩ => ⟨a, b.symm⟩)))
  go_wp2
  go_ret
  exact ⟨rfl, below_drewN (Below.refl _ _) _⟩
set_option maxRecDepth 100000 in
theorem same_no2 (v u : Value) (w : World) (h : XYes w v) (h2 : XNo w u) : Calls Try.prog 51 #[v, u] w fun e w' => e = .returned (.bool false) ∧ Below w.heap.size w w' := by
  have Q := hide (fun w' (hb : Below w.heap.size w w') => made_yes v w' (h.below hb))
  have Q2 := hide (fun w' (hb : Below w.heap.size w w') => made_no u w' (h2.below hb))
  clear h h2
  go_enter Try.func51, Try.ntmps51
  go_wp2
  go_quiet ((go_at_call 84; first | (with_reducible exact Calls.quiet_of_same ((Q.out _ (below_drewN (Below.refl _ _) _)).mono fun _ _ ⟨a, b⟩ => ⟨a, b.symm⟩)) | (with_reducible exact Calls.quiet_of_same ((Q2.out _ (below_drewN (Below.refl _ _) _)).mono fun _ _ ⟨a, b⟩ => ⟨a, b.symm⟩))))
  go_wp2
  go_ret
  exact ⟨rfl, below_drewN (Below.refl _ _) _⟩
theorem all_no (A : Option Addr) (w : World) : Calls Try.prog 52 #[.pointer A] w fun e w' => e = .returned (.func (.func 98) #[] #[.pointer (some ⟨w.heap.size, 0, none⟩)]) ∧ w' = w.alloc (.cells #[.pointer A] 57) := by
  go_enter Try.func52, Try.ntmps52
  go_wp2
  go_ret
  exact ⟨rfl, rfl⟩
set_option maxRecDepth 100000 in
theorem newx_no (i j : Int) (A : Option Addr) (n c : Nat) (w : World) : Calls Try.prog 40 #[.nilIface, .int .i64 i, .int .i64 j, .slice A n c] w fun e w' => e = .returned (.tuple #[.pointer none, .int .i64 1]) ∧ Below w.heap.size w w' := by
  go_enter Try.func40, Try.ntmps40
  go_wp2
  go_ret2
  exact ⟨rfl, (((Below.refl _ w).alloc (Nat.le_refl _) _).alloc (by simp) _).alloc (by simp; omega) _⟩
set_option maxRecDepth 100000 in
theorem identity_no (i : Int) (w : World) : Calls Try.prog 41 #[.nilIface, .int .i64 i] w fun e w' => e = .returned (.tuple #[.pointer none, .int .i64 1]) ∧ Below w.heap.size w w' := by
  go_enter Try.func41, Try.ntmps41
  go_wp2
  go_ret2
  exact ⟨rfl, (Below.refl _ w).alloc (Nat.le_refl _) _⟩
end Go.Proofs.Ytoaaplngdomdcaa
