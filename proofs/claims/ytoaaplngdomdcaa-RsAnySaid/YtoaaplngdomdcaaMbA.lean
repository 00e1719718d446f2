/- Matrices of bytes: made, Rows, Cols, At, dot. -/
import Derived.Test.YtoaaplngdomdcaaMbF
namespace Go.Proofs.Ytoaaplngdomdcaa.MB
open Go.RowKit
section


theorem meth_zero (n : Nat) (w : World) : (method (n + 1) 128 (.agg #[]) "Zero").run Try.prog w = .ok (186, (.agg #[])) w := by kernel_rfl
theorem meth_one (n : Nat) (w : World) : (method (n + 1) 128 (.agg #[]) "One").run Try.prog w = .ok (184, (.agg #[])) w := by kernel_rfl
theorem meth_add (n : Nat) (w : World) : (method (n + 1) 128 (.agg #[]) "Add").run Try.prog w = .ok (181, (.agg #[])) w := by kernel_rfl
theorem meth_sub (n : Nat) (w : World) : (method (n + 1) 128 (.agg #[]) "Sub").run Try.prog w = .ok (185, (.agg #[])) w := by kernel_rfl
theorem meth_mul (n : Nat) (w : World) : (method (n + 1) 128 (.agg #[]) "Mul").run Try.prog w = .ok (183, (.agg #[])) w := by kernel_rfl
theorem meth_inv (n : Nat) (w : World) : (method (n + 1) 128 (.agg #[]) "Inverse").run Try.prog w = .ok (182, (.agg #[])) w := by kernel_rfl
theorem ahead_zero (n : Nat) (w : World) : (nilAhead (n + 1) 128 (.agg #[]) "Zero").run Try.prog w = .ok (some false) w := by kernel_rfl
theorem ahead_one (n : Nat) (w : World) : (nilAhead (n + 1) 128 (.agg #[]) "One").run Try.prog w = .ok (some false) w := by kernel_rfl
theorem ahead_add (n : Nat) (w : World) : (nilAhead (n + 1) 128 (.agg #[]) "Add").run Try.prog w = .ok (some false) w := by kernel_rfl
theorem ahead_sub (n : Nat) (w : World) : (nilAhead (n + 1) 128 (.agg #[]) "Sub").run Try.prog w = .ok (some false) w := by kernel_rfl
theorem ahead_mul (n : Nat) (w : World) : (nilAhead (n + 1) 128 (.agg #[]) "Mul").run Try.prog w = .ok (some false) w := by kernel_rfl
theorem ahead_inv (n : Nat) (w : World) : (nilAhead (n + 1) 128 (.agg #[]) "Inverse").run Try.prog w = .ok (some false) w := by kernel_rfl

/-- A matrix of bytes. -/
abbrev Mtx (w : World) (g n m : Nat) (M : Nat → Nat → UInt8) : Prop := Mt 179 gfF en w g n m M
variable {w : World} {g n m : Nat} {M : Nat → Nat → UInt8}
theorem Mt.form (h : Mtx w g n m M) : ∃ A c, w.cell? ⟨g, 0, none⟩ = some gfF ∧ w.cell? ⟨g, 1, none⟩ = some (.slice A n c) ∧ n ≤ c ∧ c ≤ maxLen ∧ ∀ i, i < n → ∃ b o B d, A = some ⟨b, o, none⟩ ∧ b < w.heap.size ∧ w.cell? ⟨b, o + i, none⟩ = some (.slice B m d) ∧ m ≤ d ∧ d ≤ maxLen ∧
    ∀ j, j < m → ∃ b2 o2, B = some ⟨b2, o2, none⟩ ∧ b2 < w.heap.size ∧ w.cell? ⟨b2, o2 + j, none⟩ = some (.int .u8 ((UInt8.toNat (M i j) : Nat) : Int)) := by
  obtain ⟨v, hb, A, c, rfl, h1, h2, h3⟩ := h
  exact ⟨A, c, by rw [hb.cell]; rfl, by rw [hb.cell]; rfl, h1, h2, h3⟩

theorem made_c (h : Mtx w g n m M) : Calls Try.prog 132 #[.pointer (some ⟨g, 0, none⟩)] w fun e w' => e = .returned (.bool true) ∧ w = w' := by
  obtain ⟨A, c, h0, _⟩ := Mt.form h
  clear h
  go_enter Try.func132, Try.ntmps132
  go_wp2
  go_ret
  exact ⟨rfl, rfl⟩
theorem rows_c (h : Mtx w g n m M) : Calls Try.prog 122 #[.pointer (some ⟨g, 0, none⟩)] w fun e w' => e = .returned (.int .i64 (n : Int)) ∧ w = w' := by
  have q := made_c h
  obtain ⟨A, c, _, h1, _⟩ := Mt.form h
  clear h
  go_enter Try.func122, Try.ntmps122
  go_wp2_with fail
  refine q.mono ?_
  rintro e w' ⟨rfl, rfl⟩
  go_wp2
  go_ret
  exact ⟨rfl, rfl⟩
theorem cols_c (h : Mtx w g n m M) (hn : 0 < n) : Calls Try.prog 119 #[.pointer (some ⟨g, 0, none⟩)] w fun e w' => e = .returned (.int .i64 (m : Int)) ∧ w = w' := by
  have q := made_c h
  obtain ⟨A, c, _, h1, _, _, h2⟩ := Mt.form h
  obtain ⟨b, o, B, d, rfl, _, h3, _⟩ := h2 0 hn
  rw [Nat.add_zero] at h3
  have i0 : (0 : Int) < (n : Int) := by omega
  clear h h2
  go_enter Try.func119, Try.ntmps119
  go_wp2_with fail
  refine q.mono ?_
  rintro e w' ⟨rfl, rfl⟩
  go_wp2
  go_ret
  exact ⟨rfl, rfl⟩
set_option maxHeartbeats 800000 in
theorem at_c (h : Mtx w g n m M) {i j : Nat} (hi : i < n) (hj : j < m) : Calls Try.prog 123 #[.pointer (some ⟨g, 0, none⟩), .int .i64 (i : Int), .int .i64 (j : Int)] w fun e w' => e = .returned (.tuple #[.int .u8 ((UInt8.toNat (M i j) : Nat) : Int), .int .i64 0]) ∧ w = w' := by
  have q1 := made_c h
  have q2 := rows_c h
  have q3 := cols_c h (by omega)
  obtain ⟨A, c, _, h1, _, _, h2⟩ := Mt.form h
  obtain ⟨b, o, B, d, rfl, _, h3, _, _, h4⟩ := h2 i hi
  obtain ⟨b2, o2, rfl, _, h5⟩ := h4 j hj
  have i1 : (i : Int) < (n : Int) := by omega
  have i2 : (j : Int) < (m : Int) := by omega
  have i3 : (0 : Int) ≤ (i : Int) := by omega
  have i4 : (0 : Int) ≤ (j : Int) := by omega
  generalize M i j = x at *
  clear h h2 h4
  go_enter Try.func123, Try.ntmps123
  go_wp2_with fail
  refine q1.mono ?_
  rintro e w' ⟨rfl, rfl⟩
  go_wp2_with fail
  refine q2.mono ?_
  rintro e w' ⟨rfl, rfl⟩
  go_wp2_with fail
  refine q3.mono ?_
  rintro e w' ⟨rfl, rfl⟩
  go_wp2
  go_ret2
  exact ⟨rfl, rfl⟩
end
end Go.Proofs.Ytoaaplngdomdcaa.MB
