/- Contracts of the matrices of words over a Mod: Identity. -/
import Derived.Test.YtoaaplngdomdcaaMwF
import Derived.Test.YtoaaplngdomdcaaMatE
import Derived.Shelf.Abstract
namespace Go.Proofs.Ytoaaplngdomdcaa
open Go.RowKit

/-- A Mod, as matrices hold it. -/
abbrev modF (g : Nat) : Value := .iface 24 (.pointer (some ⟨g, 0, none⟩))
theorem methw_one (n : Nat) (A : Option Addr) (w : World) : (method (n + 1) 24 (.pointer A) "One").run Try.prog w = .ok (15, .pointer A) w := by kernel_rfl
theorem methw_zero (n : Nat) (A : Option Addr) (w : World) : (method (n + 1) 24 (.pointer A) "Zero").run Try.prog w = .ok (14, .pointer A) w := by kernel_rfl
theorem methw_add (n : Nat) (A : Option Addr) (w : World) : (method (n + 1) 24 (.pointer A) "Add").run Try.prog w = .ok (18, .pointer A) w := by kernel_rfl
theorem methw_sub (n : Nat) (A : Option Addr) (w : World) : (method (n + 1) 24 (.pointer A) "Sub").run Try.prog w = .ok (20, .pointer A) w := by kernel_rfl
theorem methw_mul (n : Nat) (A : Option Addr) (w : World) : (method (n + 1) 24 (.pointer A) "Mul").run Try.prog w = .ok (22, .pointer A) w := by kernel_rfl
theorem methw_inv (n : Nat) (A : Option Addr) (w : World) : (method (n + 1) 24 (.pointer A) "Inverse").run Try.prog w = .ok (16, .pointer A) w := by kernel_rfl
def ahead? (nm : String) : Prop := ∀ (n : Nat) (A : Option Addr) (w : World), (nilAhead (n + 1) 24 (.pointer A) nm).run Try.prog w = .ok (some false) w
theorem aheadw_add : ahead? "Add" := fun n A w => by kernel_rfl
theorem aheadw_one : ahead? "One" := fun n A w => by kernel_rfl

/-- The identity's elements. -/
def idE (i j : Nat) : Nat := if i = j then 1 else 0

set_option maxRecDepth 100000 in
set_option maxHeartbeats 1600000 in
theorem identc_any (i j g p b : Nat) (w : World) (hi : i ≤ 256) (hj : j ≤ 256) (hm : MP w (.pointer (some ⟨g, 0, none⟩)) p) (hp : 1 < p) (hp2 : p ≤ 2147483648) (c1 : w.cell? ⟨b, 0, none⟩ = some (modF g)) :
    Calls Try.prog 83 #[.int .i64 (i : Int), .int .i64 (j : Int), .pointer (some ⟨b, 0, none⟩)] w fun e w' => e = .returned (.int .u32 ((idE i j : Nat) : Int)) ∧ Below w.heap.size w w' := by
  have m1 := methw_one
  have m2 := methw_zero
  have Q1 := hide (mone_any (.pointer (some ⟨g, 0, none⟩)) p w hm hp hp2)
  have Q2 := hide (mzero_any (.pointer (some ⟨g, 0, none⟩)) w)
  clear hm
  unfold idE
  by_cases h : i = j
  · subst h
    rw [if_pos rfl]
    go_enter Try.func83, Try.ntmps83
    go_wp2_with fail
    refine Q1.out.mono ?_
    rintro e w' ⟨rfl, rfl⟩
    go_wp2
    go_ret
    exact ⟨rfl, Below.refl _ _⟩
  · rw [if_neg h]
    have i1 : ¬ (i : Int) = (j : Int) := by omega
    clear h
    go_enter Try.func83, Try.ntmps83
    go_wp2_with fail
    refine Q2.out.mono ?_
    rintro e w' ⟨rfl, rfl⟩
    go_wp2
    go_ret
    exact ⟨rfl, Below.refl _ _⟩

theorem dimsw_any (r c : Nat) (w : World) (hr : 1 ≤ r ∧ r ≤ 256) (hc : 1 ≤ c ∧ c ≤ 256) :
    Calls Try.prog 80 #[.int .i64 (r : Int), .int .i64 (c : Int)] w fun e w' => e = .returned (.bool true) ∧ w = w' := by
  have i1 : (r : Int) ≥ 1 := by omega
  have i2 : (r : Int) ≤ 256 := by omega
  have i3 : (c : Int) ≥ 1 := by omega
  have i4 : (c : Int) ≤ 256 := by omega
  go_enter Try.func80, Try.ntmps80
  go_wp2
  go_ret
  exact ⟨rfl, rfl⟩

set_option maxRecDepth 100000 in
set_option maxHeartbeats 1600000 in
theorem identw_any (n g p : Nat) (w : World) (hn : 1 ≤ n ∧ n ≤ 256) (hm : MP w (.pointer (some ⟨g, 0, none⟩)) p) (hp : 1 < p) (hp2 : p ≤ 2147483648) :
    Calls Try.prog 41 #[modF g, .int .i64 (n : Int)] w fun e w' =>
      ∃ x base, e = .returned (.tuple #[.pointer (some ⟨x, 0, none⟩), .int .i64 0]) ∧ w.heap.size ≤ base ∧ Mw (modF g) w' base x (rowsN n idE n) ∧ Below w.heap.size w w' := by
  have q1 := fun w => dimsw_any n n w hn hn
  have HM := hide hm
  have HN := hide hn
  clear hm hn
  go_enter Try.func41, Try.ntmps41
  go_wp2_with fail
  refine (q1 _).mono ?_
  rintro e w' ⟨rfl, rfl⟩
  go_wp2_with fail
  have n1 := Blk.new w 79 #[modF g]
  have n4 := (Below.refl w.heap.size w).alloc (Nat.le_refl _) (.cells #[modF g] 79)
  generalize w.alloc (.cells #[modF g] 79) = W at *
  refine (laidw_any 24 (.pointer (some ⟨g, 0, none⟩)) n n 83 #[.pointer (some ⟨w.heap.size, 0, none⟩)] idE W HN.out.2 HN.out.2
    (enters_of Try.func83 (by kernel_rfl) rfl) ?_).mono ?_
  · intro i j w' hi hj hb
    have hn := HN.out
    refine identc_any i j g p w.heap.size w' (by omega) (by omega) ((HM.out.below n4).below hb) hp hp2 ?_
    rw [(n1.below' hb).cell]; rfl
  · rintro e w' ⟨x, rfl, hmx, hb⟩
    have H4 := hide (And.intro n4 (And.intro hmx hb))
    clear n1 n4 hmx hb q1
    go_wp2
    go_ret2
    exact ⟨x, W.heap.size, rfl, H4.out.1.size, H4.out.2.1, H4.out.1.trans (H4.out.2.2.mono H4.out.1.size)⟩
end Go.Proofs.Ytoaaplngdomdcaa
