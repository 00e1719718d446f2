/- An Act that came in, as the walk of MatrixNone is told of it. (Printed by wip/opna.py.) -/
import Derived.Test.YtoaaplngdomdcaaRows
import Derived.Test.YtoaaplngdomdcaaOpen
import Derived.OpenShut
import Derived.ChangeShapes
import Derived.WideShapes
namespace Go.Proofs.Ytoaaplngdomdcaa
open Go.RowKit Go.ChangeShapes Go.WideShapes

theorem cut_list1 {α : Type} (l : List α) (i : Nat) : l.drop i = (l.drop i).take 1 ++ l.drop (i + 1) := by
  rw [← List.drop_drop, List.take_append_drop]
set_option maxRecDepth 10000
section
variable {H : Type} {enc : TypeId × Value → H} {w : World} {base : Nat} {spare : Nat → Bool} {held : Bool}
theorem words_cell {cs : List Value} {fuel : Nat} {x : DataW H × List MemPlace} (h : DataW.trod enc Try.prog w base spare held fuel 53 cs = some x) : ∃ A n c, cs = [.slice A n c] := by
  rcases open_ints Try.underlying53 Try.underlying22 (by kernel_rfl) h with ⟨g1, _⟩ | ⟨y, yl, yc, zs, g1, _⟩
  · exact ⟨_, _, _, g1⟩
  · exact ⟨_, _, _, g1⟩
theorem ints_cell {cs : List Value} {fuel : Nat} {x : DataW H × List MemPlace} (h : DataW.trod enc Try.prog w base spare held fuel 68 cs = some x) : ∃ A n c, cs = [.slice A n c] := by
  rcases open_ints Try.underlying68 Try.underlying3 (by kernel_rfl) h with ⟨g1, _⟩ | ⟨y, yl, yc, zs, g1, _⟩
  · exact ⟨_, _, _, g1⟩
  · exact ⟨_, _, _, g1⟩
theorem act_of {cs : List Value} {fuel : Nat} {x : DataW H × List MemPlace} (h : DataW.trod enc Try.prog w base spare held fuel 70 cs = some x) :
    ∃ (k i j p r c : Int) (A : Option Addr) (n1 c1 : Nat) (B : Option Addr) (n2 c2 : Nat), cs = [.int .i64 k, .int .i64 i, .int .i64 j, .int .i64 p, .int .i64 r, .int .i64 c, .slice A n1 c1, .slice B n2 c2] := by
  obtain ⟨xs, m, rfl, hx, hl, hxl, hf⟩ := DataW.trod_struct Try.underlying70 h
  rw [show Try.prog.cellsOf 70 = 8 by kernel_rfl] at hl
  have c1 : Try.prog.cellsOf 3 = 1 := by kernel_rfl
  have c2 : Try.prog.cellsOf 53 = 1 := by kernel_rfl
  have c3 : Try.prog.cellsOf 68 = 1 := by kernel_rfl
  have hx8 : xs.length = 8 := hxl
  have get : ∀ i, i < 8 → ∃ y, xs[i]? = some y := fun i hi => ⟨_, List.getElem?_eq_getElem (by omega)⟩
  obtain ⟨y0, g0⟩ := get 0 (by omega)
  have f0 : DataW.trod enc Try.prog w base spare held m 3 ((cs.drop 0).take (Try.prog.cellsOf 3)) = some y0 := (hf 0 _ rfl).trans g0
  obtain ⟨y1, g1⟩ := get 1 (by omega)
  have f1 : DataW.trod enc Try.prog w base spare held m 3 ((cs.drop 1).take (Try.prog.cellsOf 3)) = some y1 := (hf 1 _ rfl).trans g1
  obtain ⟨y2, g2⟩ := get 2 (by omega)
  have f2 : DataW.trod enc Try.prog w base spare held m 3 ((cs.drop 2).take (Try.prog.cellsOf 3)) = some y2 := (hf 2 _ rfl).trans g2
  obtain ⟨y3, g3⟩ := get 3 (by omega)
  have f3 : DataW.trod enc Try.prog w base spare held m 3 ((cs.drop 3).take (Try.prog.cellsOf 3)) = some y3 := (hf 3 _ rfl).trans g3
  obtain ⟨y4, g4⟩ := get 4 (by omega)
  have f4 : DataW.trod enc Try.prog w base spare held m 3 ((cs.drop 4).take (Try.prog.cellsOf 3)) = some y4 := (hf 4 _ rfl).trans g4
  obtain ⟨y5, g5⟩ := get 5 (by omega)
  have f5 : DataW.trod enc Try.prog w base spare held m 3 ((cs.drop 5).take (Try.prog.cellsOf 3)) = some y5 := (hf 5 _ rfl).trans g5
  obtain ⟨y6, g6⟩ := get 6 (by omega)
  have f6 : DataW.trod enc Try.prog w base spare held m 53 ((cs.drop 6).take (Try.prog.cellsOf 53)) = some y6 := (hf 6 _ rfl).trans g6
  obtain ⟨y7, g7⟩ := get 7 (by omega)
  have f7 : DataW.trod enc Try.prog w base spare held m 68 ((cs.drop 7).take (Try.prog.cellsOf 68)) = some y7 := (hf 7 _ rfl).trans g7
  rw [c1] at f0 f1 f2 f3 f4 f5
  rw [c2] at f6
  rw [c3] at f7
  obtain ⟨z0, e0, _, w0⟩ := DataW.trod_int Try.underlying3 f0
  obtain ⟨z1, e1, _, w1⟩ := DataW.trod_int Try.underlying3 f1
  obtain ⟨z2, e2, _, w2⟩ := DataW.trod_int Try.underlying3 f2
  obtain ⟨z3, e3, _, w3⟩ := DataW.trod_int Try.underlying3 f3
  obtain ⟨z4, e4, _, w4⟩ := DataW.trod_int Try.underlying3 f4
  obtain ⟨z5, e5, _, w5⟩ := DataW.trod_int Try.underlying3 f5
  obtain ⟨A, n1, cc1, e6⟩ := words_cell f6
  obtain ⟨B, n2, cc2, e7⟩ := ints_cell f7
  refine ⟨z0, z1, z2, z3, z4, z5, A, n1, cc1, B, n2, cc2, ?_⟩
  have a0 := cut_list1 cs 0
  rw [e0] at a0
  have a1 := cut_list1 cs 1
  rw [e1] at a1
  have a2 := cut_list1 cs 2
  rw [e2] at a2
  have a3 := cut_list1 cs 3
  rw [e3] at a3
  have a4 := cut_list1 cs 4
  rw [e4] at a4
  have a5 := cut_list1 cs 5
  rw [e5] at a5
  have a6 := cut_list1 cs 6
  rw [e6] at a6
  have a7 := cut_list1 cs 7
  rw [e7] at a7
  rw [show 7 + 1 = 8 from rfl, List.drop_eq_nil_of_le (show cs.length ≤ 8 by omega), List.append_nil] at a7
  rw [show 6 + 1 = 7 from rfl, a7] at a6
  rw [show 5 + 1 = 6 from rfl, a6] at a5
  rw [show 4 + 1 = 5 from rfl, a5] at a4
  rw [show 3 + 1 = 4 from rfl, a4] at a3
  rw [show 2 + 1 = 3 from rfl, a3] at a2
  rw [show 1 + 1 = 2 from rfl, a2] at a1
  rw [show 0 + 1 = 1 from rfl, a1] at a0
  rw [List.drop_zero] at a0
  exact a0
theorem open_act {v : Value} {d : DataW H} {p : List MemPlace} {r : Reach} {b0 : Nat} {P' : World} (hv : Value.okWide Try.prog P' r b0 70 v) (h : DataW.Trod enc Try.prog w base spare held 70 v d p) :
    ∃ (k i j p r c : Int) (A : Option Addr) (n1 c1 : Nat) (B : Option Addr) (n2 c2 : Nat), v = .agg #[.int .i64 k, .int .i64 i, .int .i64 j, .int .i64 p, .int .i64 r, .int .i64 c, .slice A n1 c1, .slice B n2 c2] := by
  obtain ⟨cs, rfl, _⟩ := okWide_struct Try.underlying70 hv
  obtain ⟨fuel, hf⟩ := h
  obtain ⟨k, i, j, p, r, c, A, n1, c1, B, n2, c2, h1⟩ := act_of hf
  refine ⟨k, i, j, p, r, c, A, n1, c1, B, n2, c2, ?_⟩
  have h2 : cs.toList.toArray = cs := Array.toArray_toList
  rw [← h2]
  exact congrArg (fun l => Value.agg l.toArray) h1
end
end Go.Proofs.Ytoaaplngdomdcaa
