/- A Ueb that came in, as the walks are told of it. -/
import Derived.Test.YteaagngikiaokaaDoorRdS
import Derived.Test.YteaagngikiaokaaDoorOpen
import Derived.OpenShut
import Derived.ChangeShapes
import Derived.WideShapes
namespace Go.Proofs.YteaagngikiaokaaDoor
open Go.RowKit Go.ChangeShapes Go.WideShapes

set_option maxRecDepth 10000
section
variable {H : Type} {enc : TypeId × Value → H} {w : World} {base : Nat} {spare : Nat → Bool} {held : Bool}
theorem digest_of {cs : List Value} {fuel : Nat} {x : DataW H × List MemPlace} (h : DataW.trod enc Tryd.prog w base spare held fuel 42 cs = some x) : ∃ l : List UInt8, cs = bcells l ∧ l.length = 32 := by
  obtain ⟨xs, m, rfl, hx, hl, hxl, hf⟩ := DataW.trod_array Tryd.underlying42 h
  rw [show Tryd.prog.cellsOf 42 = 32 by kernel_rfl] at hl
  have hc1 : Tryd.prog.cellsOf 5 = 1 := by kernel_rfl
  have key : ∀ i, i < 32 → ∃ b : UInt8, cs[i]? = some (.int .u8 (b.toNat : Int)) := by
    intro i hi
    have h1 := hf i hi
    rw [hc1, Nat.mul_one, List.getElem?_eq_getElem (show i < xs.length by omega)] at h1
    obtain ⟨n, h2, _, h3⟩ := DataW.trod_int Tryd.underlying5 h1
    have h4 : cs[i]? = some (.int .u8 n) := by
      have := congrArg (·[0]?) h2
      simpa using this
    have h5 : 0 ≤ n ∧ n < 256 := by
      have h6 : 0 ≤ n ∧ n ≤ 255 := by simpa [Lit.wf, IntKind.min, IntKind.max, IntKind.signed, IntKind.bits] using h3
      omega
    refine ⟨UInt8.ofNat n.toNat, ?_⟩
    have h7 : ((UInt8.ofNat n.toNat).toNat : Int) = n := by
      rw [UInt8.toNat_ofNat']
      omega
    rw [h4, h7]
  refine ⟨cs.map fun v => match v with | .int _ n => UInt8.ofNat n.toNat | _ => 0, ?_, by simp [hl]⟩
  refine List.ext_getElem? fun i => ?_
  by_cases hi : i < 32
  · obtain ⟨b, hb⟩ := key i hi
    rw [bcells_get, List.getElem?_map, hb]
    simp
  · rw [List.getElem?_eq_none (by omega), List.getElem?_eq_none (by simp [hl]; omega)]
theorem cut_list {α : Type} (l : List α) (i j : Nat) : l.drop i = (l.drop i).take j ++ l.drop (i + j) := by
  rw [← List.drop_drop, List.take_append_drop]
theorem ueb_of {cs : List Value} {fuel : Nat} {x : DataW H × List MemPlace} (h : DataW.trod enc Tryd.prog w base spare held fuel 44 cs = some x) : ∃ u : US, cs.toArray = u.cells ∧ u.wf ∧ u.in64 := by
  obtain ⟨xs, m, rfl, hx, hl, hxl, hf⟩ := DataW.trod_struct Tryd.underlying44 h
  rw [show Tryd.prog.cellsOf 44 = 68 by kernel_rfl] at hl
  have c1 : Tryd.prog.cellsOf 3 = 1 := by kernel_rfl
  have c2 : Tryd.prog.cellsOf 42 = 32 := by kernel_rfl
  have hx6 : xs.length = 6 := hxl
  have get : ∀ i, i < 6 → ∃ y, xs[i]? = some y := fun i hi => ⟨_, List.getElem?_eq_getElem (by omega)⟩
  obtain ⟨y0, g0⟩ := get 0 (by omega)
  obtain ⟨y1, g1⟩ := get 1 (by omega)
  obtain ⟨y2, g2⟩ := get 2 (by omega)
  obtain ⟨y3, g3⟩ := get 3 (by omega)
  obtain ⟨y4, g4⟩ := get 4 (by omega)
  obtain ⟨y5, g5⟩ := get 5 (by omega)
  have f0 : DataW.trod enc Tryd.prog w base spare held m 3 ((cs.drop 0).take (Tryd.prog.cellsOf 3)) = some y0 := (hf 0 _ rfl).trans g0
  have f1 : DataW.trod enc Tryd.prog w base spare held m 3 ((cs.drop 1).take (Tryd.prog.cellsOf 3)) = some y1 := (hf 1 _ rfl).trans g1
  have f2 : DataW.trod enc Tryd.prog w base spare held m 3 ((cs.drop 2).take (Tryd.prog.cellsOf 3)) = some y2 := (hf 2 _ rfl).trans g2
  have f3 : DataW.trod enc Tryd.prog w base spare held m 3 ((cs.drop 3).take (Tryd.prog.cellsOf 3)) = some y3 := (hf 3 _ rfl).trans g3
  have f4 : DataW.trod enc Tryd.prog w base spare held m 42 ((cs.drop 4).take (Tryd.prog.cellsOf 42)) = some y4 := (hf 4 _ rfl).trans g4
  have f5 : DataW.trod enc Tryd.prog w base spare held m 42 ((cs.drop 36).take (Tryd.prog.cellsOf 42)) = some y5 := (hf 5 _ rfl).trans g5
  rw [c1] at f0 f1 f2 f3
  rw [c2] at f4 f5
  obtain ⟨k, e0, _, w0⟩ := DataW.trod_int Tryd.underlying3 f0
  obtain ⟨n, e1, _, w1⟩ := DataW.trod_int Tryd.underlying3 f1
  obtain ⟨seg, e2, _, w2⟩ := DataW.trod_int Tryd.underlying3 f2
  obtain ⟨size, e3, _, w3⟩ := DataW.trod_int Tryd.underlying3 f3
  obtain ⟨sh, e4, l4⟩ := digest_of f4
  obtain ⟨sg, e5, l5⟩ := digest_of f5
  refine ⟨⟨k, n, seg, size, sh, sg⟩, ?_, ⟨l4, l5⟩, wf64 w0, wf64 w1, wf64 w2, wf64 w3⟩
  have hcs : cs = .int .i64 k :: .int .i64 n :: .int .i64 seg :: .int .i64 size :: (bcells sh ++ bcells sg) := by
    have a0 := cut_list cs 0 1
    have a1 := cut_list cs 1 1
    have a2 := cut_list cs 2 1
    have a3 := cut_list cs 3 1
    have a4 := cut_list cs 4 32
    have a5 := cut_list cs 36 32
    rw [e0] at a0
    rw [e1] at a1
    rw [e2] at a2
    rw [e3] at a3
    rw [e4] at a4
    rw [e5, show 36 + 32 = 68 from rfl, List.drop_eq_nil_of_le (show cs.length ≤ 68 by omega), List.append_nil] at a5
    rw [show 4 + 32 = 36 from rfl, a5] at a4
    rw [show 3 + 1 = 4 from rfl, a4] at a3
    rw [show 2 + 1 = 3 from rfl, a3] at a2
    rw [show 1 + 1 = 2 from rfl, a2] at a1
    rw [show 0 + 1 = 1 from rfl, a1] at a0
    rw [List.drop_zero] at a0
    exact a0
  rw [hcs]
  rfl
theorem open_ueb {v : Value} {d : DataW H} {p : List MemPlace} {r : Reach} {b0 : Nat} {P' : World} (hv : Value.okWide Tryd.prog P' r b0 44 v) (h : DataW.Trod enc Tryd.prog w base spare held 44 v d p) : ∃ u : US, v = .agg u.cells ∧ u.wf ∧ u.in64 := by
  obtain ⟨cs, rfl, _⟩ := okWide_struct Tryd.underlying44 hv
  obtain ⟨fuel, hf⟩ := h
  obtain ⟨u, h1, h2⟩ := ueb_of hf
  exact ⟨u, by rw [← h1]; exact congrArg Value.agg (Array.toArray_toList).symm, h2⟩
end
end Go.Proofs.YteaagngikiaokaaDoor
