/- Joined texts: OpnD. -/
import Derived.Test.YtcpceaflnnkhnaaGreatDoorJ15

/- A capability that came in, as the walks are told of it, with a bound on its bytes. -/
namespace Go.Proofs.YtcpceaflnnkhnaaGreatDoor
open Go.RowKit Go.ChangeShapes Go.WideShapes

set_option maxRecDepth 10000
section
variable {H : Type} {enc : TypeId × Value → H} {w : World} {base : Nat} {spare : Nat → Bool} {held : Bool}
theorem cap_bulk {cs : List Value} {fuel : Nat} {x : DataW H × List MemPlace} (h : DataW.trod enc Tryz.prog w base (fun _ => true) held fuel 34 cs = some x) {c : CP} {v : Value} (hy : Capy w cs.toArray c v) : c.lit.length + 1 ≤ Rows.uptoBulk x.1 := by
  obtain ⟨xs, m, rfl, hx, hl, hxl, hf⟩ := DataW.trod_struct Tryz.underlying34 h
  have c4 : Tryz.prog.cellsOf 32 = 1 := by kernel_rfl
  have hx5 : xs.length = 5 := hxl
  obtain ⟨y4, g4⟩ : ∃ y, xs[4]? = some y := ⟨_, List.getElem?_eq_getElem (by omega)⟩
  have f4 : DataW.trod enc Tryz.prog w base (fun _ => true) held m 32 ((cs.drop 106).take (Tryz.prog.cellsOf 32)) = some y4 := (hf 4 _ rfl).trans g4
  have h106 : (cs.drop 106).take 1 = [v] := by
    have h1 := hy.lit
    rw [List.getElem?_toArray] at h1
    obtain ⟨h2, h3⟩ := List.getElem?_eq_some_iff.1 h1
    rw [List.drop_eq_getElem_cons h2, h3]
    rfl
  rw [c4, h106] at f4
  have hb : Rows.uptoBulk y4.1 ≤ Rows.uptoBulk (DataW.agg (xs.map (·.1))) := by
    have h1 : y4.1 ∈ xs.map (·.1) := List.mem_map.2 ⟨y4, List.mem_iff_getElem?.2 ⟨4, g4⟩, rfl⟩
    have h2 := bulks.in_all h1
    simp only [Rows.uptoBulk]
    omega
  subst hx
  refine Nat.le_trans ?_ hb
  obtain ⟨A, k, hv, -, -, -⟩ := hy.by_.form
  rw [hv] at f4
  rcases open_ints Tryz.underlying32 Tryz.underlying5 (by kernel_rfl) f4 with ⟨hcs, _⟩ | ⟨z, l, k2, zs, hcs, _, hl2, hm2, hz, hx2, hcell, hwz⟩
  · simp at hcs
    have := bulks.one_le y4.1
    rw [hcs.2.1]
    simpa using this
  · simp at hcs
    rw [hx2]
    have h2 := bulks.slice_le (lits (H := H) .u8 (zs.take l)) (lits .u8 (zs.drop l))
    simp only [lits, List.length_map, List.length_take, List.length_drop] at h2 ⊢
    have hz2 : zs.length = k2 := by simpa using hz
    have : c.lit.length = l := hcs.2.1
    omega
theorem open_capB {v : Value} {d : DataW H} {p : List MemPlace} {r : Reach} {b0 : Nat} {P' : World} (hv : Value.okWide Tryz.prog P' r b0 34 v) (h : DataW.Trod enc Tryz.prog w base (fun _ => true) held 34 v d p) : ∃ (cs : Array Value) (c : CP) (u : Value), v = .agg cs ∧ Capy w cs c u ∧ c.lit.length + 1 ≤ Rows.uptoBulk d := by
  obtain ⟨cs, rfl, _⟩ := okWide_struct Tryz.underlying34 hv
  obtain ⟨fuel, hf⟩ := h
  obtain ⟨c, u, h1⟩ := cap_of hf
  have h2 := cap_bulk hf h1
  exact ⟨cs, c, u, rfl, by rw [Array.toArray_toList] at h1; exact h1, h2⟩
end
end Go.Proofs.YtcpceaflnnkhnaaGreatDoor
