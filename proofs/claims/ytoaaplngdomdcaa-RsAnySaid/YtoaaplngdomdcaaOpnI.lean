/- Slices of numbers that came in. -/
import Derived.Test.YtoaaplngdomdcaaOpen
import Derived.Test.YtoaaplngdomdcaaNls
namespace Go.Proofs.Ytoaaplngdomdcaa
open Go.RowKit

/-- A slice of numbers of kind k that reads as zs. -/
def Iy (k : IntKind) (w : World) (v : Value) (zs : List Int) : Prop := ∃ A c, v = .slice A zs.length c ∧ zs.length ≤ c ∧ c ≤ maxLen ∧ (∀ z ∈ zs, (Lit.int k z).wf = true) ∧
  ∀ (i : Nat) (z : Int), zs[i]? = some z → ∃ b o, A = some ⟨b, o, none⟩ ∧ b < w.heap.size ∧ w.cell? ⟨b, o + i, none⟩ = some (.int k z)
theorem Iy.nil (k : IntKind) (w : World) : Iy k w (.slice none 0 0) [] := ⟨none, 0, rfl, Nat.le_refl _, (by simp [maxLen]), (fun z h => nomatch h), (fun i z h => by simp at h)⟩
theorem Iy.below {k : IntKind} {w w' : World} {v : Value} {zs : List Int} (h : Iy k w v zs) (hb : Below w.heap.size w w') : Iy k w' v zs := by
  obtain ⟨A, c, hv, h1, h2, h3, h4⟩ := h
  refine ⟨A, c, hv, h1, h2, h3, fun i z hz => ?_⟩
  obtain ⟨b, o, e1, e2, e3⟩ := h4 i z hz
  have := hb.size
  exact ⟨b, o, e1, by omega, (hb.cell (p := ⟨b, o + i, none⟩) e2).trans e3⟩
theorem iy_of_row {k : IntKind} {w : World} {a : Addr} {len cap : Nat} {zs : List Int} (hl : len ≤ cap) (hm : cap ≤ maxLen) (hz : zs.length = cap)
    (hcell : ∀ i, i < zs.length → w.cell? (a.add i) = some (.int k (zs.getD i 0))) (hwz : ∀ n ∈ zs, (Lit.int k n).wf = true) : ∃ l : List Int, l.length = len ∧ Iy k w (.slice (some a) len cap) l := by
  have hlen : (zs.take len).length = len := by simp; omega
  refine ⟨zs.take len, hlen, some a, cap, by rw [hlen], by omega, hm, fun z hz => hwz z (List.mem_of_mem_take hz), fun i z hi => ?_⟩
  have hil : i < len := by
    have := (List.getElem?_eq_some_iff.1 hi).1
    omega
  obtain ⟨b, o, sp⟩ := a
  have h1 := hcell 0 (by omega)
  have hsp : sp = none := by simpa [Addr.add] using World.cell?_spot h1
  subst hsp
  refine ⟨b, o, rfl, cell_lt (a := ⟨b, o, none⟩) (by simpa [Addr.add] using h1), ?_⟩
  have hc := hcell i (by omega)
  rw [Addr.add_mid] at hc
  rw [List.getElem?_take_of_lt hil] at hi
  rw [hc, List.getD_eq_getElem?_getD, hi]
  rfl
/-- Words that came in, as numbers. -/
theorem Iy.words {w : World} {v : Value} {zs : List Int} (h : Iy .u32 w v zs) : ∃ l : List Nat, l.length = zs.length ∧ (∀ (i x : Nat), l[i]? = some x → (x : Int) ≤ 4294967295) ∧ Ny w .u32 v l := by
  obtain ⟨A, c, rfl, h1, h2, h3, h4⟩ := h
  have hb : ∀ (i : Nat) (z : Int), zs[i]? = some z → 0 ≤ z ∧ z ≤ 4294967295 := fun i z hz => by
    have := h3 z (List.mem_of_getElem? hz)
    simpa [Lit.wf, IntKind.min, IntKind.max, IntKind.bits, IntKind.signed] using this
  refine ⟨zs.map Int.toNat, by simp, fun i x hx => ?_, by simp [ncells], A, c, by simp, by simpa using h1, h2, fun h0 => ?_⟩
  · rw [List.getElem?_map] at hx
    obtain ⟨z, hz, e⟩ := Option.map_eq_some_iff.1 hx
    have := hb i z hz
    omega
  · simp only [List.length_map] at h0 ⊢
    obtain ⟨b, o, e1, e2, _⟩ := h4 0 _ (List.getElem?_eq_getElem h0)
    refine ⟨b, o, e1, e2, fun j hj => ?_⟩
    rw [Nat.mul_one] at hj
    obtain ⟨b', o', e1', _, e3⟩ := h4 j _ (List.getElem?_eq_getElem hj)
    rw [e1] at e1'
    injection e1' with e1'
    injection e1' with q1 q2 _
    have := hb j _ (List.getElem?_eq_getElem hj)
    rw [q1, q2, e3, ncells_get, List.getElem?_map, List.getElem?_eq_getElem hj]
    simp only [Option.map_some, Option.some.injEq, Value.int.injEq, true_and]
    omega
end Go.Proofs.Ytoaaplngdomdcaa
