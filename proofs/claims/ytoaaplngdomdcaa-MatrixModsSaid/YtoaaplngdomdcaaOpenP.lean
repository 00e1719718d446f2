/- A slice of pairs of words that came in, as the walks are told of it. -/
import Derived.Test.YtoaaplngdomdcaaWalkMods
import Derived.Test.YtoaaplngdomdcaaOpen
import Derived.Deep.SlicePairs
namespace Go.Proofs.Ytoaaplngdomdcaa
open Go.RowKit

theorem u32_nat {z : Int} (h : (Lit.int .u32 z).wf = true) : ∃ n : Nat, z = (n : Int) ∧ (n : Int) ≤ 4294967295 := by
  have h : 0 ≤ z ∧ z ≤ 4294967295 := by simpa [Lit.wf, IntKind.min, IntKind.max, IntKind.bits, IntKind.signed] using h
  exact ⟨z.toNat, by omega, by omega⟩

theorem asks_of {w : World} {a : Addr} {len cap m : Nat} {V0 V1 : Nat → Value} (hl : len ≤ cap) (hm : cap ≤ maxLen) (hlm : len ≤ m)
    (hx : ∀ i, i < m → w.cell? (a.add (i * 2)) = some (V0 i) ∧ w.cell? (a.add (i * 2 + 1)) = some (V1 i) ∧
      (∃ x : Nat, V0 i = .int .u32 (x : Int) ∧ (x : Int) ≤ 4294967295) ∧ ∃ y : Nat, V1 i = .int .u32 (y : Int) ∧ (y : Int) ≤ 4294967295) :
    ∃ l : List (Nat × Nat), l.length = len ∧ Asks w (.slice (some a) len cap) l := by
  refine ⟨(List.range len).map fun i => ((intOf (V0 i)).toNat, (intOf (V1 i)).toNat), by simp, some a, cap, by simp, by simpa using hl, hm, fun k x hk => ?_⟩
  have hk2 : k < len := by
    rcases Nat.lt_or_ge k len with h | h
    · exact h
    · rw [List.getElem?_eq_none (by simpa using h)] at hk; cases hk
  rw [List.getElem?_map, List.getElem?_range hk2] at hk
  simp only [Option.map_some, Option.some.injEq] at hk
  subst hk
  obtain ⟨h0, h1, ⟨x, hx0, hx8⟩, y, hy0, hy8⟩ := hx k (by omega)
  obtain ⟨b, o, sp⟩ := a
  have hsp : sp = none := by simpa [Addr.add] using World.cell?_spot (hx 0 (by omega)).1
  subst hsp
  rw [Addr.add_mid] at h0 h1
  rw [hx0, hy0]
  rw [hx0] at h0
  rw [hy0] at h1
  refine ⟨by simpa [intOf] using hx8, by simpa [intOf] using hy8, b, o, rfl, cell_lt h0, ?_, ?_⟩
  · simpa [intOf] using h0
  · simpa [intOf, Nat.add_assoc] using h1

end Go.Proofs.Ytoaaplngdomdcaa
