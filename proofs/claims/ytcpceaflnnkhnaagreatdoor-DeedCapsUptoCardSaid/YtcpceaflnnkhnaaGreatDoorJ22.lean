/- Joined texts: ShaP. -/
import Derived.Test.YtcpceaflnnkhnaaGreatDoorJ21

/- The eight sums, the first k of them. -/
namespace Go.Proofs.YtcpceaflnnkhnaaGreatDoor
open Go.RowKit

def H8.at (s : H8) : Nat → UInt32
  | 0 => s.a | 1 => s.b | 2 => s.c | 3 => s.d | 4 => s.e | 5 => s.f | 6 => s.g | _ => s.h
/-- The sums, the first k of them. -/
def partH (s t : H8) (k : Nat) : Array Value := ((List.range 8).map (fun i => Value.int .u32 ((if i < k then ad (s.at i) (t.at i) else s.at i).toNat : Int))).toArray
theorem part_zero (s t : H8) : partH s t 0 = s.cells := by
  simp [partH, H8.cells, List.range_succ, H8.at]
theorem part_full (s t : H8) : partH s t 8 = H8.cells ⟨ad s.a t.a, ad s.b t.b, ad s.c t.c, ad s.d t.d, ad s.e t.e, ad s.f t.f, ad s.g t.g, ad s.h t.h⟩ := by
  simp [partH, H8.cells, List.range_succ, H8.at]
theorem part_size (s t : H8) (k : Nat) : (partH s t k).size = 8 := by simp [partH]
theorem partH_get (s t : H8) {k : Nat} (h : k < 8) : (partH s t k)[k]? = some (.int .u32 ((s.at k).toNat : Int)) := by
  simp [partH, h]
theorem cells_get (s : H8) {k : Nat} (h : k < 8) : s.cells[k]? = some (.int .u32 ((s.at k).toNat : Int)) := by
  rw [← part_zero s s]; simp [partH, h]
theorem part_set (s t : H8) {k : Nat} (h : k < 8) : (partH s t k).setIfInBounds k (.int .u32 ((ad (s.at k) (t.at k)).toNat : Int)) = partH s t (k + 1) := by
  apply Array.ext
  · simp [partH]
  · intro i h1 h2
    have h3 : i < 8 := by simpa [partH] using h2
    rw [Array.getElem_setIfInBounds (by simpa [partH] using h3)]
    by_cases hk : k = i
    · subst hk
      simp [partH]
    · rw [if_neg hk]
      simp only [partH, List.getElem_toArray, List.getElem_map, List.getElem_range]
      have : i < k + 1 ↔ i < k := by omega
      simp [this]
end Go.Proofs.YtcpceaflnnkhnaaGreatDoor
