/- Bytes of a constant text, and of a text: a marked row of the call's own. -/
import Derived.Test.YteaagngikiaokaaDoorKit
import Derived.Test.YteaagngikiaokaaDoorLst
import Derived.Lib.SlBytesConst
import Derived.Laws.IdiomStrings
namespace Go.Proofs.YteaagngikiaokaaDoor
open Go.RowKit

theorem by_row {w : World} {g : Nat} {cs : Array Value} {e : TypeId} {f : Nat × Nat} {l : List UInt8} {c : Nat} (hh : w.heap[g]? = some (.cells cs e f)) (hc : l.length ≤ c) (hm : c ≤ maxLen)
    (hcs : ∀ j, j < l.length → cs[j]? = (bcells l)[j]?) : By w (.slice (some ⟨g, 0, none⟩) l.length c) l := by
  refine ⟨by simp, _, c, rfl, hc, hm, fun _ => ⟨g, 0, rfl, ?_, fun j hj => ?_⟩⟩
  · rcases Nat.lt_or_ge g w.heap.size with h | h
    · exact h
    · simp [Array.getElem?_eq_none h] at hh
  · rw [Nat.zero_add, cell_of_row w g j cs e f hh]
    exact hcs j (by omega)
theorem by_marked (w : World) (e : TypeId) (f : Nat × Nat) (l : List UInt8) (h : l.length ≤ 1000) : By (w.alloc (.cells (bcells l).toArray e f)) (.slice (some ⟨w.heap.size, 0, none⟩) l.length l.length) l :=
  by_row (heap_alloc_new w _) (Nat.le_refl _) (by unfold maxLen; omega) fun j hj => by simp
theorem by_ofstr (w : World) (e : TypeId) (s : ByteArray) (f : Nat × Nat) (h : s.size ≤ maxLen) : By (w.drew.alloc (.cells (bytesRow s (grownCap w s.size 0 e)) e f)) (.slice (some ⟨w.heap.size, 0, none⟩) s.size (grownCap w s.size 0 e)) (lst s) := by
  have := by_row (w := w.drew.alloc (.cells (bytesRow s (grownCap w s.size 0 e)) e f)) (g := w.heap.size) (l := lst s) (c := grownCap w s.size 0 e) (heap_alloc_new w.drew _) (by rw [lst_len]; exact grownCap_ge ..) (grownCap_le_maxLen _ _ _ _ h) fun j hj => by
    rw [lst_len] at hj
    unfold bytesRow bcells lst
    rw [Array.getElem?_append_left (by simp; omega)]
    simp
  rwa [lst_len] at this
/-- '[]byte(s)': bytes in memory that is new. -/
theorem run_bytes_str {P : Program} (src dst e : TypeId) (s : ByteArray) (w : World) (hs : P.underlying src = some .string) (hd : P.underlying dst = some (.slice e)) (he : P.underlying e = some (.int .u8)) (h : s.size ≤ maxLen) :
    ∃ g c w', (convert src dst (.string s)).run P w = .ok (.slice (some ⟨g, 0, none⟩) s.size c) w' ∧ By w' (.slice (some ⟨g, 0, none⟩) s.size c) (lst s) ∧ Below w.heap.size w w' ∧ g = w.heap.size ∧ w'.heap.size = w.heap.size + 1 ∧ s.size ≤ c ∧ c ≤ maxLen :=
  ⟨_, _, _, run_bytes_of_string w src dst e s hs hd he, by_ofstr w e s _ h, (Below.refl _ w).drew.alloc (Nat.le_refl _) _, rfl, by simp, grownCap_ge .., grownCap_le_maxLen _ _ _ _ h⟩
end Go.Proofs.YteaagngikiaokaaDoor
