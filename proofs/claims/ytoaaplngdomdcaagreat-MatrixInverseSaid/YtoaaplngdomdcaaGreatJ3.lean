/- Joined texts: Grk. -/
import Derived.Test.YtoaaplngdomdcaaGreatJ2

/- Rows reckoned with: blocks of other types stay. It holds of every program. -/
namespace Go.Proofs.YtoaaplngdomdcaaGreat
open Go.RowKit

/-- Blocks of other types than these two stay as they were. -/
def Kt (tO tI : TypeId) (w w' : World) : Prop := ∀ (k : Nat) (t : TypeId) (cs : Array Value), Blk w k t cs → t ≠ tO → t ≠ tI → Blk w' k t cs
section
variable {α : Type} {tO tI : TypeId} {en : α → Value} {w w' w2 : World} {base g n m : Nat} {M : Nat → Nat → α}
theorem Kt.refl (tO tI : TypeId) (w : World) : Kt tO tI w w := fun _ _ _ h _ _ => h
theorem Kt.trans (h : Kt tO tI w w') (k : Kt tO tI w' w2) : Kt tO tI w w2 := fun b t cs hb h1 h2 => k b t cs (h b t cs hb h1 h2) h1 h2
theorem Kt.below (h : Kt tO tI w w') (hb : Below w'.heap.size w' w2) : Kt tO tI w w2 := h.trans fun _ _ _ hb' _ _ => hb'.below' hb
theorem Grid.kt_store (h : Grid tO tI en w base g n m M) {i b c : Nat} (hi : i < n) (hc : w.cell? ⟨g, i, none⟩ = some (.slice (some ⟨b, 0, none⟩) m c)) (hb : Below w.heap.size w w') (j : Nat) (x : Value) : Kt tO tI w (w'.setCell ⟨b, j, none⟩ x) := by
  obtain ⟨outer, G, C, h1, h2, h3, h4, h5⟩ := h
  rw [h2.cell, h3 i hi] at hc
  injection hc with hc
  injection hc with hc _ _
  injection hc with hc
  injection hc with hc _ _
  obtain ⟨_, _, _, cur, hcur, _⟩ := h5 i hi
  rw [hc] at hcur
  exact fun k t cs hk _ ht => (hk.below' hb).far (fun e => blk_ne hk hcur ht e) _
theorem Grid.kt_swap (h : Grid tO tI en w base g n m M) (r i : Nat) (u v : Value) : Kt tO tI w ((w.setCell ⟨g, r, none⟩ u).setCell ⟨g, i, none⟩ v) := by
  obtain ⟨outer, G, C, h1, h2, h3, h4, h5⟩ := h
  exact fun k t cs hk ht _ => (hk.far (fun e => blk_ne hk h2 ht e) _).far (fun e => blk_ne hk h2 ht e) _
end
end Go.Proofs.YtoaaplngdomdcaaGreat
