/- Worlds in which nothing has turned but what is drawn. They hold of every program. -/
import Derived.Test.YteaagngikiaokaaDoorMem
namespace Go.Proofs.YteaagngikiaokaaDoor
open Go.RowKit
/-- Nothing has turned but what is drawn. -/
def Drn (w w' : World) : Prop := ∃ n, w' = w.drewN n
theorem Drn.refl (w : World) : Drn w w := ⟨0, rfl⟩
theorem Drn.drewN {w w' : World} (h : Drn w w') (n : Nat) : Drn w (w'.drewN n) := by
  obtain ⟨m, rfl⟩ := h
  exact ⟨m + n, World.drewN_drewN _ _ _⟩
theorem Drn.cell {w w' : World} (h : Drn w w') (a : Addr) : w'.cell? a = w.cell? a := by
  obtain ⟨m, rfl⟩ := h
  rfl
theorem Drn.below {w w' : World} (h : Drn w w') : Below w.heap.size w w' := by
  obtain ⟨m, rfl⟩ := h
  exact below_drewN (Below.refl _ _) _
end Go.Proofs.YteaagngikiaokaaDoor
