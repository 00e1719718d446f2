/- Contract of the document's Letters. -/
import Derived.Test.YtghobbbmoeijbaaDoorBaseB
namespace Go.Proofs.YtghobbbmoeijbaaDoor
open Go.RowKit

def alphS : ByteArray := ⟨#[97, 98, 99, 100, 101, 102, 103, 104, 105, 106, 107, 108, 109, 110, 111, 112, 113, 114, 115, 116, 117, 118, 119, 120, 121, 122, 50, 51, 52, 53, 54, 55]⟩
theorem alphS_all : ∀ d : Fin 32, alphS[d.1]? = some (letterN d.1) := by decide +kernel
theorem alphS_at (X : Nat) (h : X < 32) (h' : X < alphS.size) : alphS[X]'h' = letterN X := by
  have := alphS_all ⟨X, h⟩
  rw [getElem?_pos alphS X h'] at this
  injection this

end Go.Proofs.YtghobbbmoeijbaaDoor
