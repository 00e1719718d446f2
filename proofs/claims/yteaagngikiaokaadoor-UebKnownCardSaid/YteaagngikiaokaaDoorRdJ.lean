/- Plain: the chapter's examples of tables. -/
import Derived.Test.YteaagngikiaokaaDoorRdS
namespace Go.Proofs.YteaagngikiaokaaDoor
open Go.RowKit

def kB1 : List UInt8 := [49, 58, 97, 44, 51, 58, 120, 121, 122, 44, 49, 58, 98, 44, 48, 58, 44]
def kT1 : List UInt8 := [49, 58, 97, 44, 51, 58, 120, 121, 122, 44, 49, 58, 97, 44, 48, 58, 44]
def kT2 : List UInt8 := [48, 49, 58, 97, 44, 48, 58, 44]
def kT3 : List UInt8 := [49, 58, 97, 44, 49, 58]
def kZ : List UInt8 := [49, 58, 122, 44, 48, 58, 44]
theorem kno_ba : ¬ may [([98], []), ([97], [])] := fun h => by
  have := h 1 (by simp)
  revert this
  decide
theorem kmay_ab : may [([97], [120, 121, 122]), ([98], [])] := by
  intro i hi
  simp only [List.length_cons, List.length_nil] at hi
  have hc : i = 0 ∨ i = 1 := by omega
  rcases hc with rfl | rfl <;> decide
theorem kunp_1 : unpack kB1 = ([([97], [120, 121, 122]), ([98], [])], 0, 0) := by
  have h : kB1 = encs [([97], [120, 121, 122]), ([98], [])] := by decide +kernel
  rw [h]; exact unpack_encs _ kmay_ab
theorem kunp_t1 : unpack kT1 = ([], 10, 131) := by
  have h1 : takeR kT1 = some (([97], [120, 121, 122]), [49, 58, 97, 44, 48, 58, 44]) := by decide +kernel
  have h2 : takeR [49, 58, 97, 44, 48, 58, 44] = some (([97], []), []) := by decide +kernel
  unfold unpack
  rw [unp_some h1, if_pos (by decide), unp_some h2, if_neg (by decide)]
  rfl
theorem kunp_t2 : unpack kT2 = ([], 0, 131) := by
  have h1 : takeR kT2 = none := by decide +kernel
  unfold unpack
  rw [unp_none (by decide) h1]
  rfl
theorem kunp_t3 : unpack kT3 = ([], 0, 131) := by
  have h1 : takeR kT3 = none := by decide +kernel
  unfold unpack
  rw [unp_none (by decide) h1]
  rfl
theorem kunp_nil : unpack [] = ([], 0, 0) := unp_nil _ _
def kU : US := ⟨3, 10, 66, 1000, z32, z32⟩
def kU2 : US := ⟨3, 10, 64, 1000, z32, z32⟩
theorem kU_wf : kU.wf := ⟨rfl, rfl⟩
theorem kU2_wf : kU2.wf := ⟨rfl, rfl⟩
theorem kU_may : kU.may := known_ok
theorem kU2_in : kU2.in64 := by unfold US.in64 kU2; simp
theorem kU2_no : ¬ kU2.may := by unfold US.may agOK kU2; simp
theorem kU_cells : kU.cells = uebC 3 10 66 1000 (bcells z32 ++ bcells z32) := rfl
theorem kU_set : kU.cells.setIfInBounds 2 (.int .i64 64) = kU2.cells := rfl
theorem kread_z : readU (writeU kU ++ kZ) = (US.zero, 0, 132) := by
  have h0 : kZ = enc ([122], []) := by decide +kernel
  have h1 : writeU kU ++ kZ = encs (uebRows 3 10 66 1000 z32 z32 ++ [([122], [])]) := by rw [encs_snoc, h0]; rfl
  have hm : may (uebRows 3 10 66 1000 z32 z32 ++ [([122], [])]) := by
    intro i hi
    simp only [List.length_append, List.length_cons, List.length_nil, show (uebRows 3 10 66 1000 z32 z32).length = 6 from rfl] at hi
    have hc : i = 0 ∨ i = 1 ∨ i = 2 ∨ i = 3 ∨ i = 4 ∨ i = 5 ∨ i = 6 := by omega
    rcases hc with rfl | rfl | rfl | rfl | rfl | rfl | rfl <;> decide +kernel
  rw [h1]
  exact readU_len (unpack_encs _ hm) (by decide)
end Go.Proofs.YteaagngikiaokaaDoor
