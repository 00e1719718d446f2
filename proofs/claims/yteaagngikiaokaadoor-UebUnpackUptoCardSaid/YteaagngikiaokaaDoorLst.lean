/- A text's bytes. It holds of every program. -/
import Derived.Test.YteaagngikiaokaaDoorMem
namespace Go.Proofs.YteaagngikiaokaaDoor
open Go.RowKit
abbrev lst (s : ByteArray) : List UInt8 := s.data.toList
theorem lst_get (s : ByteArray) (k : Nat) (h : k < s.size) : (lst s)[k]? = some s[k] := by
  rw [List.getElem?_eq_getElem (by simpa using h)]; rfl
theorem lst_len (s : ByteArray) : (lst s).length = s.size := by simp [lst]
end Go.Proofs.YteaagngikiaokaaDoor
