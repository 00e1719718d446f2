/- The contracts of the program's Write and Length. -/
import Derived.Test.YteaagngikiaokaaDoorCutC
import Derived.Test.YteaagngikiaokaaDoorUebB
namespace Go.Proofs.YteaagngikiaokaaDoor
open Go.RowKit
attribute [local go_sem ↓] Go.wp_at_zero Go.wp_at_succ

theorem Below.al {B : Nat} {w W : World} (h : Below B w W) (hB : B ≤ w.heap.size) (o : Obj) : Below B w (W.alloc o) := h.alloc (Nat.le_trans hB h.size) o
theorem Below.step {w W W' : World} (h : Below w.heap.size w W) (h' : Below W.heap.size W W') : Below w.heap.size w W' := h.trans (h'.mono h.size)
theorem Below.al0 {w W : World} (h : Below w.heap.size w W) (o : Obj) : Below w.heap.size w (W.alloc o) := h.alloc h.size o

def tK : List UInt8 := [107]
def tN : List UInt8 := [110]
def tSeg : List UInt8 := [115, 101, 103]
def tSegments : List UInt8 := [115, 101, 103, 109, 101, 110, 116, 115]
def tShares : List UInt8 := [115, 104, 97, 114, 101, 115]
def tSize : List UInt8 := [115, 105, 122, 101]
/-- The table of a Ueb. -/
def uebRows (k n seg size : Int) (sh sg : List UInt8) : List Rw := [(tK, lst (numS k)), (tN, lst (numS n)), (tSeg, lst (numS seg)), (tSegments, sg), (tShares, sh), (tSize, lst (numS size))]
theorem numS_len (x : Int) (h : -9223372036854775808 ≤ x ∧ x ≤ 9223372036854775807) : (lst (numS x)).length ≤ 21 := by
  unfold numS
  split
  · simp [lst]
  · rw [lst_itoaS]
    exact Lib.itoa_length_le x h.1 h.2
theorem uebRows_may (k n seg size : Int) (sh sg : List UInt8) (hk : -9223372036854775808 ≤ k ∧ k ≤ 9223372036854775807) (hn : -9223372036854775808 ≤ n ∧ n ≤ 9223372036854775807) (hs : -9223372036854775808 ≤ seg ∧ seg ≤ 9223372036854775807) (hz : -9223372036854775808 ≤ size ∧ size ≤ 9223372036854775807)
    (h1 : sh.length = 32) (h2 : sg.length = 32) : may (uebRows k n seg size sh sg) := by
  have l1 := numS_len k hk
  have l2 := numS_len n hn
  have l3 := numS_len seg hs
  have l4 := numS_len size hz
  unfold uebRows
  generalize lst (numS k) = a1 at *
  generalize lst (numS n) = a2 at *
  generalize lst (numS seg) = a3 at *
  generalize lst (numS size) = a4 at *
  have c1 : leB tN tK = false := by decide
  have c2 : leB tSeg tN = false := by decide
  have c3 : leB tSegments tSeg = false := by decide
  have c4 : leB tShares tSegments = false := by decide
  have c5 : leB tSize tShares = false := by decide
  intro i hi
  simp only [List.length_cons, List.length_nil] at hi
  rcases i with _ | _ | _ | _ | _ | _ | i
  · simp [rowB]; exact ⟨by decide, by omega⟩
  · simp [rowB, c1]; exact ⟨by decide, by omega⟩
  · simp [rowB, c2]; exact ⟨by decide, by omega⟩
  · simp [rowB, c3, h2]; decide
  · simp [rowB, c4, h1]; decide
  · simp [rowB, c5]; exact ⟨by decide, by omega⟩
  · omega

set_option maxRecDepth 100000 in
set_option maxHeartbeats 1000000 in
theorem number_any (x : Int) (w : World) (hx : -9223372036854775808 ≤ x ∧ x ≤ 9223372036854775807) (ht : Tab w) :
    Calls Tryd.prog 52 #[.int .i64 x] w fun e w' => ∃ A n c, e = .returned (.slice A n c) ∧ By w' (.slice A n c) (lst (numS x)) ∧ Below w.heap.size w w' := by
  have hsz := numS_len x hx
  rw [lst_len] at hsz
  have Q := hide (bnumber_any x w hx ht)
  generalize numS x = s at *
  generalize numE x = y at *
  go_enter Tryd.func52, Tryd.ntmps52
  go_wp2_with fail
  refine Q.out.mono ?_
  rintro e w1 ⟨rfl, b1⟩
  obtain ⟨g, cc, w2, hr, hby, b2, hg, hsz2, hcc, hcm⟩ := run_bytes_str 9 27 5 s w1 Tryd.underlying9 Tryd.underlying27 Tryd.underlying5 (by unfold maxLen; omega)
  have HY := hide hby
  have C2 := hide (b1.trans (b2.mono b1.size))
  clear hby b1 b2 Q hg hsz2 hcc hcm
  go_wp2_with fail
  go_ret
  exact ⟨_, _, _, rfl, HY.out, C2.out⟩
end Go.Proofs.YteaagngikiaokaaDoor
