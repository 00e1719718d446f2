/- The contracts of the program's Write and Check, said of a Ueb. -/
import Derived.Test.YteaagngikiaokaaDoorRdQM
import Derived.Test.YteaagngikiaokaaDoorRdB
import Derived.Test.YteaagngikiaokaaDoorAwkB
namespace Go.Proofs.YteaagngikiaokaaDoor
open Go.RowKit

def US.in64 (u : US) : Prop := (-9223372036854775808 ≤ u.k ∧ u.k ≤ 9223372036854775807) ∧ (-9223372036854775808 ≤ u.n ∧ u.n ≤ 9223372036854775807) ∧ (-9223372036854775808 ≤ u.seg ∧ u.seg ≤ 9223372036854775807) ∧ (-9223372036854775808 ≤ u.size ∧ u.size ≤ 9223372036854775807)
theorem US.may_in64 {u : US} (h : u.may) : u.in64 := by
  have := agOK_in h
  unfold US.in64
  omega
theorem writeU_ok (u : US) (hw : u.wf) (ha : u.may) (w : World) (ht : Tab w) :
    Calls Tryd.prog 30 #[.agg u.cells] w fun e w' => Below w.heap.size w w' ∧ ∃ A c, e = .returned (.tuple #[.slice A (writeU u).length c, .int .i64 0]) ∧ Own w' w.heap.size 5 (.slice A (writeU u).length c) (writeU u) := by
  obtain ⟨h1, h2, h3, h4⟩ := US.may_in64 ha
  refine Calls.mono (write_ok u.k u.n u.seg u.size u.sh u.sg w h1 h2 h3 h4 hw.1 hw.2 ht ha) ?_
  rintro e w' ⟨b, A, n', c, rfl, o⟩
  have hn : n' = (writeU u).length := by
    obtain ⟨A', c', hv, _⟩ := o.by_.form
    injection hv
  subst hn
  exact ⟨b, A, c, rfl, o⟩
theorem writeU_bad (u : US) (hw : u.wf) (hi : u.in64) (hn : ¬ u.may) (w : World) :
    Calls Tryd.prog 30 #[.agg u.cells] w fun e w' => Below w.heap.size w w' ∧ e = .returned (.tuple #[.slice none 0 0, .int .i64 133]) :=
  write_bad u.k u.n u.seg u.size (bcells u.sh ++ bcells u.sg) w hi.1 hi.2.1 hi.2.2.1 hi.2.2.2 (by simp [hw.1, hw.2]) hn
theorem checkU (u : US) (hi : u.in64) (w : World) :
    Calls Tryd.prog 31 #[.agg u.cells] w fun e w' => Below w.heap.size w w' ∧ e = .returned (.int .i64 (if agOK u.k u.n u.seg u.size then 0 else 133)) :=
  check_any_ueb u.k u.n u.seg u.size (bcells u.sh ++ bcells u.sg) w hi.1 hi.2.1 hi.2.2.1 hi.2.2.2
theorem writeU_len {u : US} (hw : u.wf) (ha : u.may) : (writeU u).length ≤ 67108864 := by
  obtain ⟨h1, h2, h3, h4⟩ := US.may_in64 ha
  have hm := uebRows_may u.k u.n u.seg u.size u.sh u.sg h1 h2 h3 h4 hw.1 hw.2
  have h5 := encs_len _ 64 (may_len hm) (may_mem hm)
  unfold writeU
  omega
end Go.Proofs.YteaagngikiaokaaDoor
