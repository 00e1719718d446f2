/- The contracts of the program's Write and Length, of whatever Ueb. -/
import Derived.Test.YteaagngikiaokaaDoorUebD
namespace Go.Proofs.YteaagngikiaokaaDoor
open Go.RowKit

set_option maxRecDepth 100000 in
set_option maxHeartbeats 1000000 in
theorem write_bad (k n seg size : Int) (d : List Value) (w : World) (hk : -9223372036854775808 ≤ k ∧ k ≤ 9223372036854775807) (hn : -9223372036854775808 ≤ n ∧ n ≤ 9223372036854775807) (hs : -9223372036854775808 ≤ seg ∧ seg ≤ 9223372036854775807) (hz : -9223372036854775808 ≤ size ∧ size ≤ 9223372036854775807) (hd : d.length = 64) (hag : ¬ agOK k n seg size) :
    Calls Tryd.prog 30 #[.agg (uebC k n seg size d)] w fun e w' => Below w.heap.size w w' ∧ e = .returned (.tuple #[.slice none 0 0, .int .i64 133]) := by
  have q := fun w => check_any_ueb k n seg size d w hk hn hs hz
  simp only [if_neg hag] at q
  have Q := hide q
  have HB := hide (Blk.new w 44 (uebC k n seg size d))
  have hsz : (uebC k n seg size d).size = 68 := by simp [uebC, hd]
  have HAL := hide ((Below.refl w.heap.size w).alloc (Nat.le_refl _) (.cells (uebC k n seg size d) 44))
  have HSZ := hide hsz
  clear q hag hsz
  generalize uebC k n seg size d = cs at *
  go_enter Tryd.func30, Tryd.ntmps30
  go_wp2_with (refine wpList_load_row (o := ⟨some 6, .load _ _, _, _, _, _⟩) rfl 44 _ rfl w.heap.size rfl 44 cs (0, 0) _ HB.out Tryd.underlying44 rfl (by rw [HSZ.out]; kernel_rfl) ?_)
  refine (Q.out _).mono ?_
  rintro e w1 ⟨b1, rfl⟩
  have B1 := hide (HAL.out.trans (b1.mono HAL.out.size))
  clear b1
  go_wp2_with fail
  go_ret2
  exact ⟨B1.out, rfl⟩

/-- How many bytes a Ueb has. -/
def uebLen (k n seg size : Int) (sh sg : List UInt8) : Int := ((encs (uebRows k n seg size sh sg)).length : Int)

set_option maxRecDepth 100000 in
set_option maxHeartbeats 1000000 in
theorem length_any (k n seg size : Int) (sh sg : List UInt8) (w : World) (hk : -9223372036854775808 ≤ k ∧ k ≤ 9223372036854775807) (hn : -9223372036854775808 ≤ n ∧ n ≤ 9223372036854775807) (hs : -9223372036854775808 ≤ seg ∧ seg ≤ 9223372036854775807) (hz : -9223372036854775808 ≤ size ∧ size ≤ 9223372036854775807) (h1 : sh.length = 32) (h2 : sg.length = 32) (ht : Tab w) :
    Calls Tryd.prog 51 #[.agg (uebC k n seg size (bcells sh ++ bcells sg))] w fun e w' => Below w.heap.size w w' ∧
      e = .returned (if agOK k n seg size then .tuple #[.int .i64 (uebLen k n seg size sh sg), .int .i64 0] else .tuple #[.int .i64 0, .int .i64 133]) := by
  have HB := hide (Blk.new w 44 (uebC k n seg size (bcells sh ++ bcells sg)))
  have hsz : (uebC k n seg size (bcells sh ++ bcells sg)).size = 68 := by simp [uebC, h1, h2]
  have HAL := hide ((Below.refl w.heap.size w).alloc (Nat.le_refl _) (.cells (uebC k n seg size (bcells sh ++ bcells sg)) 44))
  have HSZ := hide hsz
  clear hsz
  by_cases hag : agOK k n seg size
  · have Q := hide (write_ok k n seg size sh sg _ hk hn hs hz h1 h2 (ht.below HAL.out) hag)
    rw [if_pos hag]
    clear hag ht hk hn hs hz h1 h2
    unfold uebLen
    generalize uebC k n seg size (bcells sh ++ bcells sg) = cs at *
    generalize encs (uebRows k n seg size sh sg) = l at *
    go_enter Tryd.func51, Tryd.ntmps51
    go_wp2_with (refine wpList_load_row (o := ⟨some 7, .load _ _, _, _, _, _⟩) rfl 44 _ rfl w.heap.size rfl 44 cs (0, 0) _ HB.out Tryd.underlying44 rfl (by rw [HSZ.out]; kernel_rfl) ?_)
    refine Q.out.mono ?_
    rintro e w1 ⟨b1, A, n', c, rfl, o1⟩
    have hn' : n' = l.length := by
      obtain ⟨A', c', hv, _⟩ := o1.by_.form
      injection hv
    subst hn'
    have B1 := hide (HAL.out.trans (b1.mono HAL.out.size))
    clear b1 Q o1
    go_wp2_with fail
    go_ret2
    exact ⟨B1.out, rfl⟩
  · have Q := hide (write_bad k n seg size (bcells sh ++ bcells sg) _ hk hn hs hz (by simp [h1, h2]) hag : Calls _ _ _ (w.alloc (.cells (uebC k n seg size (bcells sh ++ bcells sg)) 44)) _)
    rw [if_neg hag]
    clear hag ht hk hn hs hz h1 h2
    generalize uebC k n seg size (bcells sh ++ bcells sg) = cs at *
    go_enter Tryd.func51, Tryd.ntmps51
    go_wp2_with (refine wpList_load_row (o := ⟨some 7, .load _ _, _, _, _, _⟩) rfl 44 _ rfl w.heap.size rfl 44 cs (0, 0) _ HB.out Tryd.underlying44 rfl (by rw [HSZ.out]; kernel_rfl) ?_)
    refine Q.out.mono ?_
    rintro e w1 ⟨b1, rfl⟩
    have B1 := hide (HAL.out.trans (b1.mono HAL.out.size))
    clear b1 Q
    go_wp2_with fail
    go_ret2
    exact ⟨B1.out, rfl⟩
end Go.Proofs.YteaagngikiaokaaDoor
