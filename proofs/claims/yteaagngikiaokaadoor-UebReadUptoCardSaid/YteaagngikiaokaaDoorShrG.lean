/- The contracts of the law's plain shape and of lives; ShareNames. -/
import Derived.Test.YteaagngikiaokaaDoorShrF
namespace Go.Proofs.YteaagngikiaokaaDoor
open Go.RowKit

theorem known_ok2 : agOK 1 1 50 60 := by unfold agOK upN; decide
theorem known_len2 : uebLen 1 1 50 60 z32 z32 = 131 := by unfold uebLen; decide +kernel
theorem lays2 : lays 1 2 50 10 131 = #[.int .i64 36, .int .i64 167, .int .i64 167, .int .i64 263, .int .i64 359, .int .i64 419] := by kernel_rfl
theorem sits2 : Sits 1 1 50 60 2 10 50 10 := fun w => by
  have := again_any 1 1 50 60 w (by omega) (by omega) (by omega) (by omega)
  rw [if_pos known_ok2] at this
  exact this
theorem laid2 (w : World) (ht : Tab w) : Calls Tryd.prog 57 #[.agg #[.int .i64 1, .int .i64 1, .int .i64 50, .int .i64 60, .int .i64 2, .int .i64 10, .int .i64 50, .int .i64 10]] w fun x w' => Below w.heap.size w w' ∧
      x = .returned (.tuple #[.agg #[.int .i64 36, .int .i64 167, .int .i64 167, .int .i64 263, .int .i64 359, .int .i64 419], .int .i64 0]) := by
  have := laid_ok 1 1 50 60 2 10 50 10 w sits2 known_ok2 (by omega) (by omega) (by omega) (by omega) (by omega) 131 known_len2 ht
  rw [lays2] at this
  exact this

set_option maxRecDepth 100000 in
set_option maxHeartbeats 1000000 in
theorem plain_any (w : World) : Calls Tryd.prog 55 #[] w fun x w' => Below w.heap.size w w' ∧ x = .returned (.agg #[.int .i64 1, .int .i64 1, .int .i64 50, .int .i64 60, .int .i64 2, .int .i64 10, .int .i64 50, .int .i64 10]) := by
  go_enter Tryd.func55, Tryd.ntmps55
  go_wp2
  go_returns
  exact ⟨(Below.refl w.heap.size w).alloc (Nat.le_refl _) _, rfl⟩

set_option maxRecDepth 100000 in
set_option maxHeartbeats 1000000 in
theorem lives_any (w : World) (ht : Tab w) : Calls Tryd.prog 33 #[] w fun x w' => Below w.heap.size w w' ∧ x = .returned (.bool true) := by
  have P := hide (fun w => plain_any w)
  have F1 := hide (fun w1 (h : Below w.heap.size w w1) => frontLen_any 1 1 50 60 2 10 50 10 36 167 167 263 359 419 0 w1 (fun w2 h2 => laid2 w2 ((ht.below h).below h2)))
  have F2 := hide (fun w1 (h : Below w.heap.size w w1) => len_any 1 1 50 60 2 10 50 10 36 167 167 263 359 419 0 w1 (fun w2 h2 => laid2 w2 ((ht.below h).below h2)))
  have F3 := hide (fun w1 (h : Below w.heap.size w w1) => place_in 1 1 50 60 2 10 50 10 36 167 167 263 359 419 1 10 409 w1 (by omega) (by omega) sits2 rfl (by decide) (by decide) (fun w2 h2 => laid2 w2 ((ht.below h).below h2)))
  have q4 : ∀ w1, Below w.heap.size w w1 → Calls Tryd.prog 51 #[.agg (uebC 1 1 50 60 (bcells z32 ++ bcells z32))] w1 fun e w' => Below w1.heap.size w1 w' ∧ e = .returned (.tuple #[.int .i64 131, .int .i64 0]) := fun w1 h => by
    have := length_any 1 1 50 60 z32 z32 w1 (by omega) (by omega) (by omega) (by omega) rfl rfl (ht.below h)
    rwa [if_pos known_ok2, known_len2] at this
  have F4 := hide q4
  have hkc := ueb_cells 1 1 50 60
  clear ht q4
  generalize uebC 1 1 50 60 (bcells z32 ++ bcells z32) = cs at *
  go_enter Tryd.func33, Tryd.ntmps33
  go_wp2_with fail
  refine (P.out _).mono ?_
  rintro x w1 ⟨b1, rfl⟩
  have B1 := hide b1
  clear b1
  go_wp2_with fail
  refine (F1.out _ B1.out).mono ?_
  rintro x w2 ⟨b2, rfl⟩
  have B2 := hide (Below.step B1.out b2)
  clear b2
  go_wp2_with fail
  refine (P.out _).mono ?_
  rintro x w3 ⟨b3, rfl⟩
  have B3 := hide (Below.step B2.out b3)
  clear b3
  go_wp2_with fail
  refine (F2.out _ B3.out).mono ?_
  rintro x w4 ⟨b4, rfl⟩
  have B4 := hide (Below.step B3.out b4)
  clear b4
  go_wp2_with fail
  refine (P.out _).mono ?_
  rintro x w5 ⟨b5, rfl⟩
  have B5 := hide (Below.step B4.out b5)
  clear b5
  go_wp2_with fail
  refine (F3.out _ B5.out).mono ?_
  rintro x w6 ⟨b6, rfl⟩
  have B6 := hide (Below.step B5.out b6)
  clear b6
  go_wp2_with fail
  refine (F4.out _ B6.out).mono ?_
  rintro x w7 ⟨b7, rfl⟩
  have B7 := hide (Below.step B6.out b7)
  clear b7
  go_wp2
  go_ret
  exact ⟨B7.out, rfl⟩

set_option maxRecDepth 100000 in
set_option maxHeartbeats 1000000 in
theorem law_sharenames (w : World) (ht : Tab w) : Calls Tryd.prog 11 #[] w fun x w' => x = .returned (.bool true) ∧ Below w.heap.size w w' := by
  have P := hide (lives_any w ht)
  clear ht
  go_enter Tryd.func11, Tryd.ntmps11
  go_wp2_with fail
  refine P.out.mono ?_
  rintro x w1 ⟨b1, rfl⟩
  have B1 := hide b1
  clear b1
  go_wp2
  go_ret
  exact ⟨rfl, B1.out⟩

theorem of_laidT {W : World} {r : List (String × DataW Unit)}
    (h0 : laidMet Tryd.prog (("internal/strconv.uint64pow10", Rows.laid_internal_strconv_uint64pow10) :: r) W) : Tab W := by
  have e : (Rows.laid_internal_strconv_uint64pow10 : DataW Unit) = Lib.tabData .u64 Lib.pow10Tab := by kernel_rfl
  rw [e] at h0
  exact Lib.tabIs_of_head gTab gTabType Tryd.underlying143 Tryd.underlying111 (by kernel_rfl) (by kernel_rfl) h0
end Go.Proofs.YteaagngikiaokaaDoor
