/- Contracts of Fits, size and BlockSize, at shapes that fit and at the shape of noughts. -/
import Derived.Test.YteaagngikiaokaaDoorShrC
namespace Go.Proofs.YteaagngikiaokaaDoor
open Go.RowKit

/-- A shape's value. -/
def shV (a b c d e f g h : Int) : Value := .agg #[.int .i64 a, .int .i64 b, .int .i64 c, .int .i64 d, .int .i64 e, .int .i64 f, .int .i64 g, .int .i64 h]
/-- A shape that Again gives back. -/
def Sits (a b c d e f g h : Int) : Prop := ∀ w, Calls Tryd.prog 54 #[.int .i64 a, .int .i64 b, .int .i64 c, .int .i64 d] w fun x w' => Below w.heap.size w w' ∧ x = .returned (.tuple #[.agg #[.int .i64 a, .int .i64 b, .int .i64 c, .int .i64 d, .int .i64 e, .int .i64 f, .int .i64 g, .int .i64 h], .int .i64 0])

set_option maxRecDepth 100000 in
set_option maxHeartbeats 1000000 in
theorem fits_ok (a b c d e f g h : Int) (w : World) (q : Sits a b c d e f g h) :
    Calls Tryd.prog 76 #[.agg #[.int .i64 a, .int .i64 b, .int .i64 c, .int .i64 d, .int .i64 e, .int .i64 f, .int .i64 g, .int .i64 h]] w fun x w' => Below w.heap.size w w' ∧ x = .returned (.bool true) := by
  have Q := hide q
  clear q
  go_enter Tryd.func76, Tryd.ntmps76
  go_wp2_with fail
  refine (Q.out _).mono ?_
  rintro x w1 ⟨b1, rfl⟩
  have B1 := hide (((Below.refl w.heap.size w).alloc (Nat.le_refl _) _).trans (b1.mono (by simp)))
  have HB := (Blk.new w 60 #[.int .i64 a, .int .i64 b, .int .i64 c, .int .i64 d, .int .i64 e, .int .i64 f, .int .i64 g, .int .i64 h]).below' b1
  have c0 : w1.cell? ⟨w.heap.size, 0, none⟩ = some (.int .i64 a) := HB.cell 0
  have c1 : w1.cell? ⟨w.heap.size, 1, none⟩ = some (.int .i64 b) := HB.cell 1
  have c2 : w1.cell? ⟨w.heap.size, 2, none⟩ = some (.int .i64 c) := HB.cell 2
  have c3 : w1.cell? ⟨w.heap.size, 3, none⟩ = some (.int .i64 d) := HB.cell 3
  have c4 : w1.cell? ⟨w.heap.size, 4, none⟩ = some (.int .i64 e) := HB.cell 4
  have c5 : w1.cell? ⟨w.heap.size, 5, none⟩ = some (.int .i64 f) := HB.cell 5
  have c6 : w1.cell? ⟨w.heap.size, 6, none⟩ = some (.int .i64 g) := HB.cell 6
  have c7 : w1.cell? ⟨w.heap.size, 7, none⟩ = some (.int .i64 h) := HB.cell 7
  clear b1
  have hlt := HB.lt
  have hne : ¬ w.heap.size = w1.heap.size := by omega
  have HBB := hide HB
  clear HB
  go_wp2
  go_ret
  exact ⟨B1.out.alloc B1.out.size _, rfl⟩

set_option maxRecDepth 100000 in
set_option maxHeartbeats 1000000 in
theorem fits_no (w : World) :
    Calls Tryd.prog 76 #[.agg #[.int .i64 0, .int .i64 0, .int .i64 0, .int .i64 0, .int .i64 0, .int .i64 0, .int .i64 0, .int .i64 0]] w fun x w' => Below w.heap.size w w' ∧ x = .returned (.bool false) := by
  have q : ∀ w, Calls Tryd.prog 54 #[.int .i64 0, .int .i64 0, .int .i64 0, .int .i64 0] w fun x w' => Below w.heap.size w w' ∧ x = .returned (.tuple #[.agg #[.int .i64 0, .int .i64 0, .int .i64 0, .int .i64 0, .int .i64 0, .int .i64 0, .int .i64 0, .int .i64 0], .int .i64 92]) := fun w => by
    have := again_any 0 0 0 0 w (by omega) (by omega) (by omega) (by omega)
    rwa [if_neg (by unfold agOK; omega)] at this
  have Q := hide q
  clear q
  go_enter Tryd.func76, Tryd.ntmps76
  go_wp2_with fail
  refine (Q.out _).mono ?_
  rintro x w1 ⟨b1, rfl⟩
  have B1 := hide (((Below.refl w.heap.size w).alloc (Nat.le_refl _) _).trans (b1.mono (by simp)))
  clear b1
  go_wp2
  go_ret
  exact ⟨B1.out.alloc B1.out.size _, rfl⟩

/-- What size answers at the place j of a shape that fits. -/
def szV (j n u l : Int) : Value := if n ≤ j then .tuple #[.int .i64 0, .int .i64 90] else if j = n - 1 then .tuple #[.int .i64 l, .int .i64 0] else .tuple #[.int .i64 u, .int .i64 0]

set_option maxRecDepth 100000 in
set_option maxHeartbeats 1000000 in
theorem size_ok (a b c d e f g h j u l : Int) (w : World) (q : Sits a b c d e f g h) (hj : 0 ≤ j) (he : 1 ≤ e ∧ e ≤ 512) :
    Calls Tryd.prog 78 #[.agg #[.int .i64 a, .int .i64 b, .int .i64 c, .int .i64 d, .int .i64 e, .int .i64 f, .int .i64 g, .int .i64 h], .int .i64 j, .int .i64 u, .int .i64 l] w fun x w' => Below w.heap.size w w' ∧ x = .returned (szV j e u l) := by
  have HQ := hide (fun w => fits_ok a b c d e f g h w q)
  clear q
  have i1 : ¬ j < 0 := by omega
  have e1 : IntKind.i64.wrap (e - 1) = e - 1 := IntWalk.i64_in _ (by omega)
  unfold szV
  have hcase : e ≤ j ∨ (¬ e ≤ j ∧ j = e - 1) ∨ (¬ e ≤ j ∧ ¬ j = e - 1) := by omega
  have hB1 := fun w' (hb : Below (w.alloc (.cells #[.int .i64 a, .int .i64 b, .int .i64 c, .int .i64 d, .int .i64 e, .int .i64 f, .int .i64 g, .int .i64 h] 60)).heap.size (w.alloc (.cells #[.int .i64 a, .int .i64 b, .int .i64 c, .int .i64 d, .int .i64 e, .int .i64 f, .int .i64 g, .int .i64 h] 60)) w') => And.intro (((Below.refl w.heap.size w).alloc (Nat.le_refl _) _).trans (hb.mono (by simp))) (show w'.cell? ⟨w.heap.size, 4, none⟩ = some (.int .i64 e) from ((Blk.new w 60 #[.int .i64 a, .int .i64 b, .int .i64 c, .int .i64 d, .int .i64 e, .int .i64 f, .int .i64 g, .int .i64 h]).below' hb).cell 4)
  have HB1 := hide hB1
  clear hB1
  rcases hcase with h1 | ⟨h1, h2⟩ | ⟨h1, h2⟩
  · rw [if_pos h1]
    go_enter Tryd.func78, Tryd.ntmps78
    go_wp2_with fail
    refine (HQ.out _).mono ?_
    rintro x w1 ⟨b1, rfl⟩
    obtain ⟨b2, c4⟩ := HB1.out _ b1
    have B1 := hide b2
    clear b1 b2
    go_wp2
    go_ret2
    exact ⟨B1.out, rfl⟩
  · rw [if_neg h1, if_pos h2]
    go_enter Tryd.func78, Tryd.ntmps78
    go_wp2_with fail
    refine (HQ.out _).mono ?_
    rintro x w1 ⟨b1, rfl⟩
    obtain ⟨b2, c4⟩ := HB1.out _ b1
    have B1 := hide b2
    clear b1 b2
    go_wp2
    go_ret2
    exact ⟨B1.out, rfl⟩
  · rw [if_neg h1, if_neg h2]
    go_enter Tryd.func78, Tryd.ntmps78
    go_wp2_with fail
    refine (HQ.out _).mono ?_
    rintro x w1 ⟨b1, rfl⟩
    obtain ⟨b2, c4⟩ := HB1.out _ b1
    have B1 := hide b2
    clear b1 b2
    go_wp2
    go_ret2
    exact ⟨B1.out, rfl⟩

set_option maxRecDepth 100000 in
set_option maxHeartbeats 1000000 in
theorem blockSize_ok (a b c d e f g h j : Int) (w : World) (q : Sits a b c d e f g h) (hj : 0 ≤ j) (he : 1 ≤ e ∧ e ≤ 512) :
    Calls Tryd.prog 58 #[.agg #[.int .i64 a, .int .i64 b, .int .i64 c, .int .i64 d, .int .i64 e, .int .i64 f, .int .i64 g, .int .i64 h], .int .i64 j] w fun x w' => Below w.heap.size w w' ∧ x = .returned (szV j e g h) := by
  have HQ := hide (fun w => size_ok a b c d e f g h j g h w q hj he)
  have hv : ∃ m s, szV j e g h = .tuple #[.int .i64 m, .int .i64 s] := by
    unfold szV; split
    · exact ⟨_, _, rfl⟩
    · split <;> exact ⟨_, _, rfl⟩
  obtain ⟨m, s, hv⟩ := hv
  rw [hv] at HQ
  rw [hv]
  clear q hv hj he
  go_enter Tryd.func58, Tryd.ntmps58
  go_wp2_with fail
  refine (HQ.out _).mono ?_
  rintro x w1 ⟨b1, rfl⟩
  have B1 := hide (((Below.refl w.heap.size w).alloc (Nat.le_refl _) _).trans (b1.mono (by simp)))
  clear b1
  go_wp2
  go_ret2
  exact ⟨B1.out, rfl⟩
end Go.Proofs.YteaagngikiaokaaDoor
