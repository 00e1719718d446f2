/- Contracts of the document's Fits, size and BlockSize, at shapes that fit. -/
import Derived.Test.YteaagngikiaokaaDoorShpB
namespace Go.Proofs.YteaagngikiaokaaDoor
open Go.RowKit

/-- A shape that the document's Again gives back. -/
def Rits (a b c d e f g h : Int) : Prop := ∀ w, Calls Tryd.prog 34 #[.int .i64 a, .int .i64 b, .int .i64 c, .int .i64 d] w fun x w' => Below w.heap.size w w' ∧ x = .returned (.tuple #[.agg #[.int .i64 a, .int .i64 b, .int .i64 c, .int .i64 d, .int .i64 e, .int .i64 f, .int .i64 g, .int .i64 h], .int .i64 0])

set_option maxRecDepth 100000 in
set_option maxHeartbeats 1000000 in
theorem rfits_ok (a b c d e f g h : Int) (w : World) (q : Rits a b c d e f g h) :
    Calls Tryd.prog 79 #[.agg #[.int .i64 a, .int .i64 b, .int .i64 c, .int .i64 d, .int .i64 e, .int .i64 f, .int .i64 g, .int .i64 h]] w fun x w' => Below w.heap.size w w' ∧ x = .returned (.bool true) := by
  have Q := hide q
  clear q
  go_enter Tryd.func79, Tryd.ntmps79
  go_wp2_with fail
  refine (Q.out _).mono ?_
  rintro x w1 ⟨b1, rfl⟩
  have B1 := hide (((Below.refl w.heap.size w).alloc (Nat.le_refl _) _).trans (b1.mono (by simp)))
  have HB := (Blk.new w 60 #[.int .i64 a, .int .i64 b, .int .i64 c, .int .i64 d, .int .i64 e, .int .i64 f, .int .i64 g, .int .i64 h]).below' b1
  have c0 : w1.cell? ⟨w.heap.size, 0, none⟩ = some (.int .i64 a) := HB.cell 0
  have c1 : w1.cell? ⟨w.heap.size, 1, none⟩ = some (.int .i64 b) := HB.cell 1
  have c2 : w1.cell? ⟨w.heap.size, 2, none⟩ = some (.int .i64 c) := HB.cell 2
  have c3 : w1.cell? ⟨w.heap.size, 3, none⟩ = some (.int .i64 d) := HB.cell 3
  have c4 : w1.cell? ⟨w.heap.size, 4, none⟩ = some (.int .i64 e) := HB.cell 4
  have c5 : w1.cell? ⟨w.heap.size, 5, none⟩ = some (.int .i64 f) := HB.cell 5
  have c6 : w1.cell? ⟨w.heap.size, 6, none⟩ = some (.int .i64 g) := HB.cell 6
  have c7 : w1.cell? ⟨w.heap.size, 7, none⟩ = some (.int .i64 h) := HB.cell 7
  clear b1
  have hlt := HB.lt
  have hne : ¬ w.heap.size = w1.heap.size := by omega
  clear HB
  go_wp2
  go_ret
  exact ⟨B1.out.alloc B1.out.size _, rfl⟩

/-- What the document's size answers at the place j of a shape that fits. -/
def rszV (j n u v l m : Int) : Value := if j = n - 1 then .tuple #[.int .i64 l, .int .i64 m, .int .i64 0] else .tuple #[.int .i64 u, .int .i64 v, .int .i64 0]

set_option maxRecDepth 100000 in
set_option maxHeartbeats 1000000 in
theorem rsize_ok (a b c d e f g h j : Int) (w : World) (q : Rits a b c d e f g h) (hj : 0 ≤ j ∧ j < e) (he : 1 ≤ e ∧ e ≤ 512) :
    Calls Tryd.prog 59 #[.agg #[.int .i64 a, .int .i64 b, .int .i64 c, .int .i64 d, .int .i64 e, .int .i64 f, .int .i64 g, .int .i64 h], .int .i64 j] w fun x w' => Below w.heap.size w w' ∧ x = .returned (rszV j e c g f h) := by
  have HQ := hide (fun w => rfits_ok a b c d e f g h w q)
  clear q
  have i1 : ¬ j < 0 := by omega
  have i2 : ¬ e ≤ j := by omega
  have e1 : IntKind.i64.wrap (e - 1) = e - 1 := IntWalk.i64_in _ (by omega)
  unfold rszV
  have hB1 := fun w' (hb : Below (w.alloc (.cells #[.int .i64 a, .int .i64 b, .int .i64 c, .int .i64 d, .int .i64 e, .int .i64 f, .int .i64 g, .int .i64 h] 60)).heap.size (w.alloc (.cells #[.int .i64 a, .int .i64 b, .int .i64 c, .int .i64 d, .int .i64 e, .int .i64 f, .int .i64 g, .int .i64 h] 60)) w') => And.intro (((Below.refl w.heap.size w).alloc (Nat.le_refl _) _).trans (hb.mono (by simp))) ((Blk.new w 60 #[.int .i64 a, .int .i64 b, .int .i64 c, .int .i64 d, .int .i64 e, .int .i64 f, .int .i64 g, .int .i64 h]).below' hb)
  have HB1 := hide hB1
  clear hB1
  by_cases h2 : j = e - 1
  · rw [if_pos h2]
    go_enter Tryd.func59, Tryd.ntmps59
    go_wp2_with fail
    refine (HQ.out _).mono ?_
    rintro x w1 ⟨b1, rfl⟩
    obtain ⟨b2, HB⟩ := HB1.out _ b1
    have c0 : w1.cell? ⟨w.heap.size, 0, none⟩ = some (.int .i64 a) := HB.cell 0
    have c1 : w1.cell? ⟨w.heap.size, 1, none⟩ = some (.int .i64 b) := HB.cell 1
    have c2 : w1.cell? ⟨w.heap.size, 2, none⟩ = some (.int .i64 c) := HB.cell 2
    have c3 : w1.cell? ⟨w.heap.size, 3, none⟩ = some (.int .i64 d) := HB.cell 3
    have c4 : w1.cell? ⟨w.heap.size, 4, none⟩ = some (.int .i64 e) := HB.cell 4
    have c5 : w1.cell? ⟨w.heap.size, 5, none⟩ = some (.int .i64 f) := HB.cell 5
    have c6 : w1.cell? ⟨w.heap.size, 6, none⟩ = some (.int .i64 g) := HB.cell 6
    have c7 : w1.cell? ⟨w.heap.size, 7, none⟩ = some (.int .i64 h) := HB.cell 7
    have B1 := hide b2
    clear b1 b2 HB
    go_wp2
    go_quiet (fail)
    go_wp2
    go_ret3
    exact ⟨below_drewN B1.out _, rfl⟩
  · rw [if_neg h2]
    go_enter Tryd.func59, Tryd.ntmps59
    go_wp2_with fail
    refine (HQ.out _).mono ?_
    rintro x w1 ⟨b1, rfl⟩
    obtain ⟨b2, HB⟩ := HB1.out _ b1
    have c0 : w1.cell? ⟨w.heap.size, 0, none⟩ = some (.int .i64 a) := HB.cell 0
    have c1 : w1.cell? ⟨w.heap.size, 1, none⟩ = some (.int .i64 b) := HB.cell 1
    have c2 : w1.cell? ⟨w.heap.size, 2, none⟩ = some (.int .i64 c) := HB.cell 2
    have c3 : w1.cell? ⟨w.heap.size, 3, none⟩ = some (.int .i64 d) := HB.cell 3
    have c4 : w1.cell? ⟨w.heap.size, 4, none⟩ = some (.int .i64 e) := HB.cell 4
    have c5 : w1.cell? ⟨w.heap.size, 5, none⟩ = some (.int .i64 f) := HB.cell 5
    have c6 : w1.cell? ⟨w.heap.size, 6, none⟩ = some (.int .i64 g) := HB.cell 6
    have c7 : w1.cell? ⟨w.heap.size, 7, none⟩ = some (.int .i64 h) := HB.cell 7
    have B1 := hide b2
    clear b1 b2 HB
    go_wp2
    go_quiet (fail)
    go_wp2
    go_ret3
    exact ⟨below_drewN B1.out _, rfl⟩

set_option maxRecDepth 100000 in
set_option maxHeartbeats 1000000 in
theorem rblock_ok (a b c d e f g h j : Int) (w : World) (q : Rits a b c d e f g h) (hj : 0 ≤ j ∧ j < e) (he : 1 ≤ e ∧ e ≤ 512) :
    Calls Tryd.prog 38 #[.agg #[.int .i64 a, .int .i64 b, .int .i64 c, .int .i64 d, .int .i64 e, .int .i64 f, .int .i64 g, .int .i64 h], .int .i64 j] w fun x w' => Below w.heap.size w w' ∧ x = .returned (szV j e g h) := by
  have HQ := hide (fun w => rsize_ok a b c d e f g h j w q hj he)
  have hv : ∃ l m, rszV j e c g f h = .tuple #[.int .i64 l, .int .i64 m, .int .i64 0] ∧ szV j e g h = .tuple #[.int .i64 m, .int .i64 0] := by
    have h1 : ¬ e ≤ j := by omega
    simp only [szV, rszV, if_neg h1]
    split
    · exact ⟨_, _, rfl, rfl⟩
    · exact ⟨_, _, rfl, rfl⟩
  obtain ⟨l, m, hv, hv2⟩ := hv
  rw [hv] at HQ
  rw [hv2]
  clear q hv hv2 hj he
  go_enter Tryd.func38, Tryd.ntmps38
  go_wp2_with fail
  refine (HQ.out _).mono ?_
  rintro x w1 ⟨b1, rfl⟩
  have B1 := hide (((Below.refl w.heap.size w).alloc (Nat.le_refl _) _).trans (b1.mono (by simp)))
  clear b1
  go_wp2
  go_ret2
  exact ⟨B1.out, rfl⟩
end Go.Proofs.YteaagngikiaokaaDoor
