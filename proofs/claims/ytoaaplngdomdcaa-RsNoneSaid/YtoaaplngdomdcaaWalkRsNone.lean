/- RsNone: of a code that is nil, and of one that nothing made. -/
import Derived.Test.YtoaaplngdomdcaaRsD
namespace Go.Proofs.Ytoaaplngdomdcaa
open Go.RowKit

/-- A code that is none. -/
def NoC (w : World) (v : Value) : Prop := v = .pointer none ∨ ∃ g, v = .pointer (some ⟨g, 0, none⟩) ∧ Blk w g 118 #[.pointer none]
theorem NoC.alloc {w : World} {v : Value} (h : NoC w v) (o : Obj) : NoC (w.alloc o) v := by
  rcases h with h | ⟨g, h, hb⟩
  · exact .inl h
  · exact .inr ⟨g, h, hb.alloc o⟩

theorem nmade_any (v : Value) (w : World) (h : NoC w v) : Calls Try.prog 68 #[v] w fun e w' => e = .returned (.bool false) ∧ w = w' := by
  rcases h with rfl | ⟨g, rfl, hb⟩
  · go_enter Try.func68, Try.ntmps68
    go_wp2
    go_ret
    exact ⟨rfl, rfl⟩
  · have hc : w.cell? ⟨g, 0, none⟩ = some (.pointer none) := by rw [hb.cell]; rfl
    clear hb
    go_enter Try.func68, Try.ntmps68
    go_wp2
    go_ret
    exact ⟨rfl, rfl⟩
theorem nk_any (v : Value) (w : World) (h : NoC w v) : Calls Try.prog 69 #[v] w fun e w' => e = .returned (.int .i64 0) ∧ w = w' := by
  have q := nmade_any v w h
  go_enter Try.func69, Try.ntmps69
  go_wp2_with fail
  refine q.mono ?_
  rintro e w' ⟨rfl, rfl⟩
  go_wp2
  go_ret
  exact ⟨rfl, rfl⟩
theorem nn_any (v : Value) (w : World) (h : NoC w v) : Calls Try.prog 71 #[v] w fun e w' => e = .returned (.int .i64 0) ∧ w = w' := by
  have q := nmade_any v w h
  go_enter Try.func71, Try.ntmps71
  go_wp2_with fail
  refine q.mono ?_
  rintro e w' ⟨rfl, rfl⟩
  go_wp2
  go_ret
  exact ⟨rfl, rfl⟩
theorem nrow_any (v x : Value) (w : World) (h : NoC w v) : Calls Try.prog 105 #[v, x] w fun e w' => e = .returned (.tuple #[.slice none 0 0, .int .i64 1]) ∧ w = w' := by
  have q := nmade_any v w h
  go_enter Try.func105, Try.ntmps105
  go_wp2_with fail
  refine q.mono ?_
  rintro e w' ⟨rfl, rfl⟩
  go_wp2
  go_ret2
  exact ⟨rfl, rfl⟩
theorem nenc_any (v x : Value) (w : World) (h : NoC w v) : Calls Try.prog 28 #[v, x] w fun e w' => e = .returned (.tuple #[.slice none 0 0, .int .i64 1]) ∧ w = w' := by
  have q := nmade_any v w h
  go_enter Try.func28, Try.ntmps28
  go_wp2_with fail
  refine q.mono ?_
  rintro e w' ⟨rfl, rfl⟩
  go_wp2
  go_ret2
  exact ⟨rfl, rfl⟩
theorem ndec_any (v x y : Value) (w : World) (h : NoC w v) : Calls Try.prog 54 #[v, x, y] w fun e w' => e = .returned (.tuple #[.slice none 0 0, .int .i64 1]) ∧ w = w' := by
  have q := nmade_any v w h
  go_enter Try.func54, Try.ntmps54
  go_wp2_with fail
  refine q.mono ?_
  rintro e w' ⟨rfl, rfl⟩
  go_wp2
  go_ret2
  exact ⟨rfl, rfl⟩
theorem nmake_any (v x y z : Value) (w : World) (h : NoC w v) : Calls Try.prog 55 #[v, x, y, z] w fun e w' => e = .returned (.tuple #[.slice none 0 0, .int .i64 1]) ∧ w = w' := by
  have q := nmade_any v w h
  go_enter Try.func55, Try.ntmps55
  go_wp2_with fail
  refine q.mono ?_
  rintro e w' ⟨rfl, rfl⟩
  go_wp2
  go_ret2
  exact ⟨rfl, rfl⟩
theorem nodd_any (v x : Value) (w : World) (h : NoC w v) : Calls Try.prog 56 #[v, x] w fun e w' => e = .returned (.tuple #[.int .i64 0, .int .i64 1]) ∧ w = w' := by
  have q := nmade_any v w h
  go_enter Try.func56, Try.ntmps56
  go_wp2_with fail
  refine q.mono ?_
  rintro e w' ⟨rfl, rfl⟩
  go_wp2
  go_ret2
  exact ⟨rfl, rfl⟩

set_option maxRecDepth 100000 in
set_option maxHeartbeats 3200000 in
theorem empty_any (v : Value) (x : Int) (A B : Option Addr) (a b c d : Nat) (w : World) (h : NoC w v) :
    Calls Try.prog 61 #[v, .agg #[.int .i64 0, .int .i64 0, .int .i64 x, .slice A a b, .slice B c d]] w fun e w' => e = .returned (.bool true) ∧ w' = w.alloc (.cells #[.int .i64 0, .int .i64 0, .int .i64 x, .slice A a b, .slice B c d] 110) := by
  have h2 := h.alloc (.cells #[.int .i64 0, .int .i64 0, .int .i64 x, .slice A a b, .slice B c d] 110)
  have n1 := Blk.new w 110 #[.int .i64 0, .int .i64 0, .int .i64 x, .slice A a b, .slice B c d]
  have g2 : (w.alloc (.cells #[.int .i64 0, .int .i64 0, .int .i64 x, .slice A a b, .slice B c d] 110)).cell? ⟨w.heap.size, 2, none⟩ = some (.int .i64 x) := by rw [n1.cell]; rfl
  have g3 : (w.alloc (.cells #[.int .i64 0, .int .i64 0, .int .i64 x, .slice A a b, .slice B c d] 110)).cell? ⟨w.heap.size, 3, none⟩ = some (.slice A a b) := by rw [n1.cell]; rfl
  have g4 : (w.alloc (.cells #[.int .i64 0, .int .i64 0, .int .i64 x, .slice A a b, .slice B c d] 110)).cell? ⟨w.heap.size, 4, none⟩ = some (.slice B c d) := by rw [n1.cell]; rfl
  have q1 := nrow_any v (.int .i64 x) _ h2
  have q2 := nenc_any v (.slice B c d) _ h2
  have q3 := ndec_any v (.slice A a b) (.slice B c d) _ h2
  have q4 := nmake_any v (.slice A a b) (.slice B c d) (.int .i64 x) _ h2
  have q5 := nodd_any v (.slice B c d) _ h2
  have q6 := nk_any v _ h2
  have q7 := nn_any v _ h2
  clear n1 h2 h
  go_enter Try.func61, Try.ntmps61
  go_wp2_with fail
  refine q1.mono ?_
  rintro e w' ⟨rfl, rfl⟩
  go_wp2_with fail
  refine q2.mono ?_
  rintro e w' ⟨rfl, rfl⟩
  go_wp2_with fail
  refine q3.mono ?_
  rintro e w' ⟨rfl, rfl⟩
  go_wp2_with fail
  refine q4.mono ?_
  rintro e w' ⟨rfl, rfl⟩
  go_wp2_with fail
  refine q5.mono ?_
  rintro e w' ⟨rfl, rfl⟩
  go_wp2_with fail
  refine q6.mono ?_
  rintro e w' ⟨rfl, rfl⟩
  go_wp2_with fail
  refine q7.mono ?_
  rintro e w' ⟨rfl, rfl⟩
  go_wp2
  go_ret
  exact ⟨rfl, rfl⟩

set_option maxRecDepth 100000 in
set_option maxHeartbeats 3200000 in
theorem law_rsnone (x : Int) (A : Option Addr) (a b : Nat) (B : Option Addr) (c d : Nat) (w : World) (_hx : (Lit.int .i64 x).wf = true) :
    Calls Try.prog 11 #[.int .i64 x, .slice A a b, .slice B c d] w fun e w' => e = .returned (.bool true) ∧ Below w.heap.size w w' := by
  have q0 := lives_any w
  go_enter Try.func11, Try.ntmps11
  go_wp2_with fail
  refine q0.mono ?_
  rintro e w1 ⟨rfl, hb1⟩
  have HB := hide hb1
  have q1 := fun w => empty_any (.pointer none) x A B a b c d w (.inl rfl)
  have q2 := fun g w hb => empty_any (.pointer (some ⟨g, 0, none⟩)) x A B a b c d w (.inr ⟨g, rfl, hb⟩)
  go_wp2_with fail
  refine (q1 _).mono ?_
  rintro e w2 ⟨rfl, rfl⟩
  have hb2 := ((((Below.refl w1.heap.size w1).alloc (Nat.le_refl _) (.cells #[.int .i64 0, .int .i64 0, .int .i64 x, .slice A a b, .slice B c d] 110)).alloc (by simp) (.cells #[.int .i64 0, .int .i64 0, .int .i64 x, .slice A a b, .slice B c d] 110)).alloc (by simp; omega) (.cells #[.pointer none] 118)).alloc (by simp; omega) (.cells #[.int .i64 0, .int .i64 0, .int .i64 x, .slice A a b, .slice B c d] 110)
  have hq := q2 _ _ (Blk.new ((w1.alloc (.cells #[.int .i64 0, .int .i64 0, .int .i64 x, .slice A a b, .slice B c d] 110)).alloc (.cells #[.int .i64 0, .int .i64 0, .int .i64 x, .slice A a b, .slice B c d] 110)) 118 #[.pointer none])
  have HB2 := hide (hb1.trans (hb2.mono hb1.size))
  simp only [World.size_alloc] at hq
  clear q1 hb1 hb2 q2 q0 HB
  go_wp2_with fail
  refine hq.mono ?_
  rintro e w3 ⟨rfl, hw3⟩
  rw [← hw3] at HB2
  clear hw3 hq
  go_wp2
  go_ret
  exact ⟨rfl, HB2.out⟩
end Go.Proofs.Ytoaaplngdomdcaa
