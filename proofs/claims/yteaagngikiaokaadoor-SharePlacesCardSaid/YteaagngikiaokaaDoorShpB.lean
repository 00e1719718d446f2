/- Contracts of the document's Check, Shape and Again. -/
import Derived.Test.YteaagngikiaokaaDoorShpA
namespace Go.Proofs.YteaagngikiaokaaDoor
open Go.RowKit

def okP (k n seg : Int) : Prop := 1 ≤ n ∧ n ≤ 255 ∧ 1 ≤ k ∧ k ≤ n ∧ 1 ≤ seg ∧ seg ≤ 65536
instance (k n seg : Int) : Decidable (okP k n seg) := by unfold okP; infer_instance

set_option maxRecDepth 100000 in
set_option maxHeartbeats 2000000 in
theorem rcheck_any (k n seg : Int) (w : World) :
    Calls Tryd.prog 73 #[.agg #[.int .i64 k, .int .i64 n, .int .i64 seg, .int .i64 0, .slice none 0 0]] w fun x w' => Below w.heap.size w w' ∧ x = .returned (.int .i64 (if okP k n seg then 0 else 3)) := by
  have hc : (n < 1) ∨ (¬ n < 1 ∧ 255 < n) ∨ (¬ n < 1 ∧ ¬ 255 < n ∧ k < 1) ∨ (¬ n < 1 ∧ ¬ 255 < n ∧ ¬ k < 1 ∧ n < k) ∨ (¬ n < 1 ∧ ¬ 255 < n ∧ ¬ k < 1 ∧ ¬ n < k ∧ seg < 1) ∨ (¬ n < 1 ∧ ¬ 255 < n ∧ ¬ k < 1 ∧ ¬ n < k ∧ ¬ seg < 1 ∧ 65536 < seg) ∨ (¬ n < 1 ∧ ¬ 255 < n ∧ ¬ k < 1 ∧ ¬ n < k ∧ ¬ seg < 1 ∧ ¬ 65536 < seg) := by omega
  rcases hc with c0 | ⟨c0, c1⟩ | ⟨c0, c1, c2⟩ | ⟨c0, c1, c2, c3⟩ | ⟨c0, c1, c2, c3, c4⟩ | ⟨c0, c1, c2, c3, c4, c5⟩ | ⟨c0, c1, c2, c3, c4, c5⟩
  · rw [if_neg (by unfold okP; omega)]
    go_enter Tryd.func73, Tryd.ntmps73
    go_wp2
    go_ret
    exact ⟨(Below.refl w.heap.size w).alloc (Nat.le_refl _) _, rfl⟩
  · rw [if_neg (by unfold okP; omega)]
    go_enter Tryd.func73, Tryd.ntmps73
    go_wp2
    go_ret
    exact ⟨(Below.refl w.heap.size w).alloc (Nat.le_refl _) _, rfl⟩
  · rw [if_neg (by unfold okP; omega)]
    go_enter Tryd.func73, Tryd.ntmps73
    go_wp2
    go_ret
    exact ⟨(Below.refl w.heap.size w).alloc (Nat.le_refl _) _, rfl⟩
  · rw [if_neg (by unfold okP; omega)]
    go_enter Tryd.func73, Tryd.ntmps73
    go_wp2
    go_ret
    exact ⟨(Below.refl w.heap.size w).alloc (Nat.le_refl _) _, rfl⟩
  · rw [if_neg (by unfold okP; omega)]
    go_enter Tryd.func73, Tryd.ntmps73
    go_wp2
    go_ret
    exact ⟨(Below.refl w.heap.size w).alloc (Nat.le_refl _) _, rfl⟩
  · rw [if_neg (by unfold okP; omega)]
    go_enter Tryd.func73, Tryd.ntmps73
    go_wp2
    go_ret
    exact ⟨(Below.refl w.heap.size w).alloc (Nat.le_refl _) _, rfl⟩
  · rw [if_pos (by unfold okP; omega)]
    go_enter Tryd.func73, Tryd.ntmps73
    go_wp2
    go_ret
    exact ⟨(Below.refl w.heap.size w).alloc (Nat.le_refl _) _, rfl⟩

set_option maxRecDepth 100000 in
set_option maxHeartbeats 2000000 in
theorem rshape_bad (k n seg size : Int) (w : World) (hp : ¬ okP k n seg) :
    Calls Tryd.prog 56 #[.agg #[.int .i64 k, .int .i64 n, .int .i64 seg, .int .i64 0, .slice none 0 0], .int .i64 size] w fun x w' => Below w.heap.size w w' ∧ x = .returned (.tuple #[.agg #[.int .i64 0, .int .i64 0, .int .i64 0, .int .i64 0, .int .i64 0, .int .i64 0, .int .i64 0, .int .i64 0], .int .i64 3]) := by
  have q := fun w => rcheck_any k n seg w
  simp only [if_neg hp] at q
  have Q := hide q
  clear q
  go_enter Tryd.func56, Tryd.ntmps56
  go_wp2_with fail
  refine (Q.out _).mono ?_
  rintro x w1 ⟨b1, rfl⟩
  have hB2 := (Blk.new (w.alloc (.cells #[.int .i64 k, .int .i64 n, .int .i64 seg, .int .i64 0, .slice none 0 0] 90)) 60 #[.int .i64 0, .int .i64 0, .int .i64 0, .int .i64 0, .int .i64 0, .int .i64 0, .int .i64 0, .int .i64 0]).below' b1
  have B1 := hide (((Below.refl w.heap.size w).alloc (Nat.le_refl _) _).alloc (by simp) _ |>.trans (b1.mono (by simp; omega)))
  have HB2 := hide hB2
  clear b1 hB2
  go_wp2_with (refine wpList_store_row (o := ⟨none, .store _ _ _, _, _, _, _⟩) HB2.out #[.int .i64 0, .int .i64 0, .int .i64 0, .int .i64 0, .int .i64 0, .int .i64 0, .int .i64 0, .int .i64 0] rfl (by simp [Value.oneCell']) rfl 60 _ _ rfl (by kernel_rfl) (by simp only [World.size_alloc]; rfl) (by kernel_rfl) ?_; intro wf hb1 hg1)
  simp only [World.size_alloc] at hb1 hg1
  exact bodyPost_ret (results_row_tmp rfl _ _ (w.heap.size + 1) 60 #[.int .i64 0, .int .i64 0, .int .i64 0, .int .i64 0, .int .i64 0, .int .i64 0, .int .i64 0, .int .i64 0] (0, 0) _ rfl hb1 Tryd.underlying60 rfl (by kernel_rfl)) rfl ⟨B1.out.grown hg1 (by have := HB2.out.lt; simp at this; omega) (fun k hk => by cases hk; omega), rfl⟩

set_option maxRecDepth 100000 in
set_option maxHeartbeats 2000000 in
theorem rshape_size (k n seg size : Int) (w : World) (hp : okP k n seg) (hz : size ≤ 32 ∨ 16777216 < size) :
    Calls Tryd.prog 56 #[.agg #[.int .i64 k, .int .i64 n, .int .i64 seg, .int .i64 0, .slice none 0 0], .int .i64 size] w fun x w' => Below w.heap.size w w' ∧ x = .returned (.tuple #[.agg #[.int .i64 0, .int .i64 0, .int .i64 0, .int .i64 0, .int .i64 0, .int .i64 0, .int .i64 0, .int .i64 0], .int .i64 4]) := by
  have q := fun w => rcheck_any k n seg w
  simp only [if_pos hp] at q
  have Q := hide q
  clear q hp
  have hz' : size ≤ 32 ∨ (¬ size ≤ 32 ∧ 16777216 < size) := by omega
  rcases hz' with c1 | ⟨c1, c2⟩
  all_goals
    clear hz
    go_enter Tryd.func56, Tryd.ntmps56
    go_wp2_with fail
    refine (Q.out _).mono ?_
    rintro x w1 ⟨b1, rfl⟩
    have hB2 := (Blk.new (w.alloc (.cells #[.int .i64 k, .int .i64 n, .int .i64 seg, .int .i64 0, .slice none 0 0] 90)) 60 #[.int .i64 0, .int .i64 0, .int .i64 0, .int .i64 0, .int .i64 0, .int .i64 0, .int .i64 0, .int .i64 0]).below' b1
    have B1 := hide (((Below.refl w.heap.size w).alloc (Nat.le_refl _) _).alloc (by simp) _ |>.trans (b1.mono (by simp; omega)))
    have HB2 := hide hB2
    clear b1 hB2
    go_wp2_with (refine wpList_store_row (o := ⟨none, .store _ _ _, _, _, _, _⟩) HB2.out #[.int .i64 0, .int .i64 0, .int .i64 0, .int .i64 0, .int .i64 0, .int .i64 0, .int .i64 0, .int .i64 0] rfl (by simp [Value.oneCell']) rfl 60 _ _ rfl (by kernel_rfl) (by simp only [World.size_alloc]; rfl) (by kernel_rfl) ?_; intro wf hb1 hg1)
    simp only [World.size_alloc] at hb1 hg1
    exact bodyPost_ret (results_row_tmp rfl _ _ (w.heap.size + 1) 60 #[.int .i64 0, .int .i64 0, .int .i64 0, .int .i64 0, .int .i64 0, .int .i64 0, .int .i64 0, .int .i64 0] (0, 0) _ rfl hb1 Tryd.underlying60 rfl (by kernel_rfl)) rfl ⟨B1.out.grown hg1 (by have := HB2.out.lt; simp at this; omega) (fun k hk => by cases hk; omega), rfl⟩
end Go.Proofs.YteaagngikiaokaaDoor
