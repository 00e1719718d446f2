/- The contract of lay: the places of a share's parts. -/
import Derived.Test.YteaagngikiaokaaDoorShrM
import Derived.Test.YteaagngikiaokaaDoorUebM
namespace Go.Proofs.YteaagngikiaokaaDoor
open Go.RowKit

theorem idx0 (a b c d e : Value) (w : World) : Sem.run Tryd.prog (Instr.index 115 (.agg #[a, b, c, d, e]) (.int .i64 0)) w = .ok a w := by
  kernel_rfl
theorem idx1 (a b c d e : Value) (w : World) : Sem.run Tryd.prog (Instr.index 115 (.agg #[a, b, c, d, e]) (.int .i64 1)) w = .ok b w := by
  kernel_rfl
theorem idx2 (a b c d e : Value) (w : World) : Sem.run Tryd.prog (Instr.index 115 (.agg #[a, b, c, d, e]) (.int .i64 2)) w = .ok c w := by
  kernel_rfl
theorem idx3 (a b c d e : Value) (w : World) : Sem.run Tryd.prog (Instr.index 115 (.agg #[a, b, c, d, e]) (.int .i64 3)) w = .ok d w := by
  kernel_rfl
theorem idx4 (a b c d e : Value) (w : World) : Sem.run Tryd.prog (Instr.index 115 (.agg #[a, b, c, d, e]) (.int .i64 4)) w = .ok e w := by
  kernel_rfl
attribute [local go_sem] idx0 idx1 idx2 idx3 idx4

set_option maxRecDepth 100000 in
set_option maxHeartbeats 8000000 in
theorem lay_any (a c d f : Int) (n segs blk last L : Nat) (w : World) (hn : 1 ≤ n ∧ n ≤ 512) (hs : 1 ≤ segs ∧ segs ≤ 512) (hb : blk ≤ 1048576) (hl : last ≤ 1048576) (hL : L ≤ 1048576) :
    Calls Tryd.prog 77 #[.agg #[.int .i64 a, .int .i64 n, .int .i64 c, .int .i64 d, .int .i64 segs, .int .i64 f, .int .i64 blk, .int .i64 last], .int .i64 L] w fun x w' => Below w.heap.size w w' ∧
      x = .returned (.agg #[.int .i64 36, .int .i64 (36 + (L : Int)), .int .i64 (36 + (L : Int) + 32 * (chainLen n : Int)), .int .i64 (36 + (L : Int) + 32 * (chainLen n : Int) + 32 * (2 * (wid segs : Int) - 1)), .int .i64 (36 + (L : Int) + 32 * (chainLen n : Int) + 32 * (2 * (wid segs : Int) - 1) + 32 * (2 * (wid segs : Int) - 1)),
        .int .i64 (36 + (L : Int) + 32 * (chainLen n : Int) + 32 * (2 * (wid segs : Int) - 1) + 32 * (2 * (wid segs : Int) - 1) + (((segs : Int) - 1) * (blk : Int) + (last : Int)))]) := by
  have hc := chainLen_le n
  have hm := wid_le segs
  have hm2 := wid_pos segs
  have q1 := fun w => chain_any n w hn
  have q2 := fun w => nodes_any segs w hs
  generalize chainLen n = cl at *
  generalize wid segs = m at *
  obtain ⟨B, hB⟩ : ∃ B : Nat, B = (segs - 1) * blk := ⟨_, rfl⟩
  have hBl : B ≤ 511 * 1048576 := by rw [hB]; exact Nat.mul_le_mul (by omega) hb
  have e1 : ((segs : Int) - 1) * (blk : Int) = (B : Int) := by rw [hB, Int.natCast_mul]; congr 1; omega
  rw [e1]
  clear hB
  obtain ⟨s2, hs2⟩ : ∃ s2, s2 = 32 * (cl : Int) := ⟨_, rfl⟩
  obtain ⟨s3, hs3⟩ : ∃ s3, s3 = 32 * (2 * (m : Int) - 1) := ⟨_, rfl⟩
  obtain ⟨s5, hs5⟩ : ∃ s5, s5 = (B : Int) + (last : Int) := ⟨_, rfl⟩
  have Q1 := hide q1
  have Q2 := hide q2
  rw [← hs2, ← hs3, ← hs5]
  have HS := hide (And.intro hs2 (And.intro hs3 hs5))
  have r2 : 0 ≤ s2 ∧ s2 ≤ 1048576 := by omega
  have r3 : 0 ≤ s3 ∧ s3 ≤ 1048576 := by omega
  have r5 : 0 ≤ s5 ∧ s5 ≤ 1073741824 := by omega
  clear q1 q2 hs2 hs3 hs5
  go_enter Tryd.func77, Tryd.ntmps77
  go_wp2_with fail
  refine (Q1.out _).mono ?_
  rintro x w1 ⟨A, cc, rfl, b1⟩
  have HB := (((Blk.new w 60 #[.int .i64 a, .int .i64 n, .int .i64 c, .int .i64 d, .int .i64 segs, .int .i64 f, .int .i64 blk, .int .i64 last]).alloc (.cells (Array.replicate 6 (.int .i64 0)) 92))).below' b1
  have c4 : w1.cell? ⟨w.heap.size, 4, none⟩ = some (.int .i64 segs) := HB.cell 4
  have c6 : w1.cell? ⟨w.heap.size, 6, none⟩ = some (.int .i64 blk) := HB.cell 6
  have c7 : w1.cell? ⟨w.heap.size, 7, none⟩ = some (.int .i64 last) := HB.cell 7
  have hB2 := (Blk.new (w.alloc (.cells #[.int .i64 a, .int .i64 n, .int .i64 c, .int .i64 d, .int .i64 segs, .int .i64 f, .int .i64 blk, .int .i64 last] 60)) 92 (Array.replicate 6 (.int .i64 0))).below' b1
  have HB2 := hide hB2
  clear hB2
  have hsz := b1.size
  simp only [World.size_alloc] at hsz
  have B1 := hide (((Below.refl w.heap.size w).alloc (Nat.le_refl _) _).alloc (by simp) _ |>.trans (b1.mono (by simp; omega)))
  clear b1 HB
  go_wp2
  go_region_held3 (fun w' => w'.cell? ⟨w.heap.size, 4, none⟩ = some (.int .i64 segs) ∧ w'.cell? ⟨w.heap.size, 6, none⟩ = some (.int .i64 blk) ∧ w'.cell? ⟨w.heap.size, 7, none⟩ = some (.int .i64 last)) (go_keep) ((go_at_call 84; (with_reducible refine (Q2.out _).mono ?_); rintro e w1 ⟨rfl, rfl⟩))
  all_goals
    have e2 : IntKind.i64.wrap (32 * (cl : Int)) = s2 := by rw [HS.out.1]; exact IntWalk.i64_in _ (by omega)
    have e3 : IntKind.i64.wrap (32 * (2 * (m : Int) - 1)) = s3 := by rw [HS.out.2.1]; exact IntWalk.i64_in _ (by omega)
    have e4 : IntKind.i64.wrap ((segs : Int) - 1) = (segs : Int) - 1 := IntWalk.i64_in _ (by omega)
    have e5 : IntKind.i64.wrap (B : Int) = (B : Int) := IntWalk.i64_in _ (by omega)
    have e6 : IntKind.i64.wrap ((B : Int) + (last : Int)) = s5 := by rw [HS.out.2.2]; exact IntWalk.i64_in _ (by omega)
    simp only [e2, e3, e4, e1, e5, e6]
    have k7 := (Blk.new w1 115 #[.int .i64 (L : Int), .int .i64 s2, .int .i64 s3, .int .i64 s3, .int .i64 s5]).drew
    have k4 := (HB2.out.alloc (.cells #[.int .i64 (L : Int), .int .i64 s2, .int .i64 s3, .int .i64 s3, .int .i64 s5] 115)).drew
    have b7 : Below w.heap.size w (World.drew (w1.alloc (.cells #[.int .i64 (L : Int), .int .i64 s2, .int .i64 s3, .int .i64 s3, .int .i64 s5] 115))) := (B1.out.alloc B1.out.size (.cells #[.int .i64 (L : Int), .int .i64 s2, .int .i64 s3, .int .i64 s3, .int .i64 s5] 115)).drew
    simp only [World.size_alloc] at k4
    clear HB2 B1 e2 e3 e4 e5 e6 e1 Q1 Q2 HS
    have hlt := k7.lt
    generalize World.drew (w1.alloc (.cells #[.int .i64 (L : Int), .int .i64 s2, .int .i64 s3, .int .i64 s3, .int .i64 s5] 115)) = W at *
    generalize w1.heap.size = g7 at *
    have d0 : W.cell? ⟨g7, 0, none⟩ = some (.int .i64 (L : Int)) := k7.cell 0
    have d1 : W.cell? ⟨g7, 1, none⟩ = some (.int .i64 s2) := k7.cell 1
    have d2 : W.cell? ⟨g7, 2, none⟩ = some (.int .i64 s3) := k7.cell 2
    have d3 : W.cell? ⟨g7, 3, none⟩ = some (.int .i64 s3) := k7.cell 3
    have d4 : W.cell? ⟨g7, 4, none⟩ = some (.int .i64 s5) := k7.cell 4
    have hlt4 := k4.lt
    have hne4 : ¬ w.heap.size + 1 = W.heap.size := by omega
    have t1 : IntKind.i64.wrap (36 + (L : Int)) = 36 + (L : Int) := IntWalk.i64_in _ (by omega)
    have T1 := hide t1
    clear t1
    have t2 : IntKind.i64.wrap (36 + (L : Int) + s2) = 36 + (L : Int) + s2 := IntWalk.i64_in _ (by omega)
    have T2 := hide t2
    clear t2
    have t3 : IntKind.i64.wrap (36 + (L : Int) + s2 + s3) = 36 + (L : Int) + s2 + s3 := IntWalk.i64_in _ (by omega)
    have T3 := hide t3
    clear t3
    have t4 : IntKind.i64.wrap (36 + (L : Int) + s2 + s3 + s3) = 36 + (L : Int) + s2 + s3 + s3 := IntWalk.i64_in _ (by omega)
    have T4 := hide t4
    clear t4
    have t5 : IntKind.i64.wrap (36 + (L : Int) + s2 + s3 + s3 + s5) = 36 + (L : Int) + s2 + s3 + s3 + s5 := IntWalk.i64_in _ (by omega)
    have T5 := hide t5
    clear t5
    have K4 := hide k4
    have B7 := hide b7
    clear k7 k4 b7
    go_wp2
    clear d0 d1 d2 d3 d4 c4 c6 c7 r2 r3 r5 hL hb hl hBl hm hm2 hc hn hs
    go_loopw [9, 41] (fun u9 u41 wr => (u41 = .int .i64 0 ∧ u9 = .int .i64 (36) ∧ wr = W.alloc (.cells #[.int .i64 0, .int .i64 0, .int .i64 0, .int .i64 0, .int .i64 0, .int .i64 0] 92)) ∨ (u41 = .int .i64 1 ∧ u9 = .int .i64 (36 + (L : Int)) ∧ wr = W.alloc (.cells #[.int .i64 (36), .int .i64 0, .int .i64 0, .int .i64 0, .int .i64 0, .int .i64 0] 92)) ∨ (u41 = .int .i64 2 ∧ u9 = .int .i64 (36 + (L : Int) + s2) ∧ wr = W.alloc (.cells #[.int .i64 (36), .int .i64 (36 + (L : Int)), .int .i64 0, .int .i64 0, .int .i64 0, .int .i64 0] 92)) ∨ (u41 = .int .i64 3 ∧ u9 = .int .i64 (36 + (L : Int) + s2 + s3) ∧ wr = W.alloc (.cells #[.int .i64 (36), .int .i64 (36 + (L : Int)), .int .i64 (36 + (L : Int) + s2), .int .i64 0, .int .i64 0, .int .i64 0] 92)) ∨ (u41 = .int .i64 4 ∧ u9 = .int .i64 (36 + (L : Int) + s2 + s3 + s3) ∧ wr = W.alloc (.cells #[.int .i64 (36), .int .i64 (36 + (L : Int)), .int .i64 (36 + (L : Int) + s2), .int .i64 (36 + (L : Int) + s2 + s3), .int .i64 0, .int .i64 0] 92)) ∨ (u41 = .int .i64 5 ∧ u9 = .int .i64 (36 + (L : Int) + s2 + s3 + s3 + s5) ∧ wr = W.alloc (.cells #[.int .i64 (36), .int .i64 (36 + (L : Int)), .int .i64 (36 + (L : Int) + s2), .int .i64 (36 + (L : Int) + s2 + s3), .int .i64 (36 + (L : Int) + s2 + s3 + s3), .int .i64 0] 92))) (fun _ u41 _ => 5 - (intOf u41).toNat)
    case atStart => exact .inl ⟨rfl, rfl, rfl⟩
    case round =>
      rcases hrel with ⟨rfl, rfl, rfl⟩ | ⟨rfl, rfl, rfl⟩ | ⟨rfl, rfl, rfl⟩ | ⟨rfl, rfl, rfl⟩ | ⟨rfl, rfl, rfl⟩ | ⟨rfl, rfl, rfl⟩
      · have t1 := T1.out
        clear T1 T2 T3 T4 T5
        go_wp2
        go_roundw
        case rel => exact (.inr (.inl ⟨rfl, by simp, by simp⟩))
        case measure => simp [intOf]
      · have t2 := T2.out
        clear T1 T2 T3 T4 T5
        go_wp2
        go_roundw
        case rel => exact (.inr (.inr (.inl ⟨rfl, by simp, by simp⟩)))
        case measure => simp [intOf]
      · have t3 := T3.out
        clear T1 T2 T3 T4 T5
        go_wp2
        go_roundw
        case rel => exact (.inr (.inr (.inr (.inl ⟨rfl, by simp, by simp⟩))))
        case measure => simp [intOf]
      · have t4 := T4.out
        clear T1 T2 T3 T4 T5
        go_wp2
        go_roundw
        case rel => exact (.inr (.inr (.inr (.inr (.inl ⟨rfl, by simp, by simp⟩)))))
        case measure => simp [intOf]
      · have t5 := T5.out
        clear T1 T2 T3 T4 T5
        go_wp2
        go_roundw
        case rel => exact (.inr (.inr (.inr (.inr (.inr ⟨rfl, by simp, by simp⟩)))))
        case measure => simp [intOf]
      · clear T1 T2 T3 T4 T5
        go_wp2_with (refine wpList_store_row (o := ⟨none, .store _ _ _, _, _, _, _⟩) (K4.out.alloc _) #[.int .i64 (36), .int .i64 (36 + (L : Int)), .int .i64 (36 + (L : Int) + s2), .int .i64 (36 + (L : Int) + s2 + s3), .int .i64 (36 + (L : Int) + s2 + s3 + s3), .int .i64 (36 + (L : Int) + s2 + s3 + s3 + s5)] rfl (by simp [Value.oneCell']) rfl 92 _ _ rfl (by kernel_rfl) rfl rfl ?_; intro wf hb1 hg1)
        exact bodyPost_ret (results_cell_row rfl _ _ (w.heap.size + 1) 92 #[.int .i64 (36), .int .i64 (36 + (L : Int)), .int .i64 (36 + (L : Int) + s2), .int .i64 (36 + (L : Int) + s2 + s3), .int .i64 (36 + (L : Int) + s2 + s3 + s3), .int .i64 (36 + (L : Int) + s2 + s3 + s3 + s5)] (0, 0) _ rfl hb1 Tryd.underlying92 rfl (by kernel_rfl)) rfl ⟨(B7.out.alloc B7.out.size _).grown hg1 (by simp; omega) (fun k hk => by cases hk; omega), rfl⟩
end Go.Proofs.YteaagngikiaokaaDoor
