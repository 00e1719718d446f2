/- Joined texts: ShpE. -/
import Derived.Test.YtcpceaflnnkhnaaGreatDoorJ20
import Derived.Deep.RegionHeldLaw

/- The contract of the document's Again at whatever numbers: it is the program's. -/
namespace Go.Proofs.YtcpceaflnnkhnaaGreatDoor
open Go.RowKit

theorem upN_mono (a b k : Nat) (h : a ≤ b) : upN a k ≤ upN b k := by
  unfold upN
  exact Nat.div_le_div_right (by omega)
theorem upN_mul (q k : Nat) (h : 1 ≤ k) : upN (k * q) k = q := by
  unfold upN
  rw [show k * q + k - 1 = k * q + (k - 1) by omega, Nat.mul_add_div (by omega), Nat.div_eq_of_lt (by omega)]
  rfl

theorem blk_newg {W : World} {g : Nat} {t : TypeId} {cs : Array Value} (h : W.heap.size = g) : Blk (W.alloc (.cells cs t)) g t cs := by subst h; exact Blk.new W t cs
theorem keep3 {W W' : World} {g : Nat} {a b c : Value} (hb : Below W.heap.size W W') (h : W.cell? ⟨g, 0, none⟩ = some a ∧ W.cell? ⟨g, 1, none⟩ = some b ∧ W.cell? ⟨g, 2, none⟩ = some c) :
    W'.cell? ⟨g, 0, none⟩ = some a ∧ W'.cell? ⟨g, 1, none⟩ = some b ∧ W'.cell? ⟨g, 2, none⟩ = some c :=
  ⟨(hb.cell (World.block_lt_of_cell? _ _ h.1)).trans h.1, (hb.cell (World.block_lt_of_cell? _ _ h.2.1)).trans h.2.1, (hb.cell (World.block_lt_of_cell? _ _ h.2.2)).trans h.2.2⟩

/-- The cells of a shape. -/
def shapeC (k n seg size : Nat) : Array Value := #[.int .i64 (k : Int), .int .i64 (n : Int), .int .i64 (seg : Int), .int .i64 (size : Int), .int .i64 (upN size seg : Int), .int .i64 ((size - (upN size seg - 1) * seg : Nat) : Int), .int .i64 ((seg / k : Nat) : Int), .int .i64 (upN (size - (upN size seg - 1) * seg) k : Int)]

set_option maxRecDepth 100000 in
set_option maxHeartbeats 4000000 in
theorem rshape_ok (k n s size : Nat) (w : World) (hp : okP k n s) (hz : 32 < size ∧ size ≤ 16777216) :
    Calls Tryz.prog 71 #[.agg #[.int .i64 (k : Int), .int .i64 (n : Int), .int .i64 (s : Int), .int .i64 0, .slice none 0 0], .int .i64 (size : Int)] w fun x w' => Below w.heap.size w w' ∧
      x = .returned (if upN size (k * upN s k) ≤ 512 then .tuple #[.agg (shapeC k n (k * upN s k) size), .int .i64 0] else .tuple #[.agg #[.int .i64 0, .int .i64 0, .int .i64 0, .int .i64 0, .int .i64 0, .int .i64 0, .int .i64 0, .int .i64 0], .int .i64 3]) := by
  have q := fun w => rcheck_any k n s w
  simp only [if_pos hp] at q
  have hp' := hp
  unfold okP at hp'
  have h1 := upN_spec s k (by omega) (by omega)
  have h5 : k * upN s k = (upN s k - 1) * k + k := by
    obtain ⟨u, hu⟩ : ∃ u, upN s k = u + 1 := ⟨upN s k - 1, by omega⟩
    rw [hu, Nat.add_sub_cancel, Nat.mul_add, Nat.mul_comm]; omega
  have h6 := upN_le s k (by omega)
  have hu := fun w => rup_any s k w (by omega) (by omega) (by omega)
  have hl := fun w => rlaid_any k n (k * upN s k) size w (by omega) (by omega) (by omega) (by omega) (by omega) (by omega)
  have e1 : IntKind.i64.wrap ((k : Int) * (upN s k : Int)) = ((k * upN s k : Nat) : Int) := by
    rw [← Int.natCast_mul]; exact IntWalk.i64_in _ (by omega)
  generalize k * upN s k = g at *
  have hul := upN_le size g (by omega)
  unfold shapeV at hl
  unfold shapeC
  have HU := hide hu
  have HL := hide hl
  have E1 := hide e1
  generalize upN s k = U at *
  generalize (size - (upN size g - 1) * g : Nat) = T at *
  generalize upN T k = C at *
  generalize (g / k : Nat) = B at *
  generalize upN size g = S at *
  generalize (T : Int) = T at *
  generalize (B : Int) = B at *
  generalize (C : Int) = C at *
  have Q := hide q
  have c1 : ¬ (size : Int) ≤ 32 := by omega
  have c2 : ¬ 16777216 < (size : Int) := by omega
  clear q hu hl hp hp' h1 h5 h6 hul e1
  by_cases hS : S ≤ 512
  · rw [if_pos hS]
    have i1 : ¬ 512 < (S : Int) := by omega
    go_enter Tryz.func71, Tryz.ntmps71
    go_wp2_with fail
    refine (Q.out _).mono ?_
    rintro x w1 ⟨b1, rfl⟩
    have hB2 := (Blk.new (w.alloc (.cells #[.int .i64 (k : Int), .int .i64 (n : Int), .int .i64 (s : Int), .int .i64 0, .slice none 0 0] 142)) 100 #[.int .i64 0, .int .i64 0, .int .i64 0, .int .i64 0, .int .i64 0, .int .i64 0, .int .i64 0, .int .i64 0]).below' b1
    have hB0 := ((Blk.new w 142 #[.int .i64 (k : Int), .int .i64 (n : Int), .int .i64 (s : Int), .int .i64 0, .slice none 0 0]).alloc (.cells #[.int .i64 0, .int .i64 0, .int .i64 0, .int .i64 0, .int .i64 0, .int .i64 0, .int .i64 0, .int .i64 0] 100)).below' b1
    have k0 : w1.cell? ⟨w.heap.size, 0, none⟩ = some (.int .i64 (k : Int)) := hB0.cell 0
    have k1 : w1.cell? ⟨w.heap.size, 1, none⟩ = some (.int .i64 (n : Int)) := hB0.cell 1
    have k2 : w1.cell? ⟨w.heap.size, 2, none⟩ = some (.int .i64 (s : Int)) := hB0.cell 2
    have B1 := hide (((Below.refl w.heap.size w).alloc (Nat.le_refl _) _).alloc (by simp) _ |>.trans (b1.mono (by simp; omega)))
    simp only [World.size_alloc] at hB2
    have HB2 := hide hB2
    clear b1 hB2 hB0
    go_wp2
    all_goals try (exfalso; omega)
    have e1 := E1.out
    have hl1 := HB2.out.lt
    have hn1 : ¬ w.heap.size = w1.heap.size := by omega
    have hn2 : ¬ w1.heap.size = w.heap.size := by omega
    have KP := hide (fun W' (h : Below w1.heap.size w1 W') => keep3 h ⟨k0, k1, k2⟩)
    go_region_held3 (fun w' => w'.cell? ⟨w.heap.size, 0, none⟩ = some (.int .i64 (k : Int)) ∧ w'.cell? ⟨w.heap.size, 1, none⟩ = some (.int .i64 (n : Int)) ∧ w'.cell? ⟨w.heap.size, 2, none⟩ = some (.int .i64 (s : Int))) (first | (go_keep; done) | exact KP.out _ (by (repeat (first | with_reducible exact Below.refl _ _ | with_reducible refine Below.drew ?_ | with_reducible refine below_drewN ?_ _ | with_reducible refine Below.al0 ?_ _ | with_reducible refine Below.step ?_ b6)))) (first | (go_at_call 91; (with_reducible refine (HU.out _).mono ?_); rintro e w5 ⟨rfl, m5, rfl⟩) | (go_at_call 90; (try simp only [e1]); (with_reducible refine (HL.out _).mono ?_); rintro e w6 ⟨rfl, b6⟩; have HB6 := hide (Blk.below' (g := w.heap.size + 1) (t := 100) (cs := #[.int .i64 0, .int .i64 0, .int .i64 0, .int .i64 0, .int .i64 0, .int .i64 0, .int .i64 0, .int .i64 0]) (by (repeat (first | with_reducible exact HB2.out | with_reducible refine Blk.drewN ?_ _ | with_reducible refine Blk.drew ?_ | with_reducible refine Blk.alloc ?_ _))) b6); have HL6 := hide (Below.step (w := w) (by (repeat (first | with_reducible exact B1.out | with_reducible refine Below.drew ?_ | with_reducible refine below_drewN ?_ _ | with_reducible refine Below.al0 ?_ _))) b6); (first | ((have z6 : Blk w6 w1.heap.size 100 #[.int .i64 0, .int .i64 0, .int .i64 0, .int .i64 0, .int .i64 0, .int .i64 0, .int .i64 0, .int .i64 0] := Blk.below' ((Blk.new w1 100 #[.int .i64 0, .int .i64 0, .int .i64 0, .int .i64 0, .int .i64 0, .int .i64 0, .int .i64 0, .int .i64 0]).drewN _) b6); have y0 : w6.cell? ⟨w1.heap.size, 0, none⟩ = some (.int .i64 0) := z6.cell 0; have g0 : w6.frozen? ⟨w1.heap.size, 0, none⟩ = false := z6.frozen 0; have y1 : w6.cell? ⟨w1.heap.size, 1, none⟩ = some (.int .i64 0) := z6.cell 1; have g1 : w6.frozen? ⟨w1.heap.size, 1, none⟩ = false := z6.frozen 1; have y2 : w6.cell? ⟨w1.heap.size, 2, none⟩ = some (.int .i64 0) := z6.cell 2; have g2 : w6.frozen? ⟨w1.heap.size, 2, none⟩ = false := z6.frozen 2; have y3 : w6.cell? ⟨w1.heap.size, 3, none⟩ = some (.int .i64 0) := z6.cell 3; have g3 : w6.frozen? ⟨w1.heap.size, 3, none⟩ = false := z6.frozen 3; have y4 : w6.cell? ⟨w1.heap.size, 4, none⟩ = some (.int .i64 0) := z6.cell 4; have g4 : w6.frozen? ⟨w1.heap.size, 4, none⟩ = false := z6.frozen 4; have y5 : w6.cell? ⟨w1.heap.size, 5, none⟩ = some (.int .i64 0) := z6.cell 5; have g5 : w6.frozen? ⟨w1.heap.size, 5, none⟩ = false := z6.frozen 5; have y6 : w6.cell? ⟨w1.heap.size, 6, none⟩ = some (.int .i64 0) := z6.cell 6; have g6 : w6.frozen? ⟨w1.heap.size, 6, none⟩ = false := z6.frozen 6; have y7 : w6.cell? ⟨w1.heap.size, 7, none⟩ = some (.int .i64 0) := z6.cell 7; have g7 : w6.frozen? ⟨w1.heap.size, 7, none⟩ = false := z6.frozen 7; have hn6 := z6.lt; have hn3 : ¬ w1.heap.size = w6.heap.size := (by omega); have Z6 := hide z6; clear z6) | ((have z6 : Blk w6 w1.heap.size 100 #[.int .i64 0, .int .i64 0, .int .i64 0, .int .i64 0, .int .i64 0, .int .i64 0, .int .i64 0, .int .i64 0] := Blk.below' (blk_newg (W := w1.drewN _) (g := w1.heap.size) rfl) b6); have y0 : w6.cell? ⟨w1.heap.size, 0, none⟩ = some (.int .i64 0) := z6.cell 0; have g0 : w6.frozen? ⟨w1.heap.size, 0, none⟩ = false := z6.frozen 0; have y1 : w6.cell? ⟨w1.heap.size, 1, none⟩ = some (.int .i64 0) := z6.cell 1; have g1 : w6.frozen? ⟨w1.heap.size, 1, none⟩ = false := z6.frozen 1; have y2 : w6.cell? ⟨w1.heap.size, 2, none⟩ = some (.int .i64 0) := z6.cell 2; have g2 : w6.frozen? ⟨w1.heap.size, 2, none⟩ = false := z6.frozen 2; have y3 : w6.cell? ⟨w1.heap.size, 3, none⟩ = some (.int .i64 0) := z6.cell 3; have g3 : w6.frozen? ⟨w1.heap.size, 3, none⟩ = false := z6.frozen 3; have y4 : w6.cell? ⟨w1.heap.size, 4, none⟩ = some (.int .i64 0) := z6.cell 4; have g4 : w6.frozen? ⟨w1.heap.size, 4, none⟩ = false := z6.frozen 4; have y5 : w6.cell? ⟨w1.heap.size, 5, none⟩ = some (.int .i64 0) := z6.cell 5; have g5 : w6.frozen? ⟨w1.heap.size, 5, none⟩ = false := z6.frozen 5; have y6 : w6.cell? ⟨w1.heap.size, 6, none⟩ = some (.int .i64 0) := z6.cell 6; have g6 : w6.frozen? ⟨w1.heap.size, 6, none⟩ = false := z6.frozen 6; have y7 : w6.cell? ⟨w1.heap.size, 7, none⟩ = some (.int .i64 0) := z6.cell 7; have g7 : w6.frozen? ⟨w1.heap.size, 7, none⟩ = false := z6.frozen 7; have hn6 := z6.lt; have hn3 : ¬ w1.heap.size = w6.heap.size := (by omega); have Z6 := hide z6; clear z6) | skip)))
    all_goals
      have hw6 := HB6.out.lt
      first
        | (have ec := blk_set8 Z6.out (.int .i64 (k : Int)) (.int .i64 (n : Int)) (.int .i64 (g : Int)) (.int .i64 (size : Int)) (.int .i64 (S : Int)) (.int .i64 T) (.int .i64 B) (.int .i64 C)
           have e4 : Blk (set8 w6 w1.heap.size (.int .i64 (k : Int)) (.int .i64 (n : Int)) (.int .i64 (g : Int)) (.int .i64 (size : Int)) (.int .i64 (S : Int)) (.int .i64 T) (.int .i64 B) (.int .i64 C)) (w.heap.size + 1) 100 #[.int .i64 0, .int .i64 0, .int .i64 0, .int .i64 0, .int .i64 0, .int .i64 0, .int .i64 0, .int .i64 0] := by
             unfold set8
             exact (((((((HB6.out.far (by simp; omega) _).far (by simp; omega) _).far (by simp; omega) _).far (by simp; omega) _).far (by simp; omega) _).far (by simp; omega) _).far (by simp; omega) _).far (by simp; omega) _
           have eB : Below w.heap.size w (set8 w6 w1.heap.size (.int .i64 (k : Int)) (.int .i64 (n : Int)) (.int .i64 (g : Int)) (.int .i64 (size : Int)) (.int .i64 (S : Int)) (.int .i64 T) (.int .i64 B) (.int .i64 C)) := by
             unfold set8
             go_grown
             exact HL6.out
           refine (show Exit.then _ _ _ _ (set8 w6 w1.heap.size (.int .i64 (k : Int)) (.int .i64 (n : Int)) (.int .i64 (g : Int)) (.int .i64 (size : Int)) (.int .i64 (S : Int)) (.int .i64 T) (.int .i64 B) (.int .i64 C)) from ?_)
           clear y0 y1 y2 y3 y4 y5 y6 y7 g0 g1 g2 g3 g4 g5 g6 g7 Z6
           generalize set8 w6 w1.heap.size (.int .i64 (k : Int)) (.int .i64 (n : Int)) (.int .i64 (g : Int)) (.int .i64 (size : Int)) (.int .i64 (S : Int)) (.int .i64 T) (.int .i64 B) (.int .i64 C) = W7 at *
           generalize w1.heap.size = g7 at *)
        | (have e4 := HB6.out.alloc (.cells #[.int .i64 (k : Int), .int .i64 (n : Int), .int .i64 (g : Int), .int .i64 (size : Int), .int .i64 (S : Int), .int .i64 T, .int .i64 B, .int .i64 C] 100)
           have eB := HL6.out.alloc HL6.out.size (.cells #[.int .i64 (k : Int), .int .i64 (n : Int), .int .i64 (g : Int), .int .i64 (size : Int), .int .i64 (S : Int), .int .i64 T, .int .i64 B, .int .i64 C] 100)
           have ec := Blk.new w6 100 #[.int .i64 (k : Int), .int .i64 (n : Int), .int .i64 (g : Int), .int .i64 (size : Int), .int .i64 (S : Int), .int .i64 T, .int .i64 B, .int .i64 C]
           generalize w6.alloc (.cells #[.int .i64 (k : Int), .int .i64 (n : Int), .int .i64 (g : Int), .int .i64 (size : Int), .int .i64 (S : Int), .int .i64 T, .int .i64 B, .int .i64 C] 100) = W7 at *
           generalize w6.heap.size = g7 at *)
      have E4 := hide e4
      have EB := hide eB
      have c4 : W7.cell? ⟨g7, 4, none⟩ = some (.int .i64 (S : Int)) := ec.cell 4
      have d0 : W7.cell? ⟨g7, 0, none⟩ = some (.int .i64 (k : Int)) := ec.cell 0
      have d1 : W7.cell? ⟨g7, 1, none⟩ = some (.int .i64 (n : Int)) := ec.cell 1
      have d2 : W7.cell? ⟨g7, 2, none⟩ = some (.int .i64 (g : Int)) := ec.cell 2
      have d3 : W7.cell? ⟨g7, 3, none⟩ = some (.int .i64 (size : Int)) := ec.cell 3
      have d5 : W7.cell? ⟨g7, 5, none⟩ = some (.int .i64 T) := ec.cell 5
      have d6 : W7.cell? ⟨g7, 6, none⟩ = some (.int .i64 B) := ec.cell 6
      have d7 : W7.cell? ⟨g7, 7, none⟩ = some (.int .i64 C) := ec.cell 7
      clear e4 eB ec HB6 HL6 HU HL Q hl1 hn1 hn2 KP b6 k0 k1 k2
      go_wp2_with (refine wpList_store_row (o := ⟨none, .store _ _ _, _, _, _, _⟩) E4.out #[.int .i64 (k : Int), .int .i64 (n : Int), .int .i64 (g : Int), .int .i64 (size : Int), .int .i64 (S : Int), .int .i64 T, .int .i64 B, .int .i64 C] rfl (by simp [Value.oneCell']) rfl 100 _ _ rfl (by kernel_rfl) (by rfl) (by first | rfl | kernel_rfl) ?_; intro wf hb1 hg1)
      exact bodyPost_ret (results_row_tmp rfl _ _ (w.heap.size + 1) 100 #[.int .i64 (k : Int), .int .i64 (n : Int), .int .i64 (g : Int), .int .i64 (size : Int), .int .i64 (S : Int), .int .i64 T, .int .i64 B, .int .i64 C] (0, 0) _ rfl hb1 Tryz.underlying100 rfl (by kernel_rfl)) rfl ⟨EB.out.grown hg1 (by have := EB.out.size; omega) (fun k hk => by cases hk; omega), rfl⟩
  · rw [if_neg hS]
    have i1 : 512 < (S : Int) := by omega
    go_enter Tryz.func71, Tryz.ntmps71
    go_wp2_with fail
    refine (Q.out _).mono ?_
    rintro x w1 ⟨b1, rfl⟩
    have hB2 := (Blk.new (w.alloc (.cells #[.int .i64 (k : Int), .int .i64 (n : Int), .int .i64 (s : Int), .int .i64 0, .slice none 0 0] 142)) 100 #[.int .i64 0, .int .i64 0, .int .i64 0, .int .i64 0, .int .i64 0, .int .i64 0, .int .i64 0, .int .i64 0]).below' b1
    have hB0 := ((Blk.new w 142 #[.int .i64 (k : Int), .int .i64 (n : Int), .int .i64 (s : Int), .int .i64 0, .slice none 0 0]).alloc (.cells #[.int .i64 0, .int .i64 0, .int .i64 0, .int .i64 0, .int .i64 0, .int .i64 0, .int .i64 0, .int .i64 0] 100)).below' b1
    have k0 : w1.cell? ⟨w.heap.size, 0, none⟩ = some (.int .i64 (k : Int)) := hB0.cell 0
    have k1 : w1.cell? ⟨w.heap.size, 1, none⟩ = some (.int .i64 (n : Int)) := hB0.cell 1
    have k2 : w1.cell? ⟨w.heap.size, 2, none⟩ = some (.int .i64 (s : Int)) := hB0.cell 2
    have B1 := hide (((Below.refl w.heap.size w).alloc (Nat.le_refl _) _).alloc (by simp) _ |>.trans (b1.mono (by simp; omega)))
    simp only [World.size_alloc] at hB2
    have HB2 := hide hB2
    clear b1 hB2 hB0
    go_wp2
    all_goals try (exfalso; omega)
    have e1 := E1.out
    have hl1 := HB2.out.lt
    have hn1 : ¬ w.heap.size = w1.heap.size := by omega
    have hn2 : ¬ w1.heap.size = w.heap.size := by omega
    have KP := hide (fun W' (h : Below w1.heap.size w1 W') => keep3 h ⟨k0, k1, k2⟩)
    go_region_held3 (fun w' => w'.cell? ⟨w.heap.size, 0, none⟩ = some (.int .i64 (k : Int)) ∧ w'.cell? ⟨w.heap.size, 1, none⟩ = some (.int .i64 (n : Int)) ∧ w'.cell? ⟨w.heap.size, 2, none⟩ = some (.int .i64 (s : Int))) (first | (go_keep; done) | exact KP.out _ (by (repeat (first | with_reducible exact Below.refl _ _ | with_reducible refine Below.drew ?_ | with_reducible refine below_drewN ?_ _ | with_reducible refine Below.al0 ?_ _ | with_reducible refine Below.step ?_ b6)))) (first | (go_at_call 91; (with_reducible refine (HU.out _).mono ?_); rintro e w5 ⟨rfl, m5, rfl⟩) | (go_at_call 90; (try simp only [e1]); (with_reducible refine (HL.out _).mono ?_); rintro e w6 ⟨rfl, b6⟩; have HB6 := hide (Blk.below' (g := w.heap.size + 1) (t := 100) (cs := #[.int .i64 0, .int .i64 0, .int .i64 0, .int .i64 0, .int .i64 0, .int .i64 0, .int .i64 0, .int .i64 0]) (by (repeat (first | with_reducible exact HB2.out | with_reducible refine Blk.drewN ?_ _ | with_reducible refine Blk.drew ?_ | with_reducible refine Blk.alloc ?_ _))) b6); have HL6 := hide (Below.step (w := w) (by (repeat (first | with_reducible exact B1.out | with_reducible refine Below.drew ?_ | with_reducible refine below_drewN ?_ _ | with_reducible refine Below.al0 ?_ _))) b6); (first | ((have z6 : Blk w6 w1.heap.size 100 #[.int .i64 0, .int .i64 0, .int .i64 0, .int .i64 0, .int .i64 0, .int .i64 0, .int .i64 0, .int .i64 0] := Blk.below' ((Blk.new w1 100 #[.int .i64 0, .int .i64 0, .int .i64 0, .int .i64 0, .int .i64 0, .int .i64 0, .int .i64 0, .int .i64 0]).drewN _) b6); have y0 : w6.cell? ⟨w1.heap.size, 0, none⟩ = some (.int .i64 0) := z6.cell 0; have g0 : w6.frozen? ⟨w1.heap.size, 0, none⟩ = false := z6.frozen 0; have y1 : w6.cell? ⟨w1.heap.size, 1, none⟩ = some (.int .i64 0) := z6.cell 1; have g1 : w6.frozen? ⟨w1.heap.size, 1, none⟩ = false := z6.frozen 1; have y2 : w6.cell? ⟨w1.heap.size, 2, none⟩ = some (.int .i64 0) := z6.cell 2; have g2 : w6.frozen? ⟨w1.heap.size, 2, none⟩ = false := z6.frozen 2; have y3 : w6.cell? ⟨w1.heap.size, 3, none⟩ = some (.int .i64 0) := z6.cell 3; have g3 : w6.frozen? ⟨w1.heap.size, 3, none⟩ = false := z6.frozen 3; have y4 : w6.cell? ⟨w1.heap.size, 4, none⟩ = some (.int .i64 0) := z6.cell 4; have g4 : w6.frozen? ⟨w1.heap.size, 4, none⟩ = false := z6.frozen 4; have y5 : w6.cell? ⟨w1.heap.size, 5, none⟩ = some (.int .i64 0) := z6.cell 5; have g5 : w6.frozen? ⟨w1.heap.size, 5, none⟩ = false := z6.frozen 5; have y6 : w6.cell? ⟨w1.heap.size, 6, none⟩ = some (.int .i64 0) := z6.cell 6; have g6 : w6.frozen? ⟨w1.heap.size, 6, none⟩ = false := z6.frozen 6; have y7 : w6.cell? ⟨w1.heap.size, 7, none⟩ = some (.int .i64 0) := z6.cell 7; have g7 : w6.frozen? ⟨w1.heap.size, 7, none⟩ = false := z6.frozen 7; have hn6 := z6.lt; have hn3 : ¬ w1.heap.size = w6.heap.size := (by omega); have Z6 := hide z6; clear z6) | ((have z6 : Blk w6 w1.heap.size 100 #[.int .i64 0, .int .i64 0, .int .i64 0, .int .i64 0, .int .i64 0, .int .i64 0, .int .i64 0, .int .i64 0] := Blk.below' (blk_newg (W := w1.drewN _) (g := w1.heap.size) rfl) b6); have y0 : w6.cell? ⟨w1.heap.size, 0, none⟩ = some (.int .i64 0) := z6.cell 0; have g0 : w6.frozen? ⟨w1.heap.size, 0, none⟩ = false := z6.frozen 0; have y1 : w6.cell? ⟨w1.heap.size, 1, none⟩ = some (.int .i64 0) := z6.cell 1; have g1 : w6.frozen? ⟨w1.heap.size, 1, none⟩ = false := z6.frozen 1; have y2 : w6.cell? ⟨w1.heap.size, 2, none⟩ = some (.int .i64 0) := z6.cell 2; have g2 : w6.frozen? ⟨w1.heap.size, 2, none⟩ = false := z6.frozen 2; have y3 : w6.cell? ⟨w1.heap.size, 3, none⟩ = some (.int .i64 0) := z6.cell 3; have g3 : w6.frozen? ⟨w1.heap.size, 3, none⟩ = false := z6.frozen 3; have y4 : w6.cell? ⟨w1.heap.size, 4, none⟩ = some (.int .i64 0) := z6.cell 4; have g4 : w6.frozen? ⟨w1.heap.size, 4, none⟩ = false := z6.frozen 4; have y5 : w6.cell? ⟨w1.heap.size, 5, none⟩ = some (.int .i64 0) := z6.cell 5; have g5 : w6.frozen? ⟨w1.heap.size, 5, none⟩ = false := z6.frozen 5; have y6 : w6.cell? ⟨w1.heap.size, 6, none⟩ = some (.int .i64 0) := z6.cell 6; have g6 : w6.frozen? ⟨w1.heap.size, 6, none⟩ = false := z6.frozen 6; have y7 : w6.cell? ⟨w1.heap.size, 7, none⟩ = some (.int .i64 0) := z6.cell 7; have g7 : w6.frozen? ⟨w1.heap.size, 7, none⟩ = false := z6.frozen 7; have hn6 := z6.lt; have hn3 : ¬ w1.heap.size = w6.heap.size := (by omega); have Z6 := hide z6; clear z6) | skip)))
    all_goals
      have hw6 := HB6.out.lt
      first
        | (have ec := blk_set8 Z6.out (.int .i64 (k : Int)) (.int .i64 (n : Int)) (.int .i64 (g : Int)) (.int .i64 (size : Int)) (.int .i64 (S : Int)) (.int .i64 T) (.int .i64 B) (.int .i64 C)
           have e4 : Blk (set8 w6 w1.heap.size (.int .i64 (k : Int)) (.int .i64 (n : Int)) (.int .i64 (g : Int)) (.int .i64 (size : Int)) (.int .i64 (S : Int)) (.int .i64 T) (.int .i64 B) (.int .i64 C)) (w.heap.size + 1) 100 #[.int .i64 0, .int .i64 0, .int .i64 0, .int .i64 0, .int .i64 0, .int .i64 0, .int .i64 0, .int .i64 0] := by
             unfold set8
             exact (((((((HB6.out.far (by simp; omega) _).far (by simp; omega) _).far (by simp; omega) _).far (by simp; omega) _).far (by simp; omega) _).far (by simp; omega) _).far (by simp; omega) _).far (by simp; omega) _
           have eB : Below w.heap.size w (set8 w6 w1.heap.size (.int .i64 (k : Int)) (.int .i64 (n : Int)) (.int .i64 (g : Int)) (.int .i64 (size : Int)) (.int .i64 (S : Int)) (.int .i64 T) (.int .i64 B) (.int .i64 C)) := by
             unfold set8
             go_grown
             exact HL6.out
           refine (show Exit.then _ _ _ _ (set8 w6 w1.heap.size (.int .i64 (k : Int)) (.int .i64 (n : Int)) (.int .i64 (g : Int)) (.int .i64 (size : Int)) (.int .i64 (S : Int)) (.int .i64 T) (.int .i64 B) (.int .i64 C)) from ?_)
           clear y0 y1 y2 y3 y4 y5 y6 y7 g0 g1 g2 g3 g4 g5 g6 g7 Z6
           generalize set8 w6 w1.heap.size (.int .i64 (k : Int)) (.int .i64 (n : Int)) (.int .i64 (g : Int)) (.int .i64 (size : Int)) (.int .i64 (S : Int)) (.int .i64 T) (.int .i64 B) (.int .i64 C) = W7 at *
           generalize w1.heap.size = g7 at *)
        | (have e4 := HB6.out.alloc (.cells #[.int .i64 (k : Int), .int .i64 (n : Int), .int .i64 (g : Int), .int .i64 (size : Int), .int .i64 (S : Int), .int .i64 T, .int .i64 B, .int .i64 C] 100)
           have eB := HL6.out.alloc HL6.out.size (.cells #[.int .i64 (k : Int), .int .i64 (n : Int), .int .i64 (g : Int), .int .i64 (size : Int), .int .i64 (S : Int), .int .i64 T, .int .i64 B, .int .i64 C] 100)
           have ec := Blk.new w6 100 #[.int .i64 (k : Int), .int .i64 (n : Int), .int .i64 (g : Int), .int .i64 (size : Int), .int .i64 (S : Int), .int .i64 T, .int .i64 B, .int .i64 C]
           generalize w6.alloc (.cells #[.int .i64 (k : Int), .int .i64 (n : Int), .int .i64 (g : Int), .int .i64 (size : Int), .int .i64 (S : Int), .int .i64 T, .int .i64 B, .int .i64 C] 100) = W7 at *
           generalize w6.heap.size = g7 at *)
      have E4 := hide e4
      have EB := hide eB
      have c4 : W7.cell? ⟨g7, 4, none⟩ = some (.int .i64 (S : Int)) := ec.cell 4
      have d0 : W7.cell? ⟨g7, 0, none⟩ = some (.int .i64 (k : Int)) := ec.cell 0
      have d1 : W7.cell? ⟨g7, 1, none⟩ = some (.int .i64 (n : Int)) := ec.cell 1
      have d2 : W7.cell? ⟨g7, 2, none⟩ = some (.int .i64 (g : Int)) := ec.cell 2
      have d3 : W7.cell? ⟨g7, 3, none⟩ = some (.int .i64 (size : Int)) := ec.cell 3
      have d5 : W7.cell? ⟨g7, 5, none⟩ = some (.int .i64 T) := ec.cell 5
      have d6 : W7.cell? ⟨g7, 6, none⟩ = some (.int .i64 B) := ec.cell 6
      have d7 : W7.cell? ⟨g7, 7, none⟩ = some (.int .i64 C) := ec.cell 7
      clear e4 eB ec HB6 HL6 HU HL Q hl1 hn1 hn2 KP b6 k0 k1 k2
      go_wp2_with (refine wpList_store_row (o := ⟨none, .store _ _ _, _, _, _, _⟩) E4.out #[.int .i64 0, .int .i64 0, .int .i64 0, .int .i64 0, .int .i64 0, .int .i64 0, .int .i64 0, .int .i64 0] rfl (by simp [Value.oneCell']) rfl 100 _ _ rfl (by kernel_rfl) (by rfl) (by first | rfl | kernel_rfl) ?_; intro wf hb1 hg1)
      exact bodyPost_ret (results_row_tmp rfl _ _ (w.heap.size + 1) 100 #[.int .i64 0, .int .i64 0, .int .i64 0, .int .i64 0, .int .i64 0, .int .i64 0, .int .i64 0, .int .i64 0] (0, 0) _ rfl hb1 Tryz.underlying100 rfl (by kernel_rfl)) rfl ⟨EB.out.grown hg1 (by have := EB.out.size; omega) (fun k hk => by cases hk; omega), rfl⟩
end Go.Proofs.YtcpceaflnnkhnaaGreatDoor
