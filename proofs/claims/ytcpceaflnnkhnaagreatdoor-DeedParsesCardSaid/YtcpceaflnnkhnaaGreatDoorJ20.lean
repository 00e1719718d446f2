/- Joined texts: ShpM. -/
import Derived.Test.YtcpceaflnnkhnaaGreatDoorJ2
import Derived.Test.YtcpceaflnnkhnaaGreatDoorJ3
import Derived.Laws.ResultCell
import Derived.BigQuiet
import Derived.Deep.QuietTactic

/- Joined texts: ShpA, ShpB, ShpC, ShpD. -/


/- Contracts of the document's up, laid and Check. -/
namespace Go.Proofs.YtcpceaflnnkhnaaGreatDoor
open Go.RowKit

theorem upN_two (a b : Nat) (hb : 1 ≤ b) : upN a b = a / b + (a % b + b - 1) / b := by
  unfold upN
  have h := Nat.div_add_mod a b
  have e : a + b - 1 = b * (a / b) + (a % b + b - 1) := by omega
  rw [e, Nat.mul_add_div (by omega)]

set_option maxRecDepth 100000 in
set_option maxHeartbeats 1000000 in
theorem rup_any (a b : Nat) (w : World) (hb : 1 ≤ b) (hb2 : b ≤ 1099511627776) (ha : a ≤ 1099511627776) :
    Calls Tryz.prog 91 #[.int .i64 (a : Int), .int .i64 (b : Int)] w fun e w' => e = .returned (.int .i64 (upN a b : Int)) ∧ ∃ n, w' = w.drewN n := by
  have h2 := upN_two a b hb
  have hle := upN_le a b hb
  obtain ⟨q, hq⟩ : ∃ q : Nat, q = a / b := ⟨_, rfl⟩
  obtain ⟨r, hr⟩ : ∃ q : Nat, q = a % b := ⟨_, rfl⟩
  obtain ⟨u, hu⟩ : ∃ q : Nat, q = r + b := ⟨_, rfl⟩
  obtain ⟨v, hv⟩ : ∃ q : Nat, q = r + b - 1 := ⟨_, rfl⟩
  obtain ⟨s, hs⟩ : ∃ q : Nat, q = v / b := ⟨_, rfl⟩
  have hrb : r < b := by rw [hr]; exact Nat.mod_lt _ (by omega)
  have hqa : q ≤ a := by rw [hq]; exact Nat.div_le_self _ _
  have hsv : s ≤ v := by rw [hs]; exact Nat.div_le_self _ _
  have e1 : (a : Int).tdiv (b : Int) = (q : Int) := by rw [hq]; rfl
  have e2 : (a : Int).tmod (b : Int) = (r : Int) := by rw [hr]; rfl
  have e1' : (a : Int) / (b : Int) = (q : Int) := by rw [hq]; rfl
  have e2' : (a : Int) % (b : Int) = (r : Int) := by rw [hr]; rfl
  have e3 : (v : Int).tdiv (b : Int) = (s : Int) := by rw [hs]; rfl
  have e3' : (v : Int) / (b : Int) = (s : Int) := by rw [hs]; rfl
  have w1 : IntKind.i64.wrap (q : Int) = (q : Int) := IntWalk.i64_in _ (by omega)
  have w2 : IntKind.i64.wrap (r : Int) = (r : Int) := IntWalk.i64_in _ (by omega)
  have w3 : IntKind.i64.wrap ((r : Int) + (b : Int)) = (u : Int) := by rw [IntWalk.i64_in _ (by omega)]; omega
  have w4 : IntKind.i64.wrap ((u : Int) - 1) = (v : Int) := by rw [IntWalk.i64_in _ (by omega)]; omega
  have w5 : IntKind.i64.wrap (s : Int) = (s : Int) := IntWalk.i64_in _ (by omega)
  have w6 : IntKind.i64.wrap ((q : Int) + (s : Int)) = (upN a b : Int) := by rw [IntWalk.i64_in _ (by omega), h2, ← hq, ← hr, ← hv, ← hs]; rfl
  have n1 : ¬ b = 0 := by omega
  have n2 : ¬ (b : Int) = 0 := by omega
  generalize upN a b = U at *
  clear hq hr hu hv hs h2 hle hrb hqa hsv
  go_enter Tryz.func91, Tryz.ntmps91
  go_wp2
  go_quiet (fail)
  go_wp2
  go_ret
  exact ⟨rfl, _, rfl⟩

set_option maxRecDepth 100000 in
set_option maxHeartbeats 4000000 in
theorem rlaid_any (k n seg size : Nat) (w : World) (hk : 1 ≤ k) (hk2 : k ≤ 1048576) (hs : 1 ≤ seg) (hs2 : seg ≤ 1048576) (hz : 1 ≤ size) (hz2 : size ≤ 16777216) :
    Calls Tryz.prog 90 #[.int .i64 (k : Int), .int .i64 (n : Int), .int .i64 (seg : Int), .int .i64 (size : Int)] w fun e w' => e = .returned (shapeV k n seg size) ∧ Below w.heap.size w w' := by
  have u1 := fun w => rup_any size seg w hs (by omega) (by omega)
  have h1 := upN_spec size seg hs hz
  have h2 := upN_le size seg hs
  have ht : size - (upN size seg - 1) * seg ≤ size := Nat.sub_le _ _
  have u2 := fun w => rup_any (size - (upN size seg - 1) * seg) k w hk (by omega) (by omega)
  unfold shapeV
  generalize hA : upN size seg = A at *
  have h3 : ((A - 1) * seg : Nat) ≤ size := by omega
  have e1 : ((A : Int) - 1) * (seg : Int) = (((A - 1) * seg : Nat) : Int) := by rw [Int.natCast_mul]; congr 1; omega
  generalize hB : (A - 1) * seg = B at *
  generalize hC : upN (size - B) k = C at *
  obtain ⟨q, hq⟩ : ∃ q : Nat, q = seg / k := ⟨_, rfl⟩
  have e2 : (seg : Int) / (k : Int) = (q : Int) := by rw [hq]; rfl
  have hq2 : q ≤ 1048576 := by have := Nat.div_le_self seg k; omega
  have e4 : ¬ k = 0 := by omega
  have e5 : IntKind.i64.wrap ((A : Int) - 1) = (A : Int) - 1 := IntWalk.i64_in _ (by omega)
  have e6 : IntKind.i64.wrap (B : Int) = (B : Int) := IntWalk.i64_in _ (by omega)
  obtain ⟨T, hT⟩ : ∃ T : Nat, T = size - B := ⟨_, rfl⟩
  have e7 : IntKind.i64.wrap ((size : Int) - (B : Int)) = (T : Int) := by rw [IntWalk.i64_in _ (by omega)]; omega
  have e8 : IntKind.i64.wrap (q : Int) = (q : Int) := IntWalk.i64_in _ (by omega)
  rw [← hq]
  rw [← hT] at u2 ⊢
  clear h1 hB hA hC hq hT
  have U1 := hide u1
  have U2 := hide u2
  clear u1 u2
  go_enter Tryz.func90, Tryz.ntmps90
  go_wp2_with fail
  refine (U1.out _).mono ?_
  rintro e w1 ⟨rfl, m1, rfl⟩
  go_wp2_with fail
  refine (U2.out _).mono ?_
  rintro e w1 ⟨rfl, m2, rfl⟩
  go_wp2
  go_returns
  refine ⟨rfl, ?_⟩
  go_grown
  refine below_drewN ?_ _
  go_grown
  refine below_drewN ?_ _
  go_grown
end Go.Proofs.YtcpceaflnnkhnaaGreatDoor

/- Contracts of the document's Check, Shape and Again. -/
namespace Go.Proofs.YtcpceaflnnkhnaaGreatDoor
open Go.RowKit

def okP (k n seg : Int) : Prop := 1 ≤ n ∧ n ≤ 255 ∧ 1 ≤ k ∧ k ≤ n ∧ 1 ≤ seg ∧ seg ≤ 65536
instance (k n seg : Int) : Decidable (okP k n seg) := by unfold okP; infer_instance

set_option maxRecDepth 100000 in
set_option maxHeartbeats 2000000 in
theorem rcheck_any (k n seg : Int) (w : World) :
    Calls Tryz.prog 89 #[.agg #[.int .i64 k, .int .i64 n, .int .i64 seg, .int .i64 0, .slice none 0 0]] w fun x w' => Below w.heap.size w w' ∧ x = .returned (.int .i64 (if okP k n seg then 0 else 3)) := by
  have hc : (n < 1) ∨ (¬ n < 1 ∧ 255 < n) ∨ (¬ n < 1 ∧ ¬ 255 < n ∧ k < 1) ∨ (¬ n < 1 ∧ ¬ 255 < n ∧ ¬ k < 1 ∧ n < k) ∨ (¬ n < 1 ∧ ¬ 255 < n ∧ ¬ k < 1 ∧ ¬ n < k ∧ seg < 1) ∨ (¬ n < 1 ∧ ¬ 255 < n ∧ ¬ k < 1 ∧ ¬ n < k ∧ ¬ seg < 1 ∧ 65536 < seg) ∨ (¬ n < 1 ∧ ¬ 255 < n ∧ ¬ k < 1 ∧ ¬ n < k ∧ ¬ seg < 1 ∧ ¬ 65536 < seg) := by omega
  rcases hc with c0 | ⟨c0, c1⟩ | ⟨c0, c1, c2⟩ | ⟨c0, c1, c2, c3⟩ | ⟨c0, c1, c2, c3, c4⟩ | ⟨c0, c1, c2, c3, c4, c5⟩ | ⟨c0, c1, c2, c3, c4, c5⟩
  · rw [if_neg (by unfold okP; omega)]
    go_enter Tryz.func89, Tryz.ntmps89
    go_wp2
    go_ret
    exact ⟨(Below.refl w.heap.size w).alloc (Nat.le_refl _) _, rfl⟩
  · rw [if_neg (by unfold okP; omega)]
    go_enter Tryz.func89, Tryz.ntmps89
    go_wp2
    go_ret
    exact ⟨(Below.refl w.heap.size w).alloc (Nat.le_refl _) _, rfl⟩
  · rw [if_neg (by unfold okP; omega)]
    go_enter Tryz.func89, Tryz.ntmps89
    go_wp2
    go_ret
    exact ⟨(Below.refl w.heap.size w).alloc (Nat.le_refl _) _, rfl⟩
  · rw [if_neg (by unfold okP; omega)]
    go_enter Tryz.func89, Tryz.ntmps89
    go_wp2
    go_ret
    exact ⟨(Below.refl w.heap.size w).alloc (Nat.le_refl _) _, rfl⟩
  · rw [if_neg (by unfold okP; omega)]
    go_enter Tryz.func89, Tryz.ntmps89
    go_wp2
    go_ret
    exact ⟨(Below.refl w.heap.size w).alloc (Nat.le_refl _) _, rfl⟩
  · rw [if_neg (by unfold okP; omega)]
    go_enter Tryz.func89, Tryz.ntmps89
    go_wp2
    go_ret
    exact ⟨(Below.refl w.heap.size w).alloc (Nat.le_refl _) _, rfl⟩
  · rw [if_pos (by unfold okP; omega)]
    go_enter Tryz.func89, Tryz.ntmps89
    go_wp2
    go_ret
    exact ⟨(Below.refl w.heap.size w).alloc (Nat.le_refl _) _, rfl⟩

set_option maxRecDepth 100000 in
set_option maxHeartbeats 2000000 in
theorem rshape_bad (k n seg size : Int) (w : World) (hp : ¬ okP k n seg) :
    Calls Tryz.prog 71 #[.agg #[.int .i64 k, .int .i64 n, .int .i64 seg, .int .i64 0, .slice none 0 0], .int .i64 size] w fun x w' => Below w.heap.size w w' ∧ x = .returned (.tuple #[.agg #[.int .i64 0, .int .i64 0, .int .i64 0, .int .i64 0, .int .i64 0, .int .i64 0, .int .i64 0, .int .i64 0], .int .i64 3]) := by
  have q := fun w => rcheck_any k n seg w
  simp only [if_neg hp] at q
  have Q := hide q
  clear q
  go_enter Tryz.func71, Tryz.ntmps71
  go_wp2_with fail
  refine (Q.out _).mono ?_
  rintro x w1 ⟨b1, rfl⟩
  have hB2 := (Blk.new (w.alloc (.cells #[.int .i64 k, .int .i64 n, .int .i64 seg, .int .i64 0, .slice none 0 0] 142)) 100 #[.int .i64 0, .int .i64 0, .int .i64 0, .int .i64 0, .int .i64 0, .int .i64 0, .int .i64 0, .int .i64 0]).below' b1
  have B1 := hide (((Below.refl w.heap.size w).alloc (Nat.le_refl _) _).alloc (by simp) _ |>.trans (b1.mono (by simp; omega)))
  have HB2 := hide hB2
  clear b1 hB2
  go_wp2_with (refine wpList_store_row (o := ⟨none, .store _ _ _, _, _, _, _⟩) HB2.out #[.int .i64 0, .int .i64 0, .int .i64 0, .int .i64 0, .int .i64 0, .int .i64 0, .int .i64 0, .int .i64 0] rfl (by simp [Value.oneCell']) rfl 100 _ _ rfl (by kernel_rfl) (by simp only [World.size_alloc]; rfl) (by kernel_rfl) ?_; intro wf hb1 hg1)
  simp only [World.size_alloc] at hb1 hg1
  exact bodyPost_ret (results_row_tmp rfl _ _ (w.heap.size + 1) 100 #[.int .i64 0, .int .i64 0, .int .i64 0, .int .i64 0, .int .i64 0, .int .i64 0, .int .i64 0, .int .i64 0] (0, 0) _ rfl hb1 Tryz.underlying100 rfl (by kernel_rfl)) rfl ⟨B1.out.grown hg1 (by have := HB2.out.lt; simp at this; omega) (fun k hk => by cases hk; omega), rfl⟩

set_option maxRecDepth 100000 in
set_option maxHeartbeats 2000000 in
theorem rshape_size (k n seg size : Int) (w : World) (hp : okP k n seg) (hz : size ≤ 32 ∨ 16777216 < size) :
    Calls Tryz.prog 71 #[.agg #[.int .i64 k, .int .i64 n, .int .i64 seg, .int .i64 0, .slice none 0 0], .int .i64 size] w fun x w' => Below w.heap.size w w' ∧ x = .returned (.tuple #[.agg #[.int .i64 0, .int .i64 0, .int .i64 0, .int .i64 0, .int .i64 0, .int .i64 0, .int .i64 0, .int .i64 0], .int .i64 4]) := by
  have q := fun w => rcheck_any k n seg w
  simp only [if_pos hp] at q
  have Q := hide q
  clear q hp
  have hz' : size ≤ 32 ∨ (¬ size ≤ 32 ∧ 16777216 < size) := by omega
  rcases hz' with c1 | ⟨c1, c2⟩
  all_goals
    clear hz
    go_enter Tryz.func71, Tryz.ntmps71
    go_wp2_with fail
    refine (Q.out _).mono ?_
    rintro x w1 ⟨b1, rfl⟩
    have hB2 := (Blk.new (w.alloc (.cells #[.int .i64 k, .int .i64 n, .int .i64 seg, .int .i64 0, .slice none 0 0] 142)) 100 #[.int .i64 0, .int .i64 0, .int .i64 0, .int .i64 0, .int .i64 0, .int .i64 0, .int .i64 0, .int .i64 0]).below' b1
    have B1 := hide (((Below.refl w.heap.size w).alloc (Nat.le_refl _) _).alloc (by simp) _ |>.trans (b1.mono (by simp; omega)))
    have HB2 := hide hB2
    clear b1 hB2
    go_wp2_with (refine wpList_store_row (o := ⟨none, .store _ _ _, _, _, _, _⟩) HB2.out #[.int .i64 0, .int .i64 0, .int .i64 0, .int .i64 0, .int .i64 0, .int .i64 0, .int .i64 0, .int .i64 0] rfl (by simp [Value.oneCell']) rfl 100 _ _ rfl (by kernel_rfl) (by simp only [World.size_alloc]; rfl) (by kernel_rfl) ?_; intro wf hb1 hg1)
    simp only [World.size_alloc] at hb1 hg1
    exact bodyPost_ret (results_row_tmp rfl _ _ (w.heap.size + 1) 100 #[.int .i64 0, .int .i64 0, .int .i64 0, .int .i64 0, .int .i64 0, .int .i64 0, .int .i64 0, .int .i64 0] (0, 0) _ rfl hb1 Tryz.underlying100 rfl (by kernel_rfl)) rfl ⟨B1.out.grown hg1 (by have := HB2.out.lt; simp at this; omega) (fun k hk => by cases hk; omega), rfl⟩
end Go.Proofs.YtcpceaflnnkhnaaGreatDoor


/- The contract of the document's Again. -/
namespace Go.Proofs.YtcpceaflnnkhnaaGreatDoor
open Go.RowKit

set_option maxRecDepth 100000 in
set_option maxHeartbeats 4000000 in
theorem ragain_0 (k n seg size x0 x1 x3 x4 x5 x6 x7 : Int) (w : World) (r0 : (∀ w, Calls Tryz.prog 71 #[.agg #[.int .i64 k, .int .i64 n, .int .i64 seg, .int .i64 0, .slice none 0 0], .int .i64 size] w fun x w' => Below w.heap.size w w' ∧ x = .returned (.tuple #[.agg #[.int .i64 x0, .int .i64 x1, .int .i64 seg, .int .i64 x3, .int .i64 x4, .int .i64 x5, .int .i64 x6, .int .i64 x7], .int .i64 0]))) :
    Calls Tryz.prog 52 #[.int .i64 k, .int .i64 n, .int .i64 seg, .int .i64 size] w fun x w' => Below w.heap.size w w' ∧ x = .returned (.tuple #[.agg #[.int .i64 x0, .int .i64 x1, .int .i64 seg, .int .i64 x3, .int .i64 x4, .int .i64 x5, .int .i64 x6, .int .i64 x7], .int .i64 0]) := by
  have R0 := hide r0
  clear r0
  go_enter Tryz.func52, Tryz.ntmps52
  go_wp2
  go_loopw [10] (fun u10 wr => ∃ i : Nat, u10 = .int .i64 (i : Int) ∧ i ≤ 0 ∧ Blk wr w.heap.size 100 #[.int .i64 0, .int .i64 0, .int .i64 0, .int .i64 0, .int .i64 0, .int .i64 0, .int .i64 0, .int .i64 0] ∧ Below w.heap.size w wr) (fun u10 _ => 3 - (intOf u10).toNat)
  case atStart => exact ⟨0, rfl, by omega, Blk.new w _ _, (Below.refl _ w).alloc (Nat.le_refl _) _⟩
  case round =>
    obtain ⟨i, rfl, hi, hblk, hbel⟩ := hrel
    have HBLK := hide hblk
    have HBEL := hide hbel
    have hlt := hblk.lt
    clear hblk hbel
    have hii : i = 0 := by omega
    rcases hii with rfl
    · go_wp2_with fail
      refine (R0.out _).mono ?_
      rintro x w2 ⟨b2, rfl⟩
      have HB2 := hide (HBLK.out.below' b2)
      have HL2 := hide (HBEL.out.trans (b2.mono HBEL.out.size))
      clear b2
      go_wp2_with (refine wpList_store_row (o := ⟨none, .store _ _ _, _, _, _, _⟩) (HB2.out.alloc _) #[.int .i64 x0, .int .i64 x1, .int .i64 seg, .int .i64 x3, .int .i64 x4, .int .i64 x5, .int .i64 x6, .int .i64 x7] rfl (by simp [Value.oneCell']) rfl 100 _ _ rfl (by kernel_rfl) (by rfl) (by rfl) ?_; intro wf hb1 hg1)
      exact bodyPost_ret (results_row_tmp rfl _ _ w.heap.size 100 #[.int .i64 x0, .int .i64 x1, .int .i64 seg, .int .i64 x3, .int .i64 x4, .int .i64 x5, .int .i64 x6, .int .i64 x7] (0, 0) _ rfl hb1 Tryz.underlying100 rfl (by kernel_rfl)) rfl ⟨(HL2.out.alloc HL2.out.size _).grown hg1 (by have := HB2.out.lt; simp; omega) (fun k hk => by cases hk; omega), rfl⟩

set_option maxRecDepth 100000 in
set_option maxHeartbeats 4000000 in
theorem ragain_1 (k n seg size x0 x1 x2 x3 x4 x5 x6 x7 y0 y1 y3 y4 y5 y6 y7 e0 : Int) (w : World) (h0 : ¬ (e0 = 0 ∧ x2 = seg)) (r0 : (∀ w, Calls Tryz.prog 71 #[.agg #[.int .i64 k, .int .i64 n, .int .i64 seg, .int .i64 0, .slice none 0 0], .int .i64 size] w fun x w' => Below w.heap.size w w' ∧ x = .returned (.tuple #[.agg #[.int .i64 x0, .int .i64 x1, .int .i64 x2, .int .i64 x3, .int .i64 x4, .int .i64 x5, .int .i64 x6, .int .i64 x7], .int .i64 e0]))) (r1 : (∀ w, Calls Tryz.prog 71 #[.agg #[.int .i64 k, .int .i64 n, .int .i64 65536, .int .i64 0, .slice none 0 0], .int .i64 size] w fun x w' => Below w.heap.size w w' ∧ x = .returned (.tuple #[.agg #[.int .i64 y0, .int .i64 y1, .int .i64 seg, .int .i64 y3, .int .i64 y4, .int .i64 y5, .int .i64 y6, .int .i64 y7], .int .i64 0]))) :
    Calls Tryz.prog 52 #[.int .i64 k, .int .i64 n, .int .i64 seg, .int .i64 size] w fun x w' => Below w.heap.size w w' ∧ x = .returned (.tuple #[.agg #[.int .i64 y0, .int .i64 y1, .int .i64 seg, .int .i64 y3, .int .i64 y4, .int .i64 y5, .int .i64 y6, .int .i64 y7], .int .i64 0]) := by
  have R0 := hide r0
  have R1 := hide r1
  clear r0 r1
  go_enter Tryz.func52, Tryz.ntmps52
  go_wp2
  go_loopw [10] (fun u10 wr => ∃ i : Nat, u10 = .int .i64 (i : Int) ∧ i ≤ 1 ∧ Blk wr w.heap.size 100 #[.int .i64 0, .int .i64 0, .int .i64 0, .int .i64 0, .int .i64 0, .int .i64 0, .int .i64 0, .int .i64 0] ∧ Below w.heap.size w wr) (fun u10 _ => 3 - (intOf u10).toNat)
  case atStart => exact ⟨0, rfl, by omega, Blk.new w _ _, (Below.refl _ w).alloc (Nat.le_refl _) _⟩
  case round =>
    obtain ⟨i, rfl, hi, hblk, hbel⟩ := hrel
    have HBLK := hide hblk
    have HBEL := hide hbel
    have hlt := hblk.lt
    clear hblk hbel
    have hii : i = 0 ∨ i = 1 := by omega
    rcases hii with rfl | rfl
    · go_wp2_with fail
      refine (R0.out _).mono ?_
      rintro x w2 ⟨b2, rfl⟩
      have HB2 := hide (HBLK.out.below' b2)
      have HL2 := hide (HBEL.out.trans (b2.mono HBEL.out.size))
      clear b2
      by_cases z1 : e0 = 0
      · have z2 : ¬ x2 = seg := fun h => h0 ⟨z1, h⟩
        go_wp2
        go_roundw
        case rel => exact ⟨1, by go_num, by omega, HB2.out.alloc _, HL2.out.alloc HL2.out.size _⟩
        case measure => simp [intOf]
      · go_wp2
        go_roundw
        case rel => exact ⟨1, by go_num, by omega, HB2.out.alloc _, HL2.out.alloc HL2.out.size _⟩
        case measure => simp [intOf]
    · go_wp2_with fail
      refine (R1.out _).mono ?_
      rintro x w2 ⟨b2, rfl⟩
      have HB2 := hide (HBLK.out.below' b2)
      have HL2 := hide (HBEL.out.trans (b2.mono HBEL.out.size))
      clear b2
      go_wp2_with (refine wpList_store_row (o := ⟨none, .store _ _ _, _, _, _, _⟩) (HB2.out.alloc _) #[.int .i64 y0, .int .i64 y1, .int .i64 seg, .int .i64 y3, .int .i64 y4, .int .i64 y5, .int .i64 y6, .int .i64 y7] rfl (by simp [Value.oneCell']) rfl 100 _ _ rfl (by kernel_rfl) (by rfl) (by rfl) ?_; intro wf hb1 hg1)
      exact bodyPost_ret (results_row_tmp rfl _ _ w.heap.size 100 #[.int .i64 y0, .int .i64 y1, .int .i64 seg, .int .i64 y3, .int .i64 y4, .int .i64 y5, .int .i64 y6, .int .i64 y7] (0, 0) _ rfl hb1 Tryz.underlying100 rfl (by kernel_rfl)) rfl ⟨(HL2.out.alloc HL2.out.size _).grown hg1 (by have := HB2.out.lt; simp; omega) (fun k hk => by cases hk; omega), rfl⟩

set_option maxRecDepth 100000 in
set_option maxHeartbeats 4000000 in
theorem ragain_2 (k n seg size x0 x1 x2 x3 x4 x5 x6 x7 y0 y1 y2 y3 y4 y5 y6 y7 e0 e1 : Int) (w : World) (h0 : ¬ (e0 = 0 ∧ x2 = seg)) (h1 : ¬ (e1 = 0 ∧ y2 = seg)) (r0 : (∀ w, Calls Tryz.prog 71 #[.agg #[.int .i64 k, .int .i64 n, .int .i64 seg, .int .i64 0, .slice none 0 0], .int .i64 size] w fun x w' => Below w.heap.size w w' ∧ x = .returned (.tuple #[.agg #[.int .i64 x0, .int .i64 x1, .int .i64 x2, .int .i64 x3, .int .i64 x4, .int .i64 x5, .int .i64 x6, .int .i64 x7], .int .i64 e0]))) (r1 : (∀ w, Calls Tryz.prog 71 #[.agg #[.int .i64 k, .int .i64 n, .int .i64 65536, .int .i64 0, .slice none 0 0], .int .i64 size] w fun x w' => Below w.heap.size w w' ∧ x = .returned (.tuple #[.agg #[.int .i64 y0, .int .i64 y1, .int .i64 y2, .int .i64 y3, .int .i64 y4, .int .i64 y5, .int .i64 y6, .int .i64 y7], .int .i64 e1]))) :
    Calls Tryz.prog 52 #[.int .i64 k, .int .i64 n, .int .i64 seg, .int .i64 size] w fun x w' => Below w.heap.size w w' ∧ x = .returned (.tuple #[.agg #[.int .i64 0, .int .i64 0, .int .i64 0, .int .i64 0, .int .i64 0, .int .i64 0, .int .i64 0, .int .i64 0], .int .i64 92]) := by
  have R0 := hide r0
  have R1 := hide r1
  clear r0 r1
  go_enter Tryz.func52, Tryz.ntmps52
  go_wp2
  go_loopw [10] (fun u10 wr => ∃ i : Nat, u10 = .int .i64 (i : Int) ∧ i ≤ 2 ∧ Blk wr w.heap.size 100 #[.int .i64 0, .int .i64 0, .int .i64 0, .int .i64 0, .int .i64 0, .int .i64 0, .int .i64 0, .int .i64 0] ∧ Below w.heap.size w wr) (fun u10 _ => 3 - (intOf u10).toNat)
  case atStart => exact ⟨0, rfl, by omega, Blk.new w _ _, (Below.refl _ w).alloc (Nat.le_refl _) _⟩
  case round =>
    obtain ⟨i, rfl, hi, hblk, hbel⟩ := hrel
    have HBLK := hide hblk
    have HBEL := hide hbel
    have hlt := hblk.lt
    clear hblk hbel
    have hii : i = 0 ∨ i = 1 ∨ i = 2 := by omega
    rcases hii with rfl | rfl | rfl
    · go_wp2_with fail
      refine (R0.out _).mono ?_
      rintro x w2 ⟨b2, rfl⟩
      have HB2 := hide (HBLK.out.below' b2)
      have HL2 := hide (HBEL.out.trans (b2.mono HBEL.out.size))
      clear b2
      by_cases z1 : e0 = 0
      · have z2 : ¬ x2 = seg := fun h => h0 ⟨z1, h⟩
        go_wp2
        go_roundw
        case rel => exact ⟨1, by go_num, by omega, HB2.out.alloc _, HL2.out.alloc HL2.out.size _⟩
        case measure => simp [intOf]
      · go_wp2
        go_roundw
        case rel => exact ⟨1, by go_num, by omega, HB2.out.alloc _, HL2.out.alloc HL2.out.size _⟩
        case measure => simp [intOf]
    · go_wp2_with fail
      refine (R1.out _).mono ?_
      rintro x w2 ⟨b2, rfl⟩
      have HB2 := hide (HBLK.out.below' b2)
      have HL2 := hide (HBEL.out.trans (b2.mono HBEL.out.size))
      clear b2
      by_cases z1 : e1 = 0
      · have z2 : ¬ y2 = seg := fun h => h1 ⟨z1, h⟩
        go_wp2
        go_roundw
        case rel => exact ⟨2, by go_num, by omega, HB2.out.alloc _, HL2.out.alloc HL2.out.size _⟩
        case measure => simp [intOf]
      · go_wp2
        go_roundw
        case rel => exact ⟨2, by go_num, by omega, HB2.out.alloc _, HL2.out.alloc HL2.out.size _⟩
        case measure => simp [intOf]
    · go_wp2_with (refine wpList_store_row (o := ⟨none, .store _ _ _, _, _, _, _⟩) HBLK.out #[.int .i64 0, .int .i64 0, .int .i64 0, .int .i64 0, .int .i64 0, .int .i64 0, .int .i64 0, .int .i64 0] rfl (by simp [Value.oneCell']) rfl 100 _ _ rfl (by kernel_rfl) (by rfl) (by kernel_rfl) ?_; intro wf hb1 hg1)
      exact bodyPost_ret (results_row_tmp rfl _ _ w.heap.size 100 #[.int .i64 0, .int .i64 0, .int .i64 0, .int .i64 0, .int .i64 0, .int .i64 0, .int .i64 0, .int .i64 0] (0, 0) _ rfl hb1 Tryz.underlying100 rfl (by kernel_rfl)) rfl ⟨HBEL.out.grown hg1 (by omega) (fun k hk => by cases hk; omega), rfl⟩
end Go.Proofs.YtcpceaflnnkhnaaGreatDoor
