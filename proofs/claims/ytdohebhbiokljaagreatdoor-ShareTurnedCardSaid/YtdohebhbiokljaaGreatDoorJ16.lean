import Derived.Test.YtdohebhbiokljaaGreatDoorJ7
import Derived.BigQuiet
import Derived.Deep.QuietTactic
import Derived.Deep.RegionHeldLaw
import Derived.Test.YtdohebhbiokljaaGreatDoorJ6
import Derived.Test.YtdohebhbiokljaaGreatDoorJ5
import Derived.Test.YtdohebhbiokljaaGreatDoorJ4
import Derived.Laws.Cover1
set_option linter.all false
namespace Go.Proofs.YtdohebhbiokljaaGreatDoor
open Go.RowKit
theorem known_ok2 : agOK 1 1 50 60 := by unfold agOK upN; decide
theorem known_len2 : uebLen 1 1 50 60 z32 z32 = 131 := by unfold uebLen; decide +kernel
theorem lays2 : lays 1 2 50 10 131 = #[.int .i64 36, .int .i64 167, .int .i64 167, .int .i64 263, .int .i64 359, .int .i64 419] := by kernel_rfl
theorem sits2 : Sits 1 1 50 60 2 10 50 10 := fun w => by
 have := again_any 1 1 50 60 w (by omega) (by omega) (by omega) (by omega)
 rw [if_pos known_ok2] at this
 exact this
theorem laid2 (w : World) (ht : Tab w) : Calls Tryz.prog 42 #[.agg #[.int .i64 1, .int .i64 1, .int .i64 50, .int .i64 60, .int .i64 2, .int .i64 10, .int .i64 50, .int .i64 10]] w fun x w' => Below w.heap.size w w' ∧
   x = .returned (.tuple #[.agg #[.int .i64 36, .int .i64 167, .int .i64 167, .int .i64 263, .int .i64 359, .int .i64 419], .int .i64 0]) := by
 have := laid_ok 1 1 50 60 2 10 50 10 w sits2 known_ok2 (by omega) (by omega) (by omega) (by omega) (by omega) 131 known_len2 ht
 rw [lays2] at this
 exact this
set_option maxRecDepth 100000 in
set_option maxHeartbeats 1000000 in
theorem plain_any (w : World) : Calls Tryz.prog 19 #[] w fun x w' => Below w.heap.size w w' ∧ x = .returned (.agg #[.int .i64 1, .int .i64 1, .int .i64 50, .int .i64 60, .int .i64 2, .int .i64 10, .int .i64 50, .int .i64 10]) := by
 go_enter Tryz.func19, Tryz.ntmps19
 go_wp2
 go_returns
 exact ⟨(Below.refl w.heap.size w).alloc (Nat.le_refl _) _, rfl⟩
set_option maxRecDepth 100000 in
set_option maxHeartbeats 1000000 in
theorem lives_any (w : World) (ht : Tab w) : Calls Tryz.prog 5 #[] w fun x w' => Below w.heap.size w w' ∧ x = .returned (.bool true) := by
 have P := hide (fun w => plain_any w)
 have F1 := hide (fun w1 (h : Below w.heap.size w w1) => frontLen_any 1 1 50 60 2 10 50 10 36 167 167 263 359 419 0 w1 (fun w2 h2 => laid2 w2 ((ht.below h).below h2)))
 have F2 := hide (fun w1 (h : Below w.heap.size w w1) => len_any 1 1 50 60 2 10 50 10 36 167 167 263 359 419 0 w1 (fun w2 h2 => laid2 w2 ((ht.below h).below h2)))
 have F3 := hide (fun w1 (h : Below w.heap.size w w1) => place_in 1 1 50 60 2 10 50 10 36 167 167 263 359 419 1 10 409 w1 (by omega) (by omega) sits2 rfl (by decide) (by decide) (fun w2 h2 => laid2 w2 ((ht.below h).below h2)))
 have q4 : ∀ w1, Below w.heap.size w w1 → Calls Tryz.prog 22 #[.agg (uebC 1 1 50 60 (bcells z32 ++ bcells z32))] w1 fun e w' => Below w1.heap.size w1 w' ∧ e = .returned (.tuple #[.int .i64 131, .int .i64 0]) := fun w1 h => by
  have := length_any 1 1 50 60 z32 z32 w1 (by omega) (by omega) (by omega) (by omega) rfl rfl (ht.below h)
  rwa [if_pos known_ok2, known_len2] at this
 have F4 := hide q4
 have hkc := ueb_cells 1 1 50 60
 clear ht q4
 generalize uebC 1 1 50 60 (bcells z32 ++ bcells z32) = cs at *
 go_enter Tryz.func5, Tryz.ntmps5
 go_wp2_with fail
 refine (P.out _).mono ?_
 rintro x w1 ⟨b1, rfl⟩
 have B1 := hide b1
 clear b1
 go_wp2_with fail
 refine (F1.out _ B1.out).mono ?_
 rintro x w2 ⟨b2, rfl⟩
 have B2 := hide (Below.step B1.out b2)
 clear b2
 go_wp2_with fail
 refine (P.out _).mono ?_
 rintro x w3 ⟨b3, rfl⟩
 have B3 := hide (Below.step B2.out b3)
 clear b3
 go_wp2_with fail
 refine (F2.out _ B3.out).mono ?_
 rintro x w4 ⟨b4, rfl⟩
 have B4 := hide (Below.step B3.out b4)
 clear b4
 go_wp2_with fail
 refine (P.out _).mono ?_
 rintro x w5 ⟨b5, rfl⟩
 have B5 := hide (Below.step B4.out b5)
 clear b5
 go_wp2_with fail
 refine (F3.out _ B5.out).mono ?_
 rintro x w6 ⟨b6, rfl⟩
 have B6 := hide (Below.step B5.out b6)
 clear b6
 go_wp2_with fail
 refine (F4.out _ B6.out).mono ?_
 rintro x w7 ⟨b7, rfl⟩
 have B7 := hide (Below.step B6.out b7)
 clear b7
 go_wp2
 go_ret
 exact ⟨B7.out, rfl⟩
end Go.Proofs.YtdohebhbiokljaaGreatDoor
namespace Go.Proofs.YtdohebhbiokljaaGreatDoor
open Go.RowKit
theorem upN_two (a b : Nat) (hb : 1 ≤ b) : upN a b = a / b + (a % b + b - 1) / b := by
 unfold upN
 have h := Nat.div_add_mod a b
 have e : a + b - 1 = b * (a / b) + (a % b + b - 1) := by omega
 rw [e, Nat.mul_add_div (by omega)]
set_option maxRecDepth 100000 in
set_option maxHeartbeats 1000000 in
theorem rup_any (a b : Nat) (w : World) (hb : 1 ≤ b) (hb2 : b ≤ 1099511627776) (ha : a ≤ 1099511627776) :
  Calls Tryz.prog 103 #[.int .i64 (a : Int), .int .i64 (b : Int)] w fun e w' => e = .returned (.int .i64 (upN a b : Int)) ∧ ∃ n, w' = w.drewN n := by
 have h2 := upN_two a b hb
 have hle := upN_le a b hb
 obtain ⟨q, hq⟩ : ∃ q : Nat, q = a / b := ⟨_, rfl⟩
 obtain ⟨r, hr⟩ : ∃ q : Nat, q = a % b := ⟨_, rfl⟩
 obtain ⟨u, hu⟩ : ∃ q : Nat, q = r + b := ⟨_, rfl⟩
 obtain ⟨v, hv⟩ : ∃ q : Nat, q = r + b - 1 := ⟨_, rfl⟩
 obtain ⟨s, hs⟩ : ∃ q : Nat, q = v / b := ⟨_, rfl⟩
 have hrb : r < b := by rw [hr]; exact Nat.mod_lt _ (by omega)
 have hqa : q ≤ a := by rw [hq]; exact Nat.div_le_self _ _
 have hsv : s ≤ v := by rw [hs]; exact Nat.div_le_self _ _
 have e1 : (a : Int).tdiv (b : Int) = (q : Int) := by rw [hq]; rfl
 have e2 : (a : Int).tmod (b : Int) = (r : Int) := by rw [hr]; rfl
 have e1' : (a : Int) / (b : Int) = (q : Int) := by rw [hq]; rfl
 have e2' : (a : Int) % (b : Int) = (r : Int) := by rw [hr]; rfl
 have e3 : (v : Int).tdiv (b : Int) = (s : Int) := by rw [hs]; rfl
 have e3' : (v : Int) / (b : Int) = (s : Int) := by rw [hs]; rfl
 have w1 : IntKind.i64.wrap (q : Int) = (q : Int) := IntWalk.i64_in _ (by omega)
 have w2 : IntKind.i64.wrap (r : Int) = (r : Int) := IntWalk.i64_in _ (by omega)
 have w3 : IntKind.i64.wrap ((r : Int) + (b : Int)) = (u : Int) := by rw [IntWalk.i64_in _ (by omega)]; omega
 have w4 : IntKind.i64.wrap ((u : Int) - 1) = (v : Int) := by rw [IntWalk.i64_in _ (by omega)]; omega
 have w5 : IntKind.i64.wrap (s : Int) = (s : Int) := IntWalk.i64_in _ (by omega)
 have w6 : IntKind.i64.wrap ((q : Int) + (s : Int)) = (upN a b : Int) := by rw [IntWalk.i64_in _ (by omega), h2, ← hq, ← hr, ← hv, ← hs]; rfl
 have n1 : ¬ b = 0 := by omega
 have n2 : ¬ (b : Int) = 0 := by omega
 generalize upN a b = U at *
 clear hq hr hu hv hs h2 hle hrb hqa hsv
 go_enter Tryz.func103, Tryz.ntmps103
 go_wp2
 go_quiet (fail)
 go_wp2
 go_ret
 exact ⟨rfl, _, rfl⟩
set_option maxRecDepth 100000 in
set_option maxHeartbeats 4000000 in
theorem rlaid_any (k n seg size : Nat) (w : World) (hk : 1 ≤ k) (hk2 : k ≤ 1048576) (hs : 1 ≤ seg) (hs2 : seg ≤ 1048576) (hz : 1 ≤ size) (hz2 : size ≤ 16777216) :
  Calls Tryz.prog 102 #[.int .i64 (k : Int), .int .i64 (n : Int), .int .i64 (seg : Int), .int .i64 (size : Int)] w fun e w' => e = .returned (shapeV k n seg size) ∧ Below w.heap.size w w' := by
 have u1 := fun w => rup_any size seg w hs (by omega) (by omega)
 have h1 := upN_spec size seg hs hz
 have h2 := upN_le size seg hs
 have ht : size - (upN size seg - 1) * seg ≤ size := Nat.sub_le _ _
 have u2 := fun w => rup_any (size - (upN size seg - 1) * seg) k w hk (by omega) (by omega)
 unfold shapeV
 generalize hA : upN size seg = A at *
 have h3 : ((A - 1) * seg : Nat) ≤ size := by omega
 have e1 : ((A : Int) - 1) * (seg : Int) = (((A - 1) * seg : Nat) : Int) := by rw [Int.natCast_mul]; congr 1; omega
 generalize hB : (A - 1) * seg = B at *
 generalize hC : upN (size - B) k = C at *
 obtain ⟨q, hq⟩ : ∃ q : Nat, q = seg / k := ⟨_, rfl⟩
 have e2 : (seg : Int) / (k : Int) = (q : Int) := by rw [hq]; rfl
 have hq2 : q ≤ 1048576 := by have := Nat.div_le_self seg k; omega
 have e4 : ¬ k = 0 := by omega
 have e5 : IntKind.i64.wrap ((A : Int) - 1) = (A : Int) - 1 := IntWalk.i64_in _ (by omega)
 have e6 : IntKind.i64.wrap (B : Int) = (B : Int) := IntWalk.i64_in _ (by omega)
 obtain ⟨T, hT⟩ : ∃ T : Nat, T = size - B := ⟨_, rfl⟩
 have e7 : IntKind.i64.wrap ((size : Int) - (B : Int)) = (T : Int) := by rw [IntWalk.i64_in _ (by omega)]; omega
 have e8 : IntKind.i64.wrap (q : Int) = (q : Int) := IntWalk.i64_in _ (by omega)
 rw [← hq]
 rw [← hT] at u2 ⊢
 clear h1 hB hA hC hq hT
 have U1 := hide u1
 have U2 := hide u2
 clear u1 u2
 go_enter Tryz.func102, Tryz.ntmps102
 go_wp2_with fail
 refine (U1.out _).mono ?_
 rintro e w1 ⟨rfl, m1, rfl⟩
 go_wp2_with fail
 refine (U2.out _).mono ?_
 rintro e w1 ⟨rfl, m2, rfl⟩
 go_wp2
 go_returns
 refine ⟨rfl, ?_⟩
 go_grown
 refine below_drewN ?_ _
 go_grown
 refine below_drewN ?_ _
 go_grown
end Go.Proofs.YtdohebhbiokljaaGreatDoor
namespace Go.Proofs.YtdohebhbiokljaaGreatDoor
open Go.RowKit
def okP (k n seg : Int) : Prop := 1 ≤ n ∧ n ≤ 255 ∧ 1 ≤ k ∧ k ≤ n ∧ 1 ≤ seg ∧ seg ≤ 65536
instance (k n seg : Int) : Decidable (okP k n seg) := by unfold okP; infer_instance
set_option maxRecDepth 100000 in
set_option maxHeartbeats 2000000 in
theorem rcheck_any (k n seg : Int) (w : World) :
  Calls Tryz.prog 101 #[.agg #[.int .i64 k, .int .i64 n, .int .i64 seg, .int .i64 0, .slice none 0 0]] w fun x w' => Below w.heap.size w w' ∧ x = .returned (.int .i64 (if okP k n seg then 0 else 3)) := by
 have hc : (n < 1) ∨ (¬ n < 1 ∧ 255 < n) ∨ (¬ n < 1 ∧ ¬ 255 < n ∧ k < 1) ∨ (¬ n < 1 ∧ ¬ 255 < n ∧ ¬ k < 1 ∧ n < k) ∨ (¬ n < 1 ∧ ¬ 255 < n ∧ ¬ k < 1 ∧ ¬ n < k ∧ seg < 1) ∨ (¬ n < 1 ∧ ¬ 255 < n ∧ ¬ k < 1 ∧ ¬ n < k ∧ ¬ seg < 1 ∧ 65536 < seg) ∨ (¬ n < 1 ∧ ¬ 255 < n ∧ ¬ k < 1 ∧ ¬ n < k ∧ ¬ seg < 1 ∧ ¬ 65536 < seg) := by omega
 rcases hc with c0 | ⟨c0, c1⟩ | ⟨c0, c1, c2⟩ | ⟨c0, c1, c2, c3⟩ | ⟨c0, c1, c2, c3, c4⟩ | ⟨c0, c1, c2, c3, c4, c5⟩ | ⟨c0, c1, c2, c3, c4, c5⟩
 ·rw [if_neg (by unfold okP; omega)]
  go_enter Tryz.func101, Tryz.ntmps101
  go_wp2
  go_ret
  exact ⟨(Below.refl w.heap.size w).alloc (Nat.le_refl _) _, rfl⟩
 ·rw [if_neg (by unfold okP; omega)]
  go_enter Tryz.func101, Tryz.ntmps101
  go_wp2
  go_ret
  exact ⟨(Below.refl w.heap.size w).alloc (Nat.le_refl _) _, rfl⟩
 ·rw [if_neg (by unfold okP; omega)]
  go_enter Tryz.func101, Tryz.ntmps101
  go_wp2
  go_ret
  exact ⟨(Below.refl w.heap.size w).alloc (Nat.le_refl _) _, rfl⟩
 ·rw [if_neg (by unfold okP; omega)]
  go_enter Tryz.func101, Tryz.ntmps101
  go_wp2
  go_ret
  exact ⟨(Below.refl w.heap.size w).alloc (Nat.le_refl _) _, rfl⟩
 ·rw [if_neg (by unfold okP; omega)]
  go_enter Tryz.func101, Tryz.ntmps101
  go_wp2
  go_ret
  exact ⟨(Below.refl w.heap.size w).alloc (Nat.le_refl _) _, rfl⟩
 ·rw [if_neg (by unfold okP; omega)]
  go_enter Tryz.func101, Tryz.ntmps101
  go_wp2
  go_ret
  exact ⟨(Below.refl w.heap.size w).alloc (Nat.le_refl _) _, rfl⟩
 ·rw [if_pos (by unfold okP; omega)]
  go_enter Tryz.func101, Tryz.ntmps101
  go_wp2
  go_ret
  exact ⟨(Below.refl w.heap.size w).alloc (Nat.le_refl _) _, rfl⟩
set_option maxRecDepth 100000 in
set_option maxHeartbeats 2000000 in
theorem rshape_bad (k n seg size : Int) (w : World) (hp : ¬ okP k n seg) :
  Calls Tryz.prog 81 #[.agg #[.int .i64 k, .int .i64 n, .int .i64 seg, .int .i64 0, .slice none 0 0], .int .i64 size] w fun x w' => Below w.heap.size w w' ∧ x = .returned (.tuple #[.agg #[.int .i64 0, .int .i64 0, .int .i64 0, .int .i64 0, .int .i64 0, .int .i64 0, .int .i64 0, .int .i64 0], .int .i64 3]) := by
 have q := fun w => rcheck_any k n seg w
 simp only [if_neg hp] at q
 have Q := hide q
 clear q
 go_enter Tryz.func81, Tryz.ntmps81
 go_wp2_with fail
 refine (Q.out _).mono ?_
 rintro x w1 ⟨b1, rfl⟩
 have hB2 := (Blk.new (w.alloc (.cells #[.int .i64 k, .int .i64 n, .int .i64 seg, .int .i64 0, .slice none 0 0] 127)) 54 #[.int .i64 0, .int .i64 0, .int .i64 0, .int .i64 0, .int .i64 0, .int .i64 0, .int .i64 0, .int .i64 0]).below' b1
 have B1 := hide (((Below.refl w.heap.size w).alloc (Nat.le_refl _) _).alloc (by simp) _ |>.trans (b1.mono (by simp; omega)))
 have HB2 := hide hB2
 clear b1 hB2
 go_wp2_with (refine wpList_store_row (o := ⟨none, .store _ _ _, _, _, _, _⟩) HB2.out #[.int .i64 0, .int .i64 0, .int .i64 0, .int .i64 0, .int .i64 0, .int .i64 0, .int .i64 0, .int .i64 0] rfl (by simp [Value.oneCell']) rfl 54 _ _ rfl (by kernel_rfl) (by simp only [World.size_alloc]; rfl) (by kernel_rfl) ?_; intro wf hb1 hg1)
 simp only [World.size_alloc] at hb1 hg1
 exact bodyPost_ret (results_row_tmp rfl _ _ (w.heap.size + 1) 54 #[.int .i64 0, .int .i64 0, .int .i64 0, .int .i64 0, .int .i64 0, .int .i64 0, .int .i64 0, .int .i64 0] (0, 0) _ rfl hb1 Tryz.underlying54 rfl (by kernel_rfl)) rfl ⟨B1.out.grown hg1 (by have := HB2.out.lt; simp at this; omega) (fun k hk => by cases hk; omega), rfl⟩
set_option maxRecDepth 100000 in
set_option maxHeartbeats 2000000 in
theorem rshape_size (k n seg size : Int) (w : World) (hp : okP k n seg) (hz : size ≤ 32 ∨ 16777216 < size) :
  Calls Tryz.prog 81 #[.agg #[.int .i64 k, .int .i64 n, .int .i64 seg, .int .i64 0, .slice none 0 0], .int .i64 size] w fun x w' => Below w.heap.size w w' ∧ x = .returned (.tuple #[.agg #[.int .i64 0, .int .i64 0, .int .i64 0, .int .i64 0, .int .i64 0, .int .i64 0, .int .i64 0, .int .i64 0], .int .i64 4]) := by
 have q := fun w => rcheck_any k n seg w
 simp only [if_pos hp] at q
 have Q := hide q
 clear q hp
 have hz' : size ≤ 32 ∨ (¬ size ≤ 32 ∧ 16777216 < size) := by omega
 rcases hz' with c1 | ⟨c1, c2⟩
 all_goals
  clear hz
  go_enter Tryz.func81, Tryz.ntmps81
  go_wp2_with fail
  refine (Q.out _).mono ?_
  rintro x w1 ⟨b1, rfl⟩
  have hB2 := (Blk.new (w.alloc (.cells #[.int .i64 k, .int .i64 n, .int .i64 seg, .int .i64 0, .slice none 0 0] 127)) 54 #[.int .i64 0, .int .i64 0, .int .i64 0, .int .i64 0, .int .i64 0, .int .i64 0, .int .i64 0, .int .i64 0]).below' b1
  have B1 := hide (((Below.refl w.heap.size w).alloc (Nat.le_refl _) _).alloc (by simp) _ |>.trans (b1.mono (by simp; omega)))
  have HB2 := hide hB2
  clear b1 hB2
  go_wp2_with (refine wpList_store_row (o := ⟨none, .store _ _ _, _, _, _, _⟩) HB2.out #[.int .i64 0, .int .i64 0, .int .i64 0, .int .i64 0, .int .i64 0, .int .i64 0, .int .i64 0, .int .i64 0] rfl (by simp [Value.oneCell']) rfl 54 _ _ rfl (by kernel_rfl) (by simp only [World.size_alloc]; rfl) (by kernel_rfl) ?_; intro wf hb1 hg1)
  simp only [World.size_alloc] at hb1 hg1
  exact bodyPost_ret (results_row_tmp rfl _ _ (w.heap.size + 1) 54 #[.int .i64 0, .int .i64 0, .int .i64 0, .int .i64 0, .int .i64 0, .int .i64 0, .int .i64 0, .int .i64 0] (0, 0) _ rfl hb1 Tryz.underlying54 rfl (by kernel_rfl)) rfl ⟨B1.out.grown hg1 (by have := HB2.out.lt; simp at this; omega) (fun k hk => by cases hk; omega), rfl⟩
end Go.Proofs.YtdohebhbiokljaaGreatDoor
namespace Go.Proofs.YtdohebhbiokljaaGreatDoor
open Go.RowKit
set_option maxRecDepth 100000 in
set_option maxHeartbeats 4000000 in
theorem ragain_0 (k n seg size x0 x1 x3 x4 x5 x6 x7 : Int) (w : World) (r0 : (∀ w, Calls Tryz.prog 81 #[.agg #[.int .i64 k, .int .i64 n, .int .i64 seg, .int .i64 0, .slice none 0 0], .int .i64 size] w fun x w' => Below w.heap.size w w' ∧ x = .returned (.tuple #[.agg #[.int .i64 x0, .int .i64 x1, .int .i64 seg, .int .i64 x3, .int .i64 x4, .int .i64 x5, .int .i64 x6, .int .i64 x7], .int .i64 0]))) :
  Calls Tryz.prog 50 #[.int .i64 k, .int .i64 n, .int .i64 seg, .int .i64 size] w fun x w' => Below w.heap.size w w' ∧ x = .returned (.tuple #[.agg #[.int .i64 x0, .int .i64 x1, .int .i64 seg, .int .i64 x3, .int .i64 x4, .int .i64 x5, .int .i64 x6, .int .i64 x7], .int .i64 0]) := by
 have R0 := hide r0
 clear r0
 go_enter Tryz.func50, Tryz.ntmps50
 go_wp2
 go_loopw [10] (fun u10 wr => ∃ i : Nat, u10 = .int .i64 (i : Int) ∧ i ≤ 0 ∧ Blk wr w.heap.size 54 #[.int .i64 0, .int .i64 0, .int .i64 0, .int .i64 0, .int .i64 0, .int .i64 0, .int .i64 0, .int .i64 0] ∧ Below w.heap.size w wr) (fun u10 _ => 3 - (intOf u10).toNat)
 case atStart => exact ⟨0, rfl, by omega, Blk.new w _ _, (Below.refl _ w).alloc (Nat.le_refl _) _⟩
 case round =>
  obtain ⟨i, rfl, hi, hblk, hbel⟩ := hrel
  have HBLK := hide hblk
  have HBEL := hide hbel
  have hlt := hblk.lt
  clear hblk hbel
  have hii : i = 0 := by omega
  rcases hii with rfl
  ·go_wp2_with fail
   refine (R0.out _).mono ?_
   rintro x w2 ⟨b2, rfl⟩
   have HB2 := hide (HBLK.out.below' b2)
   have HL2 := hide (HBEL.out.trans (b2.mono HBEL.out.size))
   clear b2
   go_wp2_with (refine wpList_store_row (o := ⟨none, .store _ _ _, _, _, _, _⟩) (HB2.out.alloc _) #[.int .i64 x0, .int .i64 x1, .int .i64 seg, .int .i64 x3, .int .i64 x4, .int .i64 x5, .int .i64 x6, .int .i64 x7] rfl (by simp [Value.oneCell']) rfl 54 _ _ rfl (by kernel_rfl) (by rfl) (by rfl) ?_; intro wf hb1 hg1)
   exact bodyPost_ret (results_row_tmp rfl _ _ w.heap.size 54 #[.int .i64 x0, .int .i64 x1, .int .i64 seg, .int .i64 x3, .int .i64 x4, .int .i64 x5, .int .i64 x6, .int .i64 x7] (0, 0) _ rfl hb1 Tryz.underlying54 rfl (by kernel_rfl)) rfl ⟨(HL2.out.alloc HL2.out.size _).grown hg1 (by have := HB2.out.lt; simp; omega) (fun k hk => by cases hk; omega), rfl⟩
set_option maxRecDepth 100000 in
set_option maxHeartbeats 4000000 in
theorem ragain_1 (k n seg size x0 x1 x2 x3 x4 x5 x6 x7 y0 y1 y3 y4 y5 y6 y7 e0 : Int) (w : World) (h0 : ¬ (e0 = 0 ∧ x2 = seg)) (r0 : (∀ w, Calls Tryz.prog 81 #[.agg #[.int .i64 k, .int .i64 n, .int .i64 seg, .int .i64 0, .slice none 0 0], .int .i64 size] w fun x w' => Below w.heap.size w w' ∧ x = .returned (.tuple #[.agg #[.int .i64 x0, .int .i64 x1, .int .i64 x2, .int .i64 x3, .int .i64 x4, .int .i64 x5, .int .i64 x6, .int .i64 x7], .int .i64 e0]))) (r1 : (∀ w, Calls Tryz.prog 81 #[.agg #[.int .i64 k, .int .i64 n, .int .i64 65536, .int .i64 0, .slice none 0 0], .int .i64 size] w fun x w' => Below w.heap.size w w' ∧ x = .returned (.tuple #[.agg #[.int .i64 y0, .int .i64 y1, .int .i64 seg, .int .i64 y3, .int .i64 y4, .int .i64 y5, .int .i64 y6, .int .i64 y7], .int .i64 0]))) :
  Calls Tryz.prog 50 #[.int .i64 k, .int .i64 n, .int .i64 seg, .int .i64 size] w fun x w' => Below w.heap.size w w' ∧ x = .returned (.tuple #[.agg #[.int .i64 y0, .int .i64 y1, .int .i64 seg, .int .i64 y3, .int .i64 y4, .int .i64 y5, .int .i64 y6, .int .i64 y7], .int .i64 0]) := by
 have R0 := hide r0
 have R1 := hide r1
 clear r0 r1
 go_enter Tryz.func50, Tryz.ntmps50
 go_wp2
 go_loopw [10] (fun u10 wr => ∃ i : Nat, u10 = .int .i64 (i : Int) ∧ i ≤ 1 ∧ Blk wr w.heap.size 54 #[.int .i64 0, .int .i64 0, .int .i64 0, .int .i64 0, .int .i64 0, .int .i64 0, .int .i64 0, .int .i64 0] ∧ Below w.heap.size w wr) (fun u10 _ => 3 - (intOf u10).toNat)
 case atStart => exact ⟨0, rfl, by omega, Blk.new w _ _, (Below.refl _ w).alloc (Nat.le_refl _) _⟩
 case round =>
  obtain ⟨i, rfl, hi, hblk, hbel⟩ := hrel
  have HBLK := hide hblk
  have HBEL := hide hbel
  have hlt := hblk.lt
  clear hblk hbel
  have hii : i = 0 ∨ i = 1 := by omega
  rcases hii with rfl | rfl
  ·go_wp2_with fail
   refine (R0.out _).mono ?_
   rintro x w2 ⟨b2, rfl⟩
   have HB2 := hide (HBLK.out.below' b2)
   have HL2 := hide (HBEL.out.trans (b2.mono HBEL.out.size))
   clear b2
   by_cases z1 : e0 = 0
   ·have z2 : ¬ x2 = seg := fun h => h0 ⟨z1, h⟩
    go_wp2
    go_roundw
    case rel => exact ⟨1, by go_num, by omega, HB2.out.alloc _, HL2.out.alloc HL2.out.size _⟩
    case measure => simp [intOf]
   ·go_wp2
    go_roundw
    case rel => exact ⟨1, by go_num, by omega, HB2.out.alloc _, HL2.out.alloc HL2.out.size _⟩
    case measure => simp [intOf]
  ·go_wp2_with fail
   refine (R1.out _).mono ?_
   rintro x w2 ⟨b2, rfl⟩
   have HB2 := hide (HBLK.out.below' b2)
   have HL2 := hide (HBEL.out.trans (b2.mono HBEL.out.size))
   clear b2
   go_wp2_with (refine wpList_store_row (o := ⟨none, .store _ _ _, _, _, _, _⟩) (HB2.out.alloc _) #[.int .i64 y0, .int .i64 y1, .int .i64 seg, .int .i64 y3, .int .i64 y4, .int .i64 y5, .int .i64 y6, .int .i64 y7] rfl (by simp [Value.oneCell']) rfl 54 _ _ rfl (by kernel_rfl) (by rfl) (by rfl) ?_; intro wf hb1 hg1)
   exact bodyPost_ret (results_row_tmp rfl _ _ w.heap.size 54 #[.int .i64 y0, .int .i64 y1, .int .i64 seg, .int .i64 y3, .int .i64 y4, .int .i64 y5, .int .i64 y6, .int .i64 y7] (0, 0) _ rfl hb1 Tryz.underlying54 rfl (by kernel_rfl)) rfl ⟨(HL2.out.alloc HL2.out.size _).grown hg1 (by have := HB2.out.lt; simp; omega) (fun k hk => by cases hk; omega), rfl⟩
set_option maxRecDepth 100000 in
set_option maxHeartbeats 4000000 in
theorem ragain_2 (k n seg size x0 x1 x2 x3 x4 x5 x6 x7 y0 y1 y2 y3 y4 y5 y6 y7 e0 e1 : Int) (w : World) (h0 : ¬ (e0 = 0 ∧ x2 = seg)) (h1 : ¬ (e1 = 0 ∧ y2 = seg)) (r0 : (∀ w, Calls Tryz.prog 81 #[.agg #[.int .i64 k, .int .i64 n, .int .i64 seg, .int .i64 0, .slice none 0 0], .int .i64 size] w fun x w' => Below w.heap.size w w' ∧ x = .returned (.tuple #[.agg #[.int .i64 x0, .int .i64 x1, .int .i64 x2, .int .i64 x3, .int .i64 x4, .int .i64 x5, .int .i64 x6, .int .i64 x7], .int .i64 e0]))) (r1 : (∀ w, Calls Tryz.prog 81 #[.agg #[.int .i64 k, .int .i64 n, .int .i64 65536, .int .i64 0, .slice none 0 0], .int .i64 size] w fun x w' => Below w.heap.size w w' ∧ x = .returned (.tuple #[.agg #[.int .i64 y0, .int .i64 y1, .int .i64 y2, .int .i64 y3, .int .i64 y4, .int .i64 y5, .int .i64 y6, .int .i64 y7], .int .i64 e1]))) :
  Calls Tryz.prog 50 #[.int .i64 k, .int .i64 n, .int .i64 seg, .int .i64 size] w fun x w' => Below w.heap.size w w' ∧ x = .returned (.tuple #[.agg #[.int .i64 0, .int .i64 0, .int .i64 0, .int .i64 0, .int .i64 0, .int .i64 0, .int .i64 0, .int .i64 0], .int .i64 92]) := by
 have R0 := hide r0
 have R1 := hide r1
 clear r0 r1
 go_enter Tryz.func50, Tryz.ntmps50
 go_wp2
 go_loopw [10] (fun u10 wr => ∃ i : Nat, u10 = .int .i64 (i : Int) ∧ i ≤ 2 ∧ Blk wr w.heap.size 54 #[.int .i64 0, .int .i64 0, .int .i64 0, .int .i64 0, .int .i64 0, .int .i64 0, .int .i64 0, .int .i64 0] ∧ Below w.heap.size w wr) (fun u10 _ => 3 - (intOf u10).toNat)
 case atStart => exact ⟨0, rfl, by omega, Blk.new w _ _, (Below.refl _ w).alloc (Nat.le_refl _) _⟩
 case round =>
  obtain ⟨i, rfl, hi, hblk, hbel⟩ := hrel
  have HBLK := hide hblk
  have HBEL := hide hbel
  have hlt := hblk.lt
  clear hblk hbel
  have hii : i = 0 ∨ i = 1 ∨ i = 2 := by omega
  rcases hii with rfl | rfl | rfl
  ·go_wp2_with fail
   refine (R0.out _).mono ?_
   rintro x w2 ⟨b2, rfl⟩
   have HB2 := hide (HBLK.out.below' b2)
   have HL2 := hide (HBEL.out.trans (b2.mono HBEL.out.size))
   clear b2
   by_cases z1 : e0 = 0
   ·have z2 : ¬ x2 = seg := fun h => h0 ⟨z1, h⟩
    go_wp2
    go_roundw
    case rel => exact ⟨1, by go_num, by omega, HB2.out.alloc _, HL2.out.alloc HL2.out.size _⟩
    case measure => simp [intOf]
   ·go_wp2
    go_roundw
    case rel => exact ⟨1, by go_num, by omega, HB2.out.alloc _, HL2.out.alloc HL2.out.size _⟩
    case measure => simp [intOf]
  ·go_wp2_with fail
   refine (R1.out _).mono ?_
   rintro x w2 ⟨b2, rfl⟩
   have HB2 := hide (HBLK.out.below' b2)
   have HL2 := hide (HBEL.out.trans (b2.mono HBEL.out.size))
   clear b2
   by_cases z1 : e1 = 0
   ·have z2 : ¬ y2 = seg := fun h => h1 ⟨z1, h⟩
    go_wp2
    go_roundw
    case rel => exact ⟨2, by go_num, by omega, HB2.out.alloc _, HL2.out.alloc HL2.out.size _⟩
    case measure => simp [intOf]
   ·go_wp2
    go_roundw
    case rel => exact ⟨2, by go_num, by omega, HB2.out.alloc _, HL2.out.alloc HL2.out.size _⟩
    case measure => simp [intOf]
  ·go_wp2_with (refine wpList_store_row (o := ⟨none, .store _ _ _, _, _, _, _⟩) HBLK.out #[.int .i64 0, .int .i64 0, .int .i64 0, .int .i64 0, .int .i64 0, .int .i64 0, .int .i64 0, .int .i64 0] rfl (by simp [Value.oneCell']) rfl 54 _ _ rfl (by kernel_rfl) (by rfl) (by kernel_rfl) ?_; intro wf hb1 hg1)
   exact bodyPost_ret (results_row_tmp rfl _ _ w.heap.size 54 #[.int .i64 0, .int .i64 0, .int .i64 0, .int .i64 0, .int .i64 0, .int .i64 0, .int .i64 0, .int .i64 0] (0, 0) _ rfl hb1 Tryz.underlying54 rfl (by kernel_rfl)) rfl ⟨HBEL.out.grown hg1 (by omega) (fun k hk => by cases hk; omega), rfl⟩
end Go.Proofs.YtdohebhbiokljaaGreatDoor
namespace Go.Proofs.YtdohebhbiokljaaGreatDoor
open Go.RowKit
theorem upN_mono (a b k : Nat) (h : a ≤ b) : upN a k ≤ upN b k := by
 unfold upN
 exact Nat.div_le_div_right (by omega)
theorem upN_mul (q k : Nat) (h : 1 ≤ k) : upN (k * q) k = q := by
 unfold upN
 rw [show k * q + k - 1 = k * q + (k - 1) by omega, Nat.mul_add_div (by omega), Nat.div_eq_of_lt (by omega)]
 rfl
theorem blk_newg {W : World} {g : Nat} {t : TypeId} {cs : Array Value} (h : W.heap.size = g) : Blk (W.alloc (.cells cs t)) g t cs := by subst h; exact Blk.new W t cs
theorem keep3 {W W' : World} {g : Nat} {a b c : Value} (hb : Below W.heap.size W W') (h : W.cell? ⟨g, 0, none⟩ = some a ∧ W.cell? ⟨g, 1, none⟩ = some b ∧ W.cell? ⟨g, 2, none⟩ = some c) :
  W'.cell? ⟨g, 0, none⟩ = some a ∧ W'.cell? ⟨g, 1, none⟩ = some b ∧ W'.cell? ⟨g, 2, none⟩ = some c :=
 ⟨(hb.cell (World.block_lt_of_cell? _ _ h.1)).trans h.1, (hb.cell (World.block_lt_of_cell? _ _ h.2.1)).trans h.2.1, (hb.cell (World.block_lt_of_cell? _ _ h.2.2)).trans h.2.2⟩
def shapeC (k n seg size : Nat) : Array Value := #[.int .i64 (k : Int), .int .i64 (n : Int), .int .i64 (seg : Int), .int .i64 (size : Int), .int .i64 (upN size seg : Int), .int .i64 ((size - (upN size seg - 1) * seg : Nat) : Int), .int .i64 ((seg / k : Nat) : Int), .int .i64 (upN (size - (upN size seg - 1) * seg) k : Int)]
set_option maxRecDepth 100000 in
set_option maxHeartbeats 4000000 in
theorem rshape_ok (k n s size : Nat) (w : World) (hp : okP k n s) (hz : 32 < size ∧ size ≤ 16777216) :
  Calls Tryz.prog 81 #[.agg #[.int .i64 (k : Int), .int .i64 (n : Int), .int .i64 (s : Int), .int .i64 0, .slice none 0 0], .int .i64 (size : Int)] w fun x w' => Below w.heap.size w w' ∧
   x = .returned (if upN size (k * upN s k) ≤ 512 then .tuple #[.agg (shapeC k n (k * upN s k) size), .int .i64 0] else .tuple #[.agg #[.int .i64 0, .int .i64 0, .int .i64 0, .int .i64 0, .int .i64 0, .int .i64 0, .int .i64 0, .int .i64 0], .int .i64 3]) := by
 have q := fun w => rcheck_any k n s w
 simp only [if_pos hp] at q
 have hp' := hp
 unfold okP at hp'
 have h1 := upN_spec s k (by omega) (by omega)
 have h5 : k * upN s k = (upN s k - 1) * k + k := by
  obtain ⟨u, hu⟩ : ∃ u, upN s k = u + 1 := ⟨upN s k - 1, by omega⟩
  rw [hu, Nat.add_sub_cancel, Nat.mul_add, Nat.mul_comm]; omega
 have h6 := upN_le s k (by omega)
 have hu := fun w => rup_any s k w (by omega) (by omega) (by omega)
 have hl := fun w => rlaid_any k n (k * upN s k) size w (by omega) (by omega) (by omega) (by omega) (by omega) (by omega)
 have e1 : IntKind.i64.wrap ((k : Int) * (upN s k : Int)) = ((k * upN s k : Nat) : Int) := by
  rw [← Int.natCast_mul]; exact IntWalk.i64_in _ (by omega)
 generalize k * upN s k = g at *
 have hul := upN_le size g (by omega)
 unfold shapeV at hl
 unfold shapeC
 have HU := hide hu
 have HL := hide hl
 have E1 := hide e1
 generalize upN s k = U at *
 generalize (size - (upN size g - 1) * g : Nat) = T at *
 generalize upN T k = C at *
 generalize (g / k : Nat) = B at *
 generalize upN size g = S at *
 generalize (T : Int) = T at *
 generalize (B : Int) = B at *
 generalize (C : Int) = C at *
 have Q := hide q
 have c1 : ¬ (size : Int) ≤ 32 := by omega
 have c2 : ¬ 16777216 < (size : Int) := by omega
 clear q hu hl hp hp' h1 h5 h6 hul e1
 by_cases hS : S ≤ 512
 ·rw [if_pos hS]
  have i1 : ¬ 512 < (S : Int) := by omega
  go_enter Tryz.func81, Tryz.ntmps81
  go_wp2_with fail
  refine (Q.out _).mono ?_
  rintro x w1 ⟨b1, rfl⟩
  have hB2 := (Blk.new (w.alloc (.cells #[.int .i64 (k : Int), .int .i64 (n : Int), .int .i64 (s : Int), .int .i64 0, .slice none 0 0] 127)) 54 #[.int .i64 0, .int .i64 0, .int .i64 0, .int .i64 0, .int .i64 0, .int .i64 0, .int .i64 0, .int .i64 0]).below' b1
  have hB0 := ((Blk.new w 127 #[.int .i64 (k : Int), .int .i64 (n : Int), .int .i64 (s : Int), .int .i64 0, .slice none 0 0]).alloc (.cells #[.int .i64 0, .int .i64 0, .int .i64 0, .int .i64 0, .int .i64 0, .int .i64 0, .int .i64 0, .int .i64 0] 54)).below' b1
  have k0 : w1.cell? ⟨w.heap.size, 0, none⟩ = some (.int .i64 (k : Int)) := hB0.cell 0
  have k1 : w1.cell? ⟨w.heap.size, 1, none⟩ = some (.int .i64 (n : Int)) := hB0.cell 1
  have k2 : w1.cell? ⟨w.heap.size, 2, none⟩ = some (.int .i64 (s : Int)) := hB0.cell 2
  have B1 := hide (((Below.refl w.heap.size w).alloc (Nat.le_refl _) _).alloc (by simp) _ |>.trans (b1.mono (by simp; omega)))
  simp only [World.size_alloc] at hB2
  have HB2 := hide hB2
  clear b1 hB2 hB0
  go_wp2
  all_goals try (exfalso; omega)
  have e1 := E1.out
  have hl1 := HB2.out.lt
  have hn1 : ¬ w.heap.size = w1.heap.size := by omega
  have hn2 : ¬ w1.heap.size = w.heap.size := by omega
  have KP := hide (fun W' (h : Below w1.heap.size w1 W') => keep3 h ⟨k0, k1, k2⟩)
  go_region_held3 (fun w' => w'.cell? ⟨w.heap.size, 0, none⟩ = some (.int .i64 (k : Int)) ∧ w'.cell? ⟨w.heap.size, 1, none⟩ = some (.int .i64 (n : Int)) ∧ w'.cell? ⟨w.heap.size, 2, none⟩ = some (.int .i64 (s : Int))) (first | (go_keep; done) | exact KP.out _ (by (repeat (first | with_reducible exact Below.refl _ _ | with_reducible refine Below.drew ?_ | with_reducible refine below_drewN ?_ _ | with_reducible refine Below.al0 ?_ _ | with_reducible refine Below.step ?_ b6)))) (first | (go_at_call 103; (with_reducible refine (HU.out _).mono ?_); rintro e w5 ⟨rfl, m5, rfl⟩) | (go_at_call 102; (try simp only [e1]); (with_reducible refine (HL.out _).mono ?_); rintro e w6 ⟨rfl, b6⟩; have HB6 := hide (Blk.below' (g := w.heap.size + 1) (t := 54) (cs := #[.int .i64 0, .int .i64 0, .int .i64 0, .int .i64 0, .int .i64 0, .int .i64 0, .int .i64 0, .int .i64 0]) (by (repeat (first | with_reducible exact HB2.out | with_reducible refine Blk.drewN ?_ _ | with_reducible refine Blk.drew ?_ | with_reducible refine Blk.alloc ?_ _))) b6); have HL6 := hide (Below.step (w := w) (by (repeat (first | with_reducible exact B1.out | with_reducible refine Below.drew ?_ | with_reducible refine below_drewN ?_ _ | with_reducible refine Below.al0 ?_ _))) b6); (first | ((have z6 : Blk w6 w1.heap.size 54 #[.int .i64 0, .int .i64 0, .int .i64 0, .int .i64 0, .int .i64 0, .int .i64 0, .int .i64 0, .int .i64 0] := Blk.below' ((Blk.new w1 54 #[.int .i64 0, .int .i64 0, .int .i64 0, .int .i64 0, .int .i64 0, .int .i64 0, .int .i64 0, .int .i64 0]).drewN _) b6); have y0 : w6.cell? ⟨w1.heap.size, 0, none⟩ = some (.int .i64 0) := z6.cell 0; have g0 : w6.frozen? ⟨w1.heap.size, 0, none⟩ = false := z6.frozen 0; have y1 : w6.cell? ⟨w1.heap.size, 1, none⟩ = some (.int .i64 0) := z6.cell 1; have g1 : w6.frozen? ⟨w1.heap.size, 1, none⟩ = false := z6.frozen 1; have y2 : w6.cell? ⟨w1.heap.size, 2, none⟩ = some (.int .i64 0) := z6.cell 2; have g2 : w6.frozen? ⟨w1.heap.size, 2, none⟩ = false := z6.frozen 2; have y3 : w6.cell? ⟨w1.heap.size, 3, none⟩ = some (.int .i64 0) := z6.cell 3; have g3 : w6.frozen? ⟨w1.heap.size, 3, none⟩ = false := z6.frozen 3; have y4 : w6.cell? ⟨w1.heap.size, 4, none⟩ = some (.int .i64 0) := z6.cell 4; have g4 : w6.frozen? ⟨w1.heap.size, 4, none⟩ = false := z6.frozen 4; have y5 : w6.cell? ⟨w1.heap.size, 5, none⟩ = some (.int .i64 0) := z6.cell 5; have g5 : w6.frozen? ⟨w1.heap.size, 5, none⟩ = false := z6.frozen 5; have y6 : w6.cell? ⟨w1.heap.size, 6, none⟩ = some (.int .i64 0) := z6.cell 6; have g6 : w6.frozen? ⟨w1.heap.size, 6, none⟩ = false := z6.frozen 6; have y7 : w6.cell? ⟨w1.heap.size, 7, none⟩ = some (.int .i64 0) := z6.cell 7; have g7 : w6.frozen? ⟨w1.heap.size, 7, none⟩ = false := z6.frozen 7; have hn6 := z6.lt; have hn3 : ¬ w1.heap.size = w6.heap.size := (by omega); have Z6 := hide z6; clear z6) | ((have z6 : Blk w6 w1.heap.size 54 #[.int .i64 0, .int .i64 0, .int .i64 0, .int .i64 0, .int .i64 0, .int .i64 0, .int .i64 0, .int .i64 0] := Blk.below' (blk_newg (W := w1.drewN _) (g := w1.heap.size) rfl) b6); have y0 : w6.cell? ⟨w1.heap.size, 0, none⟩ = some (.int .i64 0) := z6.cell 0; have g0 : w6.frozen? ⟨w1.heap.size, 0, none⟩ = false := z6.frozen 0; have y1 : w6.cell? ⟨w1.heap.size, 1, none⟩ = some (.int .i64 0) := z6.cell 1; have g1 : w6.frozen? ⟨w1.heap.size, 1, none⟩ = false := z6.frozen 1; have y2 : w6.cell? ⟨w1.heap.size, 2, none⟩ = some (.int .i64 0) := z6.cell 2; have g2 : w6.frozen? ⟨w1.heap.size, 2, none⟩ = false := z6.frozen 2; have y3 : w6.cell? ⟨w1.heap.size, 3, none⟩ = some (.int .i64 0) := z6.cell 3; have g3 : w6.frozen? ⟨w1.heap.size, 3, none⟩ = false := z6.frozen 3; have y4 : w6.cell? ⟨w1.heap.size, 4, none⟩ = some (.int .i64 0) := z6.cell 4; have g4 : w6.frozen? ⟨w1.heap.size, 4, none⟩ = false := z6.frozen 4; have y5 : w6.cell? ⟨w1.heap.size, 5, none⟩ = some (.int .i64 0) := z6.cell 5; have g5 : w6.frozen? ⟨w1.heap.size, 5, none⟩ = false := z6.frozen 5; have y6 : w6.cell? ⟨w1.heap.size, 6, none⟩ = some (.int .i64 0) := z6.cell 6; have g6 : w6.frozen? ⟨w1.heap.size, 6, none⟩ = false := z6.frozen 6; have y7 : w6.cell? ⟨w1.heap.size, 7, none⟩ = some (.int .i64 0) := z6.cell 7; have g7 : w6.frozen? ⟨w1.heap.size, 7, none⟩ = false := z6.frozen 7; have hn6 := z6.lt; have hn3 : ¬ w1.heap.size = w6.heap.size := (by omega); have Z6 := hide z6; clear z6) | skip)))
  all_goals
   have hw6 := HB6.out.lt
   first
    |(have ec := blk_set8 Z6.out (.int .i64 (k : Int)) (.int .i64 (n : Int)) (.int .i64 (g : Int)) (.int .i64 (size : Int)) (.int .i64 (S : Int)) (.int .i64 T) (.int .i64 B) (.int .i64 C)
      have e4 : Blk (set8 w6 w1.heap.size (.int .i64 (k : Int)) (.int .i64 (n : Int)) (.int .i64 (g : Int)) (.int .i64 (size : Int)) (.int .i64 (S : Int)) (.int .i64 T) (.int .i64 B) (.int .i64 C)) (w.heap.size + 1) 54 #[.int .i64 0, .int .i64 0, .int .i64 0, .int .i64 0, .int .i64 0, .int .i64 0, .int .i64 0, .int .i64 0] := by
       unfold set8
       exact (((((((HB6.out.far (by simp; omega) _).far (by simp; omega) _).far (by simp; omega) _).far (by simp; omega) _).far (by simp; omega) _).far (by simp; omega) _).far (by simp; omega) _).far (by simp; omega) _
      have eB : Below w.heap.size w (set8 w6 w1.heap.size (.int .i64 (k : Int)) (.int .i64 (n : Int)) (.int .i64 (g : Int)) (.int .i64 (size : Int)) (.int .i64 (S : Int)) (.int .i64 T) (.int .i64 B) (.int .i64 C)) := by
       unfold set8
       go_grown
       exact HL6.out
      refine (show Exit.then _ _ _ _ (set8 w6 w1.heap.size (.int .i64 (k : Int)) (.int .i64 (n : Int)) (.int .i64 (g : Int)) (.int .i64 (size : Int)) (.int .i64 (S : Int)) (.int .i64 T) (.int .i64 B) (.int .i64 C)) from ?_)
      clear y0 y1 y2 y3 y4 y5 y6 y7 g0 g1 g2 g3 g4 g5 g6 g7 Z6
      generalize set8 w6 w1.heap.size (.int .i64 (k : Int)) (.int .i64 (n : Int)) (.int .i64 (g : Int)) (.int .i64 (size : Int)) (.int .i64 (S : Int)) (.int .i64 T) (.int .i64 B) (.int .i64 C) = W7 at *
      generalize w1.heap.size = g7 at *)
    |(have e4 := HB6.out.alloc (.cells #[.int .i64 (k : Int), .int .i64 (n : Int), .int .i64 (g : Int), .int .i64 (size : Int), .int .i64 (S : Int), .int .i64 T, .int .i64 B, .int .i64 C] 54)
      have eB := HL6.out.alloc HL6.out.size (.cells #[.int .i64 (k : Int), .int .i64 (n : Int), .int .i64 (g : Int), .int .i64 (size : Int), .int .i64 (S : Int), .int .i64 T, .int .i64 B, .int .i64 C] 54)
      have ec := Blk.new w6 54 #[.int .i64 (k : Int), .int .i64 (n : Int), .int .i64 (g : Int), .int .i64 (size : Int), .int .i64 (S : Int), .int .i64 T, .int .i64 B, .int .i64 C]
      generalize w6.alloc (.cells #[.int .i64 (k : Int), .int .i64 (n : Int), .int .i64 (g : Int), .int .i64 (size : Int), .int .i64 (S : Int), .int .i64 T, .int .i64 B, .int .i64 C] 54) = W7 at *
      generalize w6.heap.size = g7 at *)
   have E4 := hide e4
   have EB := hide eB
   have c4 : W7.cell? ⟨g7, 4, none⟩ = some (.int .i64 (S : Int)) := ec.cell 4
   have d0 : W7.cell? ⟨g7, 0, none⟩ = some (.int .i64 (k : Int)) := ec.cell 0
   have d1 : W7.cell? ⟨g7, 1, none⟩ = some (.int .i64 (n : Int)) := ec.cell 1
   have d2 : W7.cell? ⟨g7, 2, none⟩ = some (.int .i64 (g : Int)) := ec.cell 2
   have d3 : W7.cell? ⟨g7, 3, none⟩ = some (.int .i64 (size : Int)) := ec.cell 3
   have d5 : W7.cell? ⟨g7, 5, none⟩ = some (.int .i64 T) := ec.cell 5
   have d6 : W7.cell? ⟨g7, 6, none⟩ = some (.int .i64 B) := ec.cell 6
   have d7 : W7.cell? ⟨g7, 7, none⟩ = some (.int .i64 C) := ec.cell 7
   clear e4 eB ec HB6 HL6 HU HL Q hl1 hn1 hn2 KP b6 k0 k1 k2
   go_wp2_with (refine wpList_store_row (o := ⟨none, .store _ _ _, _, _, _, _⟩) E4.out #[.int .i64 (k : Int), .int .i64 (n : Int), .int .i64 (g : Int), .int .i64 (size : Int), .int .i64 (S : Int), .int .i64 T, .int .i64 B, .int .i64 C] rfl (by simp [Value.oneCell']) rfl 54 _ _ rfl (by kernel_rfl) (by rfl) (by first | rfl | kernel_rfl) ?_; intro wf hb1 hg1)
   exact bodyPost_ret (results_row_tmp rfl _ _ (w.heap.size + 1) 54 #[.int .i64 (k : Int), .int .i64 (n : Int), .int .i64 (g : Int), .int .i64 (size : Int), .int .i64 (S : Int), .int .i64 T, .int .i64 B, .int .i64 C] (0, 0) _ rfl hb1 Tryz.underlying54 rfl (by kernel_rfl)) rfl ⟨EB.out.grown hg1 (by have := EB.out.size; omega) (fun k hk => by cases hk; omega), rfl⟩
 ·rw [if_neg hS]
  have i1 : 512 < (S : Int) := by omega
  go_enter Tryz.func81, Tryz.ntmps81
  go_wp2_with fail
  refine (Q.out _).mono ?_
  rintro x w1 ⟨b1, rfl⟩
  have hB2 := (Blk.new (w.alloc (.cells #[.int .i64 (k : Int), .int .i64 (n : Int), .int .i64 (s : Int), .int .i64 0, .slice none 0 0] 127)) 54 #[.int .i64 0, .int .i64 0, .int .i64 0, .int .i64 0, .int .i64 0, .int .i64 0, .int .i64 0, .int .i64 0]).below' b1
  have hB0 := ((Blk.new w 127 #[.int .i64 (k : Int), .int .i64 (n : Int), .int .i64 (s : Int), .int .i64 0, .slice none 0 0]).alloc (.cells #[.int .i64 0, .int .i64 0, .int .i64 0, .int .i64 0, .int .i64 0, .int .i64 0, .int .i64 0, .int .i64 0] 54)).below' b1
  have k0 : w1.cell? ⟨w.heap.size, 0, none⟩ = some (.int .i64 (k : Int)) := hB0.cell 0
  have k1 : w1.cell? ⟨w.heap.size, 1, none⟩ = some (.int .i64 (n : Int)) := hB0.cell 1
  have k2 : w1.cell? ⟨w.heap.size, 2, none⟩ = some (.int .i64 (s : Int)) := hB0.cell 2
  have B1 := hide (((Below.refl w.heap.size w).alloc (Nat.le_refl _) _).alloc (by simp) _ |>.trans (b1.mono (by simp; omega)))
  simp only [World.size_alloc] at hB2
  have HB2 := hide hB2
  clear b1 hB2 hB0
  go_wp2
  all_goals try (exfalso; omega)
  have e1 := E1.out
  have hl1 := HB2.out.lt
  have hn1 : ¬ w.heap.size = w1.heap.size := by omega
  have hn2 : ¬ w1.heap.size = w.heap.size := by omega
  have KP := hide (fun W' (h : Below w1.heap.size w1 W') => keep3 h ⟨k0, k1, k2⟩)
  go_region_held3 (fun w' => w'.cell? ⟨w.heap.size, 0, none⟩ = some (.int .i64 (k : Int)) ∧ w'.cell? ⟨w.heap.size, 1, none⟩ = some (.int .i64 (n : Int)) ∧ w'.cell? ⟨w.heap.size, 2, none⟩ = some (.int .i64 (s : Int))) (first | (go_keep; done) | exact KP.out _ (by (repeat (first | with_reducible exact Below.refl _ _ | with_reducible refine Below.drew ?_ | with_reducible refine below_drewN ?_ _ | with_reducible refine Below.al0 ?_ _ | with_reducible refine Below.step ?_ b6)))) (first | (go_at_call 103; (with_reducible refine (HU.out _).mono ?_); rintro e w5 ⟨rfl, m5, rfl⟩) | (go_at_call 102; (try simp only [e1]); (with_reducible refine (HL.out _).mono ?_); rintro e w6 ⟨rfl, b6⟩; have HB6 := hide (Blk.below' (g := w.heap.size + 1) (t := 54) (cs := #[.int .i64 0, .int .i64 0, .int .i64 0, .int .i64 0, .int .i64 0, .int .i64 0, .int .i64 0, .int .i64 0]) (by (repeat (first | with_reducible exact HB2.out | with_reducible refine Blk.drewN ?_ _ | with_reducible refine Blk.drew ?_ | with_reducible refine Blk.alloc ?_ _))) b6); have HL6 := hide (Below.step (w := w) (by (repeat (first | with_reducible exact B1.out | with_reducible refine Below.drew ?_ | with_reducible refine below_drewN ?_ _ | with_reducible refine Below.al0 ?_ _))) b6); (first | ((have z6 : Blk w6 w1.heap.size 54 #[.int .i64 0, .int .i64 0, .int .i64 0, .int .i64 0, .int .i64 0, .int .i64 0, .int .i64 0, .int .i64 0] := Blk.below' ((Blk.new w1 54 #[.int .i64 0, .int .i64 0, .int .i64 0, .int .i64 0, .int .i64 0, .int .i64 0, .int .i64 0, .int .i64 0]).drewN _) b6); have y0 : w6.cell? ⟨w1.heap.size, 0, none⟩ = some (.int .i64 0) := z6.cell 0; have g0 : w6.frozen? ⟨w1.heap.size, 0, none⟩ = false := z6.frozen 0; have y1 : w6.cell? ⟨w1.heap.size, 1, none⟩ = some (.int .i64 0) := z6.cell 1; have g1 : w6.frozen? ⟨w1.heap.size, 1, none⟩ = false := z6.frozen 1; have y2 : w6.cell? ⟨w1.heap.size, 2, none⟩ = some (.int .i64 0) := z6.cell 2; have g2 : w6.frozen? ⟨w1.heap.size, 2, none⟩ = false := z6.frozen 2; have y3 : w6.cell? ⟨w1.heap.size, 3, none⟩ = some (.int .i64 0) := z6.cell 3; have g3 : w6.frozen? ⟨w1.heap.size, 3, none⟩ = false := z6.frozen 3; have y4 : w6.cell? ⟨w1.heap.size, 4, none⟩ = some (.int .i64 0) := z6.cell 4; have g4 : w6.frozen? ⟨w1.heap.size, 4, none⟩ = false := z6.frozen 4; have y5 : w6.cell? ⟨w1.heap.size, 5, none⟩ = some (.int .i64 0) := z6.cell 5; have g5 : w6.frozen? ⟨w1.heap.size, 5, none⟩ = false := z6.frozen 5; have y6 : w6.cell? ⟨w1.heap.size, 6, none⟩ = some (.int .i64 0) := z6.cell 6; have g6 : w6.frozen? ⟨w1.heap.size, 6, none⟩ = false := z6.frozen 6; have y7 : w6.cell? ⟨w1.heap.size, 7, none⟩ = some (.int .i64 0) := z6.cell 7; have g7 : w6.frozen? ⟨w1.heap.size, 7, none⟩ = false := z6.frozen 7; have hn6 := z6.lt; have hn3 : ¬ w1.heap.size = w6.heap.size := (by omega); have Z6 := hide z6; clear z6) | ((have z6 : Blk w6 w1.heap.size 54 #[.int .i64 0, .int .i64 0, .int .i64 0, .int .i64 0, .int .i64 0, .int .i64 0, .int .i64 0, .int .i64 0] := Blk.below' (blk_newg (W := w1.drewN _) (g := w1.heap.size) rfl) b6); have y0 : w6.cell? ⟨w1.heap.size, 0, none⟩ = some (.int .i64 0) := z6.cell 0; have g0 : w6.frozen? ⟨w1.heap.size, 0, none⟩ = false := z6.frozen 0; have y1 : w6.cell? ⟨w1.heap.size, 1, none⟩ = some (.int .i64 0) := z6.cell 1; have g1 : w6.frozen? ⟨w1.heap.size, 1, none⟩ = false := z6.frozen 1; have y2 : w6.cell? ⟨w1.heap.size, 2, none⟩ = some (.int .i64 0) := z6.cell 2; have g2 : w6.frozen? ⟨w1.heap.size, 2, none⟩ = false := z6.frozen 2; have y3 : w6.cell? ⟨w1.heap.size, 3, none⟩ = some (.int .i64 0) := z6.cell 3; have g3 : w6.frozen? ⟨w1.heap.size, 3, none⟩ = false := z6.frozen 3; have y4 : w6.cell? ⟨w1.heap.size, 4, none⟩ = some (.int .i64 0) := z6.cell 4; have g4 : w6.frozen? ⟨w1.heap.size, 4, none⟩ = false := z6.frozen 4; have y5 : w6.cell? ⟨w1.heap.size, 5, none⟩ = some (.int .i64 0) := z6.cell 5; have g5 : w6.frozen? ⟨w1.heap.size, 5, none⟩ = false := z6.frozen 5; have y6 : w6.cell? ⟨w1.heap.size, 6, none⟩ = some (.int .i64 0) := z6.cell 6; have g6 : w6.frozen? ⟨w1.heap.size, 6, none⟩ = false := z6.frozen 6; have y7 : w6.cell? ⟨w1.heap.size, 7, none⟩ = some (.int .i64 0) := z6.cell 7; have g7 : w6.frozen? ⟨w1.heap.size, 7, none⟩ = false := z6.frozen 7; have hn6 := z6.lt; have hn3 : ¬ w1.heap.size = w6.heap.size := (by omega); have Z6 := hide z6; clear z6) | skip)))
  all_goals
   have hw6 := HB6.out.lt
   first
    |(have ec := blk_set8 Z6.out (.int .i64 (k : Int)) (.int .i64 (n : Int)) (.int .i64 (g : Int)) (.int .i64 (size : Int)) (.int .i64 (S : Int)) (.int .i64 T) (.int .i64 B) (.int .i64 C)
      have e4 : Blk (set8 w6 w1.heap.size (.int .i64 (k : Int)) (.int .i64 (n : Int)) (.int .i64 (g : Int)) (.int .i64 (size : Int)) (.int .i64 (S : Int)) (.int .i64 T) (.int .i64 B) (.int .i64 C)) (w.heap.size + 1) 54 #[.int .i64 0, .int .i64 0, .int .i64 0, .int .i64 0, .int .i64 0, .int .i64 0, .int .i64 0, .int .i64 0] := by
       unfold set8
       exact (((((((HB6.out.far (by simp; omega) _).far (by simp; omega) _).far (by simp; omega) _).far (by simp; omega) _).far (by simp; omega) _).far (by simp; omega) _).far (by simp; omega) _).far (by simp; omega) _
      have eB : Below w.heap.size w (set8 w6 w1.heap.size (.int .i64 (k : Int)) (.int .i64 (n : Int)) (.int .i64 (g : Int)) (.int .i64 (size : Int)) (.int .i64 (S : Int)) (.int .i64 T) (.int .i64 B) (.int .i64 C)) := by
       unfold set8
       go_grown
       exact HL6.out
      refine (show Exit.then _ _ _ _ (set8 w6 w1.heap.size (.int .i64 (k : Int)) (.int .i64 (n : Int)) (.int .i64 (g : Int)) (.int .i64 (size : Int)) (.int .i64 (S : Int)) (.int .i64 T) (.int .i64 B) (.int .i64 C)) from ?_)
      clear y0 y1 y2 y3 y4 y5 y6 y7 g0 g1 g2 g3 g4 g5 g6 g7 Z6
      generalize set8 w6 w1.heap.size (.int .i64 (k : Int)) (.int .i64 (n : Int)) (.int .i64 (g : Int)) (.int .i64 (size : Int)) (.int .i64 (S : Int)) (.int .i64 T) (.int .i64 B) (.int .i64 C) = W7 at *
      generalize w1.heap.size = g7 at *)
    |(have e4 := HB6.out.alloc (.cells #[.int .i64 (k : Int), .int .i64 (n : Int), .int .i64 (g : Int), .int .i64 (size : Int), .int .i64 (S : Int), .int .i64 T, .int .i64 B, .int .i64 C] 54)
      have eB := HL6.out.alloc HL6.out.size (.cells #[.int .i64 (k : Int), .int .i64 (n : Int), .int .i64 (g : Int), .int .i64 (size : Int), .int .i64 (S : Int), .int .i64 T, .int .i64 B, .int .i64 C] 54)
      have ec := Blk.new w6 54 #[.int .i64 (k : Int), .int .i64 (n : Int), .int .i64 (g : Int), .int .i64 (size : Int), .int .i64 (S : Int), .int .i64 T, .int .i64 B, .int .i64 C]
      generalize w6.alloc (.cells #[.int .i64 (k : Int), .int .i64 (n : Int), .int .i64 (g : Int), .int .i64 (size : Int), .int .i64 (S : Int), .int .i64 T, .int .i64 B, .int .i64 C] 54) = W7 at *
      generalize w6.heap.size = g7 at *)
   have E4 := hide e4
   have EB := hide eB
   have c4 : W7.cell? ⟨g7, 4, none⟩ = some (.int .i64 (S : Int)) := ec.cell 4
   have d0 : W7.cell? ⟨g7, 0, none⟩ = some (.int .i64 (k : Int)) := ec.cell 0
   have d1 : W7.cell? ⟨g7, 1, none⟩ = some (.int .i64 (n : Int)) := ec.cell 1
   have d2 : W7.cell? ⟨g7, 2, none⟩ = some (.int .i64 (g : Int)) := ec.cell 2
   have d3 : W7.cell? ⟨g7, 3, none⟩ = some (.int .i64 (size : Int)) := ec.cell 3
   have d5 : W7.cell? ⟨g7, 5, none⟩ = some (.int .i64 T) := ec.cell 5
   have d6 : W7.cell? ⟨g7, 6, none⟩ = some (.int .i64 B) := ec.cell 6
   have d7 : W7.cell? ⟨g7, 7, none⟩ = some (.int .i64 C) := ec.cell 7
   clear e4 eB ec HB6 HL6 HU HL Q hl1 hn1 hn2 KP b6 k0 k1 k2
   go_wp2_with (refine wpList_store_row (o := ⟨none, .store _ _ _, _, _, _, _⟩) E4.out #[.int .i64 0, .int .i64 0, .int .i64 0, .int .i64 0, .int .i64 0, .int .i64 0, .int .i64 0, .int .i64 0] rfl (by simp [Value.oneCell']) rfl 54 _ _ rfl (by kernel_rfl) (by rfl) (by first | rfl | kernel_rfl) ?_; intro wf hb1 hg1)
   exact bodyPost_ret (results_row_tmp rfl _ _ (w.heap.size + 1) 54 #[.int .i64 0, .int .i64 0, .int .i64 0, .int .i64 0, .int .i64 0, .int .i64 0, .int .i64 0, .int .i64 0] (0, 0) _ rfl hb1 Tryz.underlying54 rfl (by kernel_rfl)) rfl ⟨EB.out.grown hg1 (by have := EB.out.size; omega) (fun k hk => by cases hk; omega), rfl⟩
end Go.Proofs.YtdohebhbiokljaaGreatDoor
namespace Go.Proofs.YtdohebhbiokljaaGreatDoor
open Go.RowKit
theorem ag_of (k n s seg size : Int) (hp : okP k n s) (hz : 32 < size ∧ size ≤ 16777216) (hx : ((k.toNat * upN s.toNat k.toNat : Nat) : Int) = seg) (h5 : upN size.toNat (k.toNat * upN s.toNat k.toNat) ≤ 512) : agOK k n seg size := by
 unfold okP at hp
 obtain ⟨K, rfl⟩ : ∃ K : Nat, k = (K : Int) := ⟨k.toNat, by omega⟩
 obtain ⟨S, rfl⟩ : ∃ S : Nat, s = (S : Int) := ⟨s.toNat, by omega⟩
 simp only [Int.toNat_natCast] at hx h5
 have h1 := upN_spec S K (by omega) (by omega)
 have h6 := upN_mono S 65536 K (by omega)
 have hU : 1 ≤ K * upN S K := Nat.le_trans (by omega) (Nat.mul_le_mul (show 1 ≤ K by omega) h1.1)
 subst hx
 have e1 : ((K * upN S K : Nat) : Int) % (K : Int) = 0 := by
  rw [← Int.natCast_emod, Nat.mul_mod_right]; rfl
 have e2 : ((K * upN S K : Nat) : Int) / (K : Int) = (upN S K : Int) := by
  rw [← Int.natCast_ediv, Nat.mul_div_cancel_left _ (by omega)]
 unfold agOK
 rw [e1, e2]
 simp only [Int.toNat_natCast]
 exact ⟨⟨by omega, by omega, by omega, by omega, by omega⟩, trivial, by omega, hz.1, hz.2, h5⟩
theorem rshape_gen (k n s size : Int) : ∃ x0 x1 x2 x3 x4 x5 x6 x7 e0 : Int,
  (∀ w, Calls Tryz.prog 81 #[.agg #[.int .i64 k, .int .i64 n, .int .i64 s, .int .i64 0, .slice none 0 0], .int .i64 size] w fun x w' => Below w.heap.size w w' ∧ x = .returned (.tuple #[.agg #[.int .i64 x0, .int .i64 x1, .int .i64 x2, .int .i64 x3, .int .i64 x4, .int .i64 x5, .int .i64 x6, .int .i64 x7], .int .i64 e0])) ∧
  (e0 = 0 → okP k n s ∧ (32 < size ∧ size ≤ 16777216) ∧ ((k.toNat * upN s.toNat k.toNat : Nat) : Int) = x2 ∧ upN size.toNat (k.toNat * upN s.toNat k.toNat) ≤ 512) := by
 by_cases hp : okP k n s
 ·by_cases hz : 32 < size ∧ size ≤ 16777216
  ·have hp' := hp
   unfold okP at hp'
   obtain ⟨K, rfl⟩ : ∃ K : Nat, k = (K : Int) := ⟨k.toNat, by omega⟩
   obtain ⟨N, rfl⟩ : ∃ K : Nat, n = (K : Int) := ⟨n.toNat, by omega⟩
   obtain ⟨S, rfl⟩ : ∃ S : Nat, s = (S : Int) := ⟨s.toNat, by omega⟩
   obtain ⟨Z, rfl⟩ : ∃ S : Nat, size = (S : Int) := ⟨size.toNat, by omega⟩
   have q := fun w => rshape_ok K N S Z w hp (by omega)
   simp only [Int.toNat_natCast]
   by_cases h5 : upN Z (K * upN S K) ≤ 512
   ·simp only [if_pos h5] at q
    exact ⟨_, _, _, _, _, _, _, _, 0, q, fun _ => ⟨hp, hz, rfl, h5⟩⟩
   ·simp only [if_neg h5] at q
    exact ⟨_, _, _, _, _, _, _, _, 3, q, fun h => by omega⟩
  ·exact ⟨_, _, _, _, _, _, _, _, 4, fun w => rshape_size k n s size w hp (by omega), fun h => by omega⟩
 ·exact ⟨_, _, _, _, _, _, _, _, 3, fun w => rshape_bad k n s size w hp, fun h => by omega⟩
theorem ragain_no (k n seg size : Int) (w : World) (h : ¬ agOK k n seg size) :
  Calls Tryz.prog 50 #[.int .i64 k, .int .i64 n, .int .i64 seg, .int .i64 size] w fun x w' => Below w.heap.size w w' ∧ x = .returned (.tuple #[.agg #[.int .i64 0, .int .i64 0, .int .i64 0, .int .i64 0, .int .i64 0, .int .i64 0, .int .i64 0, .int .i64 0], .int .i64 92]) := by
 obtain ⟨x0, x1, x2, x3, x4, x5, x6, x7, e0, r0, f0⟩ := rshape_gen k n seg size
 obtain ⟨y0, y1, y2, y3, y4, y5, y6, y7, e1, r1, f1⟩ := rshape_gen k n 65536 size
 refine ragain_2 k n seg size x0 x1 x2 x3 x4 x5 x6 x7 y0 y1 y2 y3 y4 y5 y6 y7 e0 e1 w ?_ ?_ r0 r1
 ·rintro ⟨h1, h2⟩
  obtain ⟨a, b, c, d⟩ := f0 h1
  exact h (ag_of k n seg seg size a b (c.trans h2) d)
 ·rintro ⟨h1, h2⟩
  obtain ⟨a, b, c, d⟩ := f1 h1
  exact h (ag_of k n 65536 seg size a b (c.trans h2) d)
theorem ragain_ok (K N G Z : Nat) (w : World) (h : agOK K N G Z) :
  Calls Tryz.prog 50 #[.int .i64 (K : Int), .int .i64 (N : Int), .int .i64 (G : Int), .int .i64 (Z : Int)] w fun x w' => Below w.heap.size w w' ∧ x = .returned (.tuple #[.agg (shapeC K N G Z), .int .i64 0]) := by
 unfold agOK at h
 obtain ⟨⟨a1, a2, a3, a4, a5⟩, hm, hq, z1, z2, h5⟩ := h
 simp only [Int.toNat_natCast] at hq h5
 rw [← Int.natCast_emod] at hm
 rw [← Int.natCast_ediv] at hq
 have hd := Nat.div_add_mod G K
 obtain ⟨q, hqq⟩ : ∃ q, q = G / K := ⟨_, rfl⟩
 rw [← hqq] at hq hd
 have hG : G = K * q := by omega
 have hU : upN G K = q := by rw [hG]; exact upN_mul q K (by omega)
 by_cases hs : G ≤ 65536
 ·have r0 := fun w => rshape_ok K N G Z w (by unfold okP; omega) (by omega)
  rw [hU, ← hG] at r0
  simp only [if_pos h5] at r0
  unfold shapeC at r0 ⊢
  exact ragain_0 K N G Z _ _ _ _ _ _ _ w r0
 ·have s1 := upN_spec 65536 K (by omega) (by omega)
  have hUq : upN 65536 K = q := by
   have h7 : (upN 65536 K - 1) * K < q * K := by rw [Nat.mul_comm q K, ← hG]; omega
   have := Nat.lt_of_mul_lt_mul_right h7
   omega
  have r1 := fun w => rshape_ok K N 65536 Z w (by unfold okP; omega) (by omega)
  rw [hUq, ← hG] at r1
  simp only [if_pos h5] at r1
  unfold shapeC at r1 ⊢
  refine ragain_1 K N G Z 0 0 0 0 0 0 0 0 _ _ _ _ _ _ _ 3 w (by omega) (fun w => rshape_bad K N G Z w (by unfold okP; omega)) r1
end Go.Proofs.YtdohebhbiokljaaGreatDoor
namespace Go.Proofs.YtdohebhbiokljaaGreatDoor
open Go.RowKit
set_option maxRecDepth 100000 in
set_option maxHeartbeats 1000000 in
theorem rcheck_u (u : US) (hin : u.in) (w : World) :
  Calls Tryz.prog 27 #[.agg u.cells] w fun e w' => Below w.heap.size w w' ∧ e = .returned (.int .i64 (if agOK u.k u.n u.seg u.size then 0 else 133)) := by
 obtain ⟨k, n, seg, size, sh, sg⟩ := u
 unfold US.in at hin
 simp only at hin
 obtain ⟨k, rfl⟩ : ∃ K : Nat, k = (K : Int) := ⟨k.toNat, by omega⟩
 obtain ⟨n, rfl⟩ : ∃ K : Nat, n = (K : Int) := ⟨n.toNat, by omega⟩
 obtain ⟨seg, rfl⟩ : ∃ K : Nat, seg = (K : Int) := ⟨seg.toNat, by omega⟩
 obtain ⟨size, rfl⟩ : ∃ K : Nat, size = (K : Int) := ⟨size.toNat, by omega⟩
 simp only
 have f0 : (US.cells ⟨k, n, seg, size, sh, sg⟩)[0]? = some (.int .i64 k) := rfl
 have f1 : (US.cells ⟨k, n, seg, size, sh, sg⟩)[1]? = some (.int .i64 n) := rfl
 have f2 : (US.cells ⟨k, n, seg, size, sh, sg⟩)[2]? = some (.int .i64 seg) := rfl
 have f3 : (US.cells ⟨k, n, seg, size, sh, sg⟩)[3]? = some (.int .i64 size) := rfl
 have hal := (Below.refl w.heap.size w).alloc (Nat.le_refl _) (.cells (US.cells ⟨k, n, seg, size, sh, sg⟩) 25)
 have HAL := hide hal
 clear hal hin
 generalize US.cells ⟨k, n, seg, size, sh, sg⟩ = cs at *
 by_cases hag : agOK k n seg size
 ·rw [if_pos hag]
  have HQ := hide (fun w => ragain_ok k n seg size w hag)
  unfold shapeC at HQ
  go_enter Tryz.func27, Tryz.ntmps27
  go_wp2_with fail
  refine (HQ.out _).mono ?_
  rintro e w1 ⟨b1, rfl⟩
  have B1 := hide (HAL.out.trans (b1.mono HAL.out.size))
  clear b1 HQ
  go_wp2
  go_ret
  refine ⟨?_, rfl⟩
  have := B1.out
  have := B1.out.size
  go_grown
 ·rw [if_neg hag]
  have HQ := hide (fun w => ragain_no k n seg size w hag)
  go_enter Tryz.func27, Tryz.ntmps27
  go_wp2_with fail
  refine (HQ.out _).mono ?_
  rintro e w1 ⟨b1, rfl⟩
  have B1 := hide (HAL.out.trans (b1.mono HAL.out.size))
  clear b1 HQ
  go_wp2
  go_ret
  refine ⟨?_, rfl⟩
  have := B1.out
  have := B1.out.size
  go_grown
end Go.Proofs.YtdohebhbiokljaaGreatDoor
namespace Go.Proofs.YtdohebhbiokljaaGreatDoor
open Go.RowKit
instance (rs : List Rw) : Decidable (may rs) := by unfold may; exact Nat.decidableBallLT rs.length fun i _ => rowB rs i = true
set_option maxRecDepth 100000 in
set_option maxHeartbeats 8000000 in
theorem rmay_any (v : Value) (L : List RowV) (w : World) (h : Rws w v L) :
  Calls Tryz.prog 51 #[v] w fun e w' => e = .returned (.bool (decide (may (rws L)))) ∧ Drn w w' := by
 have HR := hide h
 obtain ⟨A, c, rfl, hc, hm, hcell⟩ := h.form
 have HC := hide hcell
 unfold maxLen at hm
 clear h hcell
 by_cases h64 : L.length ≤ 64
 ·have g64 : decide ((64 : Int) < (L.length : Int)) = false := decide_eq_false (by omega)
  go_enter Tryz.func51, Tryz.ntmps51
  go_wp2
  go_loopw [3] (fun u3 wr => ∃ k : Nat, k ≤ L.length ∧ u3 = .int .i64 k ∧ (∀ j, j < k → rowB (rws L) j = true) ∧ Drn w wr) (fun i _ => L.length - (intOf i).toNat)
  case atStart => exact ⟨0, by omega, rfl, fun j hj => absurd hj (Nat.not_lt_zero _), Drn.refl _⟩
  case round =>
   obtain ⟨k, hk, rfl, hr, hw⟩ := hrel
   have HM := hide hr
   clear hr
   by_cases hlt : k < L.length
   ·obtain ⟨x, hx⟩ : ∃ x, L[k]? = some x := ⟨_, List.getElem?_eq_getElem hlt⟩
    obtain ⟨b, o, rfl, hbl, h1, h2⟩ := HC.out k x hx
    have hby := HR.out.2 x (List.mem_of_getElem? hx)
    obtain ⟨A2, c2, hv2, _⟩ := hby.form
    rw [hv2] at h2
    have e1 : (rws L)[k]? = some (lst x.1, x.2.2) := rws_get hx
    have hxs : (lst x.1).length = x.1.size := lst_len _
    have s1 : wr.cell? ⟨b, o + k * 2, none⟩ = some (.string x.1) := (hw.cell _).trans h1
    have s2 : wr.cell? ⟨b, o + k * 2 + 1, none⟩ = some (.slice A2 x.2.2.length c2) := (hw.cell _).trans h2
    have i1 : (k : Int) < (L.length : Int) := by omega
    have i2 : (0 : Int) ≤ (k : Int) := by omega
    have hrow : rowB (rws L) k = (decide (1 ≤ x.1.size) && decide (x.1.size ≤ 64) && decide (x.2.2.length ≤ 65536) && (k == 0 || match (rws L)[k - 1]? with | none => false | some p => !leB (lst x.1) p.1)) := by
     unfold rowB
     rw [e1]
     simp only [hxs]
     rw [decide_eq_true (show k < 64 by omega), Bool.true_and]
     rfl
    have HX := hide hx
    clear hby h1 h2 hv2 e1 hxs hx
    by_cases c1 : x.1.size < 1
    ·have HB : Hid (rowB (rws L) k = false) := by show _ = _; rw [hrow, decide_eq_false (show ¬ 1 ≤ x.1.size by omega)]; rfl
     have g1 : decide ((x.1.size : Int) < 1) = true := decide_eq_true (by omega)
     clear hrow
     go_wp2_with fail
     go_quiet (fail)
     go_wp2
     go_ret
     refine ⟨ret_bool (decide_eq_false fun hmay => ?_).symm, hw.drewN _⟩
     have := hmay (k) (by simpa using hlt)
     rw [HB.out] at this
     cases this
    ·have g1 : decide ((x.1.size : Int) < 1) = false := decide_eq_false (by omega)
     by_cases c2' : 64 < x.1.size
     ·have HB : Hid (rowB (rws L) k = false) := by show _ = _; rw [hrow, decide_eq_false (show ¬ x.1.size ≤ 64 by omega), Bool.and_false]; rfl
      have g2 : decide ((64 : Int) < (x.1.size : Int)) = true := decide_eq_true (by omega)
      clear hrow
      go_wp2_with fail
      go_quiet (fail)
      go_wp2
      go_ret
      refine ⟨ret_bool (decide_eq_false fun hmay => ?_).symm, hw.drewN _⟩
      have := hmay (k) (by simpa using hlt)
      rw [HB.out] at this
      cases this
     ·have g2 : decide ((64 : Int) < (x.1.size : Int)) = false := decide_eq_false (by omega)
      by_cases c3 : 65536 < x.2.2.length
      ·have HB : Hid (rowB (rws L) k = false) := by show _ = _; rw [hrow, decide_eq_false (show ¬ x.2.2.length ≤ 65536 by omega), Bool.and_false]; rfl
       have g3 : decide ((65536 : Int) < (x.2.2.length : Int)) = true := decide_eq_true (by omega)
       clear hrow
       go_wp2_with fail
       go_quiet (fail)
       go_wp2
       go_ret
       refine ⟨ret_bool (decide_eq_false fun hmay => ?_).symm, hw.drewN _⟩
       have := hmay (k) (by simpa using hlt)
       rw [HB.out] at this
       cases this
      ·have g3 : decide ((65536 : Int) < (x.2.2.length : Int)) = false := decide_eq_false (by omega)
       rw [decide_eq_true (show 1 ≤ x.1.size by omega), decide_eq_true (show x.1.size ≤ 64 by omega), decide_eq_true (show x.2.2.length ≤ 65536 by omega), Bool.true_and, Bool.true_and, Bool.true_and] at hrow
       by_cases hk0 : k = 0
       ·have HB : Hid (rowB (rws L) k = true) := by show _ = _; rw [hrow, hk0]; rfl
        have g4 : decide ((0 : Int) < (k : Int)) = false := decide_eq_false (by omega)
        have g5 : decide (0 < k) = false := decide_eq_false (by omega)
        clear hrow hk0
        go_wp2_with fail
        go_quiet (fail)
        go_wp2
        go_roundw
        case rel =>
         refine ⟨k + 1, by omega, by go_num, fun j hj => ?_, hw.drewN _⟩
         rcases Nat.lt_or_ge j (k) with hjk | hjk
         ·exact HM.out j hjk
         ·rw [show j = k by omega]; exact HB.out
        case measure => simp [intOf]; omega
       ·obtain ⟨m, rfl⟩ : ∃ m, k = m + 1 := ⟨k - 1, by omega⟩
        obtain ⟨y, hy⟩ : ∃ y, L[m]? = some y := ⟨_, List.getElem?_eq_getElem (by omega)⟩
        obtain ⟨b', o', hbo, -, h3, -⟩ := HC.out m y hy
        cases hbo
        have s3 : wr.cell? ⟨b, o + m * 2, none⟩ = some (.string y.1) := (hw.cell _).trans h3
        have e2 : (rws L)[m + 1 - 1]? = some (lst y.1, y.2.2) := by rw [Nat.add_sub_cancel]; exact rws_get hy
        rw [e2] at hrow
        have hleb : leB (lst x.1) (lst y.1) = (Op.bytesLess x.1.toList y.1.toList || x.1.toList == y.1.toList) := by
         unfold leB
         rw [str_toList, str_toList]
        simp only [hleb] at hrow
        rw [show ((m + 1 == 0) = false) from rfl, Bool.false_or] at hrow
        have g4 : decide ((0 : Int) < (m : Int) + 1) = true := decide_eq_true (by omega)
        have k1 : (m : Int) + 1 < (L.length : Int) := by omega
        have k2 : (0 : Int) ≤ (m : Int) + 1 := by omega
        have k3 : (m : Int) < (L.length : Int) := by omega
        have k4 : (0 : Int) ≤ (m : Int) := by omega
        have k5 : ((m : Int) + 1).toNat = m + 1 := by omega
        clear h3 hy e2 hleb i1 i2 hk0
        rcases hl : (Op.bytesLess x.1.toList y.1.toList || x.1.toList == y.1.toList) with _ | _
        ·rw [hl] at hrow
         have HB := hide hrow
         clear hrow
         go_wp2_with fail
         go_quiet (fail)
         go_wp2
         go_roundw
         case rel =>
          refine ⟨m + 1 + 1, by omega, by go_num, fun j hj => ?_, hw.drewN _⟩
          rcases Nat.lt_or_ge j (m + 1) with hjk | hjk
          ·exact HM.out j hjk
          ·rw [show j = m + 1 by omega]; exact HB.out
         case measure => simp [intOf]; omega
        ·rw [hl] at hrow
         have HB := hide hrow
         clear hrow
         go_wp2_with fail
         go_quiet (fail)
         go_wp2
         go_ret
         refine ⟨ret_bool (decide_eq_false fun hmay => ?_).symm, hw.drewN _⟩
         have := hmay (m + 1) (by simpa using hlt)
         rw [HB.out] at this
         cases this
   ·have hge : ¬ (k : Int) < (L.length : Int) := by omega
    have hmay : may (rws L) := fun j hj => HM.out j (by rw [rws_length] at hj; omega)
    have HY := hide hmay
    clear hmay
    go_wp2
    go_ret
    exact ⟨ret_bool (decide_eq_true HY.out).symm, hw⟩
 ·have g64 : decide ((64 : Int) < (L.length : Int)) = true := decide_eq_true (by omega)
  have hno : Hid (¬ may (rws L)) := fun hmay => by have := may_len hmay; rw [rws_length] at this; omega
  clear h64
  go_enter Tryz.func51, Tryz.ntmps51
  go_wp2
  go_ret
  exact ⟨ret_bool (decide_eq_false hno.out).symm, Drn.refl _⟩
set_option maxRecDepth 100000 in
set_option maxHeartbeats 1000000 in
theorem rdigits_any (n : Nat) (w : World) (hn : n ≤ 1099511627776) :
  Calls Tryz.prog 52 #[.int .i64 (n : Int)] w fun e w' => e = .returned (.string (itoaS (n : Int))) ∧ Below w.heap.size w w' := by
 have q := rnumber_any (n : Int) w ⟨by omega, by omega⟩
 rw [show numS (n : Int) = itoaS (n : Int) by unfold numS; rw [if_neg (by omega)], show numE (n : Int) = 0 by unfold numE; rw [if_neg (by omega)]] at q
 generalize itoaS (n : Int) = s at *
 go_enter Tryz.func52, Tryz.ntmps52
 go_wp2_with fail
 refine q.mono ?_
 rintro e w1 ⟨rfl, hb⟩
 go_wp2_with fail
 go_ret
 exact ⟨rfl, hb⟩
end Go.Proofs.YtdohebhbiokljaaGreatDoor
namespace Go.Proofs.YtdohebhbiokljaaGreatDoor
open Go.RowKit
theorem build_row (s : ByteArray) (A : Option Addr) (n c : Nat) (W : World) : (Instr.build 94 #[(0, .string s), (1, .slice A n c)]).run Tryz.prog W = .ok (.agg #[.string s, .slice A n c]) W := by kernel_rfl
theorem build_six (s0 s1 s2 s3 s4 s5 : ByteArray) (A0 A1 A2 A3 A4 A5 : Option Addr) (n0 n1 n2 n3 n4 n5 c0 c1 c2 c3 c4 c5 : Nat) (W : World) : (Instr.buildSlice 66 6 #[(0, .agg #[.string s0, .slice A0 n0 c0]), (1, .agg #[.string s1, .slice A1 n1 c1]), (2, .agg #[.string s2, .slice A2 n2 c2]), (3, .agg #[.string s3, .slice A3 n3 c3]), (4, .agg #[.string s4, .slice A4 n4 c4]), (5, .agg #[.string s5, .slice A5 n5 c5])]).run Tryz.prog W =
  .ok (.slice (some ⟨W.heap.size, 0, none⟩) 6 6) (W.alloc (.cells #[.string s0, .slice A0 n0 c0, .string s1, .slice A1 n1 c1, .string s2, .slice A2 n2 c2, .string s3, .slice A3 n3 c3, .string s4, .slice A4 n4 c4, .string s5, .slice A5 n5 c5] 94)) := by
 go_simp
def rowP (k : Nat) (v : Value) : Prop := ∃ A n c, v = .agg #[.string (keyB k), .slice A n c]
def sliceP (v : Value) : Prop := ∃ A n c, v = .slice A n c
def SP (bx : Nat) : Nat → Value → Prop
 | 0, v => v = .pointer (some ⟨bx, 0, none⟩)
 | 5, v => v = .pointer (some ⟨bx, 1, none⟩)
 | 10, v => v = .pointer (some ⟨bx, 2, none⟩)
 | 19, v => v = .pointer (some ⟨bx, 3, none⟩)
 | 1, v => v = .int .i64 0
 | 6, v => v = .int .i64 0
 | 11, v => v = .int .i64 0
 | 20, v => v = .int .i64 0
 | 2, v => ∃ s, v = .string s
 | 7, v => ∃ s, v = .string s
 | 12, v => ∃ s, v = .string s
 | 21, v => ∃ s, v = .string s
 | 4, v => rowP 0 v
 | 9, v => rowP 1 v
 | 14, v => rowP 2 v
 | 16, v => rowP 4 v
 | 18, v => rowP 5 v
 | 23, v => rowP 3 v
 | _, v => sliceP v
def Six (w : World) (g : Nat) : Prop := ∃ e f v0 v1 v2 v3 v4 v5, w.heap[g]? = some (.cells #[.string (keyB 0), v0, .string (keyB 1), v1, .string (keyB 2), v2, .string (keyB 4), v3, .string (keyB 5), v4, .string (keyB 3), v5] e f)
theorem Six.lt {w : World} {g : Nat} (h : Six w g) : g < w.heap.size := by
 obtain ⟨e, f, v0, v1, v2, v3, v4, v5, h⟩ := h
 rcases Nat.lt_or_ge g w.heap.size with h' | h'
 ·exact h'
 ·rw [Array.getElem?_eq_none h'] at h; cases h
theorem Six.below {w w' : World} {g : Nat} (h : Six w g) (hb : Below w.heap.size w w') : Six w' g := by
 have hlt := h.lt
 obtain ⟨e, f, v0, v1, v2, v3, v4, v5, h⟩ := h
 exact ⟨e, f, v0, v1, v2, v3, v4, v5, (hb.block g hlt).trans h⟩
structure RI (w0 : World) (bx : Nat) (listed : Array Bool) (a : Act) (w : World) : Prop where
 size : listed.size = 26
 tsz : a.tmps.size = 38
 df : a.defers = []
 t1 : a.tmps[1]? = some (.pointer (some ⟨bx, 0, none⟩))
 t3 : ∃ v, a.tmps[3]? = some v ∧ sliceP v
 t4 : ∃ v, a.tmps[4]? = some v ∧ sliceP v
 blk : Blk w bx 25 US.zero.cells
 bel : Below w0.heap.size w0 w
 slots : ∀ i, i < 24 → listed.getD i false = true → ∃ v, a.tmps[13 + i]? = some v ∧ SP bx i v
 s24 : listed.getD 24 false = true → ∃ g, a.tmps[37]? = some (.slice (some ⟨g, 0, none⟩) 6 6) ∧ Six w g ∧ w0.heap.size ≤ g
 s25 : listed.getD 25 false = true → ∃ g, a.tmps[2]? = some (.slice (some ⟨g, 0, none⟩) 6 6) ∧ Six w g ∧ w0.heap.size ≤ g
theorem RI.put {w0 : World} {bx : Nat} {listed : Array Bool} {a : Act} {w w' : World} (h : RI w0 bx listed a w) (i d : Nat) (hi : i < 24) (hd : d = 13 + i) (v : Value) (hv : SP bx i v) (hb : Below w.heap.size w w') : RI w0 bx (listed.setIfInBounds i true) (a.put (some d) v) w' := by
 subst hd
 have hs : i < listed.size := by rw [h.size]; omega
 have hg : ∀ j, j ≠ i → (listed.setIfInBounds i true).getD j false = listed.getD j false := fun j hj => by rw [getD_set hs, if_neg hj]
 refine ⟨by simpa using h.size, by simpa [Act.put] using h.tsz, h.df, (put_other (by omega)).trans h.t1, ?_, ?_, h.blk.below' hb, Below.step h.bel hb, fun j hj hl => ?_, fun hl => ?_, fun hl => ?_⟩
 ·obtain ⟨v, h1, h2⟩ := h.t3
  exact ⟨v, (put_other (by omega)).trans h1, h2⟩
 ·obtain ⟨v, h1, h2⟩ := h.t4
  exact ⟨v, (put_other (by omega)).trans h1, h2⟩
 ·by_cases hji : j = i
  ·subst hji
   exact ⟨v, put_same (by rw [h.tsz]; omega), hv⟩
  ·rw [hg j hji] at hl
   obtain ⟨v, h1, h2⟩ := h.slots j hj hl
   exact ⟨v, (put_other (by omega)).trans h1, h2⟩
 ·rw [hg 24 (by omega)] at hl
  obtain ⟨g, h1, h2, h3⟩ := h.s24 hl
  exact ⟨g, (put_other (by omega)).trans h1, h2.below hb, h3⟩
 ·rw [hg 25 (by omega)] at hl
  obtain ⟨g, h1, h2, h3⟩ := h.s25 hl
  exact ⟨g, (put_other (by omega)).trans h1, h2.below hb, h3⟩
theorem op_conv {P : Program} {ops : Array Oper} {Q : Exit → Act → World → Prop} {K : Act → World → Prop} {i : Nat} {a : Act} {w w' : World} {d s : Tmp} {st dt t : TypeId} {p : String} {af : Array Edge} {u v : Value} (hi : ops[i]? = some ⟨some d, .convert st dt (.tmp s), t, p, af, none⟩) (hs : a.eval (.tmp s) = u) (hr : (convert st dt u).run P w = .ok v w') (h : K (a.put (some d) v) w') : wpOp P ops Q i K a w :=
 op_value hi rfl (by simp [execOp, hs, hr, Result.andThen]) h
theorem op_build2 {P : Program} {ops : Array Oper} {Q : Exit → Act → World → Prop} {K : Act → World → Prop} {i : Nat} {a : Act} {w : World} {d s : Tmp} {ty t : TypeId} {p : String} {af : Array Edge} {c u v : Value} (hi : ops[i]? = some ⟨some d, .build ty #[(0, .const c), (1, .tmp s)], t, p, af, none⟩) (hs : a.eval (.tmp s) = u) (hr : (Instr.build ty #[(0, c), (1, u)]).run P w = .ok v w) (h : K (a.put (some d) v) w) : wpOp P ops Q i K a w := by
 have hc : a.eval (.const c) = c := rfl
 exact op_value hi rfl (by simp [execOp, hs, hr, hc, Result.andThen]) h
theorem op_six {P : Program} {ops : Array Oper} {Q : Exit → Act → World → Prop} {K : Act → World → Prop} {i : Nat} {a : Act} {w w' : World} {d s0 s1 s2 s3 s4 s5 : Tmp} {ty t : TypeId} {p : String} {af : Array Edge} {u0 u1 u2 u3 u4 u5 v : Value} (hi : ops[i]? = some ⟨some d, .buildSlice ty 6 #[(0, .tmp s0), (1, .tmp s1), (2, .tmp s2), (3, .tmp s3), (4, .tmp s4), (5, .tmp s5)], t, p, af, none⟩)
  (h0 : a.eval (.tmp s0) = u0) (h1 : a.eval (.tmp s1) = u1) (h2 : a.eval (.tmp s2) = u2) (h3 : a.eval (.tmp s3) = u3) (h4 : a.eval (.tmp s4) = u4) (h5 : a.eval (.tmp s5) = u5) (hr : (Instr.buildSlice ty 6 #[(0, u0), (1, u1), (2, u2), (3, u3), (4, u4), (5, u5)]).run P w = .ok v w') (h : K (a.put (some d) v) w') : wpOp P ops Q i K a w :=
 op_value hi rfl (by simp [execOp, h0, h1, h2, h3, h4, h5, hr, Result.andThen]) h
theorem op_assign {P : Program} {ops : Array Oper} {Q : Exit → Act → World → Prop} {K : Act → World → Prop} {i : Nat} {a : Act} {w : World} {d s : Tmp} {t : TypeId} {p : String} {af : Array Edge} {v : Value} (hi : ops[i]? = some ⟨some d, .assign (.tmp s), t, p, af, none⟩) (hs : a.eval (.tmp s) = v) (h : K (a.put (some d) v) w) : wpOp P ops Q i K a w :=
 op_value hi rfl (by simp [execOp, hs]) h
theorem RI.six {w0 : World} {bx : Nat} {listed : Array Bool} {a : Act} {w w' : World} (h : RI w0 bx listed a w) (g : Nat) (hb : Below w.heap.size w w') (hs : Six w' g) (hg0 : w0.heap.size ≤ g) : RI w0 bx (listed.setIfInBounds 24 true) (a.put (some 37) (.slice (some ⟨g, 0, none⟩) 6 6)) w' := by
 have hs24 : 24 < listed.size := by rw [h.size]; omega
 have hg : ∀ j, j ≠ 24 → (listed.setIfInBounds 24 true).getD j false = listed.getD j false := fun j hj => by rw [getD_set hs24, if_neg hj]
 refine ⟨by simpa using h.size, by simpa [Act.put] using h.tsz, h.df, (put_other (by omega)).trans h.t1, ?_, ?_, h.blk.below' hb, Below.step h.bel hb, fun j hj hl => ?_, fun hl => ?_, fun hl => ?_⟩
 ·obtain ⟨v, h1, h2⟩ := h.t3
  exact ⟨v, (put_other (by omega)).trans h1, h2⟩
 ·obtain ⟨v, h1, h2⟩ := h.t4
  exact ⟨v, (put_other (by omega)).trans h1, h2⟩
 ·rw [hg j (by omega)] at hl
  obtain ⟨v, h1, h2⟩ := h.slots j hj hl
  exact ⟨v, (put_other (by omega)).trans h1, h2⟩
 ·exact ⟨g, put_same (by rw [h.tsz]; omega), hs, hg0⟩
 ·rw [hg 25 (by omega)] at hl
  obtain ⟨g, h1, h2, h3⟩ := h.s25 hl
  exact ⟨g, (put_other (by omega)).trans h1, h2.below hb, h3⟩
theorem RI.last {w0 : World} {bx : Nat} {listed : Array Bool} {a : Act} {w : World} (h : RI w0 bx listed a w) (g : Nat) (hs : Six w g) (hg0 : w0.heap.size ≤ g) : RI w0 bx (listed.setIfInBounds 25 true) (a.put (some 2) (.slice (some ⟨g, 0, none⟩) 6 6)) w := by
 have hs24 : 25 < listed.size := by rw [h.size]; omega
 have hg : ∀ j, j ≠ 25 → (listed.setIfInBounds 25 true).getD j false = listed.getD j false := fun j hj => by rw [getD_set hs24, if_neg hj]
 refine ⟨by simpa using h.size, by simpa [Act.put] using h.tsz, h.df, (put_other (by omega)).trans h.t1, ?_, ?_, h.blk, h.bel, fun j hj hl => ?_, fun hl => ?_, fun hl => ?_⟩
 ·obtain ⟨v, h1, h2⟩ := h.t3
  exact ⟨v, (put_other (by omega)).trans h1, h2⟩
 ·obtain ⟨v, h1, h2⟩ := h.t4
  exact ⟨v, (put_other (by omega)).trans h1, h2⟩
 ·rw [hg j (by omega)] at hl
  obtain ⟨v, h1, h2⟩ := h.slots j hj hl
  exact ⟨v, (put_other (by omega)).trans h1, h2⟩
 ·rw [hg 24 (by omega)] at hl
  obtain ⟨g, h1, h2, h3⟩ := h.s24 hl
  exact ⟨g, (put_other (by omega)).trans h1, h2, h3⟩
 ·exact ⟨g, put_same (by rw [h.tsz]; omega), hs, hg0⟩
end Go.Proofs.YtdohebhbiokljaaGreatDoor
namespace Go.Proofs.YtdohebhbiokljaaGreatDoor
open Go.RowKit
theorem load_intN {W : World} {b f : Nat} {x : Int} (h : W.cell? ⟨b, f, none⟩ = some (.int .i64 x)) : (Instr.loadAt 3 (.pointer (some ⟨b, f, none⟩))).run Tryz.prog W = .ok (.int .i64 x) W := by
 go_simp
structure N6 where
 (k n seg size : Nat)
 (sh sg : List UInt8)
def N6.cells (u : N6) : Array Value := uebC (u.k : Int) (u.n : Int) (u.seg : Int) (u.size : Int) (bcells u.sh ++ bcells u.sg)
def rowQ (w : World) (l : List UInt8) (k : Nat) (v : Value) : Prop := ∃ A n c, v = .agg #[.string (keyB k), .slice A n c] ∧ By w (.slice A n c) l
def sliceQ (w : World) (l : List UInt8) (v : Value) : Prop := ∃ A n c, v = .slice A n c ∧ By w (.slice A n c) l
theorem rowQ.below {w w' : World} {l : List UInt8} {k : Nat} {v : Value} (h : rowQ w l k v) (hb : Below w.heap.size w w') : rowQ w' l k v := by
 obtain ⟨A, n, c, e, hy⟩ := h
 exact ⟨A, n, c, e, hy.below hb⟩
theorem sliceQ.below {w w' : World} {l : List UInt8} {v : Value} (h : sliceQ w l v) (hb : Below w.heap.size w w') : sliceQ w' l v := by
 obtain ⟨A, n, c, e, hy⟩ := h
 exact ⟨A, n, c, e, hy.below hb⟩
def SQ (u : N6) (w : World) (bx : Nat) : Nat → Value → Prop
 | 0, v => v = .pointer (some ⟨bx, 0, none⟩)
 | 5, v => v = .pointer (some ⟨bx, 1, none⟩)
 | 10, v => v = .pointer (some ⟨bx, 2, none⟩)
 | 19, v => v = .pointer (some ⟨bx, 3, none⟩)
 | 1, v => v = .int .i64 (u.k : Int)
 | 6, v => v = .int .i64 (u.n : Int)
 | 11, v => v = .int .i64 (u.seg : Int)
 | 20, v => v = .int .i64 (u.size : Int)
 | 2, v => v = .string (itoaS (u.k : Int))
 | 7, v => v = .string (itoaS (u.n : Int))
 | 12, v => v = .string (itoaS (u.seg : Int))
 | 21, v => v = .string (itoaS (u.size : Int))
 | 4, v => rowQ w (lst (itoaS (u.k : Int))) 0 v
 | 9, v => rowQ w (lst (itoaS (u.n : Int))) 1 v
 | 14, v => rowQ w (lst (itoaS (u.seg : Int))) 2 v
 | 16, v => rowQ w u.sg 4 v
 | 18, v => rowQ w u.sh 5 v
 | 23, v => rowQ w (lst (itoaS (u.size : Int))) 3 v
 | 3, v => sliceQ w (lst (itoaS (u.k : Int))) v
 | 8, v => sliceQ w (lst (itoaS (u.n : Int))) v
 | 13, v => sliceQ w (lst (itoaS (u.seg : Int))) v
 | 22, v => sliceQ w (lst (itoaS (u.size : Int))) v
 | 15, v => sliceQ w u.sg v
 | 17, v => sliceQ w u.sh v
 | _, _ => True
theorem SQ.below {u : N6} {w w' : World} {bx i : Nat} {v : Value} (h : SQ u w bx i v) (hb : Below w.heap.size w w') : SQ u w' bx i v := by
 revert h
 unfold SQ
 split
 all_goals
  intro h
  first
   | exact h
   | exact rowQ.below h hb
   | exact sliceQ.below h hb
def SixU (u : N6) (w : World) (g : Nat) : Prop := ∃ e f v0 v1 v2 v3 v4 v5, w.heap[g]? = some (.cells #[.string (keyB 0), v0, .string (keyB 1), v1, .string (keyB 2), v2, .string (keyB 4), v3, .string (keyB 5), v4, .string (keyB 3), v5] e f) ∧ By w v0 (lst (itoaS (u.k : Int))) ∧ By w v1 (lst (itoaS (u.n : Int))) ∧ By w v2 (lst (itoaS (u.seg : Int))) ∧ By w v3 u.sg ∧ By w v4 u.sh ∧ By w v5 (lst (itoaS (u.size : Int)))
theorem SixU.lt {u : N6} {w : World} {g : Nat} (h : SixU u w g) : g < w.heap.size := by
 obtain ⟨e, f, v0, v1, v2, v3, v4, v5, h, -⟩ := h
 rcases Nat.lt_or_ge g w.heap.size with h' | h'
 ·exact h'
 ·rw [Array.getElem?_eq_none h'] at h; cases h
theorem SixU.below {u : N6} {w w' : World} {g : Nat} (h : SixU u w g) (hb : Below w.heap.size w w') : SixU u w' g := by
 have hlt := h.lt
 obtain ⟨e, f, v0, v1, v2, v3, v4, v5, h, a0, a1, a2, a3, a4, a5⟩ := h
 exact ⟨e, f, v0, v1, v2, v3, v4, v5, (hb.block g hlt).trans h, a0.below hb, a1.below hb, a2.below hb, a3.below hb, a4.below hb, a5.below hb⟩
structure RJ (u : N6) (w0 : World) (bx : Nat) (listed : Array Bool) (a : Act) (w : World) : Prop where
 size : listed.size = 26
 tsz : a.tmps.size = 38
 df : a.defers = []
 t1 : a.tmps[1]? = some (.pointer (some ⟨bx, 0, none⟩))
 t3 : ∃ v, a.tmps[3]? = some v ∧ sliceQ w u.sg v
 t4 : ∃ v, a.tmps[4]? = some v ∧ sliceQ w u.sh v
 blk : Blk w bx 25 u.cells
 bel : Below w0.heap.size w0 w
 slots : ∀ i, i < 24 → listed.getD i false = true → ∃ v, a.tmps[13 + i]? = some v ∧ SQ u w bx i v
 s24 : listed.getD 24 false = true → ∃ g, a.tmps[37]? = some (.slice (some ⟨g, 0, none⟩) 6 6) ∧ SixU u w g ∧ w0.heap.size ≤ g
 s25 : listed.getD 25 false = true → ∃ g, a.tmps[2]? = some (.slice (some ⟨g, 0, none⟩) 6 6) ∧ SixU u w g ∧ w0.heap.size ≤ g
theorem RJ.put {u : N6} {w0 : World} {bx : Nat} {listed : Array Bool} {a : Act} {w w' : World} (h : RJ u w0 bx listed a w) (i d : Nat) (hi : i < 24) (hd : d = 13 + i) (v : Value) (hv : SQ u w' bx i v) (hb : Below w.heap.size w w') : RJ u w0 bx (listed.setIfInBounds i true) (a.put (some d) v) w' := by
 subst hd
 have hs : i < listed.size := by rw [h.size]; omega
 have hg : ∀ j, j ≠ i → (listed.setIfInBounds i true).getD j false = listed.getD j false := fun j hj => by rw [getD_set hs, if_neg hj]
 refine ⟨by simpa using h.size, by simpa [Act.put] using h.tsz, h.df, (put_other (by omega)).trans h.t1, ?_, ?_, h.blk.below' hb, Below.step h.bel hb, fun j hj hl => ?_, fun hl => ?_, fun hl => ?_⟩
 ·obtain ⟨v, h1, h2⟩ := h.t3
  exact ⟨v, (put_other (by omega)).trans h1, h2.below hb⟩
 ·obtain ⟨v, h1, h2⟩ := h.t4
  exact ⟨v, (put_other (by omega)).trans h1, h2.below hb⟩
 ·by_cases hji : j = i
  ·subst hji
   exact ⟨v, put_same (by rw [h.tsz]; omega), hv⟩
  ·rw [hg j hji] at hl
   obtain ⟨v, h1, h2⟩ := h.slots j hj hl
   exact ⟨v, (put_other (by omega)).trans h1, h2.below hb⟩
 ·rw [hg 24 (by omega)] at hl
  obtain ⟨g, h1, h2, h3⟩ := h.s24 hl
  exact ⟨g, (put_other (by omega)).trans h1, h2.below hb, h3⟩
 ·rw [hg 25 (by omega)] at hl
  obtain ⟨g, h1, h2, h3⟩ := h.s25 hl
  exact ⟨g, (put_other (by omega)).trans h1, h2.below hb, h3⟩
theorem RJ.six {u : N6} {w0 : World} {bx : Nat} {listed : Array Bool} {a : Act} {w w' : World} (h : RJ u w0 bx listed a w) (g : Nat) (hb : Below w.heap.size w w') (hs : SixU u w' g) (hg0 : w0.heap.size ≤ g) : RJ u w0 bx (listed.setIfInBounds 24 true) (a.put (some 37) (.slice (some ⟨g, 0, none⟩) 6 6)) w' := by
 have hs24 : 24 < listed.size := by rw [h.size]; omega
 have hg : ∀ j, j ≠ 24 → (listed.setIfInBounds 24 true).getD j false = listed.getD j false := fun j hj => by rw [getD_set hs24, if_neg hj]
 refine ⟨by simpa using h.size, by simpa [Act.put] using h.tsz, h.df, (put_other (by omega)).trans h.t1, ?_, ?_, h.blk.below' hb, Below.step h.bel hb, fun j hj hl => ?_, fun hl => ?_, fun hl => ?_⟩
 ·obtain ⟨v, h1, h2⟩ := h.t3
  exact ⟨v, (put_other (by omega)).trans h1, h2.below hb⟩
 ·obtain ⟨v, h1, h2⟩ := h.t4
  exact ⟨v, (put_other (by omega)).trans h1, h2.below hb⟩
 ·rw [hg j (by omega)] at hl
  obtain ⟨v, h1, h2⟩ := h.slots j hj hl
  exact ⟨v, (put_other (by omega)).trans h1, h2.below hb⟩
 ·exact ⟨g, put_same (by rw [h.tsz]; omega), hs, hg0⟩
 ·rw [hg 25 (by omega)] at hl
  obtain ⟨g, h1, h2, h3⟩ := h.s25 hl
  exact ⟨g, (put_other (by omega)).trans h1, h2.below hb, h3⟩
theorem RJ.last {u : N6} {w0 : World} {bx : Nat} {listed : Array Bool} {a : Act} {w : World} (h : RJ u w0 bx listed a w) (g : Nat) (hs : SixU u w g) (hg0 : w0.heap.size ≤ g) : RJ u w0 bx (listed.setIfInBounds 25 true) (a.put (some 2) (.slice (some ⟨g, 0, none⟩) 6 6)) w := by
 have hs24 : 25 < listed.size := by rw [h.size]; omega
 have hg : ∀ j, j ≠ 25 → (listed.setIfInBounds 25 true).getD j false = listed.getD j false := fun j hj => by rw [getD_set hs24, if_neg hj]
 refine ⟨by simpa using h.size, by simpa [Act.put] using h.tsz, h.df, (put_other (by omega)).trans h.t1, ?_, ?_, h.blk, h.bel, fun j hj hl => ?_, fun hl => ?_, fun hl => ?_⟩
 ·obtain ⟨v, h1, h2⟩ := h.t3
  exact ⟨v, (put_other (by omega)).trans h1, h2⟩
 ·obtain ⟨v, h1, h2⟩ := h.t4
  exact ⟨v, (put_other (by omega)).trans h1, h2⟩
 ·rw [hg j (by omega)] at hl
  obtain ⟨v, h1, h2⟩ := h.slots j hj hl
  exact ⟨v, (put_other (by omega)).trans h1, h2⟩
 ·rw [hg 24 (by omega)] at hl
  obtain ⟨g, h1, h2, h3⟩ := h.s24 hl
  exact ⟨g, (put_other (by omega)).trans h1, h2, h3⟩
 ·exact ⟨g, put_same (by rw [h.tsz]; omega), hs, hg0⟩
set_option maxRecDepth 100000 in
theorem op_digN {ops : Array Oper} {Q : Exit → Act → World → Prop} {K : Act → World → Prop} {i : Nat} {a : Act} {w : World} {d x : Tmp} {t at_ : TypeId} {p : String} {af : Array Edge} (hi : ops[i]? = some ⟨some d, .call { callee := .value (.func 52), args := #[.tmp x], argTypes := #[at_] }, t, p, af, none⟩)
  (n : Nat) (hn : n ≤ 1099511627776) (hx : a.tmps[x]? = some (.int .i64 (n : Int))) (h : ∀ w', Below w.heap.size w w' → K (a.put (some d) (.string (itoaS (n : Int)))) w') : wpOp Tryz.prog ops Q i K a w := by
 unfold wpOp
 simp only [hi]
 rw [if_pos (by simp [Region.wanted])]
 refine .inl ?_
 unfold Oper.wp
 go_simp
 refine (rdigits_any n w hn).mono ?_
 rintro e w2 ⟨rfl, hb⟩
 exact h _ hb
theorem itoa_maxLen (n : Nat) (h : n ≤ 1099511627776) : (itoaS (n : Int)).size ≤ maxLen := by
 have : (itoaS (n : Int)).size ≤ 21 := by rw [← lst_len, lst_itoaS]; exact Lib.itoa_length_le _ (by omega) (by omega)
 unfold maxLen
 omega
set_option maxRecDepth 100000 in
set_option maxHeartbeats 4000000 in
theorem rrows_any (u : N6) (w : World) (hsh : u.sh.length = 32) (hsg : u.sg.length = 32) (hk : u.k ≤ 1099511627776) (hn : u.n ≤ 1099511627776) (hs : u.seg ≤ 1099511627776) (hz : u.size ≤ 1099511627776) : Calls Tryz.prog 29 #[.agg u.cells] w fun e w' => Below w.heap.size w w' ∧ ∃ g, e = .returned (.slice (some ⟨g, 0, none⟩) 6 6) ∧ SixU u w' g ∧ w.heap.size ≤ g := by
 have hB0 := Blk.new w 25 u.cells
 have hal := (Below.refl w.heap.size w).alloc (Nat.le_refl _) (.cells u.cells 25)
 have hzc : u.cells.toList = [.int .i64 (u.k : Int), .int .i64 (u.n : Int), .int .i64 (u.seg : Int), .int .i64 (u.size : Int)] ++ (bcells u.sh ++ bcells u.sg) := by simp [N6.cells, uebC]
 have hsub : ∀ W, Blk W w.heap.size 25 u.cells → By W (.slice (some ⟨w.heap.size, 4, none⟩) 32 32) u.sh ∧ By W (.slice (some ⟨w.heap.size, 36, none⟩) 32 32) u.sg := fun W hW => by
  constructor
  ·refine by_mid hsh.symm hW (fun j hj => ?_) (by omega)
   rw [← Array.getElem?_toList, hzc, List.getElem?_append_right (by simp), List.getElem?_append_left (by simp; omega)]
   simp
  ·refine by_mid hsg.symm hW (fun j hj => ?_) (by omega)
   rw [← Array.getElem?_toList, hzc, List.getElem?_append_right (by simp; omega), List.getElem?_append_right (by simp; omega), bcells_length, hsh]
   simp only [List.length_cons, List.length_nil]
   rw [show 36 + j - (0 + 1 + 1 + 1 + 1) - 32 = j by omega]
 have HS := hide (fun W hW => (hsub W hW).2)
 have HS4 := hide (fun W hW => (hsub W hW).1)
 have HB0 := hide hB0
 have HAL := hide hal
 have HLEN := hide (And.intro hsh hsg)
 have hint : u.cells[0]? = some (.int .i64 (u.k : Int)) ∧ u.cells[1]? = some (.int .i64 (u.n : Int)) ∧ u.cells[2]? = some (.int .i64 (u.seg : Int)) ∧ u.cells[3]? = some (.int .i64 (u.size : Int)) := by
  refine ⟨?_, ?_, ?_, ?_⟩ <;> (rw [← Array.getElem?_toList, hzc]; rfl)
 have HINT := hide hint
 clear hzc hsub hB0 hal hsh hsg hint
 generalize hcs : u.cells = cs at *
 have HCS := hide hcs
 clear hcs
 go_enter Tryz.func29, Tryz.ntmps29
 go_wp2_with (at_builtin; go_loud (first
  | (refine wpList_pushV elem8 (Own.nil (w.alloc (.cells cs 25)) w.heap.size _) HAL.out HAL.out.size (HS.out _ HB0.out) (by rw [HLEN.out.2]; decide) rfl _ _ rfl rfl rfl ?_; intro v1 w1 hown1 hbel1 hgr1 _)
  | (refine wpList_pushV elem8 (Own.nil w1 w.heap.size _) hbel1 hbel1.size (HS4.out _ (HB0.out.grown hgr1 (by intro h; cases h))) (by rw [HLEN.out.1]; decide) rfl _ _ rfl rfl rfl ?_; intro v2 w2 hown2 hbel2 hgr2 _)))
 have hy1 : By w2 v1 u.sg := by
  have h1 := By.keep hown1.by_ hgr2.size (fun b hb => hgr2.block b hb (by intro h; cases h))
  simpa using h1
 have hy2 : By w2 v2 u.sh := by simpa using hown2.by_
 obtain rfl : u.cells = cs := HCS.out
 obtain ⟨A1, c1, rfl, _⟩ := hown1.by_.form
 obtain ⟨A2, c2, rfl, _⟩ := hown2.by_.form
 have HBK := (HB0.out.grown hgr1 (by intro h; cases h)).grown hgr2 (by intro h; cases h)
 refine wp_region_any rfl ?_
 refine wpAny_inv (RJ u w w.heap.size) (fun listed a W h => h.size.trans rfl) ?step ?fin _ _ _ _ (by simp) ?start
 case start =>
  refine ⟨by simp, by simp, rfl, rfl, ⟨_, rfl, _, _, _, rfl, hy1.keep (by simp) (fun _ _ => rfl)⟩, ⟨_, rfl, _, _, _, rfl, hy2.keep (by simp) (fun _ _ => rfl)⟩, HBK.drew, below_drewN hbel2 1, fun i hi hl => ?_, fun hl => ?_, fun hl => ?_⟩
  all_goals
   simp [Array.getD] at hl
 case fin =>
  intro listed a W h hr
  have hall : ∀ i, i < 26 → listed.getD i false = true := fun i hi => all_ready (h.size.trans rfl) (by kernel_rfl) hr i hi
  obtain ⟨g, h1, h2, h3⟩ := h.s25 (hall 25 (by omega))
  have hdf := h.df
  have hbel := h.bel
  have hv : a.tmps.getD 2 undef = .slice (some ⟨g, 0, none⟩) 6 6 := by simp [Array.getD_eq_getD_getElem?, h1]
  clear h hr hall
  go_wp2
  exact bodyPost_ret (results_tmp rfl _ _ _) (by simpa using hdf) ⟨hbel, g, by simpa using hv, h2, h3⟩
 case step =>
  intro listed a W i h hi
  obtain ⟨hlt, hf, o, ho, hdep⟩ := ready_at hi
  have hi26 : i < 26 := hlt
  have hff : listed.getD i false = false := by
   have : i < listed.size := by rw [h.size]; exact hi26
   simpa [Array.getD, this] using hf
  clear hi hlt hf
  have hc6 : i = 0 ∨ i = 1 ∨ i = 2 ∨ i = 3 ∨ i = 4 ∨ i = 5 ∨ i = 6 ∨ i = 7 ∨ i = 8 ∨ i = 9 ∨ i = 10 ∨ i = 11 ∨ i = 12 ∨ i = 13 ∨ i = 14 ∨ i = 15 ∨ i = 16 ∨ i = 17 ∨ i = 18 ∨ i = 19 ∨ i = 20 ∨ i = 21 ∨ i = 22 ∨ i = 23 ∨ i = 24 ∨ i = 25 := by omega
  rcases hc6 with rfl | rfl | rfl | rfl | rfl | rfl | rfl | rfl | rfl | rfl | rfl | rfl | rfl | rfl | rfl | rfl | rfl | rfl | rfl | rfl | rfl | rfl | rfl | rfl | rfl | rfl
  ·clear ho hdep
   have hv : a.eval (.tmp 1) = .pointer (some ⟨w.heap.size, 0, none⟩) := eval_tmp h.t1
   exact op_value (v := .pointer (some ⟨w.heap.size, 0, none⟩)) rfl rfl (by simp [execOp, hv, fa0, tgt, Result.andThen]) (h.put 0 13 (by omega) rfl _ rfl (Below.refl _ _))
  ·simp at ho
   subst ho
   simp [Region.binds] at hdep
   obtain ⟨v, hv, hp⟩ := h.slots 0 (by omega) (gd hdep)
   have hp : v = .pointer (some ⟨w.heap.size, 0, none⟩) := hp
   subst hp
   exact op_load rfl (eval_tmp hv) (load_intN ((h.blk.cell 0).trans HINT.out.1)) (h.put 1 14 (by omega) rfl _ rfl (Below.refl _ _))
  ·simp at ho
   subst ho
   simp [Region.binds] at hdep
   obtain ⟨v, hv, hp⟩ := h.slots 1 (by omega) (gd hdep)
   have hp : v = .int .i64 (u.k : Int) := hp
   subst hp
   exact op_digN rfl u.k hk hv fun w' hb => h.put 2 15 (by omega) rfl _ rfl hb
  ·simp at ho
   subst ho
   simp [Region.binds] at hdep
   obtain ⟨v, hv, hp⟩ := h.slots 2 (by omega) (gd hdep)
   have hp : v = .string (itoaS (u.k : Int)) := hp
   subst hp
   obtain ⟨g9, c9, W9, hr, hy9, hb9, -, -, -, -⟩ := run_bytes_str 9 34 5 (itoaS (u.k : Int)) W Tryz.underlying9 Tryz.underlying34 Tryz.underlying5 (itoa_maxLen u.k hk)
   exact op_conv rfl (eval_tmp hv) hr (h.put 3 16 (by omega) rfl _ ⟨_, _, _, rfl, hy9⟩ hb9)
  ·simp at ho
   subst ho
   simp [Region.binds] at hdep
   obtain ⟨v, hv, A, n, c, hp, hy⟩ := h.slots 3 (by omega) (gd hdep)
   subst hp
   exact op_build2 rfl (eval_tmp hv) (build_row (keyB 0) A n c W) (h.put 4 17 (by omega) rfl _ ⟨_, _, _, rfl, hy⟩ (Below.refl _ _))
  ·clear ho hdep
   have hv : a.eval (.tmp 1) = .pointer (some ⟨w.heap.size, 0, none⟩) := eval_tmp h.t1
   exact op_value (v := .pointer (some ⟨w.heap.size, 1, none⟩)) rfl rfl (by simp [execOp, hv, fa1, tgt, Result.andThen]) (h.put 5 18 (by omega) rfl _ rfl (Below.refl _ _))
  ·simp at ho
   subst ho
   simp [Region.binds] at hdep
   obtain ⟨v, hv, hp⟩ := h.slots 5 (by omega) (gd hdep)
   have hp : v = .pointer (some ⟨w.heap.size, 1, none⟩) := hp
   subst hp
   exact op_load rfl (eval_tmp hv) (load_intN ((h.blk.cell 1).trans HINT.out.2.1)) (h.put 6 19 (by omega) rfl _ rfl (Below.refl _ _))
  ·simp at ho
   subst ho
   simp [Region.binds] at hdep
   obtain ⟨v, hv, hp⟩ := h.slots 6 (by omega) (gd hdep.1)
   have hp : v = .int .i64 (u.n : Int) := hp
   subst hp
   exact op_digN rfl u.n hn hv fun w' hb => h.put 7 20 (by omega) rfl _ rfl hb
  ·simp at ho
   subst ho
   simp [Region.binds] at hdep
   obtain ⟨v, hv, hp⟩ := h.slots 7 (by omega) (gd hdep)
   have hp : v = .string (itoaS (u.n : Int)) := hp
   subst hp
   obtain ⟨g9, c9, W9, hr, hy9, hb9, -, -, -, -⟩ := run_bytes_str 9 34 5 (itoaS (u.n : Int)) W Tryz.underlying9 Tryz.underlying34 Tryz.underlying5 (itoa_maxLen u.n hn)
   exact op_conv rfl (eval_tmp hv) hr (h.put 8 21 (by omega) rfl _ ⟨_, _, _, rfl, hy9⟩ hb9)
  ·simp at ho
   subst ho
   simp [Region.binds] at hdep
   obtain ⟨v, hv, A, n, c, hp, hy⟩ := h.slots 8 (by omega) (gd hdep)
   subst hp
   exact op_build2 rfl (eval_tmp hv) (build_row (keyB 1) A n c W) (h.put 9 22 (by omega) rfl _ ⟨_, _, _, rfl, hy⟩ (Below.refl _ _))
  ·clear ho hdep
   have hv : a.eval (.tmp 1) = .pointer (some ⟨w.heap.size, 0, none⟩) := eval_tmp h.t1
   exact op_value (v := .pointer (some ⟨w.heap.size, 2, none⟩)) rfl rfl (by simp [execOp, hv, fa2, tgt, Result.andThen]) (h.put 10 23 (by omega) rfl _ rfl (Below.refl _ _))
  ·simp at ho
   subst ho
   simp [Region.binds] at hdep
   obtain ⟨v, hv, hp⟩ := h.slots 10 (by omega) (gd hdep)
   have hp : v = .pointer (some ⟨w.heap.size, 2, none⟩) := hp
   subst hp
   exact op_load rfl (eval_tmp hv) (load_intN ((h.blk.cell 2).trans HINT.out.2.2.1)) (h.put 11 24 (by omega) rfl _ rfl (Below.refl _ _))
  ·simp at ho
   subst ho
   simp [Region.binds] at hdep
   obtain ⟨v, hv, hp⟩ := h.slots 11 (by omega) (gd hdep.1)
   have hp : v = .int .i64 (u.seg : Int) := hp
   subst hp
   exact op_digN rfl u.seg hs hv fun w' hb => h.put 12 25 (by omega) rfl _ rfl hb
  ·simp at ho
   subst ho
   simp [Region.binds] at hdep
   obtain ⟨v, hv, hp⟩ := h.slots 12 (by omega) (gd hdep)
   have hp : v = .string (itoaS (u.seg : Int)) := hp
   subst hp
   obtain ⟨g9, c9, W9, hr, hy9, hb9, -, -, -, -⟩ := run_bytes_str 9 34 5 (itoaS (u.seg : Int)) W Tryz.underlying9 Tryz.underlying34 Tryz.underlying5 (itoa_maxLen u.seg hs)
   exact op_conv rfl (eval_tmp hv) hr (h.put 13 26 (by omega) rfl _ ⟨_, _, _, rfl, hy9⟩ hb9)
  ·simp at ho
   subst ho
   simp [Region.binds] at hdep
   obtain ⟨v, hv, A, n, c, hp, hy⟩ := h.slots 13 (by omega) (gd hdep)
   subst hp
   exact op_build2 rfl (eval_tmp hv) (build_row (keyB 2) A n c W) (h.put 14 27 (by omega) rfl _ ⟨_, _, _, rfl, hy⟩ (Below.refl _ _))
  ·clear ho hdep
   obtain ⟨v, hv, hp⟩ := h.t3
   exact op_move rfl (eval_tmp hv) (h.put 15 28 (by omega) rfl _ hp (Below.refl _ _))
  ·simp at ho
   subst ho
   simp [Region.binds] at hdep
   obtain ⟨v, hv, A, n, c, hp, hy⟩ := h.slots 15 (by omega) (gd hdep)
   subst hp
   exact op_build2 rfl (eval_tmp hv) (build_row (keyB 4) A n c W) (h.put 16 29 (by omega) rfl _ ⟨_, _, _, rfl, hy⟩ (Below.refl _ _))
  ·clear ho hdep
   obtain ⟨v, hv, hp⟩ := h.t4
   exact op_move rfl (eval_tmp hv) (h.put 17 30 (by omega) rfl _ hp (Below.refl _ _))
  ·simp at ho
   subst ho
   simp [Region.binds] at hdep
   obtain ⟨v, hv, A, n, c, hp, hy⟩ := h.slots 17 (by omega) (gd hdep)
   subst hp
   exact op_build2 rfl (eval_tmp hv) (build_row (keyB 5) A n c W) (h.put 18 31 (by omega) rfl _ ⟨_, _, _, rfl, hy⟩ (Below.refl _ _))
  ·clear ho hdep
   have hv : a.eval (.tmp 1) = .pointer (some ⟨w.heap.size, 0, none⟩) := eval_tmp h.t1
   exact op_value (v := .pointer (some ⟨w.heap.size, 3, none⟩)) rfl rfl (by simp [execOp, hv, fa3, tgt, Result.andThen]) (h.put 19 32 (by omega) rfl _ rfl (Below.refl _ _))
  ·simp at ho
   subst ho
   simp [Region.binds] at hdep
   obtain ⟨v, hv, hp⟩ := h.slots 19 (by omega) (gd hdep)
   have hp : v = .pointer (some ⟨w.heap.size, 3, none⟩) := hp
   subst hp
   exact op_load rfl (eval_tmp hv) (load_intN ((h.blk.cell 3).trans HINT.out.2.2.2)) (h.put 20 33 (by omega) rfl _ rfl (Below.refl _ _))
  ·simp at ho
   subst ho
   simp [Region.binds] at hdep
   obtain ⟨v, hv, hp⟩ := h.slots 20 (by omega) (gd hdep.1)
   have hp : v = .int .i64 (u.size : Int) := hp
   subst hp
   exact op_digN rfl u.size hz hv fun w' hb => h.put 21 34 (by omega) rfl _ rfl hb
  ·simp at ho
   subst ho
   simp [Region.binds] at hdep
   obtain ⟨v, hv, hp⟩ := h.slots 21 (by omega) (gd hdep)
   have hp : v = .string (itoaS (u.size : Int)) := hp
   subst hp
   obtain ⟨g9, c9, W9, hr, hy9, hb9, -, -, -, -⟩ := run_bytes_str 9 34 5 (itoaS (u.size : Int)) W Tryz.underlying9 Tryz.underlying34 Tryz.underlying5 (itoa_maxLen u.size hz)
   exact op_conv rfl (eval_tmp hv) hr (h.put 22 35 (by omega) rfl _ ⟨_, _, _, rfl, hy9⟩ hb9)
  ·simp at ho
   subst ho
   simp [Region.binds] at hdep
   obtain ⟨v, hv, A, n, c, hp, hy⟩ := h.slots 22 (by omega) (gd hdep)
   subst hp
   exact op_build2 rfl (eval_tmp hv) (build_row (keyB 3) A n c W) (h.put 23 36 (by omega) rfl _ ⟨_, _, _, rfl, hy⟩ (Below.refl _ _))
  ·simp at ho
   subst ho
   simp [Region.binds] at hdep
   obtain ⟨v0, e0, A00, n0, c00, hp0, y0⟩ := h.slots 4 (by omega) (gd hdep.1)
   subst hp0
   have e0 := eval_tmp e0
   obtain ⟨v1, e1, A10, n1, c10, hp1, y1⟩ := h.slots 9 (by omega) (gd hdep.2.1)
   subst hp1
   have e1 := eval_tmp e1
   obtain ⟨v2, e2, A20, n2, c20, hp2, y2⟩ := h.slots 14 (by omega) (gd hdep.2.2.1)
   subst hp2
   have e2 := eval_tmp e2
   obtain ⟨v3, e3, A30, n3, c30, hp3, y3⟩ := h.slots 16 (by omega) (gd hdep.2.2.2.1)
   subst hp3
   have e3 := eval_tmp e3
   obtain ⟨v4, e4, A40, n4, c40, hp4, y4⟩ := h.slots 18 (by omega) (gd hdep.2.2.2.2.1)
   subst hp4
   have e4 := eval_tmp e4
   obtain ⟨v5, e5, A50, n5, c50, hp5, y5⟩ := h.slots 23 (by omega) (gd hdep.2.2.2.2.2)
   subst hp5
   have e5 := eval_tmp e5
   exact op_six rfl e0 e1 e2 e3 e4 e5 (build_six _ _ _ _ _ _ _ _ _ _ _ _ _ _ _ _ _ _ _ _ _ _ _ _ W) (h.six _ (Below.al0 (Below.refl _ W) _) ⟨_, _, _, _, _, _, _, _, heap_alloc_new W _, y0.below (Below.al0 (Below.refl _ W) _), y1.below (Below.al0 (Below.refl _ W) _), y2.below (Below.al0 (Below.refl _ W) _), y3.below (Below.al0 (Below.refl _ W) _), y4.below (Below.al0 (Below.refl _ W) _), y5.below (Below.al0 (Below.refl _ W) _)⟩ h.bel.size)
  ·simp at ho
   subst ho
   simp [Region.binds] at hdep
   obtain ⟨g, h1, h2, h3⟩ := h.s24 (gd hdep.1)
   exact op_assign rfl (eval_tmp h1) (h.last g h2 h3)
end Go.Proofs.YtdohebhbiokljaaGreatDoor
