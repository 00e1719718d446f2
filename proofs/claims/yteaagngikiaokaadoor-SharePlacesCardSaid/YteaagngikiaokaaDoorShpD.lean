/- The contract of the document's Again. -/
import Derived.Test.YteaagngikiaokaaDoorShpC
namespace Go.Proofs.YteaagngikiaokaaDoor
open Go.RowKit

set_option maxRecDepth 100000 in
set_option maxHeartbeats 4000000 in
theorem ragain_0 (k n seg size x0 x1 x3 x4 x5 x6 x7 : Int) (w : World) (r0 : (∀ w, Calls Tryd.prog 56 #[.agg #[.int .i64 k, .int .i64 n, .int .i64 seg, .int .i64 0, .slice none 0 0], .int .i64 size] w fun x w' => Below w.heap.size w w' ∧ x = .returned (.tuple #[.agg #[.int .i64 x0, .int .i64 x1, .int .i64 seg, .int .i64 x3, .int .i64 x4, .int .i64 x5, .int .i64 x6, .int .i64 x7], .int .i64 0]))) :
    Calls Tryd.prog 34 #[.int .i64 k, .int .i64 n, .int .i64 seg, .int .i64 size] w fun x w' => Below w.heap.size w w' ∧ x = .returned (.tuple #[.agg #[.int .i64 x0, .int .i64 x1, .int .i64 seg, .int .i64 x3, .int .i64 x4, .int .i64 x5, .int .i64 x6, .int .i64 x7], .int .i64 0]) := by
  have R0 := hide r0
  clear r0
  go_enter Tryd.func34, Tryd.ntmps34
  go_wp2
  go_loopw [10] (fun u10 wr => ∃ i : Nat, u10 = .int .i64 (i : Int) ∧ i ≤ 0 ∧ Blk wr w.heap.size 60 #[.int .i64 0, .int .i64 0, .int .i64 0, .int .i64 0, .int .i64 0, .int .i64 0, .int .i64 0, .int .i64 0] ∧ Below w.heap.size w wr) (fun u10 _ => 3 - (intOf u10).toNat)
  case atStart => exact ⟨0, rfl, by omega, Blk.new w _ _, (Below.refl _ w).alloc (Nat.le_refl _) _⟩
  case round =>
    obtain ⟨i, rfl, hi, hblk, hbel⟩ := hrel
    have HBLK := hide hblk
    have HBEL := hide hbel
    have hlt := hblk.lt
    clear hblk hbel
    have hii : i = 0 := by omega
    rcases hii with rfl
    · go_wp2_with fail
      refine (R0.out _).mono ?_
      rintro x w2 ⟨b2, rfl⟩
      have HB2 := hide (HBLK.out.below' b2)
      have HL2 := hide (HBEL.out.trans (b2.mono HBEL.out.size))
      clear b2
      go_wp2_with (refine wpList_store_row (o := ⟨none, .store _ _ _, _, _, _, _⟩) (HB2.out.alloc _) #[.int .i64 x0, .int .i64 x1, .int .i64 seg, .int .i64 x3, .int .i64 x4, .int .i64 x5, .int .i64 x6, .int .i64 x7] rfl (by simp [Value.oneCell']) rfl 60 _ _ rfl (by kernel_rfl) (by rfl) (by rfl) ?_; intro wf hb1 hg1)
      exact bodyPost_ret (results_row_tmp rfl _ _ w.heap.size 60 #[.int .i64 x0, .int .i64 x1, .int .i64 seg, .int .i64 x3, .int .i64 x4, .int .i64 x5, .int .i64 x6, .int .i64 x7] (0, 0) _ rfl hb1 Tryd.underlying60 rfl (by kernel_rfl)) rfl ⟨(HL2.out.alloc HL2.out.size _).grown hg1 (by have := HB2.out.lt; simp; omega) (fun k hk => by cases hk; omega), rfl⟩

set_option maxRecDepth 100000 in
set_option maxHeartbeats 4000000 in
theorem ragain_1 (k n seg size x0 x1 x2 x3 x4 x5 x6 x7 y0 y1 y3 y4 y5 y6 y7 e0 : Int) (w : World) (h0 : ¬ (e0 = 0 ∧ x2 = seg)) (r0 : (∀ w, Calls Tryd.prog 56 #[.agg #[.int .i64 k, .int .i64 n, .int .i64 seg, .int .i64 0, .slice none 0 0], .int .i64 size] w fun x w' => Below w.heap.size w w' ∧ x = .returned (.tuple #[.agg #[.int .i64 x0, .int .i64 x1, .int .i64 x2, .int .i64 x3, .int .i64 x4, .int .i64 x5, .int .i64 x6, .int .i64 x7], .int .i64 e0]))) (r1 : (∀ w, Calls Tryd.prog 56 #[.agg #[.int .i64 k, .int .i64 n, .int .i64 65536, .int .i64 0, .slice none 0 0], .int .i64 size] w fun x w' => Below w.heap.size w w' ∧ x = .returned (.tuple #[.agg #[.int .i64 y0, .int .i64 y1, .int .i64 seg, .int .i64 y3, .int .i64 y4, .int .i64 y5, .int .i64 y6, .int .i64 y7], .int .i64 0]))) :
    Calls Tryd.prog 34 #[.int .i64 k, .int .i64 n, .int .i64 seg, .int .i64 size] w fun x w' => Below w.heap.size w w' ∧ x = .returned (.tuple #[.agg #[.int .i64 y0, .int .i64 y1, .int .i64 seg, .int .i64 y3, .int .i64 y4, .int .i64 y5, .int .i64 y6, .int .i64 y7], .int .i64 0]) := by
  have R0 := hide r0
  have R1 := hide r1
  clear r0 r1
  go_enter Tryd.func34, Tryd.ntmps34
  go_wp2
  go_loopw [10] (fun u10 wr => ∃ i : Nat, u10 = .int .i64 (i : Int) ∧ i ≤ 1 ∧ Blk wr w.heap.size 60 #[.int .i64 0, .int .i64 0, .int .i64 0, .int .i64 0, .int .i64 0, .int .i64 0, .int .i64 0, .int .i64 0] ∧ Below w.heap.size w wr) (fun u10 _ => 3 - (intOf u10).toNat)
  case atStart => exact ⟨0, rfl, by omega, Blk.new w _ _, (Below.refl _ w).alloc (Nat.le_refl _) _⟩
  case round =>
    obtain ⟨i, rfl, hi, hblk, hbel⟩ := hrel
    have HBLK := hide hblk
    have HBEL := hide hbel
    have hlt := hblk.lt
    clear hblk hbel
    have hii : i = 0 ∨ i = 1 := by omega
    rcases hii with rfl | rfl
    · go_wp2_with fail
      refine (R0.out _).mono ?_
      rintro x w2 ⟨b2, rfl⟩
      have HB2 := hide (HBLK.out.below' b2)
      have HL2 := hide (HBEL.out.trans (b2.mono HBEL.out.size))
      clear b2
      by_cases z1 : e0 = 0
      · have z2 : ¬ x2 = seg := fun h => h0 ⟨z1, h⟩
        go_wp2
        go_roundw
        case rel => exact ⟨1, by go_num, by omega, HB2.out.alloc _, HL2.out.alloc HL2.out.size _⟩
        case measure => simp [intOf]
      · go_wp2
        go_roundw
        case rel => exact ⟨1, by go_num, by omega, HB2.out.alloc _, HL2.out.alloc HL2.out.size _⟩
        case measure => simp [intOf]
    · go_wp2_with fail
      refine (R1.out _).mono ?_
      rintro x w2 ⟨b2, rfl⟩
      have HB2 := hide (HBLK.out.below' b2)
      have HL2 := hide (HBEL.out.trans (b2.mono HBEL.out.size))
      clear b2
      go_wp2_with (refine wpList_store_row (o := ⟨none, .store _ _ _, _, _, _, _⟩) (HB2.out.alloc _) #[.int .i64 y0, .int .i64 y1, .int .i64 seg, .int .i64 y3, .int .i64 y4, .int .i64 y5, .int .i64 y6, .int .i64 y7] rfl (by simp [Value.oneCell']) rfl 60 _ _ rfl (by kernel_rfl) (by rfl) (by rfl) ?_; intro wf hb1 hg1)
      exact bodyPost_ret (results_row_tmp rfl _ _ w.heap.size 60 #[.int .i64 y0, .int .i64 y1, .int .i64 seg, .int .i64 y3, .int .i64 y4, .int .i64 y5, .int .i64 y6, .int .i64 y7] (0, 0) _ rfl hb1 Tryd.underlying60 rfl (by kernel_rfl)) rfl ⟨(HL2.out.alloc HL2.out.size _).grown hg1 (by have := HB2.out.lt; simp; omega) (fun k hk => by cases hk; omega), rfl⟩

set_option maxRecDepth 100000 in
set_option maxHeartbeats 4000000 in
theorem ragain_2 (k n seg size x0 x1 x2 x3 x4 x5 x6 x7 y0 y1 y2 y3 y4 y5 y6 y7 e0 e1 : Int) (w : World) (h0 : ¬ (e0 = 0 ∧ x2 = seg)) (h1 : ¬ (e1 = 0 ∧ y2 = seg)) (r0 : (∀ w, Calls Tryd.prog 56 #[.agg #[.int .i64 k, .int .i64 n, .int .i64 seg, .int .i64 0, .slice none 0 0], .int .i64 size] w fun x w' => Below w.heap.size w w' ∧ x = .returned (.tuple #[.agg #[.int .i64 x0, .int .i64 x1, .int .i64 x2, .int .i64 x3, .int .i64 x4, .int .i64 x5, .int .i64 x6, .int .i64 x7], .int .i64 e0]))) (r1 : (∀ w, Calls Tryd.prog 56 #[.agg #[.int .i64 k, .int .i64 n, .int .i64 65536, .int .i64 0, .slice none 0 0], .int .i64 size] w fun x w' => Below w.heap.size w w' ∧ x = .returned (.tuple #[.agg #[.int .i64 y0, .int .i64 y1, .int .i64 y2, .int .i64 y3, .int .i64 y4, .int .i64 y5, .int .i64 y6, .int .i64 y7], .int .i64 e1]))) :
    Calls Tryd.prog 34 #[.int .i64 k, .int .i64 n, .int .i64 seg, .int .i64 size] w fun x w' => Below w.heap.size w w' ∧ x = .returned (.tuple #[.agg #[.int .i64 0, .int .i64 0, .int .i64 0, .int .i64 0, .int .i64 0, .int .i64 0, .int .i64 0, .int .i64 0], .int .i64 92]) := by
  have R0 := hide r0
  have R1 := hide r1
  clear r0 r1
  go_enter Tryd.func34, Tryd.ntmps34
  go_wp2
  go_loopw [10] (fun u10 wr => ∃ i : Nat, u10 = .int .i64 (i : Int) ∧ i ≤ 2 ∧ Blk wr w.heap.size 60 #[.int .i64 0, .int .i64 0, .int .i64 0, .int .i64 0, .int .i64 0, .int .i64 0, .int .i64 0, .int .i64 0] ∧ Below w.heap.size w wr) (fun u10 _ => 3 - (intOf u10).toNat)
  case atStart => exact ⟨0, rfl, by omega, Blk.new w _ _, (Below.refl _ w).alloc (Nat.le_refl _) _⟩
  case round =>
    obtain ⟨i, rfl, hi, hblk, hbel⟩ := hrel
    have HBLK := hide hblk
    have HBEL := hide hbel
    have hlt := hblk.lt
    clear hblk hbel
    have hii : i = 0 ∨ i = 1 ∨ i = 2 := by omega
    rcases hii with rfl | rfl | rfl
    · go_wp2_with fail
      refine (R0.out _).mono ?_
      rintro x w2 ⟨b2, rfl⟩
      have HB2 := hide (HBLK.out.below' b2)
      have HL2 := hide (HBEL.out.trans (b2.mono HBEL.out.size))
      clear b2
      by_cases z1 : e0 = 0
      · have z2 : ¬ x2 = seg := fun h => h0 ⟨z1, h⟩
        go_wp2
        go_roundw
        case rel => exact ⟨1, by go_num, by omega, HB2.out.alloc _, HL2.out.alloc HL2.out.size _⟩
        case measure => simp [intOf]
      · go_wp2
        go_roundw
        case rel => exact ⟨1, by go_num, by omega, HB2.out.alloc _, HL2.out.alloc HL2.out.size _⟩
        case measure => simp [intOf]
    · go_wp2_with fail
      refine (R1.out _).mono ?_
      rintro x w2 ⟨b2, rfl⟩
      have HB2 := hide (HBLK.out.below' b2)
      have HL2 := hide (HBEL.out.trans (b2.mono HBEL.out.size))
      clear b2
      by_cases z1 : e1 = 0
      · have z2 : ¬ y2 = seg := fun h => h1 ⟨z1, h⟩
        go_wp2
        go_roundw
        case rel => exact ⟨2, by go_num, by omega, HB2.out.alloc _, HL2.out.alloc HL2.out.size _⟩
        case measure => simp [intOf]
      · go_wp2
        go_roundw
        case rel => exact ⟨2, by go_num, by omega, HB2.out.alloc _, HL2.out.alloc HL2.out.size _⟩
        case measure => simp [intOf]
    · go_wp2_with (refine wpList_store_row (o := ⟨none, .store _ _ _, _, _, _, _⟩) HBLK.out #[.int .i64 0, .int .i64 0, .int .i64 0, .int .i64 0, .int .i64 0, .int .i64 0, .int .i64 0, .int .i64 0] rfl (by simp [Value.oneCell']) rfl 60 _ _ rfl (by kernel_rfl) (by rfl) (by kernel_rfl) ?_; intro wf hb1 hg1)
      exact bodyPost_ret (results_row_tmp rfl _ _ w.heap.size 60 #[.int .i64 0, .int .i64 0, .int .i64 0, .int .i64 0, .int .i64 0, .int .i64 0, .int .i64 0, .int .i64 0] (0, 0) _ rfl hb1 Tryd.underlying60 rfl (by kernel_rfl)) rfl ⟨HBEL.out.grown hg1 (by omega) (fun k hk => by cases hk; omega), rfl⟩
end Go.Proofs.YteaagngikiaokaaDoor
