/- The law SharePlaces, over a shape that fits. -/
import Derived.Test.YteaagngikiaokaaDoorShpG
namespace Go.Proofs.YteaagngikiaokaaDoor
open Go.RowKit

set_option maxRecDepth 100000 in
set_option maxHeartbeats 4000000 in
theorem places_good (K N G Z segs tail blk last A Bv : Nat) (nx m : Nat → Nat) (w : World)
    (p1 : ∀ w1, Below w.heap.size w w1 → Calls Tryd.prog 33 #[] w1 fun x w' => Below w1.heap.size w1 w' ∧ x = .returned (.bool true))
    (p2 : ∀ w1, Calls Tryd.prog 34 #[.int .i64 (K : Int), .int .i64 (N : Int), .int .i64 (G : Int), .int .i64 (Z : Int)] w1 fun x w' => Below w1.heap.size w1 w' ∧ x = .returned (.tuple #[.agg #[.int .i64 (K : Int), .int .i64 (N : Int), .int .i64 (G : Int), .int .i64 (Z : Int), .int .i64 (segs : Int), .int .i64 (tail : Int), .int .i64 (blk : Int), .int .i64 (last : Int)], .int .i64 0]))
    (p3 : ∀ w1, Below w.heap.size w w1 → Calls Tryd.prog 35 #[.agg #[.int .i64 (K : Int), .int .i64 (N : Int), .int .i64 (G : Int), .int .i64 (Z : Int), .int .i64 (segs : Int), .int .i64 (tail : Int), .int .i64 (blk : Int), .int .i64 (last : Int)]] w1 fun x w' => Below w1.heap.size w1 w' ∧ x = .returned (.tuple #[.int .i64 (A : Int), .int .i64 0]))
    (p4 : ∀ w1, Below w.heap.size w w1 → Calls Tryd.prog 36 #[.agg #[.int .i64 (K : Int), .int .i64 (N : Int), .int .i64 (G : Int), .int .i64 (Z : Int), .int .i64 (segs : Int), .int .i64 (tail : Int), .int .i64 (blk : Int), .int .i64 (last : Int)]] w1 fun x w' => Below w1.heap.size w1 w' ∧ x = .returned (.tuple #[.int .i64 (Bv : Int), .int .i64 0]))
    (p5 : ∀ w1 (j : Nat), Below w.heap.size w w1 → j < segs → Calls Tryd.prog 37 #[.agg #[.int .i64 (K : Int), .int .i64 (N : Int), .int .i64 (G : Int), .int .i64 (Z : Int), .int .i64 (segs : Int), .int .i64 (tail : Int), .int .i64 (blk : Int), .int .i64 (last : Int)], .int .i64 (j : Int)] w1 fun x w' => Below w1.heap.size w1 w' ∧ x = .returned (.tuple #[.int .i64 (nx j : Int), .int .i64 (m j : Int), .int .i64 0]))
    (p6 : ∀ w1 (j : Nat), j < segs → Calls Tryd.prog 38 #[.agg #[.int .i64 (K : Int), .int .i64 (N : Int), .int .i64 (G : Int), .int .i64 (Z : Int), .int .i64 (segs : Int), .int .i64 (tail : Int), .int .i64 (blk : Int), .int .i64 (last : Int)], .int .i64 (j : Int)] w1 fun x w' => Below w1.heap.size w1 w' ∧ x = .returned (.tuple #[.int .i64 (m j : Int), .int .i64 0]))
    (p7 : ∀ w1, Below w.heap.size w w1 → Calls Tryd.prog 37 #[.agg #[.int .i64 (K : Int), .int .i64 (N : Int), .int .i64 (G : Int), .int .i64 (Z : Int), .int .i64 (segs : Int), .int .i64 (tail : Int), .int .i64 (blk : Int), .int .i64 (last : Int)], .int .i64 (segs : Int)] w1 fun x w' => Below w1.heap.size w1 w' ∧ x = .returned (.tuple #[.int .i64 0, .int .i64 0, .int .i64 2]))
    (hA : 36 ≤ A ∧ A < 131072) (hB : Bv < 33554432) (hs : 1 ≤ segs ∧ segs ≤ 512) (h0 : nx 0 = A) (h1 : nx segs = Bv) (hst : ∀ j, j < segs → nx (j + 1) = nx j + m j ∧ 1 ≤ m j ∧ m j ≤ 16777216 ∧ nx j ≤ 33554432) :
    Calls Tryd.prog 10 #[.int .i64 (K : Int), .int .i64 (N : Int), .int .i64 (G : Int), .int .i64 (Z : Int)] w fun x w' => x = .returned (.bool true) ∧ Below w.heap.size w w' := by
  have i1 : ¬ (A : Int) < 36 := by omega
  have i2 : ¬ (131072 : Int) ≤ (A : Int) := by omega
  have i3 : ¬ (33554432 : Int) ≤ (Bv : Int) := by omega
  have hA0 : (nx 0 : Int) = (A : Int) := by rw [h0]
  have hB0 : (nx segs : Int) = (Bv : Int) := by rw [h1]
  clear h0 h1 hA hB
  generalize (A : Int) = a at *
  generalize (Bv : Int) = b at *
  have P1 := hide p1
  have P2 := hide p2
  have P3 := hide p3
  have P4 := hide p4
  have P5 := hide p5
  have P6 := hide p6
  have P7 := hide p7
  have H0 := hide (And.intro hA0 (And.intro hB0 hst))
  clear p1 p2 p3 p4 p5 p6 p7 hA0 hB0 hst
  go_enter Tryd.func10, Tryd.ntmps10
  go_wp2_with fail
  refine (P1.out _ (Below.refl _ _)).mono ?_
  rintro x w1 ⟨b1, rfl⟩
  have B1 := hide b1
  clear b1 P1
  go_wp2_with fail
  refine (P2.out _).mono ?_
  rintro x w2 ⟨b2, rfl⟩
  have B2 := hide (Below.step B1.out b2)
  clear b2 B1 P2
  go_wp2_with fail
  refine (P3.out _ (B2.out.alloc B2.out.size _)).mono ?_
  rintro x w3 ⟨b3, rfl⟩
  have HB := (Blk.new w2 60 #[.int .i64 (K : Int), .int .i64 (N : Int), .int .i64 (G : Int), .int .i64 (Z : Int), .int .i64 (segs : Int), .int .i64 (tail : Int), .int .i64 (blk : Int), .int .i64 (last : Int)]).below' b3
  have c0 : w3.cell? ⟨w2.heap.size, 0, none⟩ = some (.int .i64 (K : Int)) := HB.cell 0
  have c1 : w3.cell? ⟨w2.heap.size, 1, none⟩ = some (.int .i64 (N : Int)) := HB.cell 1
  have c2 : w3.cell? ⟨w2.heap.size, 2, none⟩ = some (.int .i64 (G : Int)) := HB.cell 2
  have c3 : w3.cell? ⟨w2.heap.size, 3, none⟩ = some (.int .i64 (Z : Int)) := HB.cell 3
  have c4 : w3.cell? ⟨w2.heap.size, 4, none⟩ = some (.int .i64 (segs : Int)) := HB.cell 4
  have c5 : w3.cell? ⟨w2.heap.size, 5, none⟩ = some (.int .i64 (tail : Int)) := HB.cell 5
  have c6 : w3.cell? ⟨w2.heap.size, 6, none⟩ = some (.int .i64 (blk : Int)) := HB.cell 6
  have c7 : w3.cell? ⟨w2.heap.size, 7, none⟩ = some (.int .i64 (last : Int)) := HB.cell 7
  have HB3 := hide HB
  have B3 := hide ((B2.out.alloc B2.out.size _).trans (b3.mono (by have := B2.out.size; simp; omega)))
  have hsz : w.heap.size ≤ w2.heap.size := B2.out.size
  clear b3 HB P3
  go_wp2_with fail
  refine (P4.out _ B3.out).mono ?_
  rintro x w4 ⟨b4, rfl⟩
  have HB4 := hide (HB3.out.below' b4)
  have d4 : w4.cell? ⟨w2.heap.size, 4, none⟩ = some (.int .i64 (segs : Int)) := HB4.out.cell 4
  have B4 := hide (Below.step B3.out b4)
  clear b4 P4 HB3 B3 B2 c0 c1 c2 c3 c4 c5 c6 c7
  go_wp2
  go_loopw [15, 16] (fun u15 u16 wr => ∃ j : Nat, u15 = .int .i64 (nx j : Int) ∧ u16 = .int .i64 (j : Int) ∧ j ≤ segs ∧ Blk wr w2.heap.size 60 #[.int .i64 (K : Int), .int .i64 (N : Int), .int .i64 (G : Int), .int .i64 (Z : Int), .int .i64 (segs : Int), .int .i64 (tail : Int), .int .i64 (blk : Int), .int .i64 (last : Int)] ∧ Below w.heap.size w wr) (fun _ u16 _ => 600 - (intOf u16).toNat)
  case atStart => exact ⟨0, by rw [H0.out.1], rfl, by omega, HB4.out, B4.out⟩
  case round =>
    obtain ⟨j, rfl, rfl, hj, hblk, hbel⟩ := hrel
    have c0 : wr.cell? ⟨w2.heap.size, 0, none⟩ = some (.int .i64 (K : Int)) := hblk.cell 0
    have c1 : wr.cell? ⟨w2.heap.size, 1, none⟩ = some (.int .i64 (N : Int)) := hblk.cell 1
    have c2 : wr.cell? ⟨w2.heap.size, 2, none⟩ = some (.int .i64 (G : Int)) := hblk.cell 2
    have c3 : wr.cell? ⟨w2.heap.size, 3, none⟩ = some (.int .i64 (Z : Int)) := hblk.cell 3
    have c4 : wr.cell? ⟨w2.heap.size, 4, none⟩ = some (.int .i64 (segs : Int)) := hblk.cell 4
    have c5 : wr.cell? ⟨w2.heap.size, 5, none⟩ = some (.int .i64 (tail : Int)) := hblk.cell 5
    have c6 : wr.cell? ⟨w2.heap.size, 6, none⟩ = some (.int .i64 (blk : Int)) := hblk.cell 6
    have c7 : wr.cell? ⟨w2.heap.size, 7, none⟩ = some (.int .i64 (last : Int)) := hblk.cell 7
    have HBLK := hide hblk
    have HBEL := hide hbel
    clear hblk hbel
    by_cases hlt : j < segs
    · have hst := H0.out.2.2 j hlt
      have HX := hide hst.1
      have i4 : (j : Int) < (segs : Int) := by omega
      have i5 : ¬ (m j : Int) < 1 := by omega
      have e1 : IntKind.i64.wrap ((nx j : Int) + (m j : Int)) = (nx (j + 1) : Int) := by rw [IntWalk.i64_in _ (by omega), HX.out]; omega
      have HP5 := hide (fun w1 h => P5.out w1 j h hlt)
      have HP6 := hide (fun w1 => P6.out w1 j hlt)
      have HE1 := hide e1
      clear P5 P6 P7 H0 e1 hst
      go_wp2_with fail
      refine (HP5.out _ HBEL.out).mono ?_
      rintro x w5 ⟨b5, rfl⟩
      have HB5 := hide (HBLK.out.below' b5)
      have f0 : w5.cell? ⟨w2.heap.size, 0, none⟩ = some (.int .i64 (K : Int)) := HB5.out.cell 0
      have f1 : w5.cell? ⟨w2.heap.size, 1, none⟩ = some (.int .i64 (N : Int)) := HB5.out.cell 1
      have f2 : w5.cell? ⟨w2.heap.size, 2, none⟩ = some (.int .i64 (G : Int)) := HB5.out.cell 2
      have f3 : w5.cell? ⟨w2.heap.size, 3, none⟩ = some (.int .i64 (Z : Int)) := HB5.out.cell 3
      have f4 : w5.cell? ⟨w2.heap.size, 4, none⟩ = some (.int .i64 (segs : Int)) := HB5.out.cell 4
      have f5 : w5.cell? ⟨w2.heap.size, 5, none⟩ = some (.int .i64 (tail : Int)) := HB5.out.cell 5
      have f6 : w5.cell? ⟨w2.heap.size, 6, none⟩ = some (.int .i64 (blk : Int)) := HB5.out.cell 6
      have f7 : w5.cell? ⟨w2.heap.size, 7, none⟩ = some (.int .i64 (last : Int)) := HB5.out.cell 7
      have B5 := hide (Below.step HBEL.out b5)
      clear b5
      go_wp2_with fail
      refine (HP6.out _).mono ?_
      rintro x w6 ⟨b6, rfl⟩
      have HB6 := hide (HB5.out.below' b6)
      have B6 := hide (Below.step B5.out b6)
      clear b6 f0 f1 f2 f3 f4 f5 f6 f7 HP5 HP6
      have e1 := HE1.out
      go_wp2
      go_roundw
      case rel => exact ⟨j + 1, by simp, by go_num, by omega, HB6.out, B6.out⟩
      case measure => simp [intOf]; omega
    · have hj2 : j = segs := by omega
      subst hj2
      have i4 : ¬ (j : Int) < (j : Int) := by omega
      have hnx : (nx j : Int) = b := H0.out.2.1
      rw [hnx]
      clear hnx P5 P6 H0
      go_wp2_with fail
      refine (P7.out _ HBEL.out).mono ?_
      rintro x w5 ⟨b5, rfl⟩
      have B5 := hide (Below.step HBEL.out b5)
      clear b5
      go_wp2
      go_ret
      exact ⟨rfl, B5.out⟩
end Go.Proofs.YteaagngikiaokaaDoor
