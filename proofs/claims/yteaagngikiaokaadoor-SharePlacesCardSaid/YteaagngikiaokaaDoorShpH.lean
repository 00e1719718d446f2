/- The law SharePlaces. -/
import Derived.Test.YteaagngikiaokaaDoorShpF
namespace Go.Proofs.YteaagngikiaokaaDoor
open Go.RowKit

set_option maxRecDepth 100000 in
set_option maxHeartbeats 2000000 in
theorem places_bad (k n seg size : Int) (w : World) (ht : Tab w) (h : ¬ agOK k n seg size) :
    Calls Tryd.prog 10 #[.int .i64 k, .int .i64 n, .int .i64 seg, .int .i64 size] w fun x w' => x = .returned (.bool true) ∧ Below w.heap.size w w' := by
  have P1 := hide (lives_any w ht)
  have P2 := hide (fun w => ragain_no k n seg size w h)
  have P3 := hide (fun w => frontLen_any 0 0 0 0 0 0 0 0 0 0 0 0 0 0 3 w (fun w1 _ => laid_no w1))
  have P4 := hide (fun w => len_any 0 0 0 0 0 0 0 0 0 0 0 0 0 0 3 w (fun w1 _ => laid_no w1))
  clear ht h
  go_enter Tryd.func10, Tryd.ntmps10
  go_wp2_with fail
  refine (P1.out).mono ?_
  rintro x w1 ⟨b1, rfl⟩
  have B1 := hide b1
  clear b1 P1
  go_wp2_with fail
  refine (P2.out _).mono ?_
  rintro x w2 ⟨b2, rfl⟩
  have B2 := hide (Below.step B1.out b2)
  clear b2 B1 P2
  go_wp2_with fail
  refine (P3.out _).mono ?_
  rintro x w3 ⟨b3, rfl⟩
  have HB := (Blk.new w2 60 #[.int .i64 0, .int .i64 0, .int .i64 0, .int .i64 0, .int .i64 0, .int .i64 0, .int .i64 0, .int .i64 0]).below' b3
  have c0 : w3.cell? ⟨w2.heap.size, 0, none⟩ = some (.int .i64 0) := HB.cell 0
  have c1 : w3.cell? ⟨w2.heap.size, 1, none⟩ = some (.int .i64 0) := HB.cell 1
  have c2 : w3.cell? ⟨w2.heap.size, 2, none⟩ = some (.int .i64 0) := HB.cell 2
  have c3 : w3.cell? ⟨w2.heap.size, 3, none⟩ = some (.int .i64 0) := HB.cell 3
  have c4 : w3.cell? ⟨w2.heap.size, 4, none⟩ = some (.int .i64 0) := HB.cell 4
  have c5 : w3.cell? ⟨w2.heap.size, 5, none⟩ = some (.int .i64 0) := HB.cell 5
  have c6 : w3.cell? ⟨w2.heap.size, 6, none⟩ = some (.int .i64 0) := HB.cell 6
  have c7 : w3.cell? ⟨w2.heap.size, 7, none⟩ = some (.int .i64 0) := HB.cell 7
  have B3 := hide ((B2.out.alloc B2.out.size _).trans (b3.mono (by have := B2.out.size; simp; omega)))
  clear b3 HB P3
  go_wp2_with fail
  refine (P4.out _).mono ?_
  rintro x w4 ⟨b4, rfl⟩
  have B4 := hide (Below.step B3.out b4)
  clear b4 P4
  go_wp2
  go_ret
  exact ⟨rfl, B4.out⟩

theorem places_ok (K N G Z : Nat) (w : World) (ht : Tab w) (hag : agOK K N G Z) (hZ : K ≤ 1048576 ∧ N ≤ 1048576 ∧ G ≤ 1048576 ∧ Z ≤ 16777216) :
    Calls Tryd.prog 10 #[.int .i64 (K : Int), .int .i64 (N : Int), .int .i64 (G : Int), .int .i64 (Z : Int)] w fun x w' => x = .returned (.bool true) ∧ Below w.heap.size w w' := by
  have hr := fun w => ragain_ok K N G Z w hag
  have ha : ∀ w, Calls Tryd.prog 54 #[.int .i64 (K : Int), .int .i64 (N : Int), .int .i64 (G : Int), .int .i64 (Z : Int)] w fun e w' => Below w.heap.size w w' ∧ e = .returned (.tuple #[.agg (shapeC K N G Z), .int .i64 0]) := fun w => by
    have := again_any K N G Z w (by omega) (by omega) (by omega) (by omega)
    rwa [if_pos hag] at this
  have hag2 := hag
  unfold agOK at hag2
  obtain ⟨⟨a1, a2, a3, a4, a5⟩, hm, hq, z1, z2, h5⟩ := hag2
  simp only [Int.toNat_natCast] at hq h5
  rw [← Int.natCast_emod] at hm
  rw [← Int.natCast_ediv] at hq
  have hd := Nat.div_add_mod G K
  have s1 := upN_spec Z G (by omega) (by omega)
  have s0 := upN_le 65536 K (by omega)
  obtain ⟨segs, hsegs⟩ : ∃ x, x = upN Z G := ⟨_, rfl⟩
  obtain ⟨tail, htail⟩ : ∃ x, x = Z - (segs - 1) * G := ⟨_, rfl⟩
  obtain ⟨blk, hblk⟩ : ∃ x, x = G / K := ⟨_, rfl⟩
  obtain ⟨last, hlast⟩ : ∃ x, x = upN tail K := ⟨_, rfl⟩
  have hC : shapeC K N G Z = #[.int .i64 (K : Int), .int .i64 (N : Int), .int .i64 (G : Int), .int .i64 (Z : Int), .int .i64 (segs : Int), .int .i64 (tail : Int), .int .i64 (blk : Int), .int .i64 (last : Int)] := by
    unfold shapeC; rw [hlast, htail, hblk, hsegs]
  rw [hC] at hr ha
  rw [← hsegs] at s1 h5
  rw [← hblk] at hq hd
  have hG : G = K * blk := by omega
  have b1 : 1 ≤ blk := by
    rcases Nat.eq_zero_or_pos blk with h | h
    · rw [h, Nat.mul_zero] at hG; omega
    · exact h
  have b2 : blk ≤ G := by rw [hG]; exact Nat.le_mul_of_pos_left _ (by omega)
  have t1 : 1 ≤ tail := by omega
  have l1 := upN_spec tail K (by omega) t1
  have l2 := upN_le tail K (by omega)
  rw [← hlast] at l1 l2
  have p1 : (segs - 1) * blk ≤ (segs - 1) * G := Nat.mul_le_mul_left _ b2
  obtain ⟨P, hP⟩ : ∃ P, P = (segs - 1) * blk := ⟨_, rfl⟩
  rw [← hP] at p1
  have eP : ((segs : Int) - 1) * (blk : Int) = (P : Int) := by rw [hP, Int.natCast_mul]; congr 1; omega
  have hsum : P + last ≤ Z := by omega
  obtain ⟨L, hL⟩ : ∃ L, L = (encs (uebRows K N G Z z32 z32)).length := ⟨_, rfl⟩
  have hL4 : L ≤ 400 := by
    rw [hL]; exact uebLen_le K N G Z z32 z32 (by omega) (by omega) (by omega) (by omega) rfl rfl
  have hLL : uebLen K N G Z z32 z32 = (L : Int) := by unfold uebLen; rw [hL]
  have w1 := wid_le segs
  have w2 := wid_pos segs
  have cl := chainLen_le N
  obtain ⟨A, hA⟩ : ∃ A : Nat, (A : Int) = 36 + (L : Int) + 32 * (chainLen N : Int) + 32 * (2 * (wid segs : Int) - 1) + 32 * (2 * (wid segs : Int) - 1) := ⟨(36 + (L : Int) + 32 * (chainLen N : Int) + 32 * (2 * (wid segs : Int) - 1) + 32 * (2 * (wid segs : Int) - 1)).toNat, by omega⟩
  obtain ⟨Bv, hBv⟩ : ∃ Bv : Nat, Bv = A + (P + last) := ⟨_, rfl⟩
  have hlays : lays N segs blk last L = #[.int .i64 36, .int .i64 (36 + (L : Int)), .int .i64 (36 + (L : Int) + 32 * (chainLen N : Int)), .int .i64 (36 + (L : Int) + 32 * (chainLen N : Int) + 32 * (2 * (wid segs : Int) - 1)), .int .i64 (A : Int), .int .i64 (Bv : Int)] := by
    unfold lays
    rw [← hA, eP, hBv]
    rfl
  have sits : Sits K N G Z segs tail blk last := ha
  have rits : Rits K N G Z segs tail blk last := hr
  have hsG : segs * G = (segs - 1) * G + G := by
    obtain ⟨u, hu⟩ : ∃ u, segs = u + 1 := ⟨segs - 1, by omega⟩
    rw [hu, Nat.add_sub_cancel, Nat.add_mul, Nat.one_mul]
  have hlG : last ≤ 1048576 := by omega
  have hlaid : ∀ w1, Below w.heap.size w w1 → Calls Tryd.prog 57 #[.agg #[.int .i64 (K : Int), .int .i64 (N : Int), .int .i64 (G : Int), .int .i64 (Z : Int), .int .i64 (segs : Int), .int .i64 (tail : Int), .int .i64 (blk : Int), .int .i64 (last : Int)]] w1 fun x w' => Below w1.heap.size w1 w' ∧ x = .returned (.tuple #[.agg #[.int .i64 36, .int .i64 (36 + (L : Int)), .int .i64 (36 + (L : Int) + 32 * (chainLen N : Int)), .int .i64 (36 + (L : Int) + 32 * (chainLen N : Int) + 32 * (2 * (wid segs : Int) - 1)), .int .i64 (A : Int), .int .i64 (Bv : Int)], .int .i64 0]) := fun w1 hb => by
    have := laid_ok K N G Z segs tail blk last w1 sits hag (by omega) (by omega) (by omega) (by omega) (by omega) L hLL (ht.below hb)
    rwa [hlays] at this
  have hm2 : ∀ j : Nat, j < segs → szV (j : Int) (segs : Int) (blk : Int) (last : Int) = .tuple #[.int .i64 ((if j + 1 = segs then last else blk : Nat) : Int), .int .i64 0] := fun j hj => by
    unfold szV
    rw [if_neg (by omega)]
    by_cases h : j + 1 = segs
    · rw [if_pos (by omega), if_pos h]
    · rw [if_neg (by omega), if_neg h]
  have hjb : ∀ j : Nat, j < segs → j * blk ≤ P := fun j hj => by rw [hP]; exact Nat.mul_le_mul_right _ (by omega)
  refine places_good K N G Z segs tail blk last A Bv (fun j => if j < segs then A + j * blk else Bv) (fun j => if j + 1 = segs then last else blk) w
    (fun w1 h => lives_any w1 (ht.below h)) hr
    (fun w1 h => frontLen_any _ _ _ _ _ _ _ _ _ _ _ _ _ _ _ w1 (fun w2 h2 => hlaid w2 (Below.step h h2)))
    (fun w1 h => len_any _ _ _ _ _ _ _ _ _ _ _ _ _ _ _ w1 (fun w2 h2 => hlaid w2 (Below.step h h2)))
    (fun w1 j h hj => ?_)
    (fun w1 j hj => ?_)
    (fun w1 h => place_out _ _ _ _ _ _ _ _ _ _ _ _ _ _ _ w1 (by omega) (by omega) sits (fun w2 h2 => hlaid w2 (Below.step h h2)))
    (by omega) (by omega) (by omega) (by simp; omega) (by simp) (fun j hj => ?_)
  · have hjj := hjb j hj
    simp only [if_pos hj]
    have e1 : (j : Int) * (blk : Int) = ((j * blk : Nat) : Int) := (Int.natCast_mul _ _).symm
    refine place_in K N G Z segs tail blk last _ _ _ _ (A : Int) _ (j : Int) _ _ w1 (by omega) (by omega) sits (hm2 j hj) ?_ ?_ (fun w2 h2 => hlaid w2 (Below.step h h2))
    · rw [e1]; exact IntWalk.i64_in _ (by omega)
    · rw [e1, IntWalk.i64_in _ (by omega)]; omega
  · have := rblock_ok K N G Z segs tail blk last (j : Int) w1 rits (by omega) (by omega)
    rwa [hm2 j hj] at this
  · have hjj := hjb j hj
    by_cases h : j + 1 = segs
    · have hjP : j * blk = P := by rw [hP]; congr 1; omega
      simp only [if_pos hj, if_pos h, if_neg (show ¬ j + 1 < segs by omega)]
      omega
    · have e3 : (j + 1) * blk = j * blk + blk := by rw [Nat.add_mul, Nat.one_mul]
      simp only [if_pos hj, if_neg h, if_pos (show j + 1 < segs by omega)]
      omega

theorem law_places (k n seg size : Int) (w : World) (hk : (Lit.int .i64 k).wf = true) (hn : (Lit.int .i64 n).wf = true) (hs : (Lit.int .i64 seg).wf = true) (hz : (Lit.int .i64 size).wf = true) (ht : Tab w) :
    Calls Tryd.prog 10 #[.int .i64 k, .int .i64 n, .int .i64 seg, .int .i64 size] w fun x w' => x = .returned (.bool true) ∧ Below w.heap.size w w' := by
  by_cases h : agOK k n seg size
  · have h2 := h
    unfold agOK at h2
    obtain ⟨⟨a1, a2, a3, a4, a5⟩, hm, hq, z1, z2, h5⟩ := h2
    obtain ⟨K, rfl⟩ : ∃ K : Nat, k = (K : Int) := ⟨k.toNat, by omega⟩
    obtain ⟨N, rfl⟩ : ∃ K : Nat, n = (K : Int) := ⟨n.toNat, by omega⟩
    obtain ⟨G, rfl⟩ : ∃ S : Nat, seg = (S : Int) := ⟨seg.toNat, by omega⟩
    obtain ⟨Z, rfl⟩ : ∃ S : Nat, size = (S : Int) := ⟨size.toNat, by omega⟩
    have hG : G ≤ 1048576 := by
      simp only [Int.toNat_natCast] at hq
      rw [← Int.natCast_ediv] at hq
      rw [← Int.natCast_emod] at hm
      have hd := Nat.div_add_mod G K
      have u1 := upN_spec 65536 K (by omega) (by omega)
      have h3 : K * (G / K) ≤ K * upN 65536 K := Nat.mul_le_mul_left K (by omega)
      have h5 : K * upN 65536 K = (upN 65536 K - 1) * K + K := by
        obtain ⟨u, hu⟩ : ∃ u, upN 65536 K = u + 1 := ⟨upN 65536 K - 1, by omega⟩
        rw [hu, Nat.add_sub_cancel, Nat.mul_add, Nat.mul_comm]; omega
      omega
    exact places_ok K N G Z w ht h (by omega)
  · exact places_bad k n seg size w ht h
end Go.Proofs.YteaagngikiaokaaDoor
