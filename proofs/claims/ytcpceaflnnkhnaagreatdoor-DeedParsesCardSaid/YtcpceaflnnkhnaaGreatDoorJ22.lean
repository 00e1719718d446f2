/- Joined texts: ShpG. -/
import Derived.Test.YtcpceaflnnkhnaaGreatDoorJ21

/- The document's Again is the program's; Place behind the last segment. -/
namespace Go.Proofs.YtcpceaflnnkhnaaGreatDoor
open Go.RowKit

theorem ag_of (k n s seg size : Int) (hp : okP k n s) (hz : 32 < size ∧ size ≤ 16777216) (hx : ((k.toNat * upN s.toNat k.toNat : Nat) : Int) = seg) (h5 : upN size.toNat (k.toNat * upN s.toNat k.toNat) ≤ 512) : agOK k n seg size := by
  unfold okP at hp
  obtain ⟨K, rfl⟩ : ∃ K : Nat, k = (K : Int) := ⟨k.toNat, by omega⟩
  obtain ⟨S, rfl⟩ : ∃ S : Nat, s = (S : Int) := ⟨s.toNat, by omega⟩
  simp only [Int.toNat_natCast] at hx h5
  have h1 := upN_spec S K (by omega) (by omega)
  have h6 := upN_mono S 65536 K (by omega)
  have hU : 1 ≤ K * upN S K := Nat.le_trans (by omega) (Nat.mul_le_mul (show 1 ≤ K by omega) h1.1)
  subst hx
  have e1 : ((K * upN S K : Nat) : Int) % (K : Int) = 0 := by
    rw [← Int.natCast_emod, Nat.mul_mod_right]; rfl
  have e2 : ((K * upN S K : Nat) : Int) / (K : Int) = (upN S K : Int) := by
    rw [← Int.natCast_ediv, Nat.mul_div_cancel_left _ (by omega)]
  unfold agOK
  rw [e1, e2]
  simp only [Int.toNat_natCast]
  exact ⟨⟨by omega, by omega, by omega, by omega, by omega⟩, trivial, by omega, hz.1, hz.2, h5⟩

theorem rshape_gen (k n s size : Int) : ∃ x0 x1 x2 x3 x4 x5 x6 x7 e0 : Int,
    (∀ w, Calls Tryz.prog 71 #[.agg #[.int .i64 k, .int .i64 n, .int .i64 s, .int .i64 0, .slice none 0 0], .int .i64 size] w fun x w' => Below w.heap.size w w' ∧ x = .returned (.tuple #[.agg #[.int .i64 x0, .int .i64 x1, .int .i64 x2, .int .i64 x3, .int .i64 x4, .int .i64 x5, .int .i64 x6, .int .i64 x7], .int .i64 e0])) ∧
    (e0 = 0 → okP k n s ∧ (32 < size ∧ size ≤ 16777216) ∧ ((k.toNat * upN s.toNat k.toNat : Nat) : Int) = x2 ∧ upN size.toNat (k.toNat * upN s.toNat k.toNat) ≤ 512) := by
  by_cases hp : okP k n s
  · by_cases hz : 32 < size ∧ size ≤ 16777216
    · have hp' := hp
      unfold okP at hp'
      obtain ⟨K, rfl⟩ : ∃ K : Nat, k = (K : Int) := ⟨k.toNat, by omega⟩
      obtain ⟨N, rfl⟩ : ∃ K : Nat, n = (K : Int) := ⟨n.toNat, by omega⟩
      obtain ⟨S, rfl⟩ : ∃ S : Nat, s = (S : Int) := ⟨s.toNat, by omega⟩
      obtain ⟨Z, rfl⟩ : ∃ S : Nat, size = (S : Int) := ⟨size.toNat, by omega⟩
      have q := fun w => rshape_ok K N S Z w hp (by omega)
      simp only [Int.toNat_natCast]
      by_cases h5 : upN Z (K * upN S K) ≤ 512
      · simp only [if_pos h5] at q
        exact ⟨_, _, _, _, _, _, _, _, 0, q, fun _ => ⟨hp, hz, rfl, h5⟩⟩
      · simp only [if_neg h5] at q
        exact ⟨_, _, _, _, _, _, _, _, 3, q, fun h => by omega⟩
    · exact ⟨_, _, _, _, _, _, _, _, 4, fun w => rshape_size k n s size w hp (by omega), fun h => by omega⟩
  · exact ⟨_, _, _, _, _, _, _, _, 3, fun w => rshape_bad k n s size w hp, fun h => by omega⟩

theorem ragain_no (k n seg size : Int) (w : World) (h : ¬ agOK k n seg size) :
    Calls Tryz.prog 52 #[.int .i64 k, .int .i64 n, .int .i64 seg, .int .i64 size] w fun x w' => Below w.heap.size w w' ∧ x = .returned (.tuple #[.agg #[.int .i64 0, .int .i64 0, .int .i64 0, .int .i64 0, .int .i64 0, .int .i64 0, .int .i64 0, .int .i64 0], .int .i64 92]) := by
  obtain ⟨x0, x1, x2, x3, x4, x5, x6, x7, e0, r0, f0⟩ := rshape_gen k n seg size
  obtain ⟨y0, y1, y2, y3, y4, y5, y6, y7, e1, r1, f1⟩ := rshape_gen k n 65536 size
  refine ragain_2 k n seg size x0 x1 x2 x3 x4 x5 x6 x7 y0 y1 y2 y3 y4 y5 y6 y7 e0 e1 w ?_ ?_ r0 r1
  · rintro ⟨h1, h2⟩
    obtain ⟨a, b, c, d⟩ := f0 h1
    exact h (ag_of k n seg seg size a b (c.trans h2) d)
  · rintro ⟨h1, h2⟩
    obtain ⟨a, b, c, d⟩ := f1 h1
    exact h (ag_of k n 65536 seg size a b (c.trans h2) d)

theorem ragain_ok (K N G Z : Nat) (w : World) (h : agOK K N G Z) :
    Calls Tryz.prog 52 #[.int .i64 (K : Int), .int .i64 (N : Int), .int .i64 (G : Int), .int .i64 (Z : Int)] w fun x w' => Below w.heap.size w w' ∧ x = .returned (.tuple #[.agg (shapeC K N G Z), .int .i64 0]) := by
  unfold agOK at h
  obtain ⟨⟨a1, a2, a3, a4, a5⟩, hm, hq, z1, z2, h5⟩ := h
  simp only [Int.toNat_natCast] at hq h5
  rw [← Int.natCast_emod] at hm
  rw [← Int.natCast_ediv] at hq
  have hd := Nat.div_add_mod G K
  obtain ⟨q, hqq⟩ : ∃ q, q = G / K := ⟨_, rfl⟩
  rw [← hqq] at hq hd
  have hG : G = K * q := by omega
  have hU : upN G K = q := by rw [hG]; exact upN_mul q K (by omega)
  by_cases hs : G ≤ 65536
  · have r0 := fun w => rshape_ok K N G Z w (by unfold okP; omega) (by omega)
    rw [hU, ← hG] at r0
    simp only [if_pos h5] at r0
    unfold shapeC at r0 ⊢
    exact ragain_0 K N G Z _ _ _ _ _ _ _ w r0
  · have s1 := upN_spec 65536 K (by omega) (by omega)
    have hUq : upN 65536 K = q := by
      have h7 : (upN 65536 K - 1) * K < q * K := by rw [Nat.mul_comm q K, ← hG]; omega
      have := Nat.lt_of_mul_lt_mul_right h7
      omega
    have r1 := fun w => rshape_ok K N 65536 Z w (by unfold okP; omega) (by omega)
    rw [hUq, ← hG] at r1
    simp only [if_pos h5] at r1
    unfold shapeC at r1 ⊢
    refine ragain_1 K N G Z 0 0 0 0 0 0 0 0 _ _ _ _ _ _ _ 3 w (by omega) (fun w => rshape_bad K N G Z w (by unfold okP; omega)) r1

end Go.Proofs.YtcpceaflnnkhnaaGreatDoor
