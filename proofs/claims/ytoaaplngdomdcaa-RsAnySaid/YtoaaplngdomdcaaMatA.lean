/- Contracts of the field of the numbers modulo a prime: the program's Mod and the document's. -/
import Derived.Test.YtoaaplngdomdcaaKit
namespace Go.Proofs.Ytoaaplngdomdcaa
open Go.RowKit

/-- A Mod of p. -/
def MP (w : World) (v : Value) (p : Nat) : Prop := ∃ g, v = .pointer (some ⟨g, 0, none⟩) ∧ g < w.heap.size ∧ w.cell? ⟨g, 0, none⟩ = some (.int .u64 (p : Int))
theorem MP.below {w w' : World} {v : Value} {p : Nat} (h : MP w v p) (hb : Below w.heap.size w w') : MP w' v p := by
  obtain ⟨g, h1, h2, h3⟩ := h
  have := hb.size
  exact ⟨g, h1, by omega, (hb.cell (p := ⟨g, 0, none⟩) h2).trans h3⟩
theorem MP.drewN {w : World} {v : Value} {p : Nat} (h : MP w v p) (q : Nat) : MP (w.drewN q) v p := h.below (below_drewN (Below.refl _ _) q)

set_option maxHeartbeats 400000 in
theorem told_any (v : Value) (p x : Nat) (w : World) (hm : MP w v p) (hp : 0 < p) (hp2 : p ≤ 2147483648) (hx : (x : Int) ≤ 18446744073709551615) :
    Calls Try.prog 63 #[v, .int .u64 (x : Int)] w fun e w' => e = .returned (.int .u32 ((x % p : Nat) : Int)) ∧ w = w' := by
  obtain ⟨g, rfl, hg, hc⟩ := hm
  have h0 : ((p : Int) == 0) = false := by simp; omega
  have hw : IntKind.u32.wrap ((x : Int) % (p : Int)) = ((x % p : Nat) : Int) := by
    have : x % p < p := Nat.mod_lt _ hp
    have e : ((x : Int) % (p : Int)) = ((x % p : Nat) : Int) := by simp
    rw [e]
    simp [IntKind.wrap, IntKind.bits, IntKind.signed]
    omega
  have h1 : (p : Int) ≠ 0 := by omega
  go_enter Try.func63, Try.ntmps63
  go_wp2
  go_ret
  exact ⟨rfl, rfl⟩

set_option maxHeartbeats 400000 in
theorem mzero_any (v : Value) (w : World) : Calls Try.prog 14 #[v] w fun e w' => e = .returned (.int .u32 0) ∧ w = w' := by
  go_enter Try.func14, Try.ntmps14
  go_wp2
  go_ret
  exact ⟨rfl, rfl⟩

set_option maxHeartbeats 400000 in
theorem mone_any (v : Value) (p : Nat) (w : World) (hm : MP w v p) (hp : 1 < p) (hp2 : p ≤ 2147483648) :
    Calls Try.prog 15 #[v] w fun e w' => e = .returned (.int .u32 1) ∧ w = w' := by
  have h := told_any v p 1 w hm (by omega) hp2 (by omega)
  rw [Nat.mod_eq_of_lt hp] at h
  go_enter Try.func15, Try.ntmps15
  go_wp2_with fail
  refine h.mono ?_
  rintro e w' ⟨rfl, rfl⟩
  go_wp2
  go_ret
  exact ⟨rfl, rfl⟩

set_option maxHeartbeats 400000 in
theorem madd_any (v : Value) (p a b : Nat) (w : World) (hm : MP w v p) (hp : 0 < p) (hp2 : p ≤ 2147483648) (ha : (a : Int) ≤ 4294967295) (hb : (b : Int) ≤ 4294967295) :
    Calls Try.prog 18 #[v, .int .u32 (a : Int), .int .u32 (b : Int)] w fun e w' => e = .returned (.int .u32 (((a + b) % p : Nat) : Int)) ∧ w = w' := by
  have h := told_any v p (a + b) w hm hp hp2 (by omega)
  rw [Int.natCast_add a b] at h
  go_enter Try.func18, Try.ntmps18
  go_wp2_with fail
  refine h.mono ?_
  rintro e w' ⟨rfl, rfl⟩
  go_wp2
  go_ret
  exact ⟨rfl, rfl⟩

theorem u64_id (x : Int) (h0 : 0 ≤ x) (h : x ≤ 18446744073709551615) : IntKind.u64.wrap x = x := by
  simp only [IntKind.wrap, IntKind.bits, IntKind.signed]
  simp
  omega
theorem u32_id (x : Int) (h0 : 0 ≤ x) (h : x ≤ 4294967295) : IntKind.u32.wrap x = x := by
  simp only [IntKind.wrap, IntKind.bits, IntKind.signed]
  simp
  omega
theorem mul_u64 (a b : Nat) (ha : a ≤ 4294967295) (hb : b ≤ 4294967295) : IntKind.u64.wrap ((a : Int) * (b : Int)) = ((a * b : Nat) : Int) ∧ ((a * b : Nat) : Int) ≤ 18446744065119617025 := by
  have h := Nat.mul_le_mul ha hb
  rw [← Int.natCast_mul]
  refine ⟨?_, by omega⟩
  simp only [IntKind.wrap, IntKind.bits, IntKind.signed]
  simp
  omega

set_option maxHeartbeats 400000 in
theorem mmul_any (v : Value) (p a b : Nat) (w : World) (hm : MP w v p) (hp : 0 < p) (hp2 : p ≤ 2147483648) (ha : (a : Int) ≤ 4294967295) (hb : (b : Int) ≤ 4294967295) :
    Calls Try.prog 22 #[v, .int .u32 (a : Int), .int .u32 (b : Int)] w fun e w' => e = .returned (.int .u32 (((a % p) * (b % p) % p : Nat) : Int)) ∧ w = w' := by
  have h1 := told_any v p a w hm hp hp2 (by omega)
  have h2 := told_any v p b w hm hp hp2 (by omega)
  obtain ⟨x, hx⟩ : ∃ x, x = a % p := ⟨_, rfl⟩
  obtain ⟨y, hy⟩ : ∃ y, y = b % p := ⟨_, rfl⟩
  have hxl : x < p := by rw [hx]; exact Nat.mod_lt _ hp
  have hyl : y < p := by rw [hy]; exact Nat.mod_lt _ hp
  obtain ⟨m1, m2⟩ := mul_u64 x y (by omega) (by omega)
  have h3 := told_any v p (x * y) w hm hp hp2 (by omega)
  rw [← hx] at h1 ⊢
  rw [← hy] at h2 ⊢
  have HX := hide hx
  have HY := hide hy
  clear hx hy
  go_enter Try.func22, Try.ntmps22
  go_wp2_with fail
  refine h1.mono ?_
  rintro e w' ⟨rfl, rfl⟩
  go_wp2_with fail
  refine h2.mono ?_
  rintro e w' ⟨rfl, rfl⟩
  go_wp2_with fail
  refine h3.mono ?_
  rintro e w' ⟨rfl, rfl⟩
  go_wp2
  go_ret
  exact ⟨rfl, rfl⟩

set_option maxHeartbeats 400000 in
theorem msub_any (v : Value) (p a b : Nat) (w : World) (hm : MP w v p) (hp : 0 < p) (hp2 : p ≤ 2147483648) (ha : (a : Int) ≤ 4294967295) (hb : (b : Int) ≤ 4294967295) :
    Calls Try.prog 20 #[v, .int .u32 (a : Int), .int .u32 (b : Int)] w fun e w' => e = .returned (.int .u32 (((a + p - b % p) % p : Nat) : Int)) ∧ ∃ q, w' = w.drewN q := by
  obtain ⟨y, hy⟩ : ∃ y, y = b % p := ⟨_, rfl⟩
  have hyl : y < p := by rw [hy]; exact Nat.mod_lt _ hp
  have hye : (b : Int) % (p : Int) = (y : Int) := by rw [hy]; simp
  have h1 := fun w (hm : MP w v p) => told_any v p (a + p - y) w hm hp hp2 (by omega)
  have e1 : ((a + p - y : Nat) : Int) = (a : Int) + (p : Int) - (y : Int) := by omega
  rw [e1] at h1
  rw [← hy]
  have HY := hide hy
  clear hy
  have HM := hide hm
  obtain ⟨g, rfl, hg, hc⟩ := hm
  have h0 : ((p : Int) == 0) = false := by simp; omega
  have hn : ¬ p = 0 := by omega
  have wa : IntKind.u64.wrap (a : Int) = (a : Int) := u64_id _ (by omega) (by omega)
  have wb : IntKind.u64.wrap (b : Int) = (b : Int) := u64_id _ (by omega) (by omega)
  have wp : IntKind.u64.wrap ((a : Int) + (p : Int)) = (a : Int) + (p : Int) := u64_id _ (by omega) (by omega)
  have wy : IntKind.u64.wrap (y : Int) = (y : Int) := u64_id _ (by omega) (by omega)
  have ws : IntKind.u64.wrap ((a : Int) + (p : Int) - (y : Int)) = (a : Int) + (p : Int) - (y : Int) := u64_id _ (by omega) (by omega)
  have ht : (b : Int).tmod (p : Int) = (y : Int) := by rw [Int.tmod_eq_emod_of_nonneg (by omega), hye]
  go_enter Try.func20, Try.ntmps20
  go_wp2
  go_quiet ((go_at_call 63; with_reducible exact Calls.quiet_of_same ((h1 _ (HM.out.drewN _)).mono fun _ _ ⟨a, b⟩ => ⟨a, b.symm⟩)))
  go_wp2
  go_ret
  exact ⟨rfl, _, rfl⟩
end Go.Proofs.Ytoaaplngdomdcaa
