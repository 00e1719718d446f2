/- Joined texts: Open, OpnI, WalkInverse. -/
import Derived.Test.YtoaaplngdomdcaaGreatJ1
import Derived.ProofKit
import Derived.OpenShut
import Derived.ShutString
import Derived.ChangeOld
import Derived.SizedLaws
import Derived.JoinedCond
import Derived.Deep.CondSized
import Derived.Test.YtoaaplngdomdcaaGreatJ6
import Derived.Test.YtoaaplngdomdcaaGreatJ15
import Derived.Test.YtoaaplngdomdcaaGreatJ17

/- From the reading of an argument to what the walks are told of it. -/
namespace Go.Proofs.YtoaaplngdomdcaaGreat
open Go.RowKit

theorem cell_lt {w : World} {a : Addr} {v : Value} (h : w.cell? a = some v) : a.block < w.heap.size := by
  rcases Nat.lt_or_ge a.block w.heap.size with h1 | h1
  · exact h1
  · simp [World.cell?, Array.getElem?_eq_none h1] at h

/-- A slice of bytes that came in. -/
theorem by_of_row {w : World} {a : Addr} {len cap : Nat} {zs : List Int} (hl : len ≤ cap) (hm : cap ≤ maxLen) (hz : zs.length = cap)
    (hcell : ∀ i, i < zs.length → w.cell? (a.add i) = some (.int .u8 (zs.getD i 0))) (hwz : ∀ n ∈ zs, (Lit.int .u8 n).wf = true) :
    ∃ l : List UInt8, l.length = len ∧ By w (.slice (some a) len cap) l := by
  refine ⟨(zs.take len).map fun z => UInt8.ofNat z.toNat, by simp; omega, ?_, some a, cap, by simp; omega, by simp; omega, hm, fun h0 => ?_⟩
  · simp
  · obtain ⟨b, o, sp⟩ := a
    simp only [List.length_map, List.length_take] at h0
    have h1 := hcell 0 (by omega)
    have hsp : sp = none := by simpa [Addr.add] using World.cell?_spot h1
    subst hsp
    refine ⟨b, o, rfl, cell_lt (a := ⟨b, o, none⟩) (by simpa [Addr.add] using h1), fun j hj => ?_⟩
    simp only [List.length_map, List.length_take, Nat.mul_one] at hj
    have hc := hcell j (by omega)
    rw [Addr.add_mid] at hc
    rw [hc, bcells_get, List.getElem?_map, List.getElem?_take_of_lt (by omega), List.getElem?_eq_getElem (by omega)]
    have hw := hwz zs[j] (List.getElem_mem (by omega))
    have hb : 0 ≤ zs[j] ∧ zs[j] ≤ 255 := by simpa [Lit.wf, IntKind.min, IntKind.max, IntKind.bits, IntKind.signed] using hw
    simp only [Option.map_some, Option.some.injEq, Value.int.injEq, true_and]
    rw [List.getD_eq_getElem?_getD, List.getElem?_eq_getElem (by omega), Option.getD_some, UInt8.toNat_ofNat']
    omega

end Go.Proofs.YtoaaplngdomdcaaGreat

/- Slices of numbers that came in. -/
namespace Go.Proofs.YtoaaplngdomdcaaGreat
open Go.RowKit

/-- A slice of numbers of kind k that reads as zs. -/
def Iy (k : IntKind) (w : World) (v : Value) (zs : List Int) : Prop := ∃ A c, v = .slice A zs.length c ∧ zs.length ≤ c ∧ c ≤ maxLen ∧ (∀ z ∈ zs, (Lit.int k z).wf = true) ∧
  ∀ (i : Nat) (z : Int), zs[i]? = some z → ∃ b o, A = some ⟨b, o, none⟩ ∧ b < w.heap.size ∧ w.cell? ⟨b, o + i, none⟩ = some (.int k z)
theorem Iy.nil (k : IntKind) (w : World) : Iy k w (.slice none 0 0) [] := ⟨none, 0, rfl, Nat.le_refl _, (by simp [maxLen]), (fun z h => nomatch h), (fun i z h => by simp at h)⟩
theorem Iy.below {k : IntKind} {w w' : World} {v : Value} {zs : List Int} (h : Iy k w v zs) (hb : Below w.heap.size w w') : Iy k w' v zs := by
  obtain ⟨A, c, hv, h1, h2, h3, h4⟩ := h
  refine ⟨A, c, hv, h1, h2, h3, fun i z hz => ?_⟩
  obtain ⟨b, o, e1, e2, e3⟩ := h4 i z hz
  have := hb.size
  exact ⟨b, o, e1, by omega, (hb.cell (p := ⟨b, o + i, none⟩) e2).trans e3⟩
theorem iy_of_row {k : IntKind} {w : World} {a : Addr} {len cap : Nat} {zs : List Int} (hl : len ≤ cap) (hm : cap ≤ maxLen) (hz : zs.length = cap)
    (hcell : ∀ i, i < zs.length → w.cell? (a.add i) = some (.int k (zs.getD i 0))) (hwz : ∀ n ∈ zs, (Lit.int k n).wf = true) : ∃ l : List Int, l.length = len ∧ Iy k w (.slice (some a) len cap) l := by
  have hlen : (zs.take len).length = len := by simp; omega
  refine ⟨zs.take len, hlen, some a, cap, by rw [hlen], by omega, hm, fun z hz => hwz z (List.mem_of_mem_take hz), fun i z hi => ?_⟩
  have hil : i < len := by
    have := (List.getElem?_eq_some_iff.1 hi).1
    omega
  obtain ⟨b, o, sp⟩ := a
  have h1 := hcell 0 (by omega)
  have hsp : sp = none := by simpa [Addr.add] using World.cell?_spot h1
  subst hsp
  refine ⟨b, o, rfl, cell_lt (a := ⟨b, o, none⟩) (by simpa [Addr.add] using h1), ?_⟩
  have hc := hcell i (by omega)
  rw [Addr.add_mid] at hc
  rw [List.getElem?_take_of_lt hil] at hi
  rw [hc, List.getD_eq_getElem?_getD, hi]
  rfl
/-- Words that came in, as numbers. -/
theorem Iy.words {w : World} {v : Value} {zs : List Int} (h : Iy .u32 w v zs) : ∃ l : List Nat, l.length = zs.length ∧ (∀ (i x : Nat), l[i]? = some x → (x : Int) ≤ 4294967295) ∧ Ny w .u32 v l := by
  obtain ⟨A, c, rfl, h1, h2, h3, h4⟩ := h
  have hb : ∀ (i : Nat) (z : Int), zs[i]? = some z → 0 ≤ z ∧ z ≤ 4294967295 := fun i z hz => by
    have := h3 z (List.mem_of_getElem? hz)
    simpa [Lit.wf, IntKind.min, IntKind.max, IntKind.bits, IntKind.signed] using this
  refine ⟨zs.map Int.toNat, by simp, fun i x hx => ?_, by simp [ncells], A, c, by simp, by simpa using h1, h2, fun h0 => ?_⟩
  · rw [List.getElem?_map] at hx
    obtain ⟨z, hz, e⟩ := Option.map_eq_some_iff.1 hx
    have := hb i z hz
    omega
  · simp only [List.length_map] at h0 ⊢
    obtain ⟨b, o, e1, e2, _⟩ := h4 0 _ (List.getElem?_eq_getElem h0)
    refine ⟨b, o, e1, e2, fun j hj => ?_⟩
    rw [Nat.mul_one] at hj
    obtain ⟨b', o', e1', _, e3⟩ := h4 j _ (List.getElem?_eq_getElem hj)
    rw [e1] at e1'
    injection e1' with e1'
    injection e1' with q1 q2 _
    have := hb j _ (List.getElem?_eq_getElem hj)
    rw [q1, q2, e3, ncells_get, List.getElem?_map, List.getElem?_eq_getElem hj]
    simp only [Option.map_some, Option.some.injEq, Value.int.injEq, true_and]
    omega
end Go.Proofs.YtoaaplngdomdcaaGreat

/- MatrixInverse: the statement's function returns true, whatever it is handed. -/
namespace Go.Proofs.YtoaaplngdomdcaaGreat
open Go.RowKit
theorem u32_nat {z : Int} (h : (Lit.int .u32 z).wf = true) : ∃ n : Nat, z = (n : Int) ∧ (n : Int) ≤ 4294967295 := by
  have h : 0 ≤ z ∧ z ≤ 4294967295 := by simpa [Lit.wf, IntKind.min, IntKind.max, IntKind.bits, IntKind.signed] using h
  exact ⟨z.toNat, by omega, by omega⟩

set_option maxRecDepth 100000 in
set_option maxHeartbeats 2000000 in
theorem inverse_none (p : Nat) (n0 : Int) (v1 v2 : Value) (w : World) (hp : (p : Int) ≤ 4294967295) (h0 : 1 ≤ p) (hpr : primeR p = false) :
    Calls Tryz.prog 3 #[.int .u32 (p : Int), .int .i64 n0, v1, v2] w fun e w' => e = .returned (.bool true) ∧ Below w.heap.size w w' := by
  have q2 := fun w => field_no p w hp h0 hpr
  clear hpr
  go_enter Tryz.func3, Tryz.ntmps3
  go_wp2_with fail
  refine (awakem_any w).mono ?_
  rintro e w1 ⟨rfl, b⟩
  have B := hide b
  clear b
  go_wp2_with fail
  refine (q2 w1).mono ?_
  rintro e w' ⟨rfl, rfl⟩
  clear q2
  go_wp2
  go_ret
  exact ⟨rfl, B.out⟩
theorem law_inverse (p : Nat) (n0 : Int) (v1 : Value) (z1 : List Int) (v2 : Value) (z2 : List Int) (w : World) (hp : (p : Int) ≤ 4294967295) (hn0 : (Lit.int .i64 n0).wf = true)
    (h1 : Iy .u32 w v1 z1) (h2 : Iy .u32 w v2 z2) :
    Calls Tryz.prog 3 #[.int .u32 (p : Int), .int .i64 n0, v1, v2] w fun e w' => e = .returned (.bool true) ∧ Below w.heap.size w w' := by
  obtain ⟨l1, _, d1, n1⟩ := h1.words
  obtain ⟨l2, _, d2, n2⟩ := h2.words
  rcases Nat.eq_zero_or_pos p with h0 | h0
  · subst h0
    exact MB.inverse_law n0 v1 v2 l1 l2 w hn0 n1 n2 d1 d2
  · cases hpr : primeR p
    · exact inverse_none p n0 v1 v2 w hp h0 hpr
    · exact MV.inverse_law p hpr n0 v1 v2 l1 l2 w hn0 n1 n2 d1 d2
end Go.Proofs.YtoaaplngdomdcaaGreat
