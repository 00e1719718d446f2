/- The contract of the helper that xors two lists; the plain law of how far unlike columns are apart. -/
import Derived.Test.YtoaaplngdomdcaaRsE
import Derived.Deep.RegionHeld3
namespace Go.Proofs.Ytoaaplngdomdcaa
open Go.RowKit

theorem By.take {w : World} {A : Option Addr} {c : Nat} {l : List UInt8} (h : By w (.slice A l.length c) l) (p : Nat) (hp : p ≤ l.length) : By w (.slice A p c) (l.take p) := by
  have hlen : (l.take p).length = p := by simp; omega
  obtain ⟨A', c', he, h1, h2, h3⟩ := h.form
  injection he with e1 _ e3
  subst e1 e3
  refine ⟨by rw [bcells_length]; simp, A, c, by rw [hlen], by rw [hlen]; omega, h2, fun h0 => ?_⟩
  rw [hlen] at h0
  obtain ⟨b', o', hA, hlt, _⟩ := h3 0 _ (List.getElem?_eq_getElem (show 0 < l.length by omega))
  subst hA
  refine ⟨b', o', rfl, hlt, fun j hj => ?_⟩
  rw [hlen, Nat.mul_one] at hj
  obtain ⟨b2, o2, hA, _, hc⟩ := h3 j _ (List.getElem?_eq_getElem (show j < l.length by omega))
  injection hA with hA
  injection hA with hb ho _
  subst hb ho
  rw [hc, bcells_get, List.getElem?_take_of_lt hj, List.getElem?_eq_getElem (show j < l.length by omega)]
  rfl

def xorF (f g : Nat → UInt8) (t : Nat) : UInt8 := f t ^^^ g t

set_option maxRecDepth 100000 in
set_option maxHeartbeats 1600000 in
theorem both_any (va vb : Value) (n : Nat) (f g : Nat → UInt8) (w : World) (ha : By w va ((List.range n).map f)) (hb : By w vb ((List.range n).map g)) (hn : n ≤ 140737488355328) :
    Calls Try.prog 27 #[va, vb] w fun e w' => ∃ v, e = .returned v ∧ Own w' w.heap.size 5 v ((List.range n).map (xorF f g)) ∧ Below w.heap.size w w' := by
  obtain ⟨A, c, rfl, hc, hm, hca⟩ := ha.form
  obtain ⟨B, d, rfl, hd, hmd, hcb⟩ := hb.form
  rw [List.length_map, List.length_range] at *
  unfold maxLen at hm hmd
  clear ha hb
  go_enter Try.func27, Try.ntmps27
  go_wp2
  go_loopw [5, 6] (fun u5 u6 wr => ∃ i : Nat, i ≤ n ∧ u6 = .int .i64 (i : Int) ∧ Own wr w.heap.size 5 u5 ((List.range i).map (xorF f g)) ∧ Below w.heap.size w wr) (fun _ u6 _ => n - (intOf u6).toNat)
  case atStart => exact ⟨0, by omega, rfl, Own.nil _ _ _, Below.refl _ _⟩
  case round =>
    obtain ⟨i, hi, rfl, hown, hbel⟩ := hrel
    have HO := hide hown
    by_cases hlt : i < n
    · have i1 : (i : Int) < (n : Int) := by omega
      have i2 : (0 : Int) ≤ (i : Int) := by omega
      obtain ⟨b, o, rfl, hlb, hcx⟩ := hca i (f i) (by rw [List.getElem?_map, List.getElem?_range hlt]; rfl)
      obtain ⟨b2, o2, rfl, hlb2, hcy⟩ := hcb i (g i) (by rw [List.getElem?_map, List.getElem?_range hlt]; rfl)
      have g1 : wr.cell? ⟨b, o + i, none⟩ = some (.int .u8 ((f i).toNat : Int)) := (hbel.cell (p := ⟨b, o + i, none⟩) hlb).trans hcx
      have g2 : wr.cell? ⟨b2, o2 + i, none⟩ = some (.int .u8 ((g i).toNat : Int)) := (hbel.cell (p := ⟨b2, o2 + i, none⟩) hlb2).trans hcy
      have hx : bits .xor .u8 ((f i).toNat : Int) ((g i).toNat : Int) = ((xorF f g i).toNat : Int) := by unfold xorF; rw [UInt8.toNat_xor]; exact u8_xor_nat _ _ (f i).toNat_lt (g i).toNat_lt
      have HR := hide (range_map_succ (xorF f g) i)
      have HLEN := hide (show ((List.range i).map (xorF f g)).length + 1 ≤ 140737488355328 by rw [List.length_map, List.length_range]; omega)
      generalize xorF f g i = R at *
      have HCX := hide hcx
      have HCY := hide hcy
      clear hcx hcy hca hcb hown
      go_wp2
      go_region_held3 (fun w' => w'.cell? ⟨b, o + i, none⟩ = some (.int .u8 ((f i).toNat : Int)) ∧ w'.cell? ⟨b2, o2 + i, none⟩ = some (.int .u8 ((g i).toNat : Int))) (first | go_keep | (exact ⟨(hbel1.cell (p := ⟨b, o + i, none⟩) hlb).trans HCX.out, (hbel1.cell (p := ⟨b2, o2 + i, none⟩) hlb2).trans HCY.out⟩)) ((refine step_pushBs (w := World.drew (wr.alloc _)) elem8 (Own.alloc HO.out _) (hbel.alloc hbel.size _).drew (by have := hbel.size; simp; omega) [R] HLEN.out (Blk.new wr 5 _) rfl rfl (by rfl) _ _ (by rfl) (by rfl) (by rfl) ?_; intro v1 w1 hown1 hbel1 hgr1))
      go_wp2
      go_roundw
      case rel =>
        rw [← HR.out] at hown1
        first
          | exact ⟨i + 1, by omega, by go_num, hown1, hbel1⟩
          | exact ⟨i + 1, by omega, by go_num, hown1⟩
      case measure => simp [intOf]; omega
    · have hin : i = n := by omega
      have hO := HO.out
      rw [hin] at hO
      clear HO hin hown
      have HO := hide hO
      clear hO
      go_wp2
      go_ret
      exact ⟨_, rfl, HO.out, hbel⟩

/-- Where rows are unlike. -/
def unl (k m : Nat) (D D2 : Nat → Nat → UInt8) (i : Nat) : Bool := !decide ((List.range m).map (encE k D i) = (List.range m).map (encE k D2 i))
theorem map_range_eq {m : Nat} {f g : Nat → UInt8} (h : (List.range m).map f = (List.range m).map g) : ∀ t, t < m → f t = g t := fun t ht => by
  have := congrArg (fun l : List UInt8 => l[t]?) h
  simp only [List.getElem?_map, List.getElem?_range ht, Option.map_some, Option.some.injEq] at this
  exact this
theorem rows_congr {m k : Nat} {D D2 : Nat → Nat → UInt8} (h : ∀ j, j < k → ∀ t, t < m → D j t = D2 j t) : rowsOf m D k = rowsOf m D2 k := by
  unfold rowsOf
  refine List.map_congr_left fun j hj => List.map_congr_left fun t ht => h j (List.mem_range.1 hj) t (List.mem_range.1 ht)
theorem apart_law (k n m : Nat) (D D2 : Nat → Nat → UInt8) (hk : k ≤ n) (hn : n ≤ 255) : n + 1 ≤ cnt (unl k m D D2) n + k ∨ (rowsOf m D k = rowsOf m D2 k ∧ cnt (unl k m D D2) n = 0) := by
  by_cases hc : n + 1 ≤ cnt (unl k m D D2) n + k
  · exact .inl hc
  refine .inr ?_
  have hz : ∀ t, t < m → ∀ j, j < k → D j t = D2 j t := fun t ht => by
    rcases far k n hk hn (unl k m D D2) (fun j => D j t ^^^ D2 j t) (fun i hi hu => by
      rw [encv_xor]
      have hu2 : (List.range m).map (encE k D i) = (List.range m).map (encE k D2 i) := by simpa [unl] using hu
      have := map_range_eq hu2 t ht
      unfold encE at this
      rw [this, UInt8.xor_self]) with h | h
    · exact absurd h hc
    · intro j hj
      have := h j hj
      by_cases he : D j t = D2 j t
      · exact he
      · exact absurd this (xor_ne he)
  refine ⟨rows_congr fun j hj t ht => hz t ht j hj, cnt_zero n fun i _ => ?_⟩
  have : (List.range m).map (encE k D i) = (List.range m).map (encE k D2 i) := List.map_congr_left fun t ht => encv_congr fun j hj => hz t (List.mem_range.1 ht) j hj
  simp [unl, this]
/-- What is made of both together is both together. -/
theorem encE_xor (k : Nat) (D D2 : Nat → Nat → UInt8) (i : Nat) : encE k (fun j t => D j t ^^^ D2 j t) i = xorF (encE k D i) (encE k D2 i) := by
  funext t
  exact encv_xor k i _ _
end Go.Proofs.Ytoaaplngdomdcaa
