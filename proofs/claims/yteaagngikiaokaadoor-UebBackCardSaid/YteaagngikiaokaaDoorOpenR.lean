/- A table that came in, as the walks are told of it. -/
import Derived.Test.YteaagngikiaokaaDoorUebN
import Derived.Test.YteaagngikiaokaaDoorOpen
import Derived.Deep.SlicePairs
namespace Go.Proofs.YteaagngikiaokaaDoor
open Go.RowKit

theorem rows_of {W : World} {a : Addr} {len cap m : Nat} {V0 V1 : Nat → Value} (hl : len ≤ cap) (hm : cap ≤ maxLen) (hlm : len ≤ m)
    (hx : ∀ i, i < m → W.cell? (a.add (i * 2)) = some (V0 i) ∧ W.cell? (a.add (i * 2 + 1)) = some (V1 i) ∧ (∃ s : ByteArray, V0 i = .string s) ∧ ∃ l : List UInt8, By W (V1 i) l) :
    ∃ L : List RowV, L.length = len ∧ Rws W (.slice (some a) len cap) L := by
  have key : ∀ n, n ≤ len → ∃ L : List RowV, L.length = n ∧ ∀ i x, L[i]? = some x → V0 i = .string x.1 ∧ V1 i = x.2.1 ∧ By W x.2.1 x.2.2 := by
    intro n
    induction n with
    | zero => exact fun _ => ⟨[], rfl, fun i x h => by simp at h⟩
    | succ n ih =>
      intro hn
      obtain ⟨L, h1, h2⟩ := ih (by omega)
      obtain ⟨_, _, ⟨s, hs⟩, l, hb⟩ := hx n (by omega)
      refine ⟨L ++ [(s, V1 n, l)], by simp [h1], fun i x h => ?_⟩
      rcases Nat.lt_trichotomy i n with hi | hi | hi
      · rw [List.getElem?_append_left (by omega)] at h
        exact h2 i x h
      · subst hi
        rw [List.getElem?_append_right (by omega), h1, Nat.sub_self] at h
        simp only [List.getElem?_cons_zero, Option.some.injEq] at h
        subst h
        exact ⟨hs, rfl, hb⟩
      · rw [List.getElem?_eq_none (by simp; omega)] at h
        cases h
  obtain ⟨L, h1, h2⟩ := key len (Nat.le_refl _)
  refine ⟨L, h1, ⟨by rw [rcells_length], some a, cap, by rw [h1], by rw [h1]; exact hl, hm, fun h0 => ?_⟩, fun x hxm => ?_⟩
  · obtain ⟨b, o, sp⟩ := a
    have hc0 := (hx 0 (by omega)).1
    have hsp : sp = none := by simpa [Addr.add] using World.cell?_spot hc0
    subst hsp
    refine ⟨b, o, rfl, cell_lt (a := ⟨b, o, none⟩) (by simpa [Addr.add] using hc0), fun j hj => ?_⟩
    have hj2 : j / 2 < L.length := by omega
    obtain ⟨x, hxx⟩ : ∃ x, L[j / 2]? = some x := ⟨_, List.getElem?_eq_getElem hj2⟩
    have hg := rcells_get L (j / 2) x hxx
    obtain ⟨e0, e1, _⟩ := h2 _ _ hxx
    obtain ⟨c0, c1, _⟩ := hx (j / 2) (by omega)
    rw [Addr.add_mid] at c0 c1
    rcases Nat.mod_two_eq_zero_or_one j with hj0 | hj1
    · have ej : j = j / 2 * 2 := by omega
      rw [← ej] at c0 hg
      rw [c0, hg.1, e0]
    · have ej : j = j / 2 * 2 + 1 := by omega
      rw [← ej] at c1 hg
      rw [c1, hg.2, e1]
  · obtain ⟨i, hi⟩ := List.mem_iff_getElem?.1 hxm
    exact (h2 i x hi).2.2
end Go.Proofs.YteaagngikiaokaaDoor
