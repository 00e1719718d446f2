/- Contracts of the statements' helpers on codes: the example that lives; pieces of a list; two lists xored. -/
import Derived.Test.YtoaaplngdomdcaaRsC
namespace Go.Proofs.Ytoaaplngdomdcaa
open Go.RowKit

theorem Ls.rows {w : World} {v : Value} {n k : Nat} {D : Nat → Nat → UInt8} (h : Ls w v (rowsOf n D k)) :
    ∃ A c, v = .slice A k c ∧ k ≤ c ∧ c ≤ maxLen ∧ ∀ i, i < k → ∃ b o B d, A = some ⟨b, o, none⟩ ∧ b < w.heap.size ∧ w.cell? ⟨b, o + i, none⟩ = some (.slice B n d) ∧ n ≤ d ∧ d ≤ maxLen ∧
      By w (.slice B n d) ((List.range n).map (D i)) ∧ ∀ t, t < n → ∃ b2 o2, B = some ⟨b2, o2, none⟩ ∧ b2 < w.heap.size ∧ w.cell? ⟨b2, o2 + t, none⟩ = some (.int .u8 ((D i t).toNat : Int)) := by
  obtain ⟨A, c, rfl, h1, h2, h3⟩ := h.form
  rw [rowsOf_length] at h1 ⊢
  refine ⟨A, c, rfl, h1, h2, fun i hi => ?_⟩
  obtain ⟨b, o, x, hB, hlt, hx, hby⟩ := h3 i _ (rowsOf_get n D hi)
  have hby0 := hby
  obtain ⟨A2, c2, rfl, g1, g2, g3⟩ := hby.form
  rw [List.length_map, List.length_range] at g1 hx hby0
  exact ⟨b, o, A2, c2, hB, hlt, hx, g1, g2, hby0, fun t ht => g3 t _ (by rw [List.getElem?_map, List.getElem?_range ht]; rfl)⟩

theorem Blk.by_ {w : World} {g : Nat} {e : TypeId} {cs : Array Value} (h : Blk w g e cs) (l : List UInt8) (hc : cs.toList = bcells l) (hl : l.length ≤ maxLen) : By w (.slice (some ⟨g, 0, none⟩) l.length l.length) l := by
  refine ⟨by simp, some ⟨g, 0, none⟩, l.length, rfl, Nat.le_refl _, hl, fun _ => ⟨g, 0, rfl, h.lt, fun j _ => ?_⟩⟩
  rw [Nat.zero_add, h.cell, ← Array.getElem?_toList, hc]
theorem Blk.ls {w : World} {g : Nat} {e : TypeId} {cs : Array Value} (h : Blk w g e cs) (L : List (List UInt8)) (hn : cs.size = L.length) (hl : L.length ≤ maxLen)
    (hx : ∀ (i : Nat) (l : List UInt8), L[i]? = some l → ∃ x, cs.toList[i]? = some x ∧ By w x l) : Ls w (.slice (some ⟨g, 0, none⟩) L.length L.length) L := by
  refine ⟨cs.toList, ⟨by simpa using hn, some ⟨g, 0, none⟩, L.length, rfl, Nat.le_refl _, hl, fun _ => ⟨g, 0, rfl, h.lt, fun j _ => ?_⟩⟩, hx⟩
  rw [Nat.zero_add, h.cell, Array.getElem?_toList]

set_option maxRecDepth 100000 in
set_option maxHeartbeats 1600000 in
theorem lives_any (w : World) :
    Calls Try.prog 24 #[] w fun e w' => e = .returned (.bool true) ∧ Below w.heap.size w w' := by
  have q1 : Calls Try.prog 25 #[.int .i64 2, .int .i64 3] w fun e w' => ∃ gc, e = .returned (.tuple #[.pointer (some ⟨gc, 0, none⟩), .int .i64 0]) ∧ Cd w' gc 2 3 ∧ Below w.heap.size w w' := rsnew_any 2 3 w (by omega) (by omega) (by omega)
  go_enter Try.func24, Try.ntmps24
  go_wp2_with fail
  refine q1.mono ?_
  rintro e w1 ⟨gc, rfl, hc, hb1⟩
  have n1 := ((Blk.new w1 5 #[.int .u8 1]).alloc (.cells #[.int .u8 1] 5)).alloc (.cells #[.slice (some ⟨w1.heap.size, 0, none⟩) 1 1, .slice (some ⟨w1.heap.size + 1, 0, none⟩) 1 1] 38)
  have n2 := (Blk.new (w1.alloc (.cells #[.int .u8 1] 5)) 5 #[.int .u8 1]).alloc (.cells #[.slice (some ⟨w1.heap.size, 0, none⟩) 1 1, .slice (some ⟨w1.heap.size + 1, 0, none⟩) 1 1] 38)
  have n3 := Blk.new ((w1.alloc (.cells #[.int .u8 1] 5)).alloc (.cells #[.int .u8 1] 5)) 38 #[.slice (some ⟨w1.heap.size, 0, none⟩) 1 1, .slice (some ⟨w1.heap.size + 1, 0, none⟩) 1 1]
  have n4 := (((Below.refl w1.heap.size w1).alloc (Nat.le_refl _) (.cells #[.int .u8 1] 5)).alloc (by simp) (.cells #[.int .u8 1] 5)).alloc (by simp; omega) (.cells #[.slice (some ⟨w1.heap.size, 0, none⟩) 1 1, .slice (some ⟨w1.heap.size + 1, 0, none⟩) 1 1] 38)
  simp only [World.size_alloc] at n2 n3
  have HC := hide (And.intro hc hb1)
  have HN := hide (And.intro n1 (And.intro n2 (And.intro n3 n4)))
  clear q1 hc hb1 n1 n2 n3 n4
  go_wp2_with fail
  have hls : Ls (((w1.alloc (.cells #[.int .u8 1] 5)).alloc (.cells #[.int .u8 1] 5)).alloc (.cells #[.slice (some ⟨w1.heap.size, 0, none⟩) 1 1, .slice (some ⟨w1.heap.size + 1, 0, none⟩) 1 1] 38)) (.slice (some ⟨w1.heap.size + 1 + 1, 0, none⟩) 2 2) (rowsOf 1 (fun _ _ => 1) 2) := by
    refine HN.out.2.2.1.ls (rowsOf 1 (fun _ _ => 1) 2) rfl (by decide) fun i l hl => ?_
    have hi : i < 2 := by
      rcases Nat.lt_or_ge i 2 with h | h
      · exact h
      · rw [List.getElem?_eq_none (by rw [rowsOf_length]; exact h)] at hl; cases hl
    rw [rowsOf_get _ _ hi] at hl
    injection hl with hl
    subst hl
    match i, hi with
    | 0, _ => exact ⟨_, rfl, HN.out.1.by_ [1] rfl (by decide)⟩
    | 1, _ => exact ⟨_, rfl, HN.out.2.1.by_ [1] rfl (by decide)⟩
  have q2 : Calls Try.prog 28 #[.pointer (some ⟨gc, 0, none⟩), .slice (some ⟨w1.heap.size + 1 + 1, 0, none⟩) 2 2] _ fun e w' => ∃ v, e = .returned (.tuple #[v, .int .i64 0]) ∧ OwnL w' _ 5 38 v (rowsOf 1 (encE 2 fun _ _ => 1) 3) ∧ Below _ _ w' :=
    encode_any gc 2 3 1 _ (fun _ _ => 1) _ (HC.out.1.below HN.out.2.2.2) (by omega) (by omega) (by omega) hls (by omega)
  have HB4 := hide (HC.out.2.trans (HN.out.2.2.2.mono HC.out.2.size))
  clear hls HN
  generalize ((w1.alloc (.cells #[.int .u8 1] 5)).alloc (.cells #[.int .u8 1] 5)).alloc (.cells #[.slice (some ⟨w1.heap.size, 0, none⟩) 1 1, .slice (some ⟨w1.heap.size + 1, 0, none⟩) 1 1] 38) = W at *
  refine q2.mono ?_
  rintro e w2 ⟨v, rfl, hown, hb2⟩
  have HB5 := hide (HB4.out.trans (hb2.mono HB4.out.size))
  obtain ⟨A, c, rfl, _, _, hrow⟩ := hown.ls.rows
  obtain ⟨b, o, B, d, rfl, _, hcell, _, _, _, hby⟩ := hrow 2 (by omega)
  obtain ⟨b2, o2, rfl, _, hcell2⟩ := hby 0 (by omega)
  rw [Nat.add_zero] at hcell2
  have hv : encE 2 (fun _ _ => 1) 2 0 = 122 := by decide +kernel
  rw [hv] at hcell2
  have hcell3 : w2.cell? ⟨b2, o2, none⟩ = some (.int .u8 122) := hcell2
  clear q2 hown hrow hby hv hb2 HB4 hcell2
  go_wp2
  go_ret
  exact ⟨rfl, HB5.out⟩
end Go.Proofs.Ytoaaplngdomdcaa
