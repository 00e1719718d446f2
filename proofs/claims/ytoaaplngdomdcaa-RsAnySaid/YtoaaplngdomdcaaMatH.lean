/- Contracts of the matrices of bytes: made, Rows, Cols, At; and a row as the code takes it. -/
import Derived.Test.YtoaaplngdomdcaaMatG
namespace Go.Proofs.Ytoaaplngdomdcaa
open Go.RowKit

theorem Mx.form {w : World} {base g : Nat} {L : List (List UInt8)} (h : Mx w base g L) :
    ∃ A c, w.cell? ⟨g, 0, none⟩ = some gfF ∧ w.cell? ⟨g, 1, none⟩ = some (.slice A L.length c) ∧ L.length ≤ c ∧ c ≤ maxLen ∧
      ∀ (i : Nat) (l : List UInt8), L[i]? = some l → ∃ b o B d, A = some ⟨b, o, none⟩ ∧ w.cell? ⟨b, o + i, none⟩ = some (.slice B l.length d) ∧ l.length ≤ d ∧ d ≤ maxLen ∧
        ∀ (j : Nat) (x : UInt8), l[j]? = some x → ∃ b2 o2, B = some ⟨b2, o2, none⟩ ∧ w.cell? ⟨b2, o2 + j, none⟩ = some (.int .u8 (x.toNat : Int)) := by
  obtain ⟨_, v, hb, ho⟩ := h
  obtain ⟨A, c, rfl, hc, hm, hcell⟩ := ho.ls.form
  refine ⟨A, c, by rw [hb.cell]; rfl, by rw [hb.cell]; rfl, hc, hm, fun i l hl => ?_⟩
  obtain ⟨b, o, x, hA, _, hcx, hby⟩ := hcell i l hl
  obtain ⟨B, d, rfl, hd, hdm, hcell2⟩ := hby.form
  refine ⟨b, o, B, d, hA, hcx, hd, hdm, fun j y hy => ?_⟩
  obtain ⟨b2, o2, hB, _, hc2⟩ := hcell2 j y hy
  exact ⟨b2, o2, hB, hc2⟩

theorem mmade_any (base g : Nat) (L : List (List UInt8)) (w : World) (h : Mx w base g L) :
    Calls Try.prog 132 #[.pointer (some ⟨g, 0, none⟩)] w fun e w' => e = .returned (.bool true) ∧ w = w' := by
  obtain ⟨A, c, h0, _⟩ := h.form
  clear h
  go_enter Try.func132, Try.ntmps132
  go_wp2
  go_ret
  exact ⟨rfl, rfl⟩

theorem mrows_any (base g : Nat) (L : List (List UInt8)) (w : World) (h : Mx w base g L) :
    Calls Try.prog 122 #[.pointer (some ⟨g, 0, none⟩)] w fun e w' => e = .returned (.int .i64 (L.length : Int)) ∧ w = w' := by
  have q := mmade_any base g L w h
  obtain ⟨A, c, _, h1, _⟩ := h.form
  clear h
  go_enter Try.func122, Try.ntmps122
  go_wp2_with fail
  refine q.mono ?_
  rintro e w' ⟨rfl, rfl⟩
  go_wp2
  go_ret
  exact ⟨rfl, rfl⟩

theorem mcols_any (base g : Nat) (L : List (List UInt8)) (l : List UInt8) (w : World) (h : Mx w base g L) (hl : L[0]? = some l) :
    Calls Try.prog 119 #[.pointer (some ⟨g, 0, none⟩)] w fun e w' => e = .returned (.int .i64 (l.length : Int)) ∧ w = w' := by
  have q := mmade_any base g L w h
  obtain ⟨A, c, _, h1, _, _, h2⟩ := h.form
  obtain ⟨b, o, B, d, rfl, h3, _⟩ := h2 0 l hl
  rw [Nat.add_zero] at h3
  have hlen : (0 : Int) < (L.length : Int) := by
    have := (List.getElem?_eq_some_iff.1 hl).1
    omega
  clear h h2 hl
  go_enter Try.func119, Try.ntmps119
  go_wp2_with fail
  refine q.mono ?_
  rintro e w' ⟨rfl, rfl⟩
  go_wp2
  go_ret
  exact ⟨rfl, rfl⟩

set_option maxHeartbeats 800000 in
theorem mat_any (base g : Nat) (L : List (List UInt8)) (l0 l : List UInt8) (x : UInt8) (i j : Nat) (w : World) (h : Mx w base g L) (h0 : L[0]? = some l0) (hl : L[i]? = some l) (hll : l.length = l0.length) (hx : l[j]? = some x) :
    Calls Try.prog 123 #[.pointer (some ⟨g, 0, none⟩), .int .i64 (i : Int), .int .i64 (j : Int)] w fun e w' => e = .returned (.tuple #[.int .u8 (x.toNat : Int), .int .i64 0]) ∧ w = w' := by
  have q1 := mmade_any base g L w h
  have q2 := mrows_any base g L w h
  have q3 := mcols_any base g L l0 w h h0
  obtain ⟨A, c, _, h1, _, _, h2⟩ := h.form
  obtain ⟨b, o, B, d, rfl, h3, _, _, h4⟩ := h2 i l hl
  obtain ⟨b2, o2, rfl, h5⟩ := h4 j x hx
  have i1 : (i : Int) < (L.length : Int) := by
    have := (List.getElem?_eq_some_iff.1 hl).1
    omega
  have i2 : (j : Int) < (l.length : Int) := by
    have := (List.getElem?_eq_some_iff.1 hx).1
    omega
  have i3 : (0 : Int) ≤ (i : Int) := by omega
  have i4 : (0 : Int) ≤ (j : Int) := by omega
  have i5 : (j : Int) < (l0.length : Int) := by omega
  clear h h2 h4 hl hx h0 hll
  go_enter Try.func123, Try.ntmps123
  go_wp2_with fail
  refine q1.mono ?_
  rintro e w' ⟨rfl, rfl⟩
  go_wp2_with fail
  refine q2.mono ?_
  rintro e w' ⟨rfl, rfl⟩
  go_wp2_with fail
  refine q3.mono ?_
  rintro e w' ⟨rfl, rfl⟩
  go_wp2
  go_ret2
  exact ⟨rfl, rfl⟩

theorem rowsOf_get (cols : Nat) (E : Nat → Nat → UInt8) {k i : Nat} (h : i < k) : (rowsOf cols E k)[i]? = some ((List.range cols).map (E i)) := by
  rw [rowsOf, List.getElem?_map, List.getElem?_range h]; rfl

set_option maxRecDepth 100000 in
set_option maxHeartbeats 1600000 in
theorem row_any (base g : Nat) (rows cols : Nat) (E : Nat → Nat → UInt8) (i : Nat) (w : World) (h : Mx w base g (rowsOf cols E rows)) (hi : i < rows) (hc : cols ≤ 256) :
    Calls Try.prog 73 #[.pointer (some ⟨g, 0, none⟩), .int .i64 (i : Int)] w fun e w' => ∃ v, e = .returned v ∧ Own w' w.heap.size 5 v ((List.range cols).map (E i)) ∧ Below w.heap.size w w' := by
  have hr0 := rowsOf_get cols E (k := rows) (i := 0) (by omega)
  have hri := rowsOf_get cols E hi
  have q1 := mcols_any base g _ _ w h hr0
  rw [List.length_map, List.length_range] at q1
  have q2 := fun j w h => mat_any base g _ _ _ (E i j) i j w h hr0 hri (by simp)
  clear hr0 hri
  have HM := hide h
  clear h
  obtain ⟨z, hi2, hz, h1, h2⟩ := info_parts elem8.hi
  have HI := hide (And.intro hi2 (And.intro hz (And.intro h1 h2)))
  clear hi2 hz h1 h2
  go_enter Try.func73, Try.ntmps73
  go_wp2_with fail
  refine q1.mono ?_
  rintro e w' ⟨rfl, rfl⟩
  go_wp2_with (at_make; refine wpList_make_full w rfl _ _ 38 rfl w.heap.size 5 z (.int .u8 0) 1 Try.underlying38 HI.out.1 HI.out.2.1 HI.out.2.2.1 .i64 .i64 _ _ cols rfl rfl rfl rfl (by rw [HI.out.2.2.2]; omega) (by unfold maxLen; omega) (Nat.le_refl _) ?_; intro w1 ho1 hg1)
  rw [made_bytes] at ho1
  have hb1 : Below w.heap.size w w1 := (Below.refl w.heap.size w).grown hg1 (Nat.le_refl _) (fun k hk => by cases hk)
  have HO := hide (show Own w1 w.heap.size 5 (.slice (some ⟨w.heap.size, 0, none⟩) cols cols) (fillr cols 0 (E i)) by
    rw [fillr_zero]; unfold Own; rw [List.length_replicate]; exact ho1)
  clear ho1 hg1 HI q1
  go_loopw [6, 12] (fun _ u12 wr => ∃ j : Nat, j ≤ cols ∧ u12 = .int .i64 (j : Int) ∧ Own wr w.heap.size 5 (.slice (some ⟨w.heap.size, 0, none⟩) cols cols) (fillr cols j (E i)) ∧ Below w.heap.size w wr) (fun _ u12 _ => cols - (intOf u12).toNat)
  case atStart => exact ⟨0, by omega, rfl, HO.out, hb1⟩
  case round =>
    clear HO hb1
    obtain ⟨j, hj, rfl, hown, hb2⟩ := hrel
    have HO := hide hown
    by_cases hjl : j < cols
    · have i2 : (j : Int) < (cols : Int) := by omega
      have i3 : (0 : Int) ≤ (j : Int) := by omega
      have hlen := fillr_length (E i) hj
      have hfz := World.ownsRow.frozenAt (n := cols) (xs := bcells (fillr cols j (E i))) (by unfold Own at hown; rw [hlen] at hown; exact hown) j
      have hcc := World.ownsRow.cellAt (n := cols) (xs := bcells (fillr cols j (E i))) (by unfold Own at hown; rw [hlen] at hown; exact hown) j (by omega)
      obtain ⟨y, hcy⟩ : ∃ y, wr.cell? ⟨w.heap.size, j, none⟩ = some y := by rw [hcc]; exact ⟨_, List.getElem?_eq_getElem (by rw [bcells_length]; omega)⟩
      have q := q2 j wr (HM.out.below hb2) (by rw [List.getElem?_map, List.getElem?_range hjl]; rfl)
      clear hcc hown hlen
      go_wp2_with fail
      refine q.mono ?_
      rintro e w' ⟨rfl, rfl⟩
      go_wp2
      go_roundw
      case rel =>
        refine ⟨j + 1, by omega, by go_num, ?_, hb2.setCell (Nat.le_refl _) _⟩
        rw [← fillr_set (E i) hjl]
        exact HO.out.store j _
      case measure => simp [intOf]; omega
    · have hjc : j = cols := by omega
      subst hjc
      rw [fillr_full] at HO
      go_wp2
      go_ret
      exact ⟨_, rfl, HO.out, hb2⟩
end Go.Proofs.Ytoaaplngdomdcaa
