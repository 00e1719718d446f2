/- Contracts of the code: what looks at numbers and blocks; a row of a matrix; Decode of blocks that are in order. -/
import Derived.Test.YtoaaplngdomdcaaRsE
import Derived.Test.YtoaaplngdomdcaaMbP
import Derived.Deep.LoopGhost
import Derived.WalkMore
namespace Go.Proofs.Ytoaaplngdomdcaa
open Go.RowKit

set_option maxRecDepth 100000 in
set_option maxHeartbeats 4000000 in
theorem look_ok (gc k n : Nat) (vn vb : Value) (L : List Nat) (Bl : List (List UInt8)) (w : World) (hc : Cd w gc k n) (hn0 : 0 < n) (hk : 1 ≤ k) (hv : Ny w .i64 vn L) (hL : L.length = k) (hr : ∀ (i r : Nat), L[i]? = some r → r < n) (hd : ∀ (i j r : Nat), L[i]? = some r → L[j]? = some r → i = j)
    (hb : Ls w vb Bl) (hbl : Bl.length = k) (he : evenB Bl = true) :
    Calls Try.prog 100 #[.pointer (some ⟨gc, 0, none⟩), vn, vb] w fun e w' => e = .returned (.int .i64 0) ∧ Below w.heap.size w w' := by
  have q1 := ck_any gc k n w hc hn0
  have q2 := cn_any gc k n w hc
  have q3 := even_any vb Bl w hb
  rw [he] at q3
  obtain ⟨E, e, rfl, hle, hlm, hcell⟩ := hv.form
  obtain ⟨B, d, rfl, _, _, _⟩ := hb.form
  rw [hL] at hle ⊢
  rw [hbl] at q3 ⊢
  unfold maxLen at hlm
  have HC := hide (And.intro hcell (And.intro hr hd))
  have HL := hide hL
  have hne : ((k : Int) != (k : Int)) = false := by simp
  clear hc hv hb hcell hr hd he hbl hL
  go_enter Try.func100, Try.ntmps100
  go_wp2
  go_step3
  go_wp2_with fail
  refine q1.mono ?_
  rintro e w' ⟨rfl, rfl⟩
  go_wp2_with fail
  refine q1.mono ?_
  rintro e w' ⟨rfl, rfl⟩
  go_wp2
  go_step3
  go_wp2
  go_loopg [7, 8, 9, 11, 26, 43] k (fun z u7 _ _ _ u26 _ wr => ∃ i : Nat, i ≤ k ∧ z = k - i ∧ u26 = .int .i64 (i : Int) ∧ u7 = .bool false ∧ w = wr)
  case atStart => exact ⟨0, by omega, by omega, rfl, rfl, rfl⟩
  case round =>
    obtain ⟨i, hi, rfl, rfl, rfl, rfl⟩ := hrel
    by_cases hlt : i < k
    · obtain ⟨r, hr0⟩ : ∃ r, L[i]? = some r := ⟨_, List.getElem?_eq_getElem (by have := HL.out; omega)⟩
      obtain ⟨b, o, rfl, hbl, hcx⟩ := HC.out.1 i r hr0
      have hrn := HC.out.2.1 i r hr0
      have i1 : (i : Int) < (k : Int) := by omega
      have i2 : (0 : Int) ≤ (i : Int) := by omega
      have i3 : ¬ (r : Int) < 0 := by omega
      have i4 : ¬ n ≤ r := by omega
      have HR := hide hr0
      clear hr0
      go_wp2_with fail
      refine q2.mono ?_
      rintro e w' ⟨rfl, rfl⟩
      go_wp2
      go_loopg [7, 11, 43] i (fun z u7 _ u43 wr => ∃ j : Nat, j ≤ i ∧ z = i - j ∧ u43 = .int .i64 (j : Int) ∧ u7 = .bool false ∧ w = wr)
      case atStart => exact ⟨0, by omega, by omega, rfl, rfl, rfl⟩
      case round =>
        obtain ⟨j, hj, rfl, rfl, rfl, rfl⟩ := hrel
        by_cases hji : j < i
        · obtain ⟨s, hs0⟩ : ∃ s, L[j]? = some s := ⟨_, List.getElem?_eq_getElem (by have := HL.out; omega)⟩
          obtain ⟨b2, o2, hE, _, hcy⟩ := HC.out.1 j s hs0
          injection hE with hE
          injection hE with e1 e2 _
          subst e1 e2
          have hsr : ((s : Int) == (r : Int)) = false := by
            simp only [beq_eq_false_iff_ne]
            intro h
            have hsr : s = r := by omega
            subst hsr
            have := HC.out.2.2 i j s HR.out hs0
            omega
          have j1 : (j : Int) < (i : Int) := by omega
          have j2 : (0 : Int) ≤ (j : Int) := by omega
          clear hs0
          go_wp2
          go_roundg (i - (j + 1))
          case rel => exact ⟨j + 1, by omega, rfl, by go_num, rfl, rfl⟩
          case measure => omega
        · go_wp2
          go_roundg (k - (i + 1))
          case rel => exact ⟨i + 1, by omega, rfl, by go_num, rfl, rfl⟩
          case measure => omega
    · have hik : i = k := by omega
      clear HC
      go_wp2_with fail
      refine q3.mono ?_
      rintro e w2 ⟨rfl, hb2⟩
      go_wp2
      try rw [Exit.noGoto_ret]
      go_ret
      exact ⟨rfl, hb2⟩

set_option maxRecDepth 100000 in
set_option maxHeartbeats 1600000 in
theorem row_c (g rows cols : Nat) (E : Nat → Nat → UInt8) (i : Nat) (w : World) (h : MB.Mtx w g rows cols E) (hi : i < rows) (hc : cols ≤ 256) :
    Calls Try.prog 73 #[.pointer (some ⟨g, 0, none⟩), .int .i64 (i : Int)] w fun e w' => ∃ v, e = .returned v ∧ Own w' w.heap.size 5 v ((List.range cols).map (E i)) ∧ Below w.heap.size w w' := by
  have q1 := MB.cols_c h (by omega)
  have HM := hide h
  clear h
  obtain ⟨z, hi2, hz, h1, h2⟩ := info_parts elem8.hi
  have HI := hide (And.intro hi2 (And.intro hz (And.intro h1 h2)))
  clear hi2 hz h1 h2
  go_enter Try.func73, Try.ntmps73
  go_wp2_with fail
  refine q1.mono ?_
  rintro e w' ⟨rfl, rfl⟩
  go_wp2_with (at_make; refine wpList_make_full w rfl _ _ 38 rfl w.heap.size 5 z (.int .u8 0) 1 Try.underlying38 HI.out.1 HI.out.2.1 HI.out.2.2.1 .i64 .i64 _ _ cols rfl rfl rfl rfl (by rw [HI.out.2.2.2]; omega) (by unfold maxLen; omega) (Nat.le_refl _) ?_; intro w1 ho1 hg1)
  rw [made_bytes] at ho1
  have hb1 : Below w.heap.size w w1 := (Below.refl w.heap.size w).grown hg1 (Nat.le_refl _) (fun k hk => by cases hk)
  have HO := hide (show Own w1 w.heap.size 5 (.slice (some ⟨w.heap.size, 0, none⟩) cols cols) (fillr cols 0 (E i)) by
    rw [fillr_zero]; unfold Own; rw [List.length_replicate]; exact ho1)
  clear ho1 hg1 HI q1
  go_loopw [6, 12] (fun _ u12 wr => ∃ j : Nat, j ≤ cols ∧ u12 = .int .i64 (j : Int) ∧ Own wr w.heap.size 5 (.slice (some ⟨w.heap.size, 0, none⟩) cols cols) (fillr cols j (E i)) ∧ Below w.heap.size w wr) (fun _ u12 _ => cols - (intOf u12).toNat)
  case atStart => exact ⟨0, by omega, rfl, HO.out, hb1⟩
  case round =>
    clear HO hb1
    obtain ⟨j, hj, rfl, hown, hb2⟩ := hrel
    have HO := hide hown
    by_cases hjl : j < cols
    · have i2 : (j : Int) < (cols : Int) := by omega
      have i3 : (0 : Int) ≤ (j : Int) := by omega
      have hlen := fillr_length (E i) hj
      have hfz := World.ownsRow.frozenAt (n := cols) (xs := bcells (fillr cols j (E i))) (by unfold Own at hown; rw [hlen] at hown; exact hown) j
      have hcc := World.ownsRow.cellAt (n := cols) (xs := bcells (fillr cols j (E i))) (by unfold Own at hown; rw [hlen] at hown; exact hown) j (by omega)
      obtain ⟨y, hcy⟩ : ∃ y, wr.cell? ⟨w.heap.size, j, none⟩ = some y := by rw [hcc]; exact ⟨_, List.getElem?_eq_getElem (by rw [bcells_length]; omega)⟩
      have q := MB.at_c (HM.out.below hb2) hi hjl
      clear hcc hown hlen
      go_wp2_with fail
      refine q.mono ?_
      rintro e w' ⟨rfl, rfl⟩
      go_wp2
      go_roundw
      case rel =>
        refine ⟨j + 1, by omega, by go_num, ?_, hb2.setCell (Nat.le_refl _) _⟩
        rw [← fillr_set (E i) hjl]
        exact HO.out.store j _
      case measure => simp [intOf]; omega
    · have hjc : j = cols := by omega
      subst hjc
      rw [fillr_full] at HO
      go_wp2
      go_ret
      exact ⟨_, rfl, HO.out, hb2⟩
end Go.Proofs.Ytoaaplngdomdcaa
