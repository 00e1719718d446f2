/- Joined texts: MbX, Cvw. -/
import Derived.Test.YtoaaplngdomdcaaGreatJ10
import Derived.Test.YtoaaplngdomdcaaGreatJ6

/- Matrices of bytes: Solve. -/
namespace Go.Proofs.YtoaaplngdomdcaaGreat.MB
open Go.RowKit
section

variable {w : World} {base g n m : Nat} {M : Nat → Nat → UInt8}

set_option maxRecDepth 100000 in
set_option maxHeartbeats 4000000 in
theorem solve1_c (b1 b2 i : Nat) (v : Value) (y : Nat → UInt8) (h : Mtx w g n m M) (hk : Fk w) (hv : Sl w 1 v n (rcells en y n)) (hi : i < n) (hn : n ≤ 256) (c1 : w.cell? ⟨b1, 0, none⟩ = some (.pointer (some ⟨g, 0, none⟩))) (c2 : w.cell? ⟨b2, 0, none⟩ = some v) :
    Calls Tryz.prog 100 #[.int .i64 (i : Int), .pointer (some ⟨b1, 0, none⟩), .pointer (some ⟨b2, 0, none⟩)] w fun x w' => ∃ u, x = .returned u ∧ Sl w' 1 u 1 (rcells en (fun _ => F8.add (y i) F8.zero) 1) ∧ Below w.heap.size w w' := by
  obtain ⟨A, c, rfl, h1, h2, h3⟩ := hv.form
  obtain ⟨bb, o, rfl, hlt, hc⟩ := h3 (by omega)
  have hcx : w.cell? ⟨bb, o + i, none⟩ = some (.int .u8 ((UInt8.toNat (y i) : Nat) : Int)) := by rw [hc i (by omega), rcells_get hi]; rfl
  generalize y i = z at *
  have i1 : (i : Int) < (n : Int) := by omega
  have i2 : (0 : Int) ≤ (i : Int) := by omega
  obtain ⟨_, _, c0, _⟩ := Mt.form h
  have m1 := meth_zero
  have m2 := meth_add
  have m3 := ahead_add
  have HK := hide hk
  have HS : Hid (∀ W, Below w.heap.size w W → W.cell? ⟨b1, 0, none⟩ = some (.pointer (some ⟨g, 0, none⟩)) ∧ W.cell? ⟨b2, 0, none⟩ = some (.slice (some ⟨bb, o, none⟩) n c) ∧ W.cell? ⟨g, 0, none⟩ = some gfF ∧ W.cell? ⟨bb, o + i, none⟩ = some (.int .u8 ((UInt8.toNat z : Nat) : Int))) := fun W hW => ⟨(hW.cell (World.block_lt_of_cell? _ _ c1)).trans c1, (hW.cell (World.block_lt_of_cell? _ _ c2)).trans c2, (hW.cell (World.block_lt_of_cell? _ _ c0)).trans c0, (hW.cell (World.block_lt_of_cell? _ _ hcx)).trans hcx⟩
  have Q1 : Hid (∀ W, Below w.heap.size w W → Calls Tryz.prog 172 #[(.agg #[])] W fun e w'' => e = .returned (.int .u8 ((UInt8.toNat (F8.zero) : Nat) : Int)) ∧ Below w.heap.size w w'') := fun W hW =>
    (fzero_c W (HK.out.below hW)).mono fun e w'' ⟨a, b⟩ => ⟨a, by subst b; first | exact hW | exact hW.alloc hW.size _⟩
  have Q2 : Hid (∀ W, Below w.heap.size w W → Calls Tryz.prog 167 #[(.agg #[]), .int .u8 ((UInt8.toNat z : Nat) : Int), .int .u8 ((UInt8.toNat F8.zero : Nat) : Int)] W fun e w'' => e = .returned (.int .u8 ((UInt8.toNat (F8.add z F8.zero) : Nat) : Int)) ∧ Below w.heap.size w w'') := fun W hW =>
    (fadd_c z _ W (HK.out.below hW)).mono fun e w'' ⟨a, b⟩ => ⟨a, by subst b; first | exact hW | exact hW.alloc hW.size _⟩
  have HR : Hid (∀ W (s : UInt8), Below w.heap.size w W → Sl (W.alloc (.cells #[.int .u8 ((UInt8.toNat s : Nat) : Int)] 5)) 1 (.slice (some ⟨W.heap.size, 0, none⟩) 1 1) 1 (rcells en (fun _ => s) 1) ∧ Below w.heap.size w (W.alloc (.cells #[.int .u8 ((UInt8.toNat s : Nat) : Int)] 5))) := fun W s hW => by
    have nb := Blk.new W 5 #[.int .u8 ((UInt8.toNat s : Nat) : Int)]
    refine ⟨⟨by simp, some ⟨W.heap.size, 0, none⟩, 1, rfl, Nat.le_refl _, by simp [maxLen], fun _ => ⟨W.heap.size, 0, rfl, nb.lt, fun j hj => ?_⟩⟩, hW.alloc hW.size _⟩
    obtain rfl : j = 0 := by omega
    rw [Nat.zero_add, nb.cell, rcells_get (by omega)]
    rfl
  generalize F8.add z F8.zero = s at *
  generalize hz0 : (F8.zero : UInt8) = z0 at *
  clear hz0 h hk hv h3 hc
  go_enter Tryz.func100, Tryz.ntmps100
  go_wp2_with fail
  go_region_held3 (fun w' => w'.cell? ⟨b1, 0, none⟩ = some (.pointer (some ⟨g, 0, none⟩)) ∧ w'.cell? ⟨b2, 0, none⟩ = some (.slice (some ⟨bb, o, none⟩) n c) ∧ w'.cell? ⟨g, 0, none⟩ = some gfF ∧ w'.cell? ⟨bb, o + i, none⟩ = some (.int .u8 ((UInt8.toNat z : Nat) : Int))) (first | go_keep | exact HS.out _ (by assumption) | exact HS.out _ (Below.drew (by assumption)) | exact HS.out _ (Below.drew (Below.refl _ _)) | exact HS.out _ (HR.out _ _ (by assumption)).2)
    (first
      | (go_at_call 172; (with_reducible refine (Q1.out _ ?bb).mono ?_); (case bb => (repeat (first | with_reducible exact Below.refl _ _ | with_reducible assumption | with_reducible refine Below.drew ?_))); rintro e w2 ⟨rfl, q2⟩)
      | (go_at_call 167; (with_reducible refine (Q2.out _ ?bb).mono ?_); (case bb => (repeat (first | with_reducible exact Below.refl _ _ | with_reducible assumption | with_reducible refine Below.drew ?_))); rintro e w3 ⟨rfl, q3⟩))
  all_goals go_wp2
  all_goals go_ret
  all_goals exact ⟨_, rfl, (HR.out _ s q3).1, (HR.out _ s q3).2⟩
set_option maxRecDepth 100000 in
set_option maxHeartbeats 4000000 in
theorem solve_c (h : Mtx w g n n M) (hk : Fk w) (hn : 1 ≤ n ∧ n ≤ 256) (v : Value) (y : Nat → UInt8) (hv : Sl w 1 v n (rcells en y n)) :
    Calls Tryz.prog 46 #[.pointer (some ⟨g, 0, none⟩), v] w fun e w' => Below w.heap.size w w' ∧
      ((F8.rank n M = n ∧ ∃ u, e = .returned (.tuple #[u, .int .i64 0]) ∧ w'.ownsRow w.heap.size 5 1 u n (rcells en (F8.sol n M y) n)) ∨ (F8.rank n M ≠ n ∧ e = .returned (.tuple #[.slice none 0 0, .int .i64 71]))) := by
  obtain ⟨A, c, rfl, hlc, hcm, _⟩ := hv.form
  have HH := hide (And.intro h (And.intro hk (And.intro hn hv)))
  have n1 := (Blk.new w 29 #[.pointer (some ⟨g, 0, none⟩)]).alloc (.cells #[.slice A n c] 85)
  have n2 := Blk.new (w.alloc (.cells #[.pointer (some ⟨g, 0, none⟩)] 29)) 85 #[.slice A n c]
  have b1 := ((Below.refl w.heap.size w).alloc (Nat.le_refl _) (.cells #[.pointer (some ⟨g, 0, none⟩)] 29)).alloc (by simp) (.cells #[.slice A n c] 85)
  simp only [World.size_alloc] at n2
  generalize hW : (w.alloc (.cells #[.pointer (some ⟨g, 0, none⟩)] 29)).alloc (.cells #[.slice A n c] 85) = W1 at n1 n2 b1
  have HX : Hid (∀ W, Below W1.heap.size W1 W → Mtx W g n n M ∧ Fk W ∧ Sl W 1 (.slice A n c) n (rcells en y n) ∧ W.cell? ⟨w.heap.size, 0, none⟩ = some (.pointer (some ⟨g, 0, none⟩)) ∧ W.cell? ⟨w.heap.size + 1, 0, none⟩ = some (.slice A n c) ∧ W.cell? ⟨g, 0, none⟩ = some gfF) := fun W hb => by
    have e1 := (HH.out.1.below b1).below hb
    obtain ⟨_, _, c0, _⟩ := Mt.form e1
    exact ⟨e1, (HH.out.2.1.below b1).below hb, (HH.out.2.2.2.below b1).below hb, by rw [(n1.below' hb).cell]; rfl, by rw [(n2.below' hb).cell]; rfl, c0⟩
  have HB := hide b1
  have hne : ((n : Int) != (n : Int)) = false := by simp
  obtain ⟨x1, _, _, d1, d2, d3⟩ := HX.out W1 (Below.refl _ _)
  have q1 := made_c x1
  have q2 := rows_c x1
  have q3 := cols_c x1 (by omega)
  have q4 := beside_c x1 hn.2 (by omega) 1 (by omega) (fun i _ => F8.add (y i) F8.zero) 100 #[.pointer (some ⟨w.heap.size, 0, none⟩), .pointer (some ⟨w.heap.size + 1, 0, none⟩)] (enters_of Tryz.func100 (by kernel_rfl) rfl)
    (fun i w' hi hb => solve1_c w.heap.size (w.heap.size + 1) i (.slice A n c) y (HX.out w' hb).1 (HX.out w' hb).2.1 (HX.out w' hb).2.2.1 hi hn.2 (HX.out w' hb).2.2.2.1 (HX.out w' hb).2.2.2.2.1)
  have Q4 := hide q4
  clear h hk hn hv n1 n2 b1 x1 q4
  go_enter Tryz.func46, Tryz.ntmps46
  go_wp2_with fail
  refine q1.mono ?_
  rintro e w' ⟨rfl, rfl⟩
  go_wp2_with fail
  refine q2.mono ?_
  rintro e w' ⟨rfl, rfl⟩
  go_wp2_with fail
  refine q3.mono ?_
  rintro e w' ⟨rfl, rfl⟩
  clear q1 q2 q3
  go_wp2_with fail
  refine Q4.out.mono ?_
  rintro e w3 ⟨u, rfl, hgo, hb3⟩
  obtain ⟨gr, cap, rfl, hnc, hncm, hgr⟩ := hgo.grid (by have := HH.out.2.2.1; omega)
  obtain ⟨_, x2, _, f1, f2, f3⟩ := HX.out w3 hb3
  have q5 := reduced_c cap n hgr x2 (lo_of (HX.out W1 (Below.refl _ _)).2.1 (Nat.le_refl _)) (by omega) HH.out.2.2.1.2 (by have := HH.out.2.2.1; omega) hb3.size ⟨hnc, hncm⟩
  rw [Fd.rank_beside] at q5
  have hrl : F8.rank n M ≤ n := Fd.rank_le _ _
  obtain ⟨rk, hrk⟩ : ∃ rk, rk = F8.rank n M := ⟨_, rfl⟩
  have HR := hide hrk
  rw [← hrk] at q5 hrl
  have H3 := hide (And.intro hb3 (And.intro hnc hncm))
  clear hgo hgr x2 Q4 hb3 hrk d1 d2 d3 hncm
  go_wp2_with fail
  refine q5.mono ?_
  rintro e w4 ⟨rfl, hg4, hb4, _⟩
  have HE := hide (Below.step HB.out (H3.out.1.trans hb4))
  have hcap4 := H3.out.2
  have HG := hide (Grid.rd hg4 hcap4.1 hcap4.2)
  clear q5 hg4 hcap4 f1 f2 f3
  by_cases hf : rk = n
  · subst hf
    have j0 : ¬ (rk : Int) < (rk : Int) := by omega
    have hn256 := HH.out.2.2.1.2
    have hsol : ∀ i, i < rk → (F8.red rk (Fd.beside rk M fun i _ => F8.add (y i) F8.zero) rk).1 i rk = F8.sol rk M y i := fun _ _ => rfl
    have HSO := hide hsol
    clear hsol hrl
    go_wp2_with fail
    go_loopw [8, 10, 40] (fun u8 _ u40 wr => ∃ k : Nat, k ≤ rk ∧ u40 = .int .i64 (k : Int) ∧ wr.ownsRow w4.heap.size 5 1 u8 k (rcells en (F8.sol rk M y) k) ∧ Below w4.heap.size w4 wr) (fun _ _ u40 _ => rk - (intOf u40).toNat)
    case atStart => exact ⟨0, by omega, rfl, World.ownsRow_nil _ _ _ _, Below.refl _ _⟩
    case round =>
      obtain ⟨k, hk, rfl, hown, hbel⟩ := hrel
      have HO := hide hown
      clear hown
      by_cases hlt : k < rk
      · have i1 : (k : Int) < (rk : Int) := by omega
        have i2 : (0 : Int) ≤ (k : Int) := by omega
        obtain ⟨RA, rc, hrv, _, _, hrow⟩ := HG.out.below hbel
        injection hrv with e1 e2 e3
        subst e1 e3
        obtain ⟨b, o, B, d, hA, _, hcx, hmd, hdm, hel⟩ := hrow k hlt
        injection hA with hA
        injection hA with hA1 hA2
        subst hA1 hA2
        obtain ⟨bb, oo, rfl, _, hc2⟩ := hel rk (by omega)
        rw [HSO.out k hlt] at hc2
        rw [Nat.zero_add] at hcx
        have hc3 : wr.cell? ⟨bb, oo + rk, none⟩ = some (.int .u8 ((UInt8.toNat (F8.sol rk M y k) : Nat) : Int)) := hc2
        have HS : Hid (rcells en (F8.sol rk M y) (k + 1) = rcells en (F8.sol rk M y) k ++ [en (F8.sol rk M y k)]) := hide (rcells_snoc _ k)
        have i3 : (rk : Int) < ((rk + 1 : Nat) : Int) := by omega
        have i4 : (0 : Int) ≤ (rk : Int) := by omega
        generalize hz : F8.sol rk M y k = z at hc3 HS
        clear hz hc2 hel hrow
        go_wp2_with (at_builtin; go_loud (refine wpList_push1 elem8 HO.out hbel hbel.size (by unfold maxLen; omega) (by omega) (.int .u8 ((UInt8.toNat z : Nat) : Int)) rfl rfl _ _ rfl rfl rfl ?_); intro v5 w5 ho5 hb5 _ _ _)
        go_roundw
        case rel => exact ⟨k + 1, by omega, by go_num, by rw [HS.out]; exact ho5, hb5⟩
        case measure => simp [intOf]; omega
      · have hkn : k = rk := by omega
        subst hkn
        have HF := hide (Below.step HE.out hbel)
        go_wp2
        go_ret2
        exact ⟨HF.out, .inl ⟨HR.out.symm, _, rfl, row_mono HO.out HE.out.size⟩⟩
  · have i8 : (rk : Int) < (n : Int) := by omega
    go_wp2
    go_ret2
    exact ⟨HE.out, .inr ⟨fun e => hf (HR.out.trans e), rfl⟩⟩
end
end Go.Proofs.YtoaaplngdomdcaaGreat.MB

/- Bytes told as words. -/
namespace Go.Proofs.YtoaaplngdomdcaaGreat
open Go.RowKit

set_option maxHeartbeats 800000 in
theorem words_any (va : Value) (l : List UInt8) (w : World) (ha : By w va l) (hl : l.length ≤ 35184372088000) :
    Calls Tryz.prog 47 #[va] w fun e w' => ∃ v, e = .returned v ∧ OwnN w' w.heap.size 22 .u32 v (l.map UInt8.toNat) ∧ Below w.heap.size w w' := by
  obtain ⟨A, c, rfl, hc, hm, hca⟩ := ha.form
  unfold maxLen at hm
  go_enter Tryz.func47, Tryz.ntmps47
  go_wp2
  go_loopw [3, 4] (fun v i wr => ∃ k : Nat, k ≤ l.length ∧ i = .int .i64 k ∧ OwnN wr w.heap.size 22 .u32 v ((l.take k).map UInt8.toNat) ∧ Below w.heap.size w wr) (fun _ i _ => l.length - (intOf i).toNat)
  case atStart => exact ⟨0, by omega, rfl, OwnN.nil _ _ _ _, Below.refl _ _⟩
  case round =>
    obtain ⟨k, hk, rfl, hown, hbel⟩ := hrel
    have HO := hide hown
    clear hown
    by_cases hlt : k < l.length
    · obtain ⟨x, hx⟩ : ∃ x, l[k]? = some x := ⟨_, List.getElem?_eq_getElem hlt⟩
      obtain ⟨b, o, rfl, hbl, hcell⟩ := hca k x hx
      have hcx : wr.cell? ⟨b, o + k, none⟩ = some (.int .u8 (x.toNat : Int)) := (hbel.cell (p := ⟨b, o + k, none⟩) hbl).trans hcell
      have hw : IntKind.u32.wrap (x.toNat : Int) = (x.toNat : Int) := by have := x.toNat_lt; simp [IntKind.wrap, IntKind.bits, IntKind.signed]; omega
      have HX := hide hx
      clear hx hcell hca
      go_wp2_with (at_builtin; go_loud (refine wpList_push1 elemW HO.out hbel hbel.size (by rw [List.length_map, List.length_take]; unfold maxLen; omega) (by rw [List.length_map, List.length_take]; omega) (.int .u32 ((x.toNat : Nat) : Int)) rfl rfl _ _ rfl rfl rfl ?_); intro v1 w1 ho1 hbel1 _ _ _; have hown1 := OwnN.push ho1; clear ho1)
      go_roundw
      case rel => exact ⟨k + 1, by omega, by go_num, by rw [take_snoc l k x HX.out, List.map_append]; exact hown1, hbel1⟩
      case measure => simp [intOf]; omega
    · have hkl : k = l.length := by omega
      subst hkl
      have hO2 := HO.out
      rw [List.take_of_length_le (Nat.le_refl _)] at hO2
      clear HO
      go_wp2
      go_ret
      exact ⟨_, rfl, hO2, hbel⟩
end Go.Proofs.YtoaaplngdomdcaaGreat
