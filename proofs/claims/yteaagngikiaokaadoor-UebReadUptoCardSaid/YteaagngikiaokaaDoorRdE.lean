/- The contract of the document's Read. -/
import Derived.Test.YteaagngikiaokaaDoorRdB
import Derived.Test.YteaagngikiaokaaDoorRdD
import Derived.Test.YteaagngikiaokaaDoorRdQM
import Derived.Test.YteaagngikiaokaaDoorRefV
namespace Go.Proofs.YteaagngikiaokaaDoor
open Go.RowKit

def nm : Nat → ByteArray
  | 3 => keyB 4
  | 4 => keyB 5
  | 5 => keyB 3
  | k => keyB k
theorem six_cell {W : World} {g : Nat} (h : Six W g) : ∀ i, i < 6 → W.cell? ⟨g, i * 2, none⟩ = some (.string (nm i)) := by
  obtain ⟨e, f, v0, v1, v2, v3, v4, v5, h⟩ := h
  intro i hi
  have hc : i = 0 ∨ i = 1 ∨ i = 2 ∨ i = 3 ∨ i = 4 ∨ i = 5 := by omega
  rw [cell_of_row W g (i * 2) _ e f h]
  rcases hc with rfl | rfl | rfl | rfl | rfl | rfl <;> rfl
theorem names_fold {L : List RowV} (h6 : L.length = 6) {u : US} (hm : may (rws L)) (hf : foldU US.zero (rws L) = some u) : ∀ i, i < 6 → ∀ x, L[i]? = some x → x.1 = nm i := by
  obtain ⟨v0, v1, v2, v3, v4, v5, hR⟩ := six hm (by rw [rws_length]; exact h6) fun x hx => (fold_some _ _ _ hf x hx).1
  intro i hi x hx
  have h := rws_get hx
  rw [hR] at h
  have hc : i = 0 ∨ i = 1 ∨ i = 2 ∨ i = 3 ∨ i = 4 ∨ i = 5 := by omega
  rcases hc with rfl | rfl | rfl | rfl | rfl | rfl
  all_goals
    simp only [List.getElem?_cons_zero, List.getElem?_cons_succ, Option.some.injEq, Prod.mk.injEq] at h
    exact lst_inj h.1.symm

set_option maxRecDepth 100000 in
set_option maxHeartbeats 400000 in
theorem ueb_cells2 (k n seg size : Int) : ((((Tryd.zeroCells44.setIfInBounds 0 (Value.int IntKind.i64 k)).setIfInBounds 1 (Value.int IntKind.i64 n)).setIfInBounds 2 (Value.int IntKind.i64 seg)).setIfInBounds 3 (Value.int IntKind.i64 size)) = uebC k n seg size (bcells (List.replicate 32 0) ++ bcells (List.replicate 32 0)) := by kernel_rfl

set_option maxRecDepth 100000 in
set_option maxHeartbeats 80000000 in
theorem dread_any (v : Value) (b : List UInt8) (w : World) (h : By w v b) (hl : b.length ≤ 1099511627776) :
    Calls Tryd.prog 27 #[v] w fun e w' => Below w.heap.size w w' ∧ e = readV (readU b) := by
  obtain ⟨A, c, rfl, hc, hm, _⟩ := h.form
  have Q1 := hide (fun W (hW : Below w.heap.size w W) => runpack_any (.slice A b.length c) b W (h.below hW) hl)
  clear h
  go_enter Tryd.func27, Tryd.ntmps27
  go_wp2_with fail
  refine (Q1.out _ ((Below.refl _ w).alloc (Nat.le_refl _) _)).mono ?_
  rintro e w1 ⟨b1, ⟨L, v', hu, rfl, hL⟩ | ⟨p, hu, rfl⟩⟩
  · have HB0 := hide ((Blk.new w 44 US.zero.cells).below' (zero_cells ▸ b1))
    have B1 := hide (((Below.refl w.heap.size w).alloc (Nat.le_refl _) _).trans (b1.mono (by simp)))
    have HU := hide hu
    have HL := hide hL
    have hL2 := hide hL.rws_
    have HROW := hide hL2.out.form
    obtain ⟨_, A2, c2, rfl, hc2, hm2, _⟩ := hL.rws_.1
    have Q2 := hide (fun W => rows_any W)
    have HBU0 := hide (Blk.new w1 44 US.zero.cells)
    have HMAY : Hid (may (rws L)) := by
      rcases unpack_cases b with ⟨rs, h1, _, h3⟩ | ⟨p, _, h1⟩
      · have h2 := HU.out
        rw [h1] at h2
        simp only [Prod.mk.injEq] at h2
        rw [← h2.1]; exact h3
      · have h2 := HU.out
        rw [h1] at h2
        simp at h2
    clear b1 hu hL Q1
    have hzc := zero_cells
    go_wp2_with (refine wpList_load_row (o := ⟨some 31, .load _ _, _, _, _, _⟩) rfl 44 _ rfl w1.heap.size rfl 44 US.zero.cells (0, 0) _ (by rw [← zero_cells] at HBU0; exact HBU0.out) Tryd.underlying44 rfl (by kernel_rfl) ?_)
    refine (Q2.out _).mono ?_
    rintro e w2 ⟨b2, g9, rfl, hsix, hg9⟩
    have B2 := hide ((Below.refl w1.heap.size w1).alloc (Nat.le_refl _) _ |>.trans (b2.mono (by simp)))
    have HBU := hide (HBU0.out.below' b2)
    have HSX := hide hsix
    have hc9 := six_cell hsix
    clear b2 hsix HBU0 Q2
    by_cases h6 : L.length = 6
    · have i6 : (L.length : Int) = 6 := by omega
      clear hzc
      go_wp2
      go_loopw [10] (fun u10 wr => ∃ i : Nat, i ≤ 6 ∧ u10 = .int .i64 (i : Int) ∧ Below w2.heap.size w2 wr ∧ ∀ j, j < i → ∀ x, L[j]? = some x → x.1 = nm j) (fun u10 _ => 6 - (intOf u10).toNat)
      case atStart => exact ⟨0, by omega, rfl, Below.refl _ _, fun j hj => by omega⟩
      case round =>
        obtain ⟨i, hi, rfl, hb, hnm⟩ := hrel
        by_cases hlt : i < 6
        · have i1 : (i : Int) < 6 := by omega
          have i3 : (0 : Int) ≤ (i : Int) := by omega
          have i4 : (i : Int) < (L.length : Int) := by omega
          obtain ⟨x, hx⟩ : ∃ x, L[i]? = some x := ⟨_, List.getElem?_eq_getElem (by omega)⟩
          obtain ⟨A', c', hv, _, _, hcl⟩ := HROW.out
          injection hv with e1 _ e3
          subst e1 e3
          obtain ⟨bb, o, rfl, hbl, h1, h2⟩ := hcl i x hx
          have hbw := B2.out.trans (hb.mono B2.out.size)
          have hb1 : wr.cell? ⟨bb, o + i * 2, none⟩ = some (.string x.1) := (hbw.cell (p := ⟨bb, o + i * 2, none⟩) hbl).trans h1
          have hb9 : wr.cell? ⟨g9, i * 2, none⟩ = some (.string (nm i)) := (hb.cell (p := ⟨g9, i * 2, none⟩) HSX.out.lt).trans (hc9 i hlt)
          clear hcl h1 h2
          have HN := hide hnm
          have HB0r := hide (HB0.out.below' hbw)
          have BBr := hide (B1.out.trans (hbw.mono B1.out.size))
          have HBr := hide hb
          by_cases he : x.1 = nm i
          · rw [← he] at hb9
            have HN1 : Hid (∀ j, j < i + 1 → ∀ y, L[j]? = some y → y.1 = nm j) := fun j hj y hy => by
              rcases Nat.lt_or_ge j i with hji | hji
              · exact HN.out j hji y hy
              · have : j = i := by omega
                subst this
                rw [hx] at hy
                cases hy
                exact he
            clear hnm hbw hb he HN
            generalize hx1 : x.1 = s1 at *
            go_wp2
            go_quiet (fail)
            go_wp2
            go_roundw
            case rel => exact ⟨i + 1, by omega, by simp, below_drewN HBr.out _, HN1.out⟩
            case measure => simp [intOf]; omega
          · have HNO : Hid (foldU US.zero (rws L) = none) := by
              rcases hf : foldU US.zero (rws L) with _ | u
              · rfl
              · exact absurd (names_fold h6 HMAY.out hf i hlt x hx) he
            have HDB := hide (HB0r.out.drewN)
            clear hnm hbw hb HN
            generalize hx1 : x.1 = s1 at *
            generalize hn1 : nm i = s2 at *
            have hcmp : (s1.toList == s2.toList) = false := by
              rw [str_toList, str_toList]
              exact beq_eq_false_iff_ne.2 fun h' => he (lst_inj h')
            go_wp2
            go_quiet (fail)
            go_wp2_with (refine wpList_store_row (o := ⟨none, .store _ _ _, _, _, _, _⟩) (HDB.out _) US.zero.cells rfl (by kernel_rfl) rfl 44 _ _ rfl (by kernel_rfl) rfl (by rw [← zero_cells]; rfl) ?_; intro wf hb1 hg1)
            refine bodyPost_ret (results_row_tmp2 rfl _ _ w.heap.size 44 US.zero.cells (0, 0) _ rfl hb1 Tryd.underlying44 rfl (by kernel_rfl)) rfl ⟨(below_drewN BBr.out _).grown hg1 (Nat.le_of_lt HB0r.out.lt) (fun k hk => by cases hk; omega), ?_⟩
            rw [readU_no HU.out HNO.out]; rfl
        · have h66 : i = 6 := by omega
          subst h66
          obtain ⟨x0, hx0⟩ : ∃ x, L[0]? = some x := ⟨_, List.getElem?_eq_getElem (by omega)⟩
          obtain ⟨x1, hx1⟩ : ∃ x, L[1]? = some x := ⟨_, List.getElem?_eq_getElem (by omega)⟩
          obtain ⟨x2, hx2⟩ : ∃ x, L[2]? = some x := ⟨_, List.getElem?_eq_getElem (by omega)⟩
          obtain ⟨x3, hx3⟩ : ∃ x, L[3]? = some x := ⟨_, List.getElem?_eq_getElem (by omega)⟩
          obtain ⟨x4, hx4⟩ : ∃ x, L[4]? = some x := ⟨_, List.getElem?_eq_getElem (by omega)⟩
          obtain ⟨x5, hx5⟩ : ∃ x, L[5]? = some x := ⟨_, List.getElem?_eq_getElem (by omega)⟩
          obtain ⟨A', c', hv, _, _, hcl⟩ := HROW.out
          injection hv with e1 _ e3
          subst e1 e3
          obtain ⟨bb, o, rfl, hbl, _, _⟩ := hcl 0 x0 hx0
          have HCL : Hid (∀ W, Below w1.heap.size w1 W → ∀ k x, L[k]? = some x → W.cell? ⟨bb, o + k * 2, none⟩ = some (.string x.1) ∧ W.cell? ⟨bb, o + k * 2 + 1, none⟩ = some x.2.1) := fun W hW k x hx => by
            obtain ⟨b', o', he, hbl', h1, h2⟩ := hcl k x hx
            cases he
            exact ⟨(hW.cell (p := ⟨bb, o + k * 2, none⟩) hbl).trans h1, (hW.cell (p := ⟨bb, o + k * 2 + 1, none⟩) hbl).trans h2⟩
          have hR : rws L = [(tK, x0.2.2), (tN, x1.2.2), (tSeg, x2.2.2), (tSegments, x3.2.2), (tShares, x4.2.2), (tSize, x5.2.2)] := by
            refine List.ext_getElem? fun j => ?_
            by_cases hj : j < 6
            · have hc : j = 0 ∨ j = 1 ∨ j = 2 ∨ j = 3 ∨ j = 4 ∨ j = 5 := by omega
              rcases hc with rfl | rfl | rfl | rfl | rfl | rfl
              · rw [rws_get hx0, hnm 0 (by omega) x0 hx0]; rfl
              · rw [rws_get hx1, hnm 1 (by omega) x1 hx1]; rfl
              · rw [rws_get hx2, hnm 2 (by omega) x2 hx2]; rfl
              · rw [rws_get hx3, hnm 3 (by omega) x3 hx3]; rfl
              · rw [rws_get hx4, hnm 4 (by omega) x4 hx4]; rfl
              · rw [rws_get hx5, hnm 5 (by omega) x5 hx5]; rfl
            · rw [List.getElem?_eq_none (by rw [rws_length]; omega), List.getElem?_eq_none (by simp; omega)]
          have hfold := fold_six x0.2.2 x1.2.2 x2.2.2 x3.2.2 x4.2.2 x5.2.2
          rw [← hR] at hfold
          have HF := hide hfold
          have hbw := B2.out.trans (hb.mono B2.out.size)
          have y0 := hL2.out.2 x0 (List.mem_of_getElem? hx0)
          obtain ⟨A0, d0, hv0, _, _, hby0⟩ := y0.form
          have HD0 := hide hby0
          clear hby0
          have l0 : x0.2.2.length ≤ 65536 := (may_mem HMAY.out _ (List.mem_of_getElem? (rws_get hx0))).2
          rw [hv0] at y0
          have HC0 : Hid (∀ W, Below w1.heap.size w1 W → W.cell? ⟨bb, o, none⟩ = some (.string x0.1) ∧ W.cell? ⟨bb, o + 1, none⟩ = some (.slice A0 x0.2.2.length d0)) := fun W hW => by rw [← hv0]; exact HCL.out W hW 0 x0 hx0
          have HY0 := hide y0
          have y1 := hL2.out.2 x1 (List.mem_of_getElem? hx1)
          obtain ⟨A1, d1, hv1, _, _, hby1⟩ := y1.form
          have HD1 := hide hby1
          clear hby1
          have l1 : x1.2.2.length ≤ 65536 := (may_mem HMAY.out _ (List.mem_of_getElem? (rws_get hx1))).2
          rw [hv1] at y1
          have HC1 : Hid (∀ W, Below w1.heap.size w1 W → W.cell? ⟨bb, o + 2, none⟩ = some (.string x1.1) ∧ W.cell? ⟨bb, o + 3, none⟩ = some (.slice A1 x1.2.2.length d1)) := fun W hW => by rw [← hv1]; exact HCL.out W hW 1 x1 hx1
          have HY1 := hide y1
          have y2 := hL2.out.2 x2 (List.mem_of_getElem? hx2)
          obtain ⟨A2, d2, hv2, _, _, hby2⟩ := y2.form
          have HD2 := hide hby2
          clear hby2
          have l2 : x2.2.2.length ≤ 65536 := (may_mem HMAY.out _ (List.mem_of_getElem? (rws_get hx2))).2
          rw [hv2] at y2
          have HC2 : Hid (∀ W, Below w1.heap.size w1 W → W.cell? ⟨bb, o + 4, none⟩ = some (.string x2.1) ∧ W.cell? ⟨bb, o + 5, none⟩ = some (.slice A2 x2.2.2.length d2)) := fun W hW => by rw [← hv2]; exact HCL.out W hW 2 x2 hx2
          have HY2 := hide y2
          have y3 := hL2.out.2 x3 (List.mem_of_getElem? hx3)
          obtain ⟨A3, d3, hv3, _, _, hby3⟩ := y3.form
          have HD3 := hide hby3
          clear hby3
          have l3 : x3.2.2.length ≤ 65536 := (may_mem HMAY.out _ (List.mem_of_getElem? (rws_get hx3))).2
          rw [hv3] at y3
          have HC3 : Hid (∀ W, Below w1.heap.size w1 W → W.cell? ⟨bb, o + 6, none⟩ = some (.string x3.1) ∧ W.cell? ⟨bb, o + 7, none⟩ = some (.slice A3 x3.2.2.length d3)) := fun W hW => by rw [← hv3]; exact HCL.out W hW 3 x3 hx3
          have HY3 := hide y3
          have y4 := hL2.out.2 x4 (List.mem_of_getElem? hx4)
          obtain ⟨A4, d4, hv4, _, _, hby4⟩ := y4.form
          have HD4 := hide hby4
          clear hby4
          have l4 : x4.2.2.length ≤ 65536 := (may_mem HMAY.out _ (List.mem_of_getElem? (rws_get hx4))).2
          rw [hv4] at y4
          have HC4 : Hid (∀ W, Below w1.heap.size w1 W → W.cell? ⟨bb, o + 8, none⟩ = some (.string x4.1) ∧ W.cell? ⟨bb, o + 9, none⟩ = some (.slice A4 x4.2.2.length d4)) := fun W hW => by rw [← hv4]; exact HCL.out W hW 4 x4 hx4
          have HY4 := hide y4
          have y5 := hL2.out.2 x5 (List.mem_of_getElem? hx5)
          obtain ⟨A5, d5, hv5, _, _, hby5⟩ := y5.form
          have HD5 := hide hby5
          clear hby5
          have l5 : x5.2.2.length ≤ 65536 := (may_mem HMAY.out _ (List.mem_of_getElem? (rws_get hx5))).2
          rw [hv5] at y5
          have HC5 : Hid (∀ W, Below w1.heap.size w1 W → W.cell? ⟨bb, o + 10, none⟩ = some (.string x5.1) ∧ W.cell? ⟨bb, o + 11, none⟩ = some (.slice A5 x5.2.2.length d5)) := fun W hW => by rw [← hv5]; exact HCL.out W hW 5 x5 hx5
          have HY5 := hide y5
          have HBW2 := hide hbw
          have HB2 := hide hb
          have HQ0 : Hid (∃ (n : Int) (q : Bool), n = rdN x0.2.2 2147483647 ∧ q = decide (rdE x0.2.2 2147483647 = 0) ∧ ∀ W, Below w1.heap.size w1 W → Calls Tryd.prog 49 #[.agg #[.string x0.1, .slice A0 x0.2.2.length d0]] W fun e w' => Below W.heap.size W w' ∧ e = .returned (.tuple #[.int .i64 n, .bool q])) := ⟨_, _, rfl, rfl, fun W hW => rnum_row x0.1 _ x0.2.2 W (HY0.out.below hW) (by omega)⟩
          have HQ1 : Hid (∃ (n : Int) (q : Bool), n = rdN x1.2.2 2147483647 ∧ q = decide (rdE x1.2.2 2147483647 = 0) ∧ ∀ W, Below w1.heap.size w1 W → Calls Tryd.prog 49 #[.agg #[.string x1.1, .slice A1 x1.2.2.length d1]] W fun e w' => Below W.heap.size W w' ∧ e = .returned (.tuple #[.int .i64 n, .bool q])) := ⟨_, _, rfl, rfl, fun W hW => rnum_row x1.1 _ x1.2.2 W (HY1.out.below hW) (by omega)⟩
          have HQ2 : Hid (∃ (n : Int) (q : Bool), n = rdN x2.2.2 2147483647 ∧ q = decide (rdE x2.2.2 2147483647 = 0) ∧ ∀ W, Below w1.heap.size w1 W → Calls Tryd.prog 49 #[.agg #[.string x2.1, .slice A2 x2.2.2.length d2]] W fun e w' => Below W.heap.size W w' ∧ e = .returned (.tuple #[.int .i64 n, .bool q])) := ⟨_, _, rfl, rfl, fun W hW => rnum_row x2.1 _ x2.2.2 W (HY2.out.below hW) (by omega)⟩
          have HQ5 : Hid (∃ (n : Int) (q : Bool), n = rdN x5.2.2 2147483647 ∧ q = decide (rdE x5.2.2 2147483647 = 0) ∧ ∀ W, Below w1.heap.size w1 W → Calls Tryd.prog 49 #[.agg #[.string x5.1, .slice A5 x5.2.2.length d5]] W fun e w' => Below W.heap.size W w' ∧ e = .returned (.tuple #[.int .i64 n, .bool q])) := ⟨_, _, rfl, rfl, fun W hW => rnum_row x5.1 _ x5.2.2 W (HY5.out.below hW) (by omega)⟩
          clear hnm hR hfold hbw hb hcl HCL HROW
          generalize x0.2.2 = z0 at *
          generalize x0.1 = s0 at *
          generalize x1.2.2 = z1 at *
          generalize x1.1 = s1 at *
          generalize x2.2.2 = z2 at *
          generalize x2.1 = s2 at *
          generalize x3.2.2 = z3 at *
          generalize x3.1 = s3 at *
          generalize x4.2.2 = z4 at *
          generalize x4.1 = s4 at *
          generalize x5.2.2 = z5 at *
          generalize x5.1 = s5 at *
          obtain ⟨n0, q0, hn0, hq0, hc0⟩ := HQ0.out
          have HE0 := hide (And.intro hn0 hq0)
          have HK0 := hide hc0
          clear hn0 hq0 hc0 HQ0
          obtain ⟨n1, q1, hn1, hq1, hc1⟩ := HQ1.out
          have HE1 := hide (And.intro hn1 hq1)
          have HK1 := hide hc1
          clear hn1 hq1 hc1 HQ1
          obtain ⟨n2, q2, hn2, hq2, hc2⟩ := HQ2.out
          have HE2 := hide (And.intro hn2 hq2)
          have HK2 := hide hc2
          clear hn2 hq2 hc2 HQ2
          obtain ⟨n5, q5, hn5, hq5, hc5⟩ := HQ5.out
          have HE5 := hide (And.intro hn5 hq5)
          have HK5 := hide hc5
          clear hn5 hq5 hc5 HQ5
          have hff : foldU US.zero (rws L) = if (q0 = true ∧ q1 = true ∧ q2 = true ∧ q5 = true ∧ z3.length = 32 ∧ z4.length = 32) then some ⟨n0, n1, n2, n5, z4, z3⟩ else none := by
            rw [HF.out, HE0.out.1, HE0.out.2, HE1.out.1, HE1.out.2, HE2.out.1, HE2.out.2, HE5.out.1, HE5.out.2]
            simp only [decide_eq_true_eq, goodV]
          have HFF := hide hff
          have HIN : Hid ((0 ≤ n0 ∧ n0 ≤ 2147483647) ∧ (0 ≤ n1 ∧ n1 ≤ 2147483647) ∧ (0 ≤ n2 ∧ n2 ≤ 2147483647) ∧ (0 ≤ n5 ∧ n5 ≤ 2147483647)) := by
            rw [HE0.out.1, HE1.out.1, HE2.out.1, HE5.out.1]
            exact ⟨rdN_in _, rdN_in _, rdN_in _, rdN_in _⟩
          clear hff HF
          obtain ⟨f0, f1⟩ := HC0.out _ HBW2.out
          go_wp2_with fail
          refine (HK0.out _ HBW2.out).mono ?_
          rintro e u3 ⟨b3, rfl⟩
          have HBW3 := hide (HBW2.out.trans (b3.mono HBW2.out.size))
          have HB3 := hide (HB2.out.trans (b3.mono HB2.out.size))
          clear f0 f1 b3
          obtain ⟨f2, f3⟩ := HC1.out _ HBW3.out
          go_wp2_with fail
          refine (HK1.out _ HBW3.out).mono ?_
          rintro e u4 ⟨b4, rfl⟩
          have HBW4 := hide (HBW3.out.trans (b4.mono HBW3.out.size))
          have HB4 := hide (HB3.out.trans (b4.mono HB3.out.size))
          clear f2 f3 b4
          obtain ⟨f4, f5⟩ := HC2.out _ HBW4.out
          go_wp2_with fail
          refine (HK2.out _ HBW4.out).mono ?_
          rintro e u5 ⟨b5, rfl⟩
          have HBW5 := hide (HBW4.out.trans (b5.mono HBW4.out.size))
          have HB5 := hide (HB4.out.trans (b5.mono HB4.out.size))
          clear f4 f5 b5
          obtain ⟨f10, f11⟩ := HC5.out _ HBW5.out
          go_wp2_with fail
          refine (HK5.out _ HBW5.out).mono ?_
          rintro e u6 ⟨b6, rfl⟩
          have HBW6 := hide (HBW5.out.trans (b6.mono HBW5.out.size))
          have HB6 := hide (HB5.out.trans (b6.mono HB5.out.size))
          clear f10 f11 b6
          obtain ⟨f6, f7⟩ := HC3.out _ HBW6.out
          obtain ⟨f8, f9⟩ := HC4.out _ HBW6.out
          have HB06 := hide (HB0.out.below' HBW6.out)
          have BB6 := hide (B1.out.trans (HBW6.out.mono B1.out.size))
          have HU6 := hide (HBU.out.below' HB6.out)
          rcases q0 with _ | _
          · have HNO := hide (show foldU US.zero (rws L) = none by rw [HFF.out, if_neg (fun h => by have := h.1; cases this)])
            go_wp2_with (refine wpList_store_row (o := ⟨none, .store _ _ _, _, _, _, _⟩) HB06.out US.zero.cells rfl (by kernel_rfl) rfl 44 _ _ rfl (by kernel_rfl) rfl (by rw [← zero_cells]; rfl) ?_; intro wf hb1 hg1)
            refine bodyPost_ret (results_row_tmp2 rfl _ _ w.heap.size 44 US.zero.cells (0, 0) _ rfl hb1 Tryd.underlying44 rfl (by kernel_rfl)) rfl ⟨BB6.out.grown hg1 (by have := HB06.out.lt; omega) (fun k hk => by cases hk; omega), ?_⟩
            rw [readU_no HU.out HNO.out]; rfl
          · skip
            rcases q1 with _ | _
            · have HNO := hide (show foldU US.zero (rws L) = none by rw [HFF.out, if_neg (fun h => by have := h.2.1; cases this)])
              go_wp2_with (refine wpList_store_row (o := ⟨none, .store _ _ _, _, _, _, _⟩) HB06.out US.zero.cells rfl (by kernel_rfl) rfl 44 _ _ rfl (by kernel_rfl) rfl (by rw [← zero_cells]; rfl) ?_; intro wf hb1 hg1)
              refine bodyPost_ret (results_row_tmp2 rfl _ _ w.heap.size 44 US.zero.cells (0, 0) _ rfl hb1 Tryd.underlying44 rfl (by kernel_rfl)) rfl ⟨BB6.out.grown hg1 (by have := HB06.out.lt; omega) (fun k hk => by cases hk; omega), ?_⟩
              rw [readU_no HU.out HNO.out]; rfl
            · skip
              rcases q2 with _ | _
              · have HNO := hide (show foldU US.zero (rws L) = none by rw [HFF.out, if_neg (fun h => by have := h.2.2.1; cases this)])
                go_wp2_with (refine wpList_store_row (o := ⟨none, .store _ _ _, _, _, _, _⟩) HB06.out US.zero.cells rfl (by kernel_rfl) rfl 44 _ _ rfl (by kernel_rfl) rfl (by rw [← zero_cells]; rfl) ?_; intro wf hb1 hg1)
                refine bodyPost_ret (results_row_tmp2 rfl _ _ w.heap.size 44 US.zero.cells (0, 0) _ rfl hb1 Tryd.underlying44 rfl (by kernel_rfl)) rfl ⟨BB6.out.grown hg1 (by have := HB06.out.lt; omega) (fun k hk => by cases hk; omega), ?_⟩
                rw [readU_no HU.out HNO.out]; rfl
              · skip
                rcases q5 with _ | _
                · have HNO := hide (show foldU US.zero (rws L) = none by rw [HFF.out, if_neg (fun h => by have := h.2.2.2.1; cases this)])
                  go_wp2_with (refine wpList_store_row (o := ⟨none, .store _ _ _, _, _, _, _⟩) HB06.out US.zero.cells rfl (by kernel_rfl) rfl 44 _ _ rfl (by kernel_rfl) rfl (by rw [← zero_cells]; rfl) ?_; intro wf hb1 hg1)
                  refine bodyPost_ret (results_row_tmp2 rfl _ _ w.heap.size 44 US.zero.cells (0, 0) _ rfl hb1 Tryd.underlying44 rfl (by kernel_rfl)) rfl ⟨BB6.out.grown hg1 (by have := HB06.out.lt; omega) (fun k hk => by cases hk; omega), ?_⟩
                  rw [readU_no HU.out HNO.out]; rfl
                · skip
                  by_cases m3 : z3.length = 32
                  rotate_left
                  · have k3 : ¬ (z3.length : Int) = 32 := by omega
                    have HNO := hide (show foldU US.zero (rws L) = none by rw [HFF.out, if_neg (fun h => by exact m3 h.2.2.2.2.1)])
                    go_wp2_with (refine wpList_store_row (o := ⟨none, .store _ _ _, _, _, _, _⟩) HB06.out US.zero.cells rfl (by kernel_rfl) rfl 44 _ _ rfl (by kernel_rfl) rfl (by rw [← zero_cells]; rfl) ?_; intro wf hb1 hg1)
                    refine bodyPost_ret (results_row_tmp2 rfl _ _ w.heap.size 44 US.zero.cells (0, 0) _ rfl hb1 Tryd.underlying44 rfl (by kernel_rfl)) rfl ⟨BB6.out.grown hg1 (by have := HB06.out.lt; omega) (fun k hk => by cases hk; omega), ?_⟩
                    rw [readU_no HU.out HNO.out]; rfl
                  have k3 : (z3.length : Int) = 32 := by omega
                  by_cases m4 : z4.length = 32
                  rotate_left
                  · have k4 : ¬ (z4.length : Int) = 32 := by omega
                    have HNO := hide (show foldU US.zero (rws L) = none by rw [HFF.out, if_neg (fun h => by exact m4 h.2.2.2.2.2)])
                    go_wp2_with (refine wpList_store_row (o := ⟨none, .store _ _ _, _, _, _, _⟩) HB06.out US.zero.cells rfl (by kernel_rfl) rfl 44 _ _ rfl (by kernel_rfl) rfl (by rw [← zero_cells]; rfl) ?_; intro wf hb1 hg1)
                    refine bodyPost_ret (results_row_tmp2 rfl _ _ w.heap.size 44 US.zero.cells (0, 0) _ rfl hb1 Tryd.underlying44 rfl (by kernel_rfl)) rfl ⟨BB6.out.grown hg1 (by have := HB06.out.lt; omega) (fun k hk => by cases hk; omega), ?_⟩
                    rw [readU_no HU.out HNO.out]; rfl
                  have k4 : (z4.length : Int) = 32 := by omega
                  have HFS := hide (show foldU US.zero (rws L) = some ⟨n0, n1, n2, n5, z4, z3⟩ by rw [HFF.out, if_pos ⟨rfl, rfl, rfl, rfl, m3, m4⟩])
                  have hwf0 := mixU_wf n0 n1 n2 n5 m3 m4 (Nat.zero_le 32)
                  have HSZ0 := hide (US.size_ hwf0)
                  have HE0c := hide (mixU_zero n0 n1 n2 n5 z3 z4)
                  have HLEN := hide (And.intro m3 m4)
                  clear hwf0
                  go_wp2_with (refine wpList_store_row (o := ⟨none, .store _ _ _, _, _, _, _⟩) HU6.out (mixU n0 n1 n2 n5 z3 z4 0).cells (by rw [HSZ0.out, US.size_ US.zero_wf]) (ueb_one _) rfl 44 _ _ rfl (by rw [HSZ0.out]; kernel_rfl) rfl (by rw [HE0c.out]; exact congrArg Value.agg (ueb_cells2 _ _ _ _)) ?_; intro w7 hb7 hg7)
                  have HB7 := hide (HBW6.out.grown hg7 HBW6.out.size (fun k hk => by cases hk; exact Nat.le_refl _))
                  have HK7 := hide hb7
                  clear hb7 hg7 f6 f7 f8 f9
                  go_loopw [19] (fun u19 wr => ∃ i : Nat, i ≤ 32 ∧ u19 = .int .i64 (i : Int) ∧ Below w1.heap.size w1 wr ∧ Blk wr w1.heap.size 44 (mixU n0 n1 n2 n5 z3 z4 i).cells) (fun u19 _ => 32 - (intOf u19).toNat)
                  case atStart => exact ⟨0, by omega, rfl, HB7.out, HK7.out⟩
                  case round =>
                    obtain ⟨i, hi, rfl, hb, hblk⟩ := hrel
                    have HBr := hide hb
                    have HKr := hide hblk
                    by_cases hlt : i < 32
                    · have i1 : (i : Int) < 32 := by omega
                      have i3 : (0 : Int) ≤ (i : Int) := by omega
                      have i4 : (i : Int) < (z3.length : Int) := by omega
                      have i5 : (i : Int) < (z4.length : Int) := by omega
                      obtain ⟨x, hx⟩ : ∃ x, z3[i]? = some x := ⟨_, List.getElem?_eq_getElem (by omega)⟩
                      obtain ⟨y, hy⟩ : ∃ y, z4[i]? = some y := ⟨_, List.getElem?_eq_getElem (by omega)⟩
                      obtain ⟨b3, o3, rfl, hbl3, hc3⟩ := HD3.out i x hx
                      obtain ⟨b4, o4, rfl, hbl4, hc4⟩ := HD4.out i y hy
                      obtain ⟨f6, f7⟩ := HC3.out _ hb
                      have f10 : wr.cell? ⟨b3, o3 + i, none⟩ = some (.int .u8 (x.toNat : Int)) := (hb.cell (p := ⟨b3, o3 + i, none⟩) hbl3).trans hc3
                      have HST := hide (mixU_step (n0 := n0) (n1 := n1) (n2 := n2) (n5 := n5) m3 m4 hlt hx hy)
                      have HSZ := hide (US.size_ (mixU_wf n0 n1 n2 n5 m3 m4 hi))
                      have H4 := hide (And.intro hbl4 hc4)
                      have HLT := hide hlt
                      clear hb hblk hx hy hc3 hc4 m3 m4
                      go_wp2_with first
                        | (with_reducible show wpList _ _ _ (⟨none, .store _ (.tmp 134) _, _, _, _, _⟩ :: _) _ _; refine wpList_store_blk (o := ⟨none, .store _ _ _, _, _, _, _⟩) HKr.out (36 + i) (by rw [HSZ.out]; omega) (.int .u8 (x.toNat : Int)) rfl rfl 5 _ _ rfl (by kernel_rfl) rfl rfl ?_; intro w8 hb8 hg8; have HK8 := hide hb8; have HB8 := hide (HBr.out.grown hg8 HBr.out.size (fun k hk => by cases hk; exact Nat.le_refl _)); obtain ⟨f8, f9⟩ := HC4.out _ HB8.out; have f11 : w8.cell? ⟨b4, o4 + i, none⟩ = some (.int .u8 (y.toNat : Int)) := (HB8.out.cell (p := ⟨b4, o4 + i, none⟩) H4.out.1).trans H4.out.2; clear hb8 hg8 f6 f7 f10)
                        | (with_reducible show wpList _ _ _ (⟨none, .store _ (.tmp 144) _, _, _, _, _⟩ :: _) _ _; refine wpList_store_blk (o := ⟨none, .store _ _ _, _, _, _, _⟩) HK8.out (4 + i) (by rw [Array.size_setIfInBounds, HSZ.out]; omega) (.int .u8 (y.toNat : Int)) rfl rfl 5 _ _ rfl (by kernel_rfl) rfl rfl ?_; intro w9 hb9 hg9)
                      go_roundw
                      case rel => exact ⟨i + 1, by omega, by go_num, HB8.out.grown hg9 HB8.out.size (fun k hk => by cases hk; exact Nat.le_refl _), by rw [HST.out] at hb9; exact hb9⟩
                      case measure => simp [intOf]; omega
                    · have hi32 : i = 32 := by omega
                      subst hi32
                      rw [mixU_all _ _ _ _ m3 m4] at HKr
                      have hwf : US.wf ⟨n0, n1, n2, n5, z4, z3⟩ := ⟨m4, m3⟩
                      have HSZ := hide (US.size_ hwf)
                      have H1C := hide (ueb_one ⟨n0, n1, n2, n5, z4, z3⟩)
                      have Q4 := hide (fun W => rcheck_u ⟨n0, n1, n2, n5, z4, z3⟩ HIN.out W)
                      have HR := hide (readU_some HU.out (by rw [rws_length]; exact h6) HFS.out)
                      have hb0 := HB0.out.below' hb
                      have hlt1 := HB0.out.lt
                      have hle1 := hb.size
                      clear hwf hblk hb m3 m4 k3 k4
                      generalize hcs : US.cells ⟨n0, n1, n2, n5, z4, z3⟩ = cs at *
                      go_wp2_with (refine wpList_load_row (o := ⟨some 145, .load _ _, _, _, _, _⟩) rfl 44 _ rfl w1.heap.size rfl 44 cs (0, 0) _ HKr.out Tryd.underlying44 rfl (by rw [HSZ.out]; kernel_rfl) ?_)
                      refine (Q4.out _).mono ?_
                      rintro e w9 ⟨b9, rfl⟩
                      have HB9 := hide (hb0.below' b9)
                      have HK9 := hide (HKr.out.below' b9)
                      have BB9 := hide ((B1.out.trans (HBr.out.mono B1.out.size)).trans (b9.mono (Nat.le_trans B1.out.size hle1)))
                      clear b9 hb0 Q4
                      by_cases hag : agOK n0 n1 n2 n5
                      · simp only [if_pos hag] at HR
                        simp only [if_pos hag]
                        clear hag
                        go_wp2_with (refine wpList_load_row (o := ⟨some 149, .load _ _, _, _, _, _⟩) rfl 44 _ rfl w1.heap.size rfl 44 cs (0, 0) _ HK9.out Tryd.underlying44 rfl (by rw [HSZ.out]; kernel_rfl) ?_; refine wpList_store_row (o := ⟨none, .store _ _ _, _, _, _, _⟩) HB9.out cs (by rw [HSZ.out, US.size_ US.zero_wf]) H1C.out rfl 44 _ _ rfl (by rw [HSZ.out]; kernel_rfl) rfl rfl ?_; intro wf hb1 hg1)
                        refine bodyPost_ret (results_row_tmp2 rfl _ _ w.heap.size 44 cs (0, 0) _ rfl hb1 Tryd.underlying44 rfl (by rw [HSZ.out]; kernel_rfl)) rfl ⟨BB9.out.grown hg1 (by have := HB9.out.lt; omega) (fun k hk => by cases hk; omega), ?_⟩
                        rw [HR.out]
                        unfold readV
                        simp only [hcs]
                        rfl
                      · simp only [if_neg hag] at HR
                        simp only [if_neg hag]
                        clear hag
                        go_wp2_with (refine wpList_store_row (o := ⟨none, .store _ _ _, _, _, _, _⟩) HB9.out US.zero.cells rfl (by kernel_rfl) rfl 44 _ _ rfl (by kernel_rfl) rfl (by rw [← zero_cells]; rfl) ?_; intro wf hb1 hg1)
                        refine bodyPost_ret (results_row_tmp2 rfl _ _ w.heap.size 44 US.zero.cells (0, 0) _ rfl hb1 Tryd.underlying44 rfl (by kernel_rfl)) rfl ⟨BB9.out.grown hg1 (by have := HB9.out.lt; omega) (fun k hk => by cases hk; omega), ?_⟩
                        rw [HR.out]; rfl
    · have i6 : ¬ (L.length : Int) = 6 := by omega
      go_wp2_with (refine wpList_store_row (o := ⟨none, .store _ _ _, _, _, _, _⟩) (HB0.out.below' B2.out) US.zero.cells rfl (by kernel_rfl) rfl 44 _ _ rfl (by kernel_rfl) rfl (by rw [← zero_cells]; rfl) ?_; intro wf hb1 hg1)
      refine bodyPost_ret (results_row_tmp2 rfl _ _ w.heap.size 44 US.zero.cells (0, 0) _ rfl hb1 Tryd.underlying44 rfl (by kernel_rfl)) rfl ⟨(B1.out.trans (B2.out.mono B1.out.size)).grown hg1 (by have := HB0.out.lt; have := B2.out.size; omega) (fun k hk => by cases hk; omega), ?_⟩
      rw [readU_len HU.out (by rw [rws_length]; exact h6)]; rfl
  · have HB0 := hide ((Blk.new w 44 US.zero.cells).below' (zero_cells ▸ b1))
    have B1 := hide (((Below.refl w.heap.size w).alloc (Nat.le_refl _) _).trans (b1.mono (by simp)))
    have HU := hide hu
    clear b1 hu Q1
    go_wp2_with (refine wpList_store_row (o := ⟨none, .store _ _ _, _, _, _, _⟩) HB0.out US.zero.cells rfl (by kernel_rfl) rfl 44 _ _ rfl (by kernel_rfl) rfl (by rw [← zero_cells]; rfl) ?_; intro wf hb1 hg1)
    refine bodyPost_ret (results_row_tmp2 rfl _ _ w.heap.size 44 US.zero.cells (0, 0) _ rfl hb1 Tryd.underlying44 rfl (by kernel_rfl)) rfl ⟨B1.out.grown hg1 (by have := HB0.out.lt; omega) (fun k hk => by cases hk; omega), ?_⟩
    rw [readU_form HU.out]; rfl
end Go.Proofs.YteaagngikiaokaaDoor
