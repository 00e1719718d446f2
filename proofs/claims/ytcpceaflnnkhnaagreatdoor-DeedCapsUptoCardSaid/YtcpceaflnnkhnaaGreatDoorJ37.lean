/- Joined texts: DdCaps. -/
import Derived.Test.YtcpceaflnnkhnaaGreatDoorJ36

/- The law DeedCaps. (Printed by wip/ddcaps.py.) -/
namespace Go.Proofs.YtcpceaflnnkhnaaGreatDoor
open Go.RowKit

set_option maxRecDepth 100000 in
set_option maxHeartbeats 32000000 in
theorem law_deedcaps (cs : Array Value) (c : CP) (v : Value) (mx : Int) (w : World) (h : Capy w cs c v) (la : c.lit.length ≤ 140737488355000) (hm : w.cell? ⟨1, 0, none⟩ = some (.int .i64 mx)) (ht : Tab w) (he : Err w) (hh : Handle w) :
    Calls Tryz.prog 7 #[.agg cs] w fun e w' => e = .returned (.bool true) ∧ Below w.heap.size w w' := by
  obtain ⟨W0, hW⟩ : ∃ W, W = w.alloc (.cells cs 34) := ⟨_, rfl⟩
  have HW := hide hW
  have HB := hide (show Blk W0 w.heap.size 34 cs ∧ Below w.heap.size w W0 ∧ w.heap.size < W0.heap.size from by
    rw [hW]
    exact ⟨Blk.new w 34 cs, (Below.refl w.heap.size w).alloc (Nat.le_refl _) _, by simp⟩)
  have HZ := hide h.size
  have QL := hide (lentc_any cs c v W0 (h.below HB.out.2.1) la)
  obtain ⟨A0, k0, hv0, -, -, -⟩ := h.by_.form
  subst hv0
  have HY := hide (And.intro h.lit h.by_)
  have HLB := hide (show (c.lit ++ marks 0 c.lit.length 70).length ≤ 140737488355328 from by simp; omega)
  have hvw := (weak_wf h.wf).2.1
  -- the letters
  obtain ⟨ck, hck⟩ : ∃ x : Int, x = (if c.may then 0 else 5) := ⟨_, rfl⟩
  obtain ⟨P, hP⟩ : ∃ x, x = prS c := ⟨_, rfl⟩
  obtain ⟨pe, hpe⟩ : ∃ x, x = prE c := ⟨_, rfl⟩
  obtain ⟨we, hwe⟩ : ∃ x, x = weakE c := ⟨_, rfl⟩
  obtain ⟨sz, hsz⟩ : ∃ x, x = sizeN c := ⟨_, rfl⟩
  obtain ⟨X, hX⟩ : ∃ F : Array Value, F = (weakC c).cells (.slice none 0 0) := ⟨_, rfl⟩
  obtain ⟨V, hV⟩ : ∃ F : Array Value, F = (weakC c).vf.cells.toArray := ⟨_, rfl⟩
  have HX := hide (show X.size = 107 ∧ X.all (·.oneCell') = true ∧ ∀ W, Capy W X (weakC c) (.slice none 0 0) from ⟨by rw [hX]; exact CP.cells_size (weak_wf h.wf) _, by rw [hX]; exact CP.cells_one _ _ _ _, fun W => ⟨hX, weak_wf h.wf, weak_in h.i64, by rw [weak_lit]; exact By.nil W⟩⟩)
  have HV := hide (show V.size = 52 ∧ V.all (·.oneCell') = true from ⟨by rw [hV]; exact rv_size _ hvw, by rw [hV]; exact rv_one _⟩)
  have HVE := hide (show ∀ W, (binOp .eql 31 (.agg V) (.agg V)).run Tryz.prog W = .ok (.bool true) W from fun W => by
    have := verify_eql _ _ hvw hvw W
    rw [decide_eq_true rfl] at this
    rw [hV]
    exact this)
  have HVR := hide (show ∀ (W : World) (b : Nat) (Y : Array Value) (u : Value), Capy W Y (weakC c) u → Blk W b 34 Y → W.rangeAt b 54 V.toList from fun W b Y u hy hb => by
    have := hy.vfAt hb
    rw [hV]
    simpa using this)
  have QCk := hide (fun W F u (hy : Capy W F c u) => check_cap F c u W hy)
  rw [← hck] at QCk
  have QP := hide (fun W (hW : Below w.heap.size w W) F u (hy : Capy W F c u) => print_val F c u W hy (ht.below hW))
  rw [← hP, ← hpe] at QP
  have QP2 := hide (fun W (hW : Below w.heap.size w W) F d u (hy : Capy W F d u) => print_val F d u W hy (ht.below hW))
  have QRP2 := hide (fun W F d u (hy : Capy W F d u) => rprint_cap F d u W hy)
  have QWk := hide (fun W F u (hy : Capy W F c u) => weak_any F c u W hy)
  rw [← hX, ← hwe] at QWk
  have QVf := hide (fun W F u (hy : Capy W F c u) => verify_any F c u W hy)
  rw [← hV, ← hwe] at QVf
  have QSz := hide (fun W F u (hy : Capy W F c u) => size_cap F c u W hy)
  rw [← hsz, ← hpe] at QSz
  have QK := hide (fun W (vf va : Value) (hf : By W vf (c.lit ++ marks 0 c.lit.length 70)) (ha : By W va c.lit) => kept_any vf va _ c.lit W hf ha la)
  rw [decide_eq_true rfl] at QK
  have QRP := hide (fun W (hW : Below w.heap.size w W) => rprint_cap cs c _ W (h.below hW))
  rw [← hP, ← hpe] at QRP
  have QRW := hide (fun W (hW : Below w.heap.size w W) => rweak_any cs c _ W (h.below hW))
  rw [← hwe] at QRW
  have QRS := hide (fun W (hW : Below w.heap.size w W) => rsize_cap cs c _ W (h.below hW))
  rw [← hsz, ← hpe] at QRS
  have QRC := hide (fun W (hW : Below w.heap.size w W) => rcheck_cap cs c _ W (h.below hW))
  rw [← hck] at QRC
  have QSm := hide (fun W Y u (hy : Capy W Y (weakC c) u) => rsame_cap X Y (weakC c) (weakC c) _ u W (HX.out.2.2 W) hy)
  rw [decide_eq_true rfl] at QSm
  have QA := hide (fun W (hW : Below w.heap.size w W) => awake_any mx W ((hW.cell (World.block_lt_of_cell? _ _ hm)).trans hm) (ht.below hW) (he.below hW) (hh.below hW))
  clear h la hm ht he hh hW hvw hck hP hpe hwe hsz hX hV
  go_enter Tryz.func7, Tryz.ntmps7
  go_upto_region 1 with fail
  rw [← HW.out]
  go_wp2_with ((with_reducible change wpList _ _ _ (⟨some 25, _, _, _, _, _⟩ :: _) _ _); refine wpList_yields (by kernel_rfl) (.agg cs) (ex_load 34 _ rfl w.heap.size 0 (by kernel_rfl) cs.toList _ (rng_of HB.out.1) Tryz.underlying34 rfl (by rw [Array.length_toList, HZ.out]; kernel_rfl)) ?_)
  refine QL.out.mono ?_
  rintro e w1 ⟨F1, A, n, k, m, rfl, f1, f2, hcy, hown, b1⟩
  obtain ⟨g, cap, hv, hg0, hg1⟩ := Own.form hown (by simp)
  injection hv with hA hm2 hk
  subst hA hk
  have H1 := hide (show F1.size = 107 ∧ F1.all (·.oneCell') = true ∧ Capy w1 F1 c (.slice (some ⟨g, 0, none⟩) n k) ∧ Own w1 W0.heap.size 5 (.slice (some ⟨g, 0, none⟩) m k) (c.lit ++ marks 0 c.lit.length 70) ∧ Below W0.heap.size W0 w1 ∧ g < w1.heap.size from ⟨f1, f2, hcy, hown, b1, hg1⟩)
  clear f1 f2 hcy hown b1 hg0 hg1 hm2
  go_wp2_with first
    | ((with_reducible change wpList _ _ _ (⟨none, .store _ (.tmp 3) _, _, _, _, _⟩ :: _) _ _); go_loud (refine wpList_store_row (o := ⟨none, .store _ (.tmp 3) _, _, _, _, _⟩) (Blk.new w1 34 Tryz.zeroCells34) F1 (by rw [H1.out.1]; kernel_rfl) H1.out.2.1 rfl 34 _ _ rfl (by rw [H1.out.1]; kernel_rfl) rfl rfl ?_; intro w2 hb hg; have S1 := hide (show Blk w2 w1.heap.size 34 F1 ∧ Below w1.heap.size w1 w2 from ⟨hb, (Below.al0 (Below.refl w1.heap.size w1) _).grown hg (by simp) (fun k hk => by injection hk with hk; omega)⟩); clear hb hg))
    | ((with_reducible change wpList _ _ _ (⟨some 29, _, _, _, _, _⟩ :: _) _ _); refine wpList_yields (by kernel_rfl) (.agg F1) (ex_load 34 _ rfl w1.heap.size 0 (by kernel_rfl) F1.toList _ (rng_of S1.out.1) Tryz.underlying34 rfl (by rw [Array.length_toList, H1.out.1]; kernel_rfl)) ?_)
  have HF := hide (show ∀ W', Below w2.heap.size w2 W' → Blk W' w1.heap.size 34 F1 ∧ Capy W' F1 c (.slice (some ⟨g, 0, none⟩) n k) ∧ Own W' W0.heap.size 5 (.slice (some ⟨g, 0, none⟩) m k) (c.lit ++ marks 0 c.lit.length 70) ∧ Blk W' w.heap.size 34 cs ∧ Below w.heap.size w W' ∧ W'.cell? ⟨w.heap.size, 106, none⟩ = some (.slice A0 c.lit.length k0) ∧ By W' (.slice A0 c.lit.length k0) c.lit from fun W' hW' => by
    have h1 := Below.step S1.out.2 hW'
    have h0 := Below.step H1.out.2.2.2.2.1 h1
    have hw := Below.step HB.out.2.1 h0
    exact ⟨S1.out.1.below' hW', H1.out.2.2.1.below h1, H1.out.2.2.2.1.below h1, HB.out.1.below' h0, hw, ((HB.out.1.below' h0).cell 106).trans HY.out.1, HY.out.2.below hw⟩)
  have R2 := hide (Below.refl w2.heap.size w2)
  refine (QCk.out _ F1 _ (HF.out _ R2.out).2.1).mono ?_
  rintro e w3 ⟨rfl, b⟩
  have R3 := hide (Below.step R2.out b)
  clear b
  go_wp2_with ((with_reducible change wpList _ _ _ (⟨some 32, _, _, _, _, _⟩ :: _) _ _); refine wpList_yields (by kernel_rfl) (.agg F1) (ex_load 34 _ rfl w1.heap.size 0 (by kernel_rfl) F1.toList _ (rng_of (HF.out _ R3.out).1) Tryz.underlying34 rfl (by rw [Array.length_toList, H1.out.1]; kernel_rfl)) ?_)
  refine (QP.out _ (HF.out _ R3.out).2.2.2.2.1 F1 _ (HF.out _ R3.out).2.1).mono ?_
  rintro e w4 ⟨rfl, b⟩
  have R4 := hide (Below.step R3.out b)
  clear b
  go_wp2_with ((with_reducible change wpList _ _ _ (⟨some 37, _, _, _, _, _⟩ :: _) _ _); refine wpList_yields (by kernel_rfl) (.agg F1) (ex_load 34 _ rfl w1.heap.size 0 (by kernel_rfl) F1.toList _ (rng_of (HF.out _ R4.out).1) Tryz.underlying34 rfl (by rw [Array.length_toList, H1.out.1]; kernel_rfl)) ?_)
  refine (QWk.out _ F1 _ (HF.out _ R4.out).2.1).mono ?_
  rintro e w5 ⟨rfl, b⟩
  have R5 := hide (Below.step R4.out b)
  clear b
  go_wp2_with first
    | ((with_reducible change wpList _ _ _ (⟨none, .store _ (.tmp 8) _, _, _, _, _⟩ :: _) _ _); go_loud (refine wpList_store_row (o := ⟨none, .store _ (.tmp 8) _, _, _, _, _⟩) (Blk.new w5 34 Tryz.zeroCells34) X (by rw [HX.out.1]; kernel_rfl) HX.out.2.1 rfl 34 _ _ rfl (by rw [HX.out.1]; kernel_rfl) rfl rfl ?_; intro w6 hb hg; have S2 := hide (show Blk w6 w5.heap.size 34 X ∧ Below w5.heap.size w5 w6 from ⟨hb, (Below.al0 (Below.refl w5.heap.size w5) _).grown hg (by simp) (fun k hk => by injection hk with hk; omega)⟩); clear hb hg))
    | ((with_reducible change wpList _ _ _ (⟨some 42, _, _, _, _, _⟩ :: _) _ _); refine wpList_yields (by kernel_rfl) (.agg F1) (ex_load 34 _ rfl w1.heap.size 0 (by kernel_rfl) F1.toList _ (rng_of (HF.out _ (Below.step R5.out S2.out.2)).1) Tryz.underlying34 rfl (by rw [Array.length_toList, H1.out.1]; kernel_rfl)) ?_)
  have R6 := hide (Below.step R5.out S2.out.2)
  refine (QVf.out _ F1 _ (HF.out _ R6.out).2.1).mono ?_
  rintro e w7 ⟨rfl, b⟩
  have R7 := hide (Below.step R6.out b)
  have B7 := hide (S2.out.1.below' b)
  clear b
  go_wp2_with first
    | ((with_reducible change wpList _ _ _ (⟨none, .store _ (.tmp 10) _, _, _, _, _⟩ :: _) _ _); go_loud (refine wpList_store_row (o := ⟨none, .store _ (.tmp 10) _, _, _, _, _⟩) (g := w7.heap.size) (t := 31) (Blk.new w7 _ _) V (HV.out.1.trans (by kernel_rfl)) HV.out.2 rfl 31 _ _ rfl ((by kernel_rfl : (Tryz.prog.info? 31).map (·.size) = some 52).trans (by rw [HV.out.1])) rfl rfl ?_; intro w8 hb hg; have S3 := hide (show Blk w8 w7.heap.size 31 V ∧ Below w7.heap.size w7 w8 from ⟨hb, (Below.al0 (Below.refl w7.heap.size w7) _).grown hg (by simp) (fun k hk => by injection hk with hk; omega)⟩); clear hb hg))
    | ((with_reducible change wpList _ _ _ (⟨some 47, _, _, _, _, _⟩ :: _) _ _); refine wpList_yields (by kernel_rfl) (.agg F1) (ex_load 34 _ rfl w1.heap.size 0 (by kernel_rfl) F1.toList _ (rng_of (HF.out _ (Below.step R7.out S3.out.2)).1) Tryz.underlying34 rfl (by rw [Array.length_toList, H1.out.1]; kernel_rfl)) ?_)
  have R8 := hide (Below.step R7.out S3.out.2)
  refine (QSz.out _ F1 _ (HF.out _ R8.out).2.1).mono ?_
  rintro e w9 ⟨rfl, b⟩
  have R9 := hide (Below.step R8.out b)
  have B9 := hide (show Blk w9 w5.heap.size 34 X ∧ Blk w9 w7.heap.size 31 V from ⟨(B7.out.below' S3.out.2).below' b, S3.out.1.below' b⟩)
  clear b
  have y1 := (HF.out _ R9.out).2.2.2.2.2.1
  go_wp2_with fail
  refine (QK.out _ _ _ (HF.out _ R9.out).2.2.1.by_ (HF.out _ R9.out).2.2.2.2.2.2).mono ?_
  rintro e w10 ⟨rfl, b⟩
  have R10 := hide (Below.step R9.out b)
  have B10 := hide (show Blk w10 w5.heap.size 34 X ∧ Blk w10 w7.heap.size 31 V from ⟨B9.out.1.below' b, B9.out.2.below' b⟩)
  clear b y1
  go_wp2_with fail
  refine (over_any W0.heap.size _ _ w10 (HF.out _ R10.out).2.2.1 HLB.out).mono ?_
  rintro e w11 ⟨rfl, hbel, hgr, l', ho, hl⟩
  have hgr' : w10.grownBy w11 (some g) := hgr
  obtain ⟨c2, hc2⟩ : ∃ d : CP, d = ⟨c.kind, c.dir, c.rd, c.vf, l'.take c.lit.length⟩ := ⟨_, rfl⟩
  have HG := hide (show Blk w11 w1.heap.size 34 F1 ∧ Blk w11 w5.heap.size 34 X ∧ Blk w11 w7.heap.size 31 V ∧ Blk w11 w.heap.size 34 cs ∧ Capy w11 F1 c2 (.slice (some ⟨g, 0, none⟩) n k) ∧ Below w.heap.size w w11 from by
    have p := HF.out _ R10.out
    have g1 : g < w1.heap.size := H1.out.2.2.2.2.2
    have g5 : w1.heap.size ≤ w5.heap.size := by have := S1.out.2.size; have := R5.out.size; omega
    have g7 : w5.heap.size ≤ w7.heap.size := by have := B7.out.lt; omega
    have p2 := p.2.1
    obtain ⟨A3, k3, hv3, -, -, -⟩ := p2.by_.form
    injection hv3 with e1 e2 e3
    have hn : n = (l'.take c.lit.length).length := by rw [List.length_take, hl, List.length_append]; omega
    have hlow : w.heap.size < W0.heap.size := HB.out.2.2
    refine ⟨p.1.grown hgr' (by simp; omega), B10.out.1.grown hgr' (by simp; omega), B10.out.2.grown hgr' (by simp; omega), (hbel.block _ hlow).trans p.2.2.2.1, ⟨?_, ?_, ?_, ?_⟩, p.2.2.2.2.1.trans (hbel.mono (by omega))⟩
    · rw [p2.eq, hc2]; rfl
    · rw [hc2]; exact p2.wf
    · rw [hc2]; exact p2.i64
    · rw [hc2, hn]; exact Own.front (r := l'.drop c.lit.length) (by rw [List.take_append_drop]; exact ho))
  have HF2 := hide (show ∀ W', Below w11.heap.size w11 W' → Blk W' w1.heap.size 34 F1 ∧ Blk W' w5.heap.size 34 X ∧ Blk W' w7.heap.size 31 V ∧ Blk W' w.heap.size 34 cs ∧ Capy W' F1 c2 (.slice (some ⟨g, 0, none⟩) n k) ∧ Below w.heap.size w W' from fun W' hW' => ⟨HG.out.1.below' hW', HG.out.2.1.below' hW', HG.out.2.2.1.below' hW', HG.out.2.2.2.1.below' hW', HG.out.2.2.2.2.1.below hW', Below.step HG.out.2.2.2.2.2 hW'⟩)
  obtain ⟨P2, hP2⟩ : ∃ s, s = prS c2 := ⟨_, rfl⟩
  obtain ⟨q2, hq2⟩ : ∃ s, s = prE c2 := ⟨_, rfl⟩
  have QP3 := hide (fun W (hW : Below w.heap.size w W) (hy : Capy W F1 c2 (.slice (some ⟨g, 0, none⟩) n k)) => QP2.out W hW F1 c2 _ hy)
  have QR3 := hide (fun W (hy : Capy W F1 c2 (.slice (some ⟨g, 0, none⟩) n k)) => QRP2.out W F1 c2 _ hy)
  rw [← hP2, ← hq2] at QP3 QR3
  have T11 := hide (Below.refl w11.heap.size w11)
  clear hbel hgr hgr' ho hl hc2 hP2 hq2
  go_wp2_with ((with_reducible change wpList _ _ _ (⟨some 59, _, _, _, _, _⟩ :: _) _ _); refine wpList_yields (by kernel_rfl) (.agg F1) (ex_load 34 _ rfl w1.heap.size 0 (by kernel_rfl) F1.toList _ (rng_of (HF2.out _ T11.out).1) Tryz.underlying34 rfl (by rw [Array.length_toList, H1.out.1]; kernel_rfl)) ?_)
  refine (QP3.out _ (HF2.out _ T11.out).2.2.2.2.2 (HF2.out _ T11.out).2.2.2.2.1).mono ?_
  rintro e w12 ⟨rfl, b⟩
  have T12 := hide (Below.step T11.out b)
  clear b
  go_wp2_with ((with_reducible change wpList _ _ _ (⟨some 64, _, _, _, _, _⟩ :: _) _ _); refine wpList_yields (by kernel_rfl) (.agg F1) (ex_load 34 _ rfl w1.heap.size 0 (by kernel_rfl) F1.toList _ (rng_of (HF2.out _ T12.out).1) Tryz.underlying34 rfl (by rw [Array.length_toList, H1.out.1]; kernel_rfl)) ?_)
  refine (QR3.out _ (HF2.out _ T12.out).2.2.2.2.1).mono ?_
  rintro e w13 ⟨rfl, b⟩
  have T13 := hide (Below.step T12.out b)
  clear b
  go_wp2_with ((with_reducible change wpList _ _ _ (⟨some 77, _, _, _, _, _⟩ :: _) _ _); refine wpList_yields (by kernel_rfl) (.agg cs) (ex_load 34 _ rfl w.heap.size 0 (by kernel_rfl) cs.toList _ (rng_of (HF2.out _ T13.out).2.2.2.1) Tryz.underlying34 rfl (by rw [Array.length_toList, HZ.out]; kernel_rfl)) ?_)
  refine (QRP.out _ (HF2.out _ T13.out).2.2.2.2.2).mono ?_
  rintro e w14 ⟨rfl, b⟩
  have T14 := hide (Below.step T13.out b)
  clear b
  go_wp2_with ((with_reducible change wpList _ _ _ (⟨some 82, _, _, _, _, _⟩ :: _) _ _); refine wpList_yields (by kernel_rfl) (.agg cs) (ex_load 34 _ rfl w.heap.size 0 (by kernel_rfl) cs.toList _ (rng_of (HF2.out _ T14.out).2.2.2.1) Tryz.underlying34 rfl (by rw [Array.length_toList, HZ.out]; kernel_rfl)) ?_)
  refine (QRW.out _ (HF2.out _ T14.out).2.2.2.2.2).mono ?_
  rintro e w15 ⟨Y, u, rfl, hy, b⟩
  have T15 := hide (Below.step T14.out b)
  have HY2 := hide (show Y.size = 107 ∧ Y.all (·.oneCell') = true ∧ Capy w15 Y (weakC c) u from ⟨hy.size, by rw [hy.eq]; obtain ⟨A, k, rfl, -, -, -⟩ := hy.by_.form; exact CP.cells_one _ _ _ _, hy⟩)
  clear b hy
  go_wp2_with first
    | ((with_reducible change wpList _ _ _ (⟨none, .store _ (.tmp 20) _, _, _, _, _⟩ :: _) _ _); go_loud (refine wpList_store_row (o := ⟨none, .store _ (.tmp 20) _, _, _, _, _⟩) (Blk.new w15 34 Tryz.zeroCells34) Y (by rw [HY2.out.1]; kernel_rfl) HY2.out.2.1 rfl 34 _ _ rfl (by rw [HY2.out.1]; kernel_rfl) rfl rfl ?_; intro w16 hb hg; have S4 := hide (show Blk w16 w15.heap.size 34 Y ∧ Below w15.heap.size w15 w16 from ⟨hb, (Below.al0 (Below.refl w15.heap.size w15) _).grown hg (by simp) (fun k hk => by injection hk with hk; omega)⟩); clear hb hg))
    | ((with_reducible change wpList _ _ _ (⟨some 87, _, _, _, _, _⟩ :: _) _ _); refine wpList_yields (by kernel_rfl) (.agg cs) (ex_load 34 _ rfl w.heap.size 0 (by kernel_rfl) cs.toList _ (rng_of (HF2.out _ (Below.step T15.out S4.out.2)).2.2.2.1) Tryz.underlying34 rfl (by rw [Array.length_toList, HZ.out]; kernel_rfl)) ?_)
  have T16 := hide (Below.step T15.out S4.out.2)
  refine (QRS.out _ (HF2.out _ T16.out).2.2.2.2.2).mono ?_
  rintro e w17 ⟨rfl, b⟩
  have T17 := hide (Below.step T16.out b)
  have B17 := hide (show Blk w17 w15.heap.size 34 Y ∧ Capy w17 Y (weakC c) u from ⟨S4.out.1.below' b, HY2.out.2.2.below (Below.step S4.out.2 b)⟩)
  clear b
  go_wp2_with ((with_reducible change wpList _ _ _ (⟨some 92, _, _, _, _, _⟩ :: _) _ _); refine wpList_yields (by kernel_rfl) (.agg cs) (ex_load 34 _ rfl w.heap.size 0 (by kernel_rfl) cs.toList _ (rng_of (HF2.out _ T17.out).2.2.2.1) Tryz.underlying34 rfl (by rw [Array.length_toList, HZ.out]; kernel_rfl)) ?_)
  refine (QRC.out _ (HF2.out _ T17.out).2.2.2.2.2).mono ?_
  rintro e w18 ⟨rfl, b⟩
  have T18 := hide (Below.step T17.out b)
  have B18 := hide (show Blk w18 w15.heap.size 34 Y ∧ Capy w18 Y (weakC c) u from ⟨B17.out.1.below' b, B17.out.2.below b⟩)
  clear b
  go_wp2_with first
    | ((with_reducible change wpList _ _ _ (⟨some 115, _, _, _, _, _⟩ :: _) _ _); refine wpList_yields (by kernel_rfl) (.agg X) (ex_load 34 _ rfl w5.heap.size 0 (by kernel_rfl) X.toList _ (rng_of (HF2.out _ T18.out).2.1) Tryz.underlying34 rfl (by rw [Array.length_toList, HX.out.1]; kernel_rfl)) ?_)
    | ((with_reducible change wpList _ _ _ (⟨some 116, _, _, _, _, _⟩ :: _) _ _); refine wpList_yields (by kernel_rfl) (.agg Y) (ex_load 34 _ rfl w15.heap.size 0 (by kernel_rfl) Y.toList _ (rng_of B18.out.1) Tryz.underlying34 rfl (by rw [Array.length_toList, HY2.out.1]; kernel_rfl)) ?_)
  refine (QSm.out _ Y u B18.out.2).mono ?_
  rintro e w19 ⟨rfl, b⟩
  have T19 := hide (Below.step T18.out b)
  have B19 := hide (show Blk w19 w15.heap.size 34 Y ∧ Capy w19 Y (weakC c) u from ⟨B18.out.1.below' b, B18.out.2.below b⟩)
  clear b
  go_wp2_with first
    | ((with_reducible change wpList _ _ _ (⟨some 124, _, _, _, _, _⟩ :: _) _ _); refine wpList_yields (by kernel_rfl) (.agg V) (ex_load 31 _ rfl w7.heap.size 0 (by kernel_rfl) V.toList _ (rng_of (HF2.out _ T19.out).2.2.1) Tryz.underlying31 rfl ((by kernel_rfl : (Tryz.prog.info? 31).map (·.size) = some 52).trans (by rw [Array.length_toList, HV.out.1]))) ?_)
    | ((with_reducible change wpList _ _ _ (⟨some 126, _, _, _, _, _⟩ :: _) _ _); refine wpList_yields (by kernel_rfl) (.agg V) (ex_load 31 _ rfl w15.heap.size 54 (by kernel_rfl) V.toList _ (HVR.out _ _ _ _ B19.out.2 B19.out.1) Tryz.underlying31 rfl ((by kernel_rfl : (Tryz.prog.info? 31).map (·.size) = some 52).trans (by rw [Array.length_toList, HV.out.1]))) ?_)
    | ((with_reducible change wpList _ _ _ (⟨some 127, _, _, _, _, _⟩ :: _) _ _); refine wpList_yields (by kernel_rfl) (.bool true) (ex_eql 31 _ _ rfl V V (by kernel_rfl) (by kernel_rfl) (by kernel_rfl) _ (HVE.out _)) ?_)
  refine (QA.out _ (HF2.out _ T19.out).2.2.2.2.2).mono ?_
  rintro e w20 ⟨rfl, b⟩
  have T20 := hide (Below.step T19.out b)
  clear b
  go_wp2
  go_ret
  exact ⟨rfl, (HF2.out _ T20.out).2.2.2.2.2⟩
end Go.Proofs.YtcpceaflnnkhnaaGreatDoor
