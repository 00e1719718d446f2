/- Joined texts: SamC. -/
import Derived.Test.YtcpceaflnnkhnaaGreatDoorJ16

/- A capability that is lent, with marks behind its bytes; the law DeedSame. (Printed by wip/samc.py.) -/
namespace Go.Proofs.YtcpceaflnnkhnaaGreatDoor
open Go.RowKit

theorem rng_of {W : World} {g : Nat} {t : TypeId} {cs : Array Value} (h : Blk W g t cs) : W.rangeAt g 0 cs.toList := fun j u hu => by rw [Nat.zero_add, h.cell j]; simpa using hu
theorem cells_set {c : CP} (h : c.wf) (v u : Value) : (c.cells v).setIfInBounds 106 u = c.cells u := by
  unfold CP.cells CP.cellsL
  apply Array.toList_inj.1
  rw [Array.toList_setIfInBounds]
  show List.set (_ :: _ :: (c.rd.cells ++ (c.vf.cells ++ [v]))) (104 + 1 + 1) u = _
  rw [List.set_cons_succ, List.set_cons_succ, List.set_append_right _ _ (by rw [RV.cells_length h.1]; omega), List.set_append_right _ _ (by rw [RV.cells_length h.1, RV.cells_length h.2.1]; omega), RV.cells_length h.1, RV.cells_length h.2.1]
  rfl
set_option maxRecDepth 100000 in
set_option maxHeartbeats 4000000 in
theorem lentc_any (cs : Array Value) (c : CP) (v : Value) (w : World) (h : Capy w cs c v) (hl : c.lit.length ≤ 140737488355000) :
    Calls Tryz.prog 15 #[.agg cs] w fun e w' => ∃ F A n k m, e = .returned (.tuple #[.agg F, .slice A m k]) ∧ F.size = 107 ∧ F.all (·.oneCell') = true ∧ Capy w' F c (.slice A n k) ∧ Own w' w.heap.size 5 (.slice A m k) (c.lit ++ marks 0 c.lit.length 70) ∧ Below w.heap.size w w' := by
  obtain ⟨W, hW⟩ : ∃ W, W = (w.alloc (.cells cs 34)).alloc (.cells Tryz.zeroCells34 34) := ⟨_, rfl⟩
  have HW := hide hW
  have HB := hide (show Blk W w.heap.size 34 cs ∧ Blk W (w.heap.size + 1) 34 Tryz.zeroCells34 ∧ Below w.heap.size w W from by
    have b1 := (Below.refl w.heap.size w).alloc (Nat.le_refl _) (.cells cs 34)
    have k2 := Blk.new (w.alloc (.cells cs 34)) 34 Tryz.zeroCells34
    simp only [World.size_alloc] at k2
    rw [hW]
    exact ⟨(Blk.new w 34 cs).alloc _, k2, b1.alloc b1.size _⟩)
  have QL := hide (lent_any v c.lit W (h.by_.below HB.out.2.2) hl)
  have c6 : W.cell? ⟨w.heap.size, 106, none⟩ = some v := by rw [HB.out.1.cell]; exact h.lit
  obtain ⟨A0, k0, rfl, hk0, hm0, -⟩ := h.by_.form
  unfold maxLen at hm0
  have HC := hide h
  obtain ⟨n, hn⟩ : ∃ n, n = c.lit.length := ⟨_, rfl⟩
  have HN := hide hn
  rw [← hn] at c6 hl hk0
  clear h hW hn
  go_enter Tryz.func15, Tryz.ntmps15
  go_upto_region 1 with fail
  rw [← HW.out]
  go_wp2_with fail
  rw [HN.out]
  refine QL.out.mono ?_
  rintro e w1 ⟨v1, rfl, ho1, b1⟩
  obtain ⟨g, cap, rfl, hg0, hg1⟩ := Own.form ho1 (by simp)
  have hlen : (c.lit ++ marks 0 c.lit.length 70).length = n + 70 := by rw [HN.out]; simp
  rw [hlen]
  rw [hlen] at ho1
  have c61 : w1.cell? ⟨w.heap.size, 106, none⟩ = some (.slice A0 n k0) := (b1.cell (World.block_lt_of_cell? _ _ c6)).trans c6
  have f61 := (HB.out.1.below' b1).frozen 106
  have hcapn : n + 70 ≤ cap ∧ cap ≤ 9223372036854775807 := by
    rcases ho1.2 with ⟨h1, -⟩ | ⟨_, _, _, h1, -, -, h2, h3, -⟩
    · cases h1
    · injection h1 with _ _ h1
      subst h1
      rw [hlen] at h2
      unfold maxLen at h3
      omega
  have i1 : (n : Int) ≤ (cap : Int) := by omega
  have H1 := hide (And.intro ho1 (And.intro b1 hlen))
  have hne1 : g ≠ w.heap.size := by have := HB.out.1.lt; omega
  have HK := hide (And.intro hne1 hcapn)
  clear ho1 b1 hlen c6 hg0 hg1 hne1 hcapn
  obtain ⟨F, hF⟩ : ∃ F, F = cs.setIfInBounds 106 (.slice (some ⟨g, 0, none⟩) n cap) := ⟨_, rfl⟩
  have HF := hide (show F.size = 107 ∧ F.all (·.oneCell') = true ∧ F = c.cells (.slice (some ⟨g, 0, none⟩) n cap) from by
    have e1 : F = c.cells (.slice (some ⟨g, 0, none⟩) n cap) := by rw [hF, HC.out.eq]; exact cells_set HC.out.wf _ _
    rw [e1]
    exact ⟨CP.cells_size HC.out.wf _, CP.cells_one _ _ _ _, rfl⟩)
  have H2 := hide (show Blk (w1.setCell ⟨w.heap.size, 106, none⟩ (.slice (some ⟨g, 0, none⟩) n cap)) w.heap.size 34 F ∧ Blk (w1.setCell ⟨w.heap.size, 106, none⟩ (.slice (some ⟨g, 0, none⟩) n cap)) (w.heap.size + 1) 34 Tryz.zeroCells34 ∧ Own (w1.setCell ⟨w.heap.size, 106, none⟩ (.slice (some ⟨g, 0, none⟩) n cap)) w.heap.size 5 (.slice (some ⟨g, 0, none⟩) (n + 70) cap) (c.lit ++ marks 0 c.lit.length 70) ∧ Below w.heap.size w (w1.setCell ⟨w.heap.size, 106, none⟩ (.slice (some ⟨g, 0, none⟩) n cap)) from
    ⟨by rw [hF]; exact (HB.out.1.below' H1.out.2.1).set_ 106 _, (HB.out.2.1.below' H1.out.2.1).far (by simp) _, Own.lower (Own.apart H1.out.1 (HB.out.1.below' H1.out.2.1) (by decide) (store_grown _ _ _ _)) HB.out.2.2.size, (Below.step HB.out.2.2 H1.out.2.1).setCell (Nat.le_refl _) _⟩)
  clear hF
  go_wp2_with first
    | ((with_reducible change wpList _ _ _ (⟨some 14, _, _, _, _, _⟩ :: _) _ _); refine wpList_load_row (o := ⟨some 14, .load _ _, _, _, _, _⟩) rfl 34 _ rfl w.heap.size rfl 34 F (0, 0) _ H2.out.1 Tryz.underlying34 rfl (by rw [HF.out.1]; kernel_rfl) ?_)
    | ((with_reducible change wpList _ _ _ (⟨none, .store _ (.tmp 2) _, _, _, _, _⟩ :: _) _ _); go_loud (refine wpList_store_row (o := ⟨none, .store _ (.tmp 2) _, _, _, _, _⟩) H2.out.2.1 F (by rw [HF.out.1]; kernel_rfl) HF.out.2.1 rfl 34 _ _ rfl (by rw [HF.out.1]; kernel_rfl) rfl rfl ?_; intro w7 hb7 hg7))
  have hown := Own.apart H2.out.2.2.1 H2.out.2.1 (by decide) hg7
  refine bodyPost_ret (results_row_tmp rfl _ _ (w.heap.size + 1) 34 F (0, 0) _ rfl hb7 Tryz.underlying34 rfl (by rw [HF.out.1]; kernel_rfl)) rfl ⟨F, some ⟨g, 0, none⟩, n, cap, n + 70, rfl, HF.out.1, HF.out.2.1, ?_, hown, ?_⟩
  · refine ⟨HF.out.2.2, HC.out.wf, HC.out.i64, ?_⟩
    rw [HN.out]
    exact Own.front hown
  · exact H2.out.2.2.2.grown hg7 H2.out.2.2.2.size fun k hk => (by injection hk with hk; omega)
set_option maxRecDepth 100000 in
set_option maxHeartbeats 16000000 in
theorem law_deedsame (cs ds : Array Value) (a b : CP) (v u : Value) (mx : Int) (w : World) (h : Capy w cs a v) (h2 : Capy w ds b u) (la : a.lit.length ≤ 140737488355000) (lb : b.lit.length ≤ 140737488355000) (hm : w.cell? ⟨1, 0, none⟩ = some (.int .i64 mx)) (ht : Tab w) (he : Err w) (hh : Handle w) :
    Calls Tryz.prog 4 #[.agg cs, .agg ds] w fun e w' => e = .returned (.bool true) ∧ Below w.heap.size w w' := by
  obtain ⟨W, hW⟩ : ∃ W, W = (w.alloc (.cells cs 34)).alloc (.cells ds 34) := ⟨_, rfl⟩
  have HW := hide hW
  have HB := hide (show Blk W w.heap.size 34 cs ∧ Blk W (w.heap.size + 1) 34 ds ∧ Below w.heap.size w W from by
    have b1 := (Below.refl w.heap.size w).alloc (Nat.le_refl _) (.cells cs 34)
    have k2 := Blk.new (w.alloc (.cells cs 34)) 34 ds
    simp only [World.size_alloc] at k2
    rw [hW]
    exact ⟨(Blk.new w 34 cs).alloc _, k2, b1.alloc b1.size _⟩)
  have HZ := hide (And.intro h.size h2.size)
  have QL1 := hide (fun W (hW : Below w.heap.size w W) => lentc_any cs a v W (h.below hW) la)
  have QL2 := hide (fun W (hW : Below w.heap.size w W) => lentc_any ds b u W (h2.below hW) lb)
  have QR := hide (fun W (hW : Below w.heap.size w W) => rsame_cap cs ds a b v u W (h.below hW) (h2.below hW))
  have QS := hide (fun W (X Y : Array Value) (c d : CP) (x y : Value) (hx : Capy W X c x) (hy : Capy W Y d y) => same_cap X Y c d x y W hx hy)
  have QK1 := hide (fun W (vf va : Value) (hf : By W vf (a.lit ++ marks 0 a.lit.length 70)) (ha : By W va a.lit) => kept_any vf va _ a.lit W hf ha la)
  have QK2 := hide (fun W (vf va : Value) (hf : By W vf (b.lit ++ marks 0 b.lit.length 70)) (ha : By W va b.lit) => kept_any vf va _ b.lit W hf ha lb)
  rw [decide_eq_true rfl] at QK1 QK2
  have QA := hide (fun W (hW : Below w.heap.size w W) => awake_any mx W ((hW.cell (World.block_lt_of_cell? _ _ hm)).trans hm) (ht.below hW) (he.below hW) (hh.below hW))
  have HY := hide (And.intro h.lit (And.intro h2.lit (And.intro h.by_ h2.by_)))
  obtain ⟨q, hq⟩ : ∃ q, q = decide (a = b) := ⟨_, rfl⟩
  have hq2 : q = decide (b = a) := by rw [hq, Bool.eq_iff_iff]; simp [eq_comm]
  rw [← hq] at QR
  obtain ⟨A1', k1', hv1, -, -, -⟩ := h.by_.form
  obtain ⟨A2', k2', hv2, -, -, -⟩ := h2.by_.form
  have HQ := hide (And.intro hq hq2)
  clear hq hq2 h h2 la lb hm ht he hh hW
  subst hv1 hv2
  cases q
  all_goals
    obtain ⟨hq, hq2⟩ := HQ.out
    have HQ1 := hide hq
    have HQ2 := hide hq2
    clear hq hq2
    go_enter Tryz.func4, Tryz.ntmps4
    go_upto_region 1 with fail
    rw [← HW.out]
    go_wp2_with ((with_reducible change wpList _ _ _ (⟨some 11, _, _, _, _, _⟩ :: _) _ _); refine wpList_load_row (o := ⟨some 11, .load _ _, _, _, _, _⟩) rfl 34 _ rfl w.heap.size rfl 34 cs (0, 0) _ HB.out.1 Tryz.underlying34 rfl (by rw [HZ.out.1]; kernel_rfl) ?_)
    refine (QL1.out _ HB.out.2.2).mono ?_
    rintro e w1 ⟨F1, A1, n1, k1, m1, rfl, f1, f2, hcy1, ho1, b1⟩
    have H1 := hide (And.intro f1 (And.intro f2 (And.intro hcy1 (And.intro ho1 (Below.step HB.out.2.2 b1)))))
    have K1 := hide (And.intro (HB.out.1.below' b1) (HB.out.2.1.below' b1))
    clear f1 f2 hcy1 ho1 b1
    go_wp2_with first
      | ((with_reducible change wpList _ _ _ (⟨none, .store _ (.tmp 5) _, _, _, _, _⟩ :: _) _ _); go_loud (refine wpList_store_row (o := ⟨none, .store _ (.tmp 5) _, _, _, _, _⟩) (Blk.new w1 34 Tryz.zeroCells34) F1 (by rw [H1.out.1]; kernel_rfl) H1.out.2.1 rfl 34 _ _ rfl (by rw [H1.out.1]; kernel_rfl) rfl rfl ?_; intro w2 hb hg; have S1 := hide (show Blk w2 w1.heap.size 34 F1 ∧ Below w1.heap.size w1 w2 from ⟨hb, (Below.al0 (Below.refl w1.heap.size w1) _).grown hg (by simp) (fun k hk => by injection hk with hk; omega)⟩); clear hb hg))
      | ((with_reducible change wpList _ _ _ (⟨some 16, _, _, _, _, _⟩ :: _) _ _); refine wpList_load_row (o := ⟨some 16, .load _ _, _, _, _, _⟩) rfl 34 _ rfl (w.heap.size + 1) rfl 34 ds (0, 0) _ (K1.out.2.below' S1.out.2) Tryz.underlying34 rfl (by rw [HZ.out.2]; kernel_rfl) ?_)
    refine (QL2.out _ (Below.step H1.out.2.2.2.2 S1.out.2)).mono ?_
    rintro e w3 ⟨F2, A2, n2, k2, m2, rfl, f1, f2, hcy2, ho2, b3⟩
    have b13 := Below.step S1.out.2 b3
    have H3 := hide (And.intro f1 (And.intro f2 (And.intro hcy2 (And.intro ho2 (Below.step H1.out.2.2.2.2 b13)))))
    have K3 := hide (show Blk w3 w.heap.size 34 cs ∧ Blk w3 (w.heap.size + 1) 34 ds ∧ Blk w3 w1.heap.size 34 F1 ∧ Capy w3 F1 a (.slice A1 n1 k1) ∧ By w3 (.slice A1 m1 k1) (a.lit ++ marks 0 a.lit.length 70) from ⟨K1.out.1.below' b13, K1.out.2.below' b13, S1.out.1.below' b3, H1.out.2.2.1.below b13, (Own.below H1.out.2.2.2.1 b13).by_⟩)
    clear f1 f2 hcy2 ho2 b3 b13
    go_wp2_with first
      | ((with_reducible change wpList _ _ _ (⟨none, .store _ (.tmp 7) _, _, _, _, _⟩ :: _) _ _); go_loud (refine wpList_store_row (o := ⟨none, .store _ (.tmp 7) _, _, _, _, _⟩) (Blk.new w3 34 Tryz.zeroCells34) F2 (by rw [H3.out.1]; kernel_rfl) H3.out.2.1 rfl 34 _ _ rfl (by rw [H3.out.1]; kernel_rfl) rfl rfl ?_; intro w5 hb hg; have S3 := hide (show Blk w5 w3.heap.size 34 F2 ∧ Below w3.heap.size w3 w5 from ⟨hb, (Below.al0 (Below.refl w3.heap.size w3) _).grown hg (by simp) (fun k hk => by injection hk with hk; omega)⟩); clear hb hg))
      | ((with_reducible change wpList _ _ _ (⟨some 20, _, _, _, _, _⟩ :: _) _ _); refine wpList_load_row (o := ⟨some 20, .load _ _, _, _, _, _⟩) rfl 34 _ rfl w.heap.size rfl 34 cs (0, 0) _ (K3.out.1.below' S3.out.2) Tryz.underlying34 rfl (by rw [HZ.out.1]; kernel_rfl) ?_)
      | ((with_reducible change wpList _ _ _ (⟨some 21, _, _, _, _, _⟩ :: _) _ _); refine wpList_load_row (o := ⟨some 21, .load _ _, _, _, _, _⟩) rfl 34 _ rfl (w.heap.size + 1) rfl 34 ds (0, 0) _ (K3.out.2.1.below' S3.out.2) Tryz.underlying34 rfl (by rw [HZ.out.2]; kernel_rfl) ?_)
    have HF := hide (show ∀ W', Below w5.heap.size w5 W' → Blk W' w1.heap.size 34 F1 ∧ Blk W' w3.heap.size 34 F2 ∧ Capy W' F1 a (.slice A1 n1 k1) ∧ Capy W' F2 b (.slice A2 n2 k2) ∧ By W' (.slice A1 m1 k1) (a.lit ++ marks 0 a.lit.length 70) ∧ By W' (.slice A2 m2 k2) (b.lit ++ marks 0 b.lit.length 70) ∧ W'.cell? ⟨w.heap.size, 106, none⟩ = some (.slice A1' a.lit.length k1') ∧ W'.cell? ⟨w.heap.size + 1, 106, none⟩ = some (.slice A2' b.lit.length k2') ∧ By W' (.slice A1' a.lit.length k1') a.lit ∧ By W' (.slice A2' b.lit.length k2') b.lit ∧ Below w.heap.size w W' from fun W' hW' => by
      have h35 := Below.step S3.out.2 hW'
      have hw := Below.step H3.out.2.2.2.2 h35
      exact ⟨K3.out.2.2.1.below' h35, S3.out.1.below' hW', K3.out.2.2.2.1.below h35, H3.out.2.2.1.below h35, K3.out.2.2.2.2.below h35, (Own.below H3.out.2.2.2.1 h35).by_, by rw [(K3.out.1.below' h35).cell]; exact HY.out.1, by rw [(K3.out.2.1.below' h35).cell]; exact HY.out.2.1, HY.out.2.2.1.below hw, HY.out.2.2.2.below hw, hw⟩)
    have R5 := hide (Below.refl w5.heap.size w5)
    have HZ2 := hide (And.intro H1.out.1 H3.out.1)
    refine (QR.out _ (HF.out _ R5.out).2.2.2.2.2.2.2.2.2.2).mono ?_
    rintro e w6 ⟨rfl, b6⟩
    have R6 := hide (Below.step R5.out b6)
    clear b6
    go_wp2_with first
      | ((with_reducible change wpList _ _ _ (⟨some 23, _, _, _, _, _⟩ :: _) _ _); refine wpList_yields (by kernel_rfl) (.agg F1) (ex_load 34 _ rfl w1.heap.size 0 (by kernel_rfl) F1.toList _ (rng_of (HF.out _ R6.out).1) Tryz.underlying34 rfl (by rw [Array.length_toList, HZ2.out.1]; kernel_rfl)) ?_)
      | ((with_reducible change wpList _ _ _ (⟨some 24, _, _, _, _, _⟩ :: _) _ _); refine wpList_yields (by kernel_rfl) (.agg F2) (ex_load 34 _ rfl w3.heap.size 0 (by kernel_rfl) F2.toList _ (rng_of (HF.out _ R6.out).2.1) Tryz.underlying34 rfl (by rw [Array.length_toList, HZ2.out.2]; kernel_rfl)) ?_)
    refine (QS.out _ F1 F2 a b _ _ (HF.out _ R6.out).2.2.1 (HF.out _ R6.out).2.2.2.1).mono ?_
    rw [← HQ1.out]
    rintro e w7 ⟨rfl, b7⟩
    have R7 := hide (Below.step R6.out b7)
    clear b7
    go_wp2_with first
      | ((with_reducible change wpList _ _ _ (⟨some 29, _, _, _, _, _⟩ :: _) _ _); refine wpList_yields (by kernel_rfl) (.agg F2) (ex_load 34 _ rfl w3.heap.size 0 (by kernel_rfl) F2.toList _ (rng_of (HF.out _ R7.out).2.1) Tryz.underlying34 rfl (by rw [Array.length_toList, HZ2.out.2]; kernel_rfl)) ?_)
      | ((with_reducible change wpList _ _ _ (⟨some 30, _, _, _, _, _⟩ :: _) _ _); refine wpList_yields (by kernel_rfl) (.agg F1) (ex_load 34 _ rfl w1.heap.size 0 (by kernel_rfl) F1.toList _ (rng_of (HF.out _ R7.out).1) Tryz.underlying34 rfl (by rw [Array.length_toList, HZ2.out.1]; kernel_rfl)) ?_)
    refine (QS.out _ F2 F1 b a _ _ (HF.out _ R7.out).2.2.2.1 (HF.out _ R7.out).2.2.1).mono ?_
    rw [← HQ2.out]
    rintro e w8 ⟨rfl, b8⟩
    have R8 := hide (Below.step R7.out b8)
    clear b8
    go_wp2_with first
      | ((with_reducible change wpList _ _ _ (⟨some 36, _, _, _, _, _⟩ :: _) _ _); refine wpList_yields (by kernel_rfl) (.agg F1) (ex_load 34 _ rfl w1.heap.size 0 (by kernel_rfl) F1.toList _ (rng_of (HF.out _ R8.out).1) Tryz.underlying34 rfl (by rw [Array.length_toList, HZ2.out.1]; kernel_rfl)) ?_)
      | ((with_reducible change wpList _ _ _ (⟨some 37, _, _, _, _, _⟩ :: _) _ _); refine wpList_yields (by kernel_rfl) (.agg F1) (ex_load 34 _ rfl w1.heap.size 0 (by kernel_rfl) F1.toList _ (rng_of (HF.out _ R8.out).1) Tryz.underlying34 rfl (by rw [Array.length_toList, HZ2.out.1]; kernel_rfl)) ?_)
    refine (QS.out _ F1 F1 a a _ _ (HF.out _ R8.out).2.2.1 (HF.out _ R8.out).2.2.1).mono ?_
    rw [decide_eq_true rfl]
    rintro e w9 ⟨rfl, b9⟩
    have R9 := hide (Below.step R8.out b9)
    clear b9
    have y1 := (HF.out _ R9.out).2.2.2.2.2.2.1
    go_wp2_with fail
    refine (QK1.out _ _ _ (HF.out _ R9.out).2.2.2.2.1 (HF.out _ R9.out).2.2.2.2.2.2.2.2.1).mono ?_
    rintro e w10 ⟨rfl, b10⟩
    have R10 := hide (Below.step R9.out b10)
    clear b10 y1
    have y2 := (HF.out _ R10.out).2.2.2.2.2.2.2.1
    go_wp2_with fail
    refine (QK2.out _ _ _ (HF.out _ R10.out).2.2.2.2.2.1 (HF.out _ R10.out).2.2.2.2.2.2.2.2.2.1).mono ?_
    rintro e w11 ⟨rfl, b11⟩
    have R11 := hide (Below.step R10.out b11)
    clear b11 y2
    go_wp2_with fail
    refine (QA.out _ (HF.out _ R11.out).2.2.2.2.2.2.2.2.2.2).mono ?_
    rintro e w12 ⟨rfl, b12⟩
    have R12 := hide (Below.step (HF.out _ R11.out).2.2.2.2.2.2.2.2.2.2 b12)
    clear b12
    go_wp2
    go_ret
    exact ⟨rfl, R12.out⟩
end Go.Proofs.YtcpceaflnnkhnaaGreatDoor
