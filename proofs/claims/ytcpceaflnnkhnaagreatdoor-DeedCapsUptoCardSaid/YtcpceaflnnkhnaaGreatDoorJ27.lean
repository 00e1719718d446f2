/- Joined texts: DdWeak. -/
import Derived.Test.YtcpceaflnnkhnaaGreatDoorJ26

/- The law DeedWeak. (Printed by wip/ddweak.py.) -/
namespace Go.Proofs.YtcpceaflnnkhnaaGreatDoor
open Go.RowKit

theorem weak_ok {c : CP} (h : weakE c = 0) : c.may ∧ (c.kind = 1 ∨ c.kind = 2) := by
  unfold weakE at h
  split at h
  · rename_i hm
    refine ⟨hm, ?_⟩
    split at h
    · rename_i hk; exact .inl hk
    · split at h
      · rename_i hk; exact .inr hk
      · omega
  · omega
theorem weak_no5 {c : CP} (h : weakE c ≠ 0) : weakE c = 5 ∧ (¬ c.may ∨ (c.may ∧ c.kind = 3)) := by
  unfold weakE at h ⊢
  by_cases hm : c.may
  · have hk : c.kind = 1 ∨ c.kind = 2 ∨ c.kind = 3 := by
      rcases hm with ⟨h1, -⟩ | ⟨h1, -⟩ | ⟨h1, -⟩
      · exact .inl h1
      · exact .inr (.inl h1)
      · exact .inr (.inr h1)
    rw [if_pos hm] at h ⊢
    rcases hk with hk | hk | hk
    · rw [if_pos hk] at h; exact absurd rfl h
    · rw [if_neg (by omega), if_pos hk] at h; exact absurd rfl h
    · rw [if_neg (by omega), if_neg (by omega)]; exact ⟨rfl, .inr ⟨hm, hk⟩⟩
  · rw [if_neg hm]; exact ⟨rfl, .inl hm⟩
/-- What is weakened is a capability to verify, of the same size; weakened again it stays. -/
theorem weak_facts {c : CP} (h : weakE c = 0) : (weakC c).kind = 2 ∧ (weakC c).dir = c.dir ∧ (weakC c).rd = RV.zero ∧ (weakC c).may ∧ weakC (weakC c) = weakC c ∧ sizeN (weakC c) = sizeN c := by
  obtain ⟨hm, hk⟩ := weak_ok h
  have key : ∀ r : RV, r.may → (⟨2, c.dir, RV.zero, r, []⟩ : CP).may := fun r hr => .inr (.inl ⟨rfl, rfl, rfl, hr⟩)
  have two : ∀ r : RV, r.may → weakC ⟨2, c.dir, RV.zero, r, []⟩ = ⟨2, c.dir, RV.zero, r, []⟩ ∧ sizeN ⟨2, c.dir, RV.zero, r, []⟩ = r.size := fun r hr => by
    constructor
    · unfold weakC
      rw [if_pos (key r hr)]
      rfl
    · unfold sizeN
      rw [if_pos (key r hr)]
      rfl
  rcases hk with hk | hk
  · have hr : c.rd.may := by
      rcases hm with ⟨-, -, -, h1⟩ | ⟨h1, -⟩ | ⟨h1, -⟩
      · exact h1
      · omega
      · omega
    have hr2 : (⟨indexL c.rd.key, c.rd.ueb, c.rd.k, c.rd.n, c.rd.seg, c.rd.size⟩ : RV).may := hr
    have e : weakC c = ⟨2, c.dir, RV.zero, ⟨indexL c.rd.key, c.rd.ueb, c.rd.k, c.rd.n, c.rd.seg, c.rd.size⟩, []⟩ := by unfold weakC; rw [if_pos hm, if_pos hk]
    rw [e]
    refine ⟨rfl, rfl, rfl, key _ hr2, (two _ hr2).1, ?_⟩
    rw [(two _ hr2).2]
    unfold sizeN
    rw [if_pos hm, if_pos hk]
  · have hr : c.vf.may := by
      rcases hm with ⟨h1, -⟩ | ⟨-, -, -, h1⟩ | ⟨h1, -⟩
      · omega
      · exact h1
      · omega
    have e : weakC c = ⟨2, c.dir, RV.zero, c.vf, []⟩ := by unfold weakC; rw [if_pos hm, if_neg (by omega), if_pos hk]
    rw [e]
    refine ⟨rfl, rfl, rfl, key _ hr, (two _ hr).1, ?_⟩
    rw [(two _ hr).2]
    unfold sizeN
    rw [if_pos hm, if_neg (by omega), if_pos hk]
set_option maxRecDepth 100000 in
set_option maxHeartbeats 16000000 in
theorem law_deedweak (cs : Array Value) (c : CP) (v : Value) (mx : Int) (w : World) (h : Capy w cs c v) (hm : w.cell? ⟨1, 0, none⟩ = some (.int .i64 mx)) (ht : Tab w) (he : Err w) (hh : Handle w) :
    Calls Tryz.prog 9 #[.agg cs] w fun e w' => e = .returned (.bool true) ∧ Below w.heap.size w w' := by
  obtain ⟨W, hW⟩ : ∃ W, W = w.alloc (.cells cs 34) := ⟨_, rfl⟩
  have HW := hide hW
  have HB := hide (show Blk W w.heap.size 34 cs ∧ Below w.heap.size w W from by rw [hW]; exact ⟨Blk.new w 34 cs, (Below.refl w.heap.size w).alloc (Nat.le_refl _) _⟩)
  have HZ := hide h.size
  have QA := hide (fun W (hW : Below w.heap.size w W) => awake_any mx W ((hW.cell (World.block_lt_of_cell? _ _ hm)).trans hm) (ht.below hW) (he.below hW) (hh.below hW))
  have P1 := hide (fun W (hW : Below w.heap.size w W) => weak_any cs c v W (h.below hW))
  obtain ⟨F, hF⟩ : ∃ F : Array Value, F = (weakC c).cells (.slice none 0 0) := ⟨_, rfl⟩
  have hwf := weak_wf h.wf
  have hcap : ∀ W, Capy W F (weakC c) (.slice none 0 0) := fun W => ⟨hF, hwf, weak_in h.i64, by rw [weak_lit]; exact By.nil W⟩
  have hFs : F.size = 107 := by rw [hF]; exact CP.cells_size hwf _
  have hFo : F.all (·.oneCell') = true := by rw [hF]; exact CP.cells_one _ _ _ _
  rw [← hF] at P1
  by_cases h0 : weakE c = 0
  · have hfac := weak_facts h0
    have hmay := (weak_ok h0).1
    obtain ⟨f1, f2, f3, f4, f5, f6⟩ := hfac
    have PV := hide (fun W (hW : Below w.heap.size w W) => verify_any cs c v W (h.below hW))
    have PS1 := hide (fun W (hW : Below w.heap.size w W) => size_cap cs c v W (h.below hW))
    have P2 := hide (fun W (hW : Below w.heap.size w W) => weak_any F (weakC c) (.slice none 0 0) W (hcap W))
    have PS2 := hide (fun W (hW : Below w.heap.size w W) => size_cap F (weakC c) (.slice none 0 0) W (hcap W))
    have QS := hide (fun W => same_cap F F (weakC c) (weakC c) (.slice none 0 0) (.slice none 0 0) W (hcap W) (hcap W))
    have QC := hide (fun W => check_cap F (weakC c) (.slice none 0 0) W (hcap W))
    have e2 : weakE (weakC c) = 0 := by unfold weakE; rw [if_pos f4, if_neg (by omega), if_pos f1]
    have e3 : prE c = 0 := by unfold prE; rw [if_pos hmay]
    have e4 : prE (weakC c) = 0 := by unfold prE; rw [if_pos f4]
    rw [f5, ← hF, e2] at P2
    rw [h0] at P1 PV
    rw [e3] at PS1
    rw [e4, f6] at PS2
    rw [decide_eq_true rfl] at QS
    rw [if_pos f4] at QC
    obtain ⟨V, hV⟩ : ∃ V : Array Value, V = (weakC c).vf.cells.toArray := ⟨_, rfl⟩
    rw [← hV] at PV
    obtain ⟨Z, hZ⟩ : ∃ V : Array Value, V = RV.zero.cells.toArray := ⟨_, rfl⟩
    have HV := hide (show V.size = 52 ∧ V.all (·.oneCell') = true ∧ (∀ j, j < 52 → F[54 + j]? = V.toList[j]?) ∧ (∀ W, (binOp .neq 31 (.agg V) (.agg V)).run Tryz.prog W = .ok (.bool false) W) from ⟨by rw [hV]; exact rv_size _ hwf.2.1, by rw [hV]; exact rv_one _, fun j hj => by rw [(hcap w).vf j hj, hV], fun W => by
      have := verify_neq _ _ hwf.2.1 hwf.2.1 W
      rw [decide_eq_true rfl] at this
      rw [hV]
      exact this⟩)
    have HR := hide (show (∀ (W : World) (g : Nat), Blk W g 34 F → W.rangeAt g 2 Z.toList) ∧ Z.size = 52 ∧ (∀ W, (Instr.build 28 #[]).run Tryz.prog W = .ok (.agg Z) W) ∧ (∀ W, (binOp .eql 28 (.agg Z) (.agg Z)).run Tryz.prog W = .ok (.bool true) W) from ⟨fun W g hb => by
      have := (hcap W).rdAt hb
      rw [f3] at this
      rw [hZ]
      exact this, by rw [hZ]; rfl, fun W => by rw [hZ]; exact build_read0 W, fun W => by
      have := read_eql RV.zero RV.zero RV.zero_wf RV.zero_wf W
      rw [decide_eq_true rfl] at this
      rw [hZ]
      exact this⟩)
    have HD := hide (show F.size = 107 ∧ F.all (·.oneCell') = true ∧ F[0]? = some (.int .u8 2) ∧ F[1]? = some (.bool c.dir) ∧ cs[1]? = some (.bool c.dir) ∧ F[106]? = some (.slice none 0 0) from ⟨hFs, hFo, by rw [(hcap w).c0, f1]; rfl, by rw [(hcap w).c1, f2], h.c1, (hcap w).lit⟩)
    generalize sizeN c = sz at *
    generalize c.dir = D at *
    clear h hm ht he hh hW hF hwf hcap hFs hFo h0 hmay f1 f2 f3 f4 f5 f6 e2 e3 e4 hV hZ
    go_enter Tryz.func9, Tryz.ntmps9
    go_upto_region 1 with fail
    rw [← HW.out]
    go_wp2_with ((with_reducible change wpList _ _ _ (⟨some 14, _, _, _, _, _⟩ :: _) _ _); refine wpList_yields (by kernel_rfl) (.agg cs) (ex_load 34 _ rfl w.heap.size 0 (by kernel_rfl) cs.toList _ (rng_of HB.out.1) Tryz.underlying34 rfl (by rw [Array.length_toList, HZ.out]; kernel_rfl)) ?_)
    refine (P1.out _ HB.out.2).mono ?_
    rintro e w1 ⟨rfl, b1⟩
    have H1 := hide (And.intro (HB.out.1.below' b1) (Below.step HB.out.2 b1))
    clear b1
    go_wp2_with first
      | ((with_reducible change wpList _ _ _ (⟨none, .store _ (.tmp 3) _, _, _, _, _⟩ :: _) _ _); go_loud (refine wpList_store_row (o := ⟨none, .store _ (.tmp 3) _, _, _, _, _⟩) (Blk.new w1 34 Tryz.zeroCells34) F (by rw [HD.out.1]; kernel_rfl) HD.out.2.1 rfl 34 _ _ rfl (by rw [HD.out.1]; kernel_rfl) rfl rfl ?_; intro w2 hb hg; have S1 := hide (show Blk w2 w1.heap.size 34 F ∧ Below w1.heap.size w1 w2 from ⟨hb, (Below.al0 (Below.refl w1.heap.size w1) _).grown hg (by simp) (fun k hk => by injection hk with hk; omega)⟩); clear hb hg))
      | ((with_reducible change wpList _ _ _ (⟨some 36, _, _, _, _, _⟩ :: _) _ _); refine wpList_yields (by kernel_rfl) (.agg F) (ex_load 34 _ rfl w1.heap.size 0 (by kernel_rfl) F.toList _ (rng_of S1.out.1) Tryz.underlying34 rfl (by rw [Array.length_toList, HD.out.1]; kernel_rfl)) ?_)
    refine (P2.out _ (Below.step H1.out.2 S1.out.2)).mono ?_
    rintro e w3 ⟨rfl, b3⟩
    have H3 := hide (And.intro (H1.out.1.below' (Below.step S1.out.2 b3)) (And.intro (S1.out.1.below' b3) (Below.step (Below.step H1.out.2 S1.out.2) b3)))
    clear b3
    go_wp2_with first
      | ((with_reducible change wpList _ _ _ (⟨none, .store _ (.tmp 5) _, _, _, _, _⟩ :: _) _ _); go_loud (refine wpList_store_row (o := ⟨none, .store _ (.tmp 5) _, _, _, _, _⟩) (Blk.new w3 34 Tryz.zeroCells34) F (by rw [HD.out.1]; kernel_rfl) HD.out.2.1 rfl 34 _ _ rfl (by rw [HD.out.1]; kernel_rfl) rfl rfl ?_; intro w4 hb hg; have S3 := hide (show Blk w4 w3.heap.size 34 F ∧ Below w3.heap.size w3 w4 from ⟨hb, (Below.al0 (Below.refl w3.heap.size w3) _).grown hg (by simp) (fun k hk => by injection hk with hk; omega)⟩); clear hb hg))
      | ((with_reducible change wpList _ _ _ (⟨some 41, _, _, _, _, _⟩ :: _) _ _); refine wpList_yields (by kernel_rfl) (.agg cs) (ex_load 34 _ rfl w.heap.size 0 (by kernel_rfl) cs.toList _ (rng_of (H3.out.1.below' S3.out.2)) Tryz.underlying34 rfl (by rw [Array.length_toList, HZ.out]; kernel_rfl)) ?_)
    refine (PV.out _ (Below.step H3.out.2.2 S3.out.2)).mono ?_
    rintro e w5 ⟨rfl, b5⟩
    have b35 := Below.step S3.out.2 b5
    have H5 := hide (And.intro (H3.out.1.below' b35) (And.intro (H3.out.2.1.below' b35) (And.intro (S3.out.1.below' b5) (Below.step H3.out.2.2 b35))))
    clear b5 b35
    go_wp2_with first
      | ((with_reducible change wpList _ _ _ (⟨none, .store _ (.tmp 7) _, _, _, _, _⟩ :: _) _ _); go_loud (refine wpList_store_row (o := ⟨none, .store _ (.tmp 7) _, _, _, _, _⟩) (g := w5.heap.size) (t := 31) (Blk.new w5 _ _) V (HV.out.1.trans (by kernel_rfl)) HV.out.2.1 rfl 31 _ _ rfl ((by kernel_rfl : (Tryz.prog.info? 31).map (·.size) = some 52).trans (by rw [HV.out.1])) rfl rfl ?_; intro w6 hb hg; have S5 := hide (show Blk w6 w5.heap.size 31 V ∧ Below w5.heap.size w5 w6 from ⟨hb, (Below.al0 (Below.refl w5.heap.size w5) _).grown hg (by simp) (fun k hk => by injection hk with hk; omega)⟩); clear hb hg))
      | ((with_reducible change wpList _ _ _ (⟨some 46, _, _, _, _, _⟩ :: _) _ _); refine wpList_yields (by kernel_rfl) (.agg cs) (ex_load 34 _ rfl w.heap.size 0 (by kernel_rfl) cs.toList _ (rng_of (H5.out.1.below' S5.out.2)) Tryz.underlying34 rfl (by rw [Array.length_toList, HZ.out]; kernel_rfl)) ?_)
    have HF := hide (show ∀ W', Below w6.heap.size w6 W' → Blk W' w.heap.size 34 cs ∧ Blk W' w1.heap.size 34 F ∧ Blk W' w3.heap.size 34 F ∧ Blk W' w5.heap.size 31 V ∧ Below w.heap.size w W' from fun W' hW' => by
      have h56 := Below.step S5.out.2 hW'
      exact ⟨H5.out.1.below' h56, H5.out.2.1.below' h56, H5.out.2.2.1.below' h56, S5.out.1.below' hW', Below.step H5.out.2.2.2 h56⟩)
    have R6 := hide (Below.refl w6.heap.size w6)
    refine (PS1.out _ (HF.out _ R6.out).2.2.2.2).mono ?_
    rintro e w7 ⟨rfl, b7⟩
    have R7 := hide (Below.step R6.out b7)
    clear b7
    go_wp2_with ((with_reducible change wpList _ _ _ (⟨some 51, _, _, _, _, _⟩ :: _) _ _); refine wpList_yields (by kernel_rfl) (.agg F) (ex_load 34 _ rfl w1.heap.size 0 (by kernel_rfl) F.toList _ (rng_of (HF.out _ R7.out).2.1) Tryz.underlying34 rfl (by rw [Array.length_toList, HD.out.1]; kernel_rfl)) ?_)
    refine (PS2.out _ (HF.out _ R7.out).2.2.2.2).mono ?_
    rintro e w8 ⟨rfl, b8⟩
    have R8 := hide (Below.step R7.out b8)
    clear b8
    go_wp2_with first
      | ((with_reducible change wpList _ _ _ (⟨some 75, _, _, _, _, _⟩ :: _) _ _); refine wpList_yields (by kernel_rfl) (.agg F) (ex_load 34 _ rfl w1.heap.size 0 (by kernel_rfl) F.toList _ (rng_of (HF.out _ R8.out).2.1) Tryz.underlying34 rfl (by rw [Array.length_toList, HD.out.1]; kernel_rfl)) ?_)
      | ((with_reducible change wpList _ _ _ (⟨some 76, _, _, _, _, _⟩ :: _) _ _); refine wpList_yields (by kernel_rfl) (.agg F) (ex_load 34 _ rfl w3.heap.size 0 (by kernel_rfl) F.toList _ (rng_of (HF.out _ R8.out).2.2.1) Tryz.underlying34 rfl (by rw [Array.length_toList, HD.out.1]; kernel_rfl)) ?_)
    refine (QS.out w8).mono ?_
    rintro e w9 ⟨rfl, b9⟩
    have R9 := hide (Below.step R8.out b9)
    have f0 : w9.cell? ⟨w1.heap.size, 0, none⟩ = some (.int .u8 2) := ((HF.out _ R9.out).2.1.cell 0).trans HD.out.2.2.1
    have f1 : w9.cell? ⟨w1.heap.size, 1, none⟩ = some (.bool D) := ((HF.out _ R9.out).2.1.cell 1).trans HD.out.2.2.2.1
    have f2 : w9.cell? ⟨w.heap.size, 1, none⟩ = some (.bool D) := ((HF.out _ R9.out).1.cell 1).trans HD.out.2.2.2.2.1
    have f4 : w9.cell? ⟨w1.heap.size, 106, none⟩ = some (.slice none 0 0) := ((HF.out _ R9.out).2.1.cell 106).trans HD.out.2.2.2.2.2
    clear b9
    go_wp2_with first
      | ((with_reducible change wpList _ _ _ (⟨some 81, _, _, _, _, _⟩ :: _) _ _); refine wpList_yields (by kernel_rfl) (.agg V) (ex_load 31 _ rfl w5.heap.size 0 (by kernel_rfl) V.toList _ (rng_of (HF.out _ R9.out).2.2.2.1) Tryz.underlying31 rfl ((by kernel_rfl : (Tryz.prog.info? 31).map (·.size) = some 52).trans (by rw [Array.length_toList, HV.out.1]))) ?_)
      | ((with_reducible change wpList _ _ _ (⟨some 83, _, _, _, _, _⟩ :: _) _ _); refine wpList_yields (by kernel_rfl) (.agg V) (ex_load 31 _ rfl w1.heap.size 54 (by kernel_rfl) V.toList _ (rng_vf (HF.out _ R9.out).2.1 HV.out.2.2.1 HV.out.1) Tryz.underlying31 rfl ((by kernel_rfl : (Tryz.prog.info? 31).map (·.size) = some 52).trans (by rw [Array.length_toList, HV.out.1]))) ?_)
      | ((with_reducible change wpList _ _ _ (⟨some 84, _, _, _, _, _⟩ :: _) _ _); refine wpList_yields (by kernel_rfl) (.bool false) (ex_neq 31 _ _ rfl V V (by kernel_rfl) (by kernel_rfl) (by kernel_rfl) _ (HV.out.2.2.2 _)) ?_)
      | ((with_reducible change wpList _ _ _ (⟨some 98, _, _, _, _, _⟩ :: _) _ _); refine wpList_yields (by kernel_rfl) (.agg Z) (ex_load 28 _ rfl w1.heap.size 2 (by kernel_rfl) Z.toList _ (HR.out.1 _ _ (HF.out _ R9.out).2.1) Tryz.underlying28 rfl ((by kernel_rfl : (Tryz.prog.info? 28).map (·.size) = some 52).trans (by rw [Array.length_toList, HR.out.2.1]))) ?_)
      | ((with_reducible change wpList _ _ _ (⟨some 99, _, _, _, _, _⟩ :: _) _ _); refine wpList_yields (by kernel_rfl) (.agg Z) (ex_build 28 _ rfl #[] (by kernel_rfl) _ (HR.out.2.2.1 _)) ?_)
      | ((with_reducible change wpList _ _ _ (⟨some 100, _, _, _, _, _⟩ :: _) _ _); refine wpList_yields (by kernel_rfl) (.bool true) (ex_eql 28 _ _ rfl Z Z (by kernel_rfl) (by kernel_rfl) (by kernel_rfl) _ (HR.out.2.2.2 _)) ?_)
      | ((with_reducible change wpList _ _ _ (⟨some 109, _, _, _, _, _⟩ :: _) _ _); refine wpList_yields (by kernel_rfl) (.agg F) (ex_load 34 _ rfl w1.heap.size 0 (by kernel_rfl) F.toList _ (rng_of (HF.out _ R9.out).2.1) Tryz.underlying34 rfl (by rw [Array.length_toList, HD.out.1]; kernel_rfl)) ?_)
    refine (QC.out w9).mono ?_
    rintro e w10 ⟨rfl, b10⟩
    have R10 := hide (Below.step R9.out b10)
    clear b10
    go_wp2_with fail
    refine (QA.out _ (HF.out _ R10.out).2.2.2.2).mono ?_
    rintro e w11 ⟨rfl, b11⟩
    have R11 := hide (Below.step (HF.out _ R10.out).2.2.2.2 b11)
    clear b11
    go_wp2
    go_ret
    exact ⟨rfl, R11.out⟩
  · obtain ⟨h5, hno⟩ := weak_no5 h0
    rw [h5] at P1
    have QC := hide (fun W (hW : Below w.heap.size w W) => check_cap cs c v W (h.below hW))
    have HD := hide (And.intro hFs hFo)
    have HK := hide h.c0
    rcases hno with hno | ⟨hno, hk⟩
    · rw [if_neg hno] at QC
      generalize c.kind = K at *
      clear h hm ht he hh hW hF hwf hcap hFs hFo h0 h5 hno
      go_enter Tryz.func9, Tryz.ntmps9
      go_upto_region 1 with fail
      rw [← HW.out]
      go_wp2_with ((with_reducible change wpList _ _ _ (⟨some 14, _, _, _, _, _⟩ :: _) _ _); refine wpList_yields (by kernel_rfl) (.agg cs) (ex_load 34 _ rfl w.heap.size 0 (by kernel_rfl) cs.toList _ (rng_of HB.out.1) Tryz.underlying34 rfl (by rw [Array.length_toList, HZ.out]; kernel_rfl)) ?_)
      refine (P1.out _ HB.out.2).mono ?_
      rintro e w1 ⟨rfl, b1⟩
      have H1 := hide (And.intro (HB.out.1.below' b1) (Below.step HB.out.2 b1))
      clear b1
      have k0 : w1.cell? ⟨w.heap.size, 0, none⟩ = some (.int .u8 (K : Int)) := (H1.out.1.cell 0).trans HK.out
      clear k0
      go_wp2_with first
        | ((with_reducible change wpList _ _ _ (⟨none, .store _ (.tmp 3) _, _, _, _, _⟩ :: _) _ _); go_loud (refine wpList_store_row (o := ⟨none, .store _ (.tmp 3) _, _, _, _, _⟩) (Blk.new w1 34 Tryz.zeroCells34) F (by rw [HD.out.1]; kernel_rfl) HD.out.2 rfl 34 _ _ rfl (by rw [HD.out.1]; kernel_rfl) rfl rfl ?_; intro w2 hb hg; have S1 := hide (show Blk w2 w1.heap.size 34 F ∧ Below w1.heap.size w1 w2 from ⟨hb, (Below.al0 (Below.refl w1.heap.size w1) _).grown hg (by simp) (fun k hk => by injection hk with hk; omega)⟩); clear hb hg))
        | ((with_reducible change wpList _ _ _ (⟨some 23, _, _, _, _, _⟩ :: _) _ _); refine wpList_yields (by kernel_rfl) (.agg cs) (ex_load 34 _ rfl w.heap.size 0 (by kernel_rfl) cs.toList _ (rng_of (H1.out.1.below' S1.out.2)) Tryz.underlying34 rfl (by rw [Array.length_toList, HZ.out]; kernel_rfl)) ?_)
      refine (QC.out _ (Below.step H1.out.2 S1.out.2)).mono ?_
      rintro e w3 ⟨rfl, b3⟩
      have H3 := hide (And.intro (H1.out.1.below' (Below.step S1.out.2 b3)) (Below.step (Below.step H1.out.2 S1.out.2) b3))
      have k0 : w3.cell? ⟨w.heap.size, 0, none⟩ = some (.int .u8 (K : Int)) := (H3.out.1.cell 0).trans HK.out
      clear b3
      go_wp2_with fail
      refine (QA.out _ H3.out.2).mono ?_
      rintro e w5 ⟨rfl, b5⟩
      have R5 := hide (Below.step H3.out.2 b5)
      clear b5
      go_wp2
      go_ret
      exact ⟨rfl, R5.out⟩
    · rw [if_pos hno] at QC
      rw [hk] at HK
      obtain ⟨K, hK⟩ : ∃ K : Nat, K = 3 := ⟨_, rfl⟩
      have hK3 : ((K : Int) == 3) = true := by rw [hK]; rfl
      rw [← hK] at HK
      clear h hm ht he hh hW hF hwf hcap hFs hFo h0 h5 hno hk hK
      go_enter Tryz.func9, Tryz.ntmps9
      go_upto_region 1 with fail
      rw [← HW.out]
      go_wp2_with ((with_reducible change wpList _ _ _ (⟨some 14, _, _, _, _, _⟩ :: _) _ _); refine wpList_yields (by kernel_rfl) (.agg cs) (ex_load 34 _ rfl w.heap.size 0 (by kernel_rfl) cs.toList _ (rng_of HB.out.1) Tryz.underlying34 rfl (by rw [Array.length_toList, HZ.out]; kernel_rfl)) ?_)
      refine (P1.out _ HB.out.2).mono ?_
      rintro e w1 ⟨rfl, b1⟩
      have H1 := hide (And.intro (HB.out.1.below' b1) (Below.step HB.out.2 b1))
      clear b1
      have k0 : w1.cell? ⟨w.heap.size, 0, none⟩ = some (.int .u8 (K : Int)) := (H1.out.1.cell 0).trans HK.out
      clear k0
      go_wp2_with first
        | ((with_reducible change wpList _ _ _ (⟨none, .store _ (.tmp 3) _, _, _, _, _⟩ :: _) _ _); go_loud (refine wpList_store_row (o := ⟨none, .store _ (.tmp 3) _, _, _, _, _⟩) (Blk.new w1 34 Tryz.zeroCells34) F (by rw [HD.out.1]; kernel_rfl) HD.out.2 rfl 34 _ _ rfl (by rw [HD.out.1]; kernel_rfl) rfl rfl ?_; intro w2 hb hg; have S1 := hide (show Blk w2 w1.heap.size 34 F ∧ Below w1.heap.size w1 w2 from ⟨hb, (Below.al0 (Below.refl w1.heap.size w1) _).grown hg (by simp) (fun k hk => by injection hk with hk; omega)⟩); clear hb hg))
        | ((with_reducible change wpList _ _ _ (⟨some 23, _, _, _, _, _⟩ :: _) _ _); refine wpList_yields (by kernel_rfl) (.agg cs) (ex_load 34 _ rfl w.heap.size 0 (by kernel_rfl) cs.toList _ (rng_of (H1.out.1.below' S1.out.2)) Tryz.underlying34 rfl (by rw [Array.length_toList, HZ.out]; kernel_rfl)) ?_)
      refine (QC.out _ (Below.step H1.out.2 S1.out.2)).mono ?_
      rintro e w3 ⟨rfl, b3⟩
      have H3 := hide (And.intro (H1.out.1.below' (Below.step S1.out.2 b3)) (Below.step (Below.step H1.out.2 S1.out.2) b3))
      have k0 : w3.cell? ⟨w.heap.size, 0, none⟩ = some (.int .u8 (K : Int)) := (H3.out.1.cell 0).trans HK.out
      clear b3
      go_wp2_with fail
      refine (QA.out _ H3.out.2).mono ?_
      rintro e w5 ⟨rfl, b5⟩
      have R5 := hide (Below.step H3.out.2 b5)
      clear b5
      go_wp2
      go_ret
      exact ⟨rfl, R5.out⟩
end Go.Proofs.YtcpceaflnnkhnaaGreatDoor
