/- Joined texts: DdNames. -/
import Derived.Test.YtcpceaflnnkhnaaGreatDoorJ27

/- The law DeedNames. (Printed by wip/ddnames.py.) -/
namespace Go.Proofs.YtcpceaflnnkhnaaGreatDoor
open Go.RowKit

set_option maxRecDepth 100000 in
set_option maxHeartbeats 4000000 in
theorem fails_any (s : ByteArray) (a er : Nat) (a' er' mx : Int) (w : World) (ha : a' = (a : Int)) (he' : er' = (er : Int)) (hs : s.size ≤ 9223372036854775807) (hm : w.cell? ⟨1, 0, none⟩ = some (.int .i64 mx)) (ht : Tab w) (he : Err w) (hh : Handle w) (hF : capF (lst s) = some (a, er)) :
    Calls Tryz.prog 28 #[.string s, .int .i64 a', .int .i64 er'] w fun e w' => e = .returned (.bool true) ∧ Below w.heap.size w w' := by
  obtain ⟨F, hFF⟩ : ∃ F : Array Value, F = CP.zero.cells (.slice none 0 0) := ⟨_, rfl⟩
  have Q := hide (show Calls Tryz.prog 10 #[.string s] w fun e w' => e = .returned (.tuple #[.agg F, .int .i64 a', .int .i64 er']) ∧ Below w.heap.size w w' from (parsed_any s mx w hs hm ht he hh).mono (by
    rintro e w' ⟨hb, -, h1⟩
    refine ⟨?_, hb⟩
    rw [h1 a er hF, hFF, ha, he']))
  have HF := hide (show F.size = 107 ∧ F.all (·.oneCell') = true ∧ F[0]? = some (.int .u8 0) ∧ F[106]? = some (.slice none 0 0) from ⟨by rw [hFF]; exact CP.cells_size CP.zero_wf _, by rw [hFF]; exact CP.zero_one, by rw [hFF]; rfl, by rw [hFF]; exact (Capy.zero w).lit⟩)
  clear hFF hm ht he hh hF ha he'
  go_enter Tryz.func28, Tryz.ntmps28
  go_wp2_with fail
  refine Q.out.mono ?_
  rintro e w1 ⟨rfl, b1⟩
  have H1 := hide b1
  clear b1
  go_wp2_with ((with_reducible change wpList _ _ _ (⟨none, .store _ (.tmp 7) _, _, _, _, _⟩ :: _) _ _); go_loud (refine wpList_store_row (o := ⟨none, .store _ (.tmp 7) _, _, _, _, _⟩) (Blk.new w1 34 Tryz.zeroCells34) F (by rw [HF.out.1]; kernel_rfl) HF.out.2.1 rfl 34 _ _ rfl (by rw [HF.out.1]; kernel_rfl) rfl rfl ?_; intro w2 hb hg; have c0 := (hb.cell 0).trans HF.out.2.2.1; have c4 := (hb.cell 106).trans HF.out.2.2.2; have S1 := hide (show Below w1.heap.size w1 w2 from (Below.al0 (Below.refl w1.heap.size w1) _).grown hg (by simp) (fun k hk => by injection hk with hk; omega)); clear hb hg))
  go_ret
  exact ⟨rfl, Below.step H1.out S1.out⟩
def sampleD : CP := ⟨1, true, sampleR, RV.zero, []⟩
def capL1 : CP := ⟨3, false, RV.zero, RV.zero, [1]⟩
def capL3 : CP := ⟨3, false, ⟨List.replicate 16 0, List.replicate 32 0, 3, 0, 0, 0⟩, RV.zero, [1]⟩
theorem sampleD_wf : sampleD.wf := ⟨sample_wf.1, RV.zero_wf, by show (1 : Nat) < 256; omega⟩
theorem sampleD_in : sampleD.in64 := ⟨sample_in.1, RV.zero_in⟩
theorem sampleD_may : sampleD.may := by decide +kernel
theorem capL1_wf : capL1.wf := ⟨RV.zero_wf, RV.zero_wf, by show (3 : Nat) < 256; omega⟩
theorem capL1_in : capL1.in64 := ⟨RV.zero_in, RV.zero_in⟩
theorem capL3_wf : capL3.wf := ⟨by unfold capL3 RV.wf; simp, RV.zero_wf, by show (3 : Nat) < 256; omega⟩
theorem capL3_in : capL3.in64 := ⟨by unfold capL3 RV.in64; simp, RV.zero_in⟩
theorem capL1_may : capL1.may := by decide +kernel
theorem capL3_may : ¬ capL3.may := by decide +kernel
theorem capE_may : (⟨3, false, RV.zero, RV.zero, []⟩ : CP).may := by decide +kernel
theorem zero_may : ¬ CP.zero.may := by decide +kernel
theorem capL3_cells (v : Value) : (capL1.cells v).setIfInBounds 50 (.int .i64 3) = capL3.cells v := by
  apply Array.toList_inj.1
  rw [Array.toList_setIfInBounds]
  rfl
theorem by_one {W : World} {g : Nat} (h : Blk W g 5 #[.int .u8 1]) : By W (.slice (some ⟨g, 0, none⟩) 1 1) [1] := by_blk (l := [1]) h rfl (by unfold maxLen; omega)
set_option maxRecDepth 100000 in
set_option maxHeartbeats 32000000 in
theorem law_deednames (mx : Int) (w : World) (hm : w.cell? ⟨1, 0, none⟩ = some (.int .i64 mx)) (ht : Tab w) (he : Err w) (hh : Handle w) :
    Calls Tryz.prog 8 #[] w fun e w' => e = .returned (.bool true) ∧ Below w.heap.size w w' := by
  have QA := hide (fun W (hW : Below w.heap.size w W) => awake_any mx W ((hW.cell (World.block_lt_of_cell? _ _ hm)).trans hm) (ht.below hW) (he.below hW) (hh.below hW))
  have QF := hide (fun s (a er : Nat) (a' er' : Int) W (ha : a' = (a : Int)) (he' : er' = (er : Int)) (hF : capF (lst s) = some (a, er)) (hs : s.size ≤ 9223372036854775807) (hW : Below w.heap.size w W) => fails_any s a er a' er' mx W ha he' hs ((hW.cell (World.block_lt_of_cell? _ _ hm)).trans hm) (ht.below hW) (he.below hW) (hh.below hW) hF)
  obtain ⟨FE, hFE⟩ : ∃ F : Array Value, F = (⟨3, false, RV.zero, RV.zero, []⟩ : CP).cells (.slice none 0 0) := ⟨_, rfl⟩
  have HE := hide (show FE.size = 107 ∧ FE.all (·.oneCell') = true ∧ (∀ W, (Instr.build 34 #[(0, .int .u8 3)]).run Tryz.prog W = .ok (.agg FE) W) from ⟨by rw [hFE]; exact CP.cells_size zero3_wf _, by rw [hFE]; exact CP.cells_one _ _ _ _, fun W => by rw [hFE]; kernel_rfl⟩)
  have QP : Hid (∀ W, Below w.heap.size w W → Calls Tryz.prog 18 #[.agg FE] W fun e w' => e = .returned (.tuple #[.string ⟨#[115, 116, 114, 111, 110, 103, 114, 111, 111, 109, 58, 108, 105, 116, 58]⟩, .int .i64 0]) ∧ Below W.heap.size W w') := hide fun W hW => by
    have := print_val FE ⟨3, false, RV.zero, RV.zero, []⟩ (.slice none 0 0) W ⟨hFE, zero3_wf, ⟨RV.zero_in, RV.zero_in⟩, By.nil W⟩ (ht.below hW)
    unfold prE at this
    rw [if_pos capE_may, show prS ⟨3, false, RV.zero, RV.zero, []⟩ = ⟨#[115, 116, 114, 111, 110, 103, 114, 111, 111, 109, 58, 108, 105, 116, 58]⟩ from by decide +kernel] at this
    exact this
  obtain ⟨FS, hFS⟩ : ∃ F : Array Value, F = sampleC.cells (.slice none 0 0) := ⟨_, rfl⟩
  have QSm := hide (fun W => sample_any W)
  rw [← hFS] at QSm
  obtain ⟨FD, hFD⟩ : ∃ F : Array Value, F = sampleD.cells (.slice none 0 0) := ⟨_, rfl⟩
  have hcD : ∀ W, Capy W FD sampleD (.slice none 0 0) := fun W => ⟨hFD, sampleD_wf, sampleD_in, By.nil W⟩
  have HS := hide (show FS.size = 107 ∧ FS.all (·.oneCell') = true ∧ FS[1]? = some (.bool false) ∧ FD = FS.setIfInBounds 1 (.bool true) from ⟨by rw [hFS]; exact CP.cells_size sample_wf _, by rw [hFS]; exact CP.cells_one _ _ _ _, by rw [hFS]; rfl, by rw [hFS, hFD]; apply Array.toList_inj.1; rw [Array.toList_setIfInBounds]; rfl⟩)
  have HD := hide (show FD.size = 107 ∧ FD.all (·.oneCell') = true from ⟨by rw [hFD]; exact CP.cells_size sampleD_wf _, by rw [hFD]; exact CP.cells_one _ _ _ _⟩)
  obtain ⟨FW, hFW⟩ : ∃ F : Array Value, F = (weakC sampleD).cells (.slice none 0 0) := ⟨_, rfl⟩
  have hDE : weakE sampleD = 0 := by unfold weakE; rw [if_pos sampleD_may]; rfl
  have QW := hide (fun W => weak_any FD sampleD (.slice none 0 0) W (hcD W))
  rw [← hFW, hDE] at QW
  obtain ⟨f1, f2, f3, -, -, -⟩ := weak_facts hDE
  have hcW : ∀ W, Capy W FW (weakC sampleD) (.slice none 0 0) := fun W => ⟨hFW, weak_wf sampleD_wf, weak_in sampleD_in, by rw [weak_lit]; exact By.nil W⟩
  have hvf : (weakC sampleD).vf = ⟨indexL sampleR.key, sampleR.ueb, 3, 5, 12, 100⟩ := by unfold weakC; rw [if_pos sampleD_may]; rfl
  have hvw : (weakC sampleD).vf.wf := (weak_wf sampleD_wf).2.1
  obtain ⟨Z, hZ⟩ : ∃ V : Array Value, V = RV.zero.cells.toArray := ⟨_, rfl⟩
  have HW2 := hide (show FW.size = 107 ∧ FW.all (·.oneCell') = true ∧ FW[0]? = some (.int .u8 2) ∧ FW[1]? = some (.bool true) ∧ FW[105]? = some (.int .i64 100) ∧ FW[102]? = some (.int .i64 3) ∧ True from ⟨by rw [hFW]; exact CP.cells_size (weak_wf sampleD_wf) _, by rw [hFW]; exact CP.cells_one _ _ _ _, by rw [(hcW w).c0, f1]; rfl, by rw [(hcW w).c1, f2]; rfl, by
    rw [show 105 = 54 + (48 + 3) from rfl, (hcW w).vf 51 (by omega), show 51 = 48 + 3 from rfl, cells_at _ hvw, hvf]; rfl, by
    rw [show 102 = 54 + (48 + 0) from rfl, (hcW w).vf 48 (by omega), show 48 = 48 + 0 from rfl, cells_at _ hvw, hvf]; rfl, trivial⟩)
  have HR := hide (show (∀ (W : World) (g : Nat), Blk W g 34 FW → W.rangeAt g 2 Z.toList) ∧ Z.size = 52 ∧ (∀ W, (Instr.build 28 #[]).run Tryz.prog W = .ok (.agg Z) W) ∧ (∀ W, (binOp .neq 28 (.agg Z) (.agg Z)).run Tryz.prog W = .ok (.bool false) W) from ⟨fun W g hb => by
      have := (hcW W).rdAt hb
      rw [f3] at this
      rw [hZ]
      exact this, by rw [hZ]; rfl, fun W => by rw [hZ]; exact build_read0 W, fun W => by
      have := read_neq RV.zero RV.zero RV.zero_wf RV.zero_wf W
      rw [decide_eq_true rfl] at this
      rw [hZ]
      exact this⟩)
  have HZ := hide (show Z.size = 52 ∧ Z.all (·.oneCell') = true from ⟨by rw [hZ]; rfl, by rw [hZ]; exact rv_one _⟩)
  have hL1 : weakE capL1 = 5 := by unfold weakE; rw [if_pos capL1_may]; rfl
  have hL2 : weakC capL1 = CP.zero := by unfold weakC; rw [if_pos capL1_may]; rfl
  obtain ⟨FZ, hFZ⟩ : ∃ F : Array Value, F = CP.zero.cells (.slice none 0 0) := ⟨_, rfl⟩
  have QWL := hide (fun W F v (h : Capy W F capL1 v) => weak_any F capL1 v W h)
  rw [hL1, hL2, ← hFZ] at QWL
  have QVL := hide (fun W F v (h : Capy W F capL1 v) => verify_any F capL1 v W h)
  rw [hL1, hL2, show CP.zero.vf.cells.toArray = RV.zero.cells.toArray from rfl, ← hZ] at QVL
  have QSz := hide (fun W => size_cap FD sampleD (.slice none 0 0) W (hcD W))
  rw [show sizeN sampleD = 100 from by unfold sizeN; rw [if_pos sampleD_may]; rfl, show prE sampleD = 0 from by unfold prE; rw [if_pos sampleD_may]] at QSz
  have QC3 := hide (fun W F v (h : Capy W F capL3 v) => check_cap F capL3 v W h)
  rw [if_neg capL3_may] at QC3
  have QC0 := hide (fun W => check_cap FZ CP.zero (.slice none 0 0) W (by rw [hFZ]; exact Capy.zero W))
  rw [if_neg zero_may] at QC0
  have HFZ := hide (show ∀ W, (Instr.build 34 #[]).run Tryz.prog W = .ok (.agg FZ) W from fun W => by rw [hFZ]; exact build_cap0 W)
  -- the texts that are made
  obtain ⟨x1, hx1⟩ : ∃ x : ByteArray, x = ⟨(Lib.repeatL (⟨#[97]⟩ : ByteArray).data.toList 53).toArray⟩ := ⟨_, rfl⟩
  obtain ⟨x2, hx2⟩ : ∃ x : ByteArray, x = ⟨(Lib.repeatL (⟨#[115]⟩ : ByteArray).data.toList 257).toArray⟩ := ⟨_, rfl⟩
  have QX1 : Hid (∀ W, Calls Tryz.prog 29 #[.string ⟨#[97]⟩, .int .i64 53] W fun e w' => e = .returned (.string x1) ∧ Below W.heap.size W w') := hide fun W => by rw [hx1]; exact Tryz.strings_Repeat ⟨#[97]⟩ 53 W (by omega) (by show 1 * 53 ≤ _; omega)
  have QX2 : Hid (∀ W, Calls Tryz.prog 29 #[.string ⟨#[115]⟩, .int .i64 257] W fun e w' => e = .returned (.string x2) ∧ Below W.heap.size W w') := hide fun W => by rw [hx2]; exact Tryz.strings_Repeat ⟨#[115]⟩ 257 W (by omega) (by show 1 * 257 ≤ _; omega)
  have hx1l : lst x1 = List.replicate 53 97 := by rw [hx1, lst_mk]; exact rep97 53
  have hx2l : lst x2 = Lib.repeatL [115] 257 := by rw [hx2, lst_mk]
  have HX := hide (show capF (lst ((⟨#[115, 116, 114, 111, 110, 103, 114, 111, 111, 109, 58, 108, 105, 116, 58]⟩ : ByteArray) ++ x1)) = some (15, 150) ∧ ((⟨#[115, 116, 114, 111, 110, 103, 114, 111, 111, 109, 58, 108, 105, 116, 58]⟩ : ByteArray) ++ x1).size ≤ 9223372036854775807 ∧ capF (lst x2) = some (256, 151) ∧ x2.size ≤ 9223372036854775807 from ⟨by rw [lst_append, hx1l]; decide +kernel, by rw [← lst_len, lst_append, hx1l]; decide +kernel, by rw [hx2l]; decide +kernel, by rw [← lst_len, hx2l]; decide +kernel⟩)
  obtain ⟨T1, hT1⟩ : ∃ T : ByteArray, T = ⟨(textL [48, 49, 51]).toArray⟩ := ⟨_, rfl⟩
  obtain ⟨T2, hT2⟩ : ∃ T : ByteArray, T = ⟨(textL [49, 51]).toArray⟩ := ⟨_, rfl⟩
  have QT1 : Hid (∀ W, Calls Tryz.prog 30 #[.string ⟨#[48, 49, 51]⟩] W fun e w' => e = .returned (.string T1) ∧ Below W.heap.size W w') := hide fun W =>
    (text_any ⟨#[48, 49, 51]⟩ (by decide) W).mono (by
      rintro e w' ⟨t, rfl, h1, h2⟩
      exact ⟨by rw [show t = T1 from lst_inj (by rw [h1, hT1, lst_mk])], h2⟩)
  have QT2 : Hid (∀ W, Calls Tryz.prog 30 #[.string ⟨#[49, 51]⟩] W fun e w' => e = .returned (.string T2) ∧ Below W.heap.size W w') := hide fun W =>
    (text_any ⟨#[49, 51]⟩ (by decide) W).mono (by
      rintro e w' ⟨t, rfl, h1, h2⟩
      exact ⟨by rw [show t = T2 from lst_inj (by rw [h1, hT2, lst_mk])], h2⟩)
  have HT := hide (show capF (lst T1) = some (100, 102) ∧ T1.size ≤ 9223372036854775807 ∧ capF (lst T2) = some (0, 5) ∧ T2.size ≤ 9223372036854775807 from ⟨by rw [hT1, lst_mk]; decide +kernel, by rw [hT1]; decide +kernel, by rw [hT2, lst_mk]; decide +kernel, by rw [hT2]; decide +kernel⟩)
  have hx1s : x1.size = 53 := by rw [← lst_len, hx1l]; rfl
  clear hm ht he hh hFE hFS hFD hcD hFW hDE f1 f2 f3 hcW hvf hvw hZ hL1 hL2 hFZ hx1 hx2 hx1l hx2l hT1 hT2
  go_enter Tryz.func8, Tryz.ntmps8
  have R0 := hide (Below.refl w.heap.size w)
  go_wp2_with fail
  refine (QA.out _ R0.out).mono ?_
  rintro e w1 ⟨rfl, b1⟩
  have R1 := hide (Below.step R0.out b1)
  clear b1
  go_wp2_with ((with_reducible change wpList _ _ _ (⟨some 15, _, _, _, _, _⟩ :: _) _ _); refine wpList_yields (by kernel_rfl) (.agg FE) (ex_build 34 _ rfl #[(0, .int .u8 3)] (by kernel_rfl) _ (HE.out.2.2 _)) ?_)
  refine (QP.out _ R1.out).mono ?_
  rintro e w2 ⟨rfl, b2⟩
  have R2 := hide (Below.step R1.out b2)
  clear b2
  go_wp2_with fail
  refine (QF.out ⟨#[115, 116, 114, 111, 110, 103, 114, 111, 111, 109, 58, 108, 105, 116]⟩ 14 150 _ _ _ rfl rfl (by decide +kernel) (by decide) R2.out).mono ?_
  rintro e w3 ⟨rfl, b3⟩
  have R3 := hide (Below.step R2.out b3)
  clear b3
  go_wp2_with fail
  refine (QF.out ⟨#[115, 116, 114, 111, 110, 103, 114, 111, 111, 109, 58, 108, 105, 116, 58, 97, 97, 58]⟩ 18 150 _ _ _ rfl rfl (by decide +kernel) (by decide) R3.out).mono ?_
  rintro e w4 ⟨rfl, b4⟩
  have R4 := hide (Below.step R3.out b4)
  clear b4
  go_wp2_with fail
  refine (QF.out ⟨#[115, 116, 114, 111, 110, 103, 114, 111, 111, 109, 58, 76, 73, 84, 58]⟩ 11 150 _ _ _ rfl rfl (by decide +kernel) (by decide) R4.out).mono ?_
  rintro e w5 ⟨rfl, b5⟩
  have R5 := hide (Below.step R4.out b5)
  clear b5
  go_wp2_with fail
  refine (QF.out ⟨#[83, 116, 114, 111, 110, 103, 114, 111, 111, 109]⟩ 0 150 _ _ _ rfl rfl (by decide +kernel) (by decide) R5.out).mono ?_
  rintro e w6 ⟨rfl, b6⟩
  have R6 := hide (Below.step R5.out b6)
  clear b6
  go_wp2_with fail
  refine (QF.out ⟨#[115, 116, 114, 111, 110, 103, 114, 111, 111, 109]⟩ 10 150 _ _ _ rfl rfl (by decide +kernel) (by decide) R6.out).mono ?_
  rintro e w7 ⟨rfl, b7⟩
  have R7 := hide (Below.step R6.out b7)
  clear b7
  go_wp2_with fail
  refine (QF.out ⟨#[]⟩ 0 150 _ _ _ rfl rfl (by decide +kernel) (by decide) R7.out).mono ?_
  rintro e w8 ⟨rfl, b8⟩
  have R8 := hide (Below.step R7.out b8)
  clear b8
  go_wp2_with fail
  refine (QF.out ⟨#[115, 116, 114, 111, 110, 103, 114, 111, 111, 109, 58, 108, 105, 116, 58, 65]⟩ 15 100 _ _ _ rfl rfl (by decide +kernel) (by decide) R8.out).mono ?_
  rintro e w9 ⟨rfl, b9⟩
  have R9 := hide (Below.step R8.out b9)
  clear b9
  go_wp2_with fail
  refine (QF.out ⟨#[115, 116, 114, 111, 110, 103, 114, 111, 111, 109, 58, 108, 105, 116, 58, 97, 98]⟩ 16 101 _ _ _ rfl rfl (by decide +kernel) (by decide) R9.out).mono ?_
  rintro e w10 ⟨rfl, b10⟩
  have R10 := hide (Below.step R9.out b10)
  clear b10
  go_wp2_with fail
  refine (QX1.out _).mono ?_
  rintro e w11 ⟨rfl, b11⟩
  have R11 := hide (Below.step R10.out b11)
  clear b11
  go_wp2_with fail
  refine (QF.out _ 15 150 _ _ _ rfl rfl HX.out.1 HX.out.2.1 R11.out).mono ?_
  rintro e w12 ⟨rfl, b12⟩
  have R12 := hide (Below.step R11.out b12)
  clear b12
  go_wp2_with fail
  refine (QT1.out _).mono ?_
  rintro e w13 ⟨rfl, b13⟩
  have R13 := hide (Below.step R12.out b13)
  clear b13
  go_wp2_with fail
  refine (QF.out _ 100 102 _ _ _ rfl rfl HT.out.1 HT.out.2.1 R13.out).mono ?_
  rintro e w14 ⟨rfl, b14⟩
  have R14 := hide (Below.step R13.out b14)
  clear b14
  go_wp2_with fail
  refine (QT2.out _).mono ?_
  rintro e w15 ⟨rfl, b15⟩
  have R15 := hide (Below.step R14.out b15)
  clear b15
  go_wp2_with fail
  refine (QF.out _ 0 5 _ _ _ rfl rfl HT.out.2.2.1 HT.out.2.2.2 R15.out).mono ?_
  rintro e w16 ⟨rfl, b16⟩
  have R16 := hide (Below.step R15.out b16)
  clear b16
  go_wp2_with fail
  refine (QX2.out _).mono ?_
  rintro e w17 ⟨rfl, b17⟩
  have R17 := hide (Below.step R16.out b17)
  clear b17
  go_wp2_with fail
  refine (QF.out _ 256 151 _ _ _ rfl rfl HX.out.2.2.1 HX.out.2.2.2 R17.out).mono ?_
  rintro e w18 ⟨rfl, b18⟩
  have R18 := hide (Below.step R17.out b18)
  clear b18
  go_wp2_with fail
  refine (QSm.out _).mono ?_
  rintro e w19 ⟨rfl, b19⟩
  have R19 := hide (Below.step R18.out b19)
  clear b19
  have c1 : ∀ W, Blk W w19.heap.size 34 FS → W.cell? ⟨w19.heap.size, 1, none⟩ = some (.bool false) ∧ W.frozen? ⟨w19.heap.size, 1, none⟩ = false := fun W hb => ⟨(hb.cell 1).trans HS.out.2.2.1, hb.frozen 1⟩
  have HC1 := hide c1
  clear c1
  go_upto_region 14 with (first
    | ((with_reducible change wpList _ _ _ (⟨none, .store _ (.tmp 3) _, _, _, _, _⟩ :: _) _ _); go_loud (refine wpList_store_row (o := ⟨none, .store _ (.tmp 3) _, _, _, _, _⟩) (Blk.new w19 34 Tryz.zeroCells34) FS (by rw [HS.out.1]; kernel_rfl) HS.out.2.1 rfl 34 _ _ rfl (by rw [HS.out.1]; kernel_rfl) rfl rfl ?_; intro v3 hb hg; have S3 := hide (show Blk v3 w19.heap.size 34 FS ∧ Below w19.heap.size w19 v3 from ⟨hb, (Below.al0 (Below.refl w19.heap.size w19) _).grown hg (by simp) (fun k hk => by injection hk with hk; omega)⟩); clear hb hg; obtain ⟨d1, d2⟩ := HC1.out _ S3.out.1)))
  have H3 := hide (show Blk (v3.setCell ⟨w19.heap.size, 1, none⟩ (.bool true)) w19.heap.size 34 FD ∧ Below w.heap.size w (v3.setCell ⟨w19.heap.size, 1, none⟩ (.bool true)) from ⟨by rw [HS.out.2.2.2]; exact S3.out.1.set_ 1 _, (Below.step R19.out S3.out.2).setCell R19.out.size _⟩)
  clear d1 d2
  go_wp2_with ((with_reducible change wpList _ _ _ (⟨some 75, _, _, _, _, _⟩ :: _) _ _); refine wpList_yields (by kernel_rfl) (.agg FD) (ex_load 34 _ rfl w19.heap.size 0 (by kernel_rfl) FD.toList _ (rng_of H3.out.1) Tryz.underlying34 rfl (by rw [Array.length_toList, HD.out.1]; kernel_rfl)) ?_)
  refine (QW.out _).mono ?_
  rintro e w20 ⟨rfl, b20⟩
  have R20 := hide (Below.step H3.out.2 b20)
  have B3 := hide (H3.out.1.below' b20)
  clear b20
  go_upto_region 17 with (first
    | ((with_reducible change wpList _ _ _ (⟨none, .store _ (.tmp 4) _, _, _, _, _⟩ :: _) _ _); go_loud (refine wpList_store_row (o := ⟨none, .store _ (.tmp 4) _, _, _, _, _⟩) (Blk.new w20 34 Tryz.zeroCells34) FW (by rw [HW2.out.1]; kernel_rfl) HW2.out.2.1 rfl 34 _ _ rfl (by rw [HW2.out.1]; kernel_rfl) rfl rfl ?_; intro v4 hb hg; have S4 := hide (show Blk v4 w20.heap.size 34 FW ∧ Below w20.heap.size w20 v4 from ⟨hb, (Below.al0 (Below.refl w20.heap.size w20) _).grown hg (by simp) (fun k hk => by injection hk with hk; omega)⟩); clear hb hg; have e0 := (S4.out.1.cell 0).trans HW2.out.2.2.1; have e1 := (S4.out.1.cell 1).trans HW2.out.2.2.2.1; have e2 := (S4.out.1.cell 105).trans HW2.out.2.2.2.2.1; have e3 := (S4.out.1.cell 102).trans HW2.out.2.2.2.2.2.1))
    | ((with_reducible change wpList _ _ _ (⟨some 105, _, _, _, _, _⟩ :: _) _ _); refine wpList_yields (by kernel_rfl) (.agg Z) (ex_load 28 _ rfl w20.heap.size 2 (by kernel_rfl) Z.toList _ (HR.out.1 _ _ S4.out.1) Tryz.underlying28 rfl ((by kernel_rfl : (Tryz.prog.info? 28).map (·.size) = some 52).trans (by rw [Array.length_toList, HR.out.2.1]))) ?_)
    | ((with_reducible change wpList _ _ _ (⟨some 106, _, _, _, _, _⟩ :: _) _ _); refine wpList_yields (by kernel_rfl) (.agg Z) (ex_build 28 _ rfl #[] (by kernel_rfl) _ (HR.out.2.2.1 _)) ?_)
    | ((with_reducible change wpList _ _ _ (⟨some 107, _, _, _, _, _⟩ :: _) _ _); refine wpList_yields (by kernel_rfl) (.bool false) (ex_neq 28 _ _ rfl Z Z (by kernel_rfl) (by kernel_rfl) (by kernel_rfl) _ (HR.out.2.2.2 _)) ?_))
  clear e0 e1 e2 e3
  have B4 := hide (show Blk v4 w19.heap.size 34 FD ∧ Below w.heap.size w v4 from ⟨B3.out.below' S4.out.2, Below.step R20.out S4.out.2⟩)
  obtain ⟨FL, hFL⟩ : ∃ F : Array Value, F = capL1.cells (.slice (some ⟨v4.heap.size, 0, none⟩) 1 1) := ⟨_, rfl⟩
  have HL := hide (show FL.size = 107 ∧ FL.all (·.oneCell') = true ∧ (∀ W, (Instr.build 34 #[(0, .int .u8 3), (4, .slice (some ⟨v4.heap.size, 0, none⟩) 1 1)]).run Tryz.prog W = .ok (.agg FL) W) ∧ FL = capL1.cells (.slice (some ⟨v4.heap.size, 0, none⟩) 1 1) from ⟨by rw [hFL]; exact CP.cells_size capL1_wf _, by rw [hFL]; exact CP.cells_one _ _ _ _, fun W => by rw [hFL]; exact build_cap3 _ _ _ W, hFL⟩)
  have HV4 := hide (show Blk (v4.alloc (.cells #[.int .u8 1] 5)) v4.heap.size 5 #[.int .u8 1] ∧ Below v4.heap.size v4 (v4.alloc (.cells #[.int .u8 1] 5)) from ⟨Blk.new _ _ _, (Below.refl _ _).alloc (Nat.le_refl _) _⟩)
  obtain ⟨u4, hu4⟩ : ∃ u4, u4 = v4.alloc (.cells #[.int .u8 1] 5) := ⟨_, rfl⟩
  have HU4 := hide hu4
  rw [← hu4] at HV4
  clear hFL hu4
  go_wp2_with first
    | ((with_reducible change wpList _ _ _ (⟨some 110, _, _, _, _, _⟩ :: _) _ _); rw [← HU4.out]; refine wpList_yields (by kernel_rfl) (.agg FL) (ex_build 34 _ rfl #[(0, .int .u8 3), (4, .slice (some ⟨v4.heap.size, 0, none⟩) 1 1)] (by kernel_rfl) _ (HL.out.2.2.1 _)) ?_)
    | ((with_reducible change wpList _ _ _ (⟨none, .store _ (.tmp 5) _, _, _, _, _⟩ :: _) _ _); go_loud (refine wpList_store_row (o := ⟨none, .store _ (.tmp 5) _, _, _, _, _⟩) (Blk.new u4 34 Tryz.zeroCells34) FL (by rw [HL.out.1]; kernel_rfl) HL.out.2.1 rfl 34 _ _ rfl (by rw [HL.out.1]; kernel_rfl) rfl rfl ?_; intro v5 hb hg; have S5 := hide (show Blk v5 u4.heap.size 34 FL ∧ Below u4.heap.size u4 v5 from ⟨hb, (Below.al0 (Below.refl u4.heap.size u4) _).grown hg (by simp) (fun k hk => by injection hk with hk; omega)⟩); clear hb hg))
    | ((with_reducible change wpList _ _ _ (⟨some 112, _, _, _, _, _⟩ :: _) _ _); refine wpList_yields (by kernel_rfl) (.agg FL) (ex_load 34 _ rfl u4.heap.size 0 (by kernel_rfl) FL.toList _ (rng_of S5.out.1) Tryz.underlying34 rfl (by rw [Array.length_toList, HL.out.1]; kernel_rfl)) ?_)
  have HK5 := hide (show ∀ W', Below v5.heap.size v5 W' → Capy W' FL capL1 (.slice (some ⟨v4.heap.size, 0, none⟩) 1 1) ∧ Blk W' u4.heap.size 34 FL ∧ Blk W' w19.heap.size 34 FD ∧ Below w.heap.size w W' ∧ Blk W' v4.heap.size 5 #[.int .u8 1] from fun W' hW' => by
    have h45 := Below.step S5.out.2 hW'
    have h4 := Below.step HV4.out.2 h45
    have hb := HV4.out.1.below' h45
    exact ⟨⟨HL.out.2.2.2, capL1_wf, capL1_in, by_one hb⟩, S5.out.1.below' hW', B4.out.1.below' h4, Below.step B4.out.2 h4, hb⟩)
  have T0 := hide (Below.refl v5.heap.size v5)
  refine (QWL.out _ FL _ (HK5.out _ T0.out).1).mono ?_
  rintro e x1 ⟨rfl, b⟩
  have T1 := hide (Below.step T0.out b)
  clear b
  go_wp2_with ((with_reducible change wpList _ _ _ (⟨some 117, _, _, _, _, _⟩ :: _) _ _); refine wpList_yields (by kernel_rfl) (.agg FL) (ex_load 34 _ rfl u4.heap.size 0 (by kernel_rfl) FL.toList _ (rng_of (HK5.out _ T1.out).2.1) Tryz.underlying34 rfl (by rw [Array.length_toList, HL.out.1]; kernel_rfl)) ?_)
  refine (QVL.out _ FL _ (HK5.out _ T1.out).1).mono ?_
  rintro e x2 ⟨rfl, b⟩
  have T2 := hide (Below.step T1.out b)
  clear b
  have HL50 := hide (show FL[50]? = some (.int .i64 0) from by rw [HL.out.2.2.2]; rfl)
  go_upto_region 21 with (first | ((with_reducible change wpList _ _ _ (⟨none, .store _ (.tmp 6) _, _, _, _, _⟩ :: _) _ _); go_loud (refine wpList_store_row (o := ⟨none, .store _ (.tmp 6) _, _, _, _, _⟩) (g := x2.heap.size) (t := 31) (Blk.new x2 _ _) Z (HZ.out.1.trans (by kernel_rfl)) HZ.out.2 rfl 31 _ _ rfl ((by kernel_rfl : (Tryz.prog.info? 31).map (·.size) = some 52).trans (by rw [HZ.out.1])) rfl rfl ?_; intro x3 hb hg; have S6 := hide (show Below x2.heap.size x2 x3 from (Below.al0 (Below.refl x2.heap.size x2) _).grown hg (by simp) (fun k hk => by injection hk with hk; omega)); have g1 := ((HK5.out _ (Below.step T2.out S6.out)).2.1.cell 50).trans HL50.out; have g2 := (HK5.out _ (Below.step T2.out S6.out)).2.1.frozen 50; clear hb hg)))
  clear g1 g2
  obtain ⟨FM, hFM⟩ : ∃ F : Array Value, F = FL.setIfInBounds 50 (.int .i64 3) := ⟨_, rfl⟩
  have T3 := hide (Below.step T2.out S6.out)
  have H5 := hide (show Blk (x3.setCell ⟨u4.heap.size, 50, none⟩ (.int .i64 3)) u4.heap.size 34 FM ∧ Blk (x3.setCell ⟨u4.heap.size, 50, none⟩ (.int .i64 3)) w19.heap.size 34 FD ∧ Below w.heap.size w (x3.setCell ⟨u4.heap.size, 50, none⟩ (.int .i64 3)) ∧ Capy (x3.setCell ⟨u4.heap.size, 50, none⟩ (.int .i64 3)) FM capL3 (.slice (some ⟨v4.heap.size, 0, none⟩) 1 1) ∧ FM.size = 107 from by
    obtain ⟨p1, p2, p3, p4, p5⟩ := HK5.out _ T3.out
    have q1 : w19.heap.size < u4.heap.size := by have := B4.out.1.lt; have := HV4.out.2.size; omega
    have q2 : v4.heap.size < u4.heap.size := HV4.out.1.lt
    have q3 : w.heap.size ≤ u4.heap.size := by have := B4.out.2.size; omega
    exact ⟨by rw [hFM]; exact p2.set_ 50 _, p3.far (by show w19.heap.size ≠ u4.heap.size; omega) _, p4.setCell q3 _, ⟨by rw [hFM, HL.out.2.2.2]; exact capL3_cells _, capL3_wf, capL3_in, by_one (p5.far (by show v4.heap.size ≠ u4.heap.size; omega) _)⟩, by rw [hFM]; simpa using HL.out.1⟩)
  clear hFM
  go_wp2_with ((with_reducible change wpList _ _ _ (⟨some 124, _, _, _, _, _⟩ :: _) _ _); refine wpList_yields (by kernel_rfl) (.agg FD) (ex_load 34 _ rfl w19.heap.size 0 (by kernel_rfl) FD.toList _ (rng_of H5.out.2.1) Tryz.underlying34 rfl (by rw [Array.length_toList, HD.out.1]; kernel_rfl)) ?_)
  refine (QSz.out _).mono ?_
  rintro e x4 ⟨rfl, b⟩
  have H6 := hide (And.intro (H5.out.1.below' b) (And.intro (Below.step H5.out.2.2.1 b) (H5.out.2.2.2.1.below b)))
  clear b
  go_wp2_with ((with_reducible change wpList _ _ _ (⟨some 135, _, _, _, _, _⟩ :: _) _ _); refine wpList_yields (by kernel_rfl) (.agg FM) (ex_load 34 _ rfl u4.heap.size 0 (by kernel_rfl) FM.toList _ (rng_of H6.out.1) Tryz.underlying34 rfl (by rw [Array.length_toList, H5.out.2.2.2.2]; kernel_rfl)) ?_)
  refine (QC3.out _ FM _ H6.out.2.2).mono ?_
  rintro e x5 ⟨rfl, b⟩
  have H7 := hide (Below.step H6.out.2.1 b)
  clear b
  go_wp2_with ((with_reducible change wpList _ _ _ (⟨some 148, _, _, _, _, _⟩ :: _) _ _); refine wpList_yields (by kernel_rfl) (.agg FZ) (ex_build 34 _ rfl #[] (by kernel_rfl) _ (HFZ.out _)) ?_)
  refine (QC0.out _).mono ?_
  rintro e x6 ⟨rfl, b⟩
  have H8 := hide (Below.step H7.out b)
  clear b
  go_wp2
  go_ret
  exact ⟨rfl, H8.out⟩
end Go.Proofs.YtcpceaflnnkhnaaGreatDoor
