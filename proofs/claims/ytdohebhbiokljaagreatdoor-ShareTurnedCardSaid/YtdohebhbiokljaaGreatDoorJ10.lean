import Derived.Test.YtdohebhbiokljaaGreatDoorJ9
import Derived.Test.YtdohebhbiokljaaGreatDoorJ8
import Derived.Deep.RegionHeld3
import Derived.Maps.AppendAt
import Derived.Lib.BufferMore
set_option linter.all false
namespace Go.Proofs.YtdohebhbiokljaaGreatDoor
open Go.RowKit
def lensAt (u : US) (j : Nat) : Nat := if j + 1 = SG u then LS u else BL u
theorem lens_at (u : US) (j : Nat) (h : j < SG u) : (lens u)[j]? = some (lensAt u j) := by simp [lens, lensAt, h]
theorem lens_length (u : US) : (lens u).length = SG u := by simp [lens]
theorem sitsU (u : US) (hm : u.may) : Sits ((u.k.toNat : Nat) : Int) ((u.n.toNat : Nat) : Int) ((u.seg.toNat : Nat) : Int) ((u.size.toNat : Nat) : Int) ((SG u : Nat) : Int) ((tailU u : Nat) : Int) ((BL u : Nat) : Int) ((LS u : Nat) : Int) := fun w => by
 obtain ⟨i1, i2, i3, i4⟩ := US.may_in64 hm
 have q := again_any u.k u.n u.seg u.size w i1 i2 i3 i4
 rw [if_pos (show agOK _ _ _ _ from hm)] at q
 obtain ⟨h1, h2, h3, h4⟩ := agOK_in hm
 rw [show ((u.k.toNat : Nat) : Int) = u.k by omega, show ((u.n.toNat : Nat) : Int) = u.n by omega, show ((u.seg.toNat : Nat) : Int) = u.seg by omega, show ((u.size.toNat : Nat) : Int) = u.size by omega]
 refine q.mono ?_
 rintro e w' ⟨hb, rfl⟩
 refine ⟨hb, ?_⟩
 unfold shapeV
 rw [show ((u.k.toNat : Nat) : Int) = u.k by omega, show ((u.n.toNat : Nat) : Int) = u.n by omega, show ((u.seg.toNat : Nat) : Int) = u.seg by omega, show ((u.size.toNat : Nat) : Int) = u.size by omega]
 rfl
theorem bsU (u : US) (hm : u.may) (j : Nat) (hj : j < SG u) (w : World) :
  Calls Tryz.prog 38 #[.agg (shU u), .int .i64 (j : Int)] w fun e w' => Below w.heap.size w w' ∧ e = .returned (.tuple #[.int .i64 ((lensAt u j : Nat) : Int), .int .i64 0]) := by
 have hbd := u_bounds hm
 have q := blockSize_ok _ _ _ _ _ _ _ _ (j : Int) w (sitsU u hm) (by omega) (by omega)
 refine q.mono ?_
 rintro e w' ⟨hb, rfl⟩
 refine ⟨hb, ?_⟩
 unfold szV lensAt
 rw [if_neg (by omega)]
 by_cases h : j + 1 = SG u
 ·rw [if_pos (by omega), if_pos h]
 ·rw [if_neg (by omega), if_neg h]
def shC (num : Int) (u : US) (a b c d : Value) : Array Value := ((frC num u a b c).toList ++ [d]).toArray
theorem Blk.share {w : World} {g : Nat} {t : TypeId} {num : Int} {u : US} {a b c d : Value} (hu : u.wf) (h : Blk w g t (shC num u a b c d)) :
  w.rangeAt g 0 (frC num u a b c).toList ∧ w.rangeAt g 1 u.cells.toList ∧ w.cell? ⟨g, 72, none⟩ = some d := by
 have hs := frC_size (num := num) (a := a) (b := b) (c := c) hu
 obtain ⟨h0, h1, h2, h3, h4⟩ := frC_get (num := num) (a := a) (b := b) (c := c) hu
 have hsl : (frC num u a b c).toList.length = 72 := by simpa using hs
 have hlow : ∀ j, j < 72 → (shC num u a b c d)[j]? = (frC num u a b c)[j]? := fun j hj => by
  unfold shC
  rw [List.getElem?_toArray, List.getElem?_append_left (by omega), Array.getElem?_toList]
 refine ⟨fun j v hj => ?_, fun j v hj => ?_, ?_⟩
 ·have := (List.getElem?_eq_some_iff.1 hj).1
  rw [Nat.zero_add, h.cell, hlow j (by omega), ← Array.getElem?_toList, hj]
 ·have hj68 : j < 68 := by
   have := (List.getElem?_eq_some_iff.1 hj).1
   have hs := US.size_ hu
   simp at this
   omega
  rw [h.cell, hlow (1 + j) (by omega), h1 j hj68, ← Array.getElem?_toList, hj]
 ·rw [h.cell]
  unfold shC
  rw [List.getElem?_toArray, List.getElem?_append_right (by omega), hsl]
  rfl
def ShV (w : World) (v : Value) (s : SS) : Prop := ∃ a b c d LD, v = .agg (shC s.f.num s.f.u a b c d) ∧ Ds w a s.f.ch ∧ Ds w b s.f.bs ∧ Ds w c s.f.sg ∧ Lsts w d LD ∧ LD.map (·.2) = s.data
theorem ShV.below {w w' : World} {v : Value} {s : SS} (h : ShV w v s) (hb : Below w.heap.size w w') : ShV w' v s := by
 obtain ⟨a, b, c, d, LD, h1, h2, h3, h4, h5, h6⟩ := h
 exact ⟨a, b, c, d, LD, h1, h2.below hb, h3.below hb, h4.below hb, h5.below hb, h6⟩
def PackPost (s : SS) (w : World) (e : Ending) (w' : World) : Prop := Below w.heap.size w w' ∧
 ((okS s ∧ ∃ A c, e = .returned (.tuple #[.slice A (packS s).length c, .int .i64 0]) ∧ Own w' w.heap.size 5 (.slice A (packS s).length c) (packS s)) ∨ (¬ okS s ∧ e = .returned (.tuple #[.slice none 0 0, .int .i64 141])))
set_option maxRecDepth 100000 in
set_option maxHeartbeats 4000000 in
theorem pack_any_share (s : SS) (v : Value) (w : World) (hw : s.f.wf) (hi : s.f.u.in64) (hv : ShV w v s) (ht : Tab w) :
  Calls Tryz.prog 14 #[v] w (PackPost s w) := by
 obtain ⟨f, data⟩ := s
 obtain ⟨va, vb, vc, vd, LD, rfl, ha, hb, hc, hd, hLD⟩ := hv
 simp only at *
 obtain ⟨Ad, cd, rfl, hdl, hdm, _⟩ := hd.1.form
 have hul : LD.length = data.length := by rw [← hLD]; simp
 have hlen : data.length ≤ 9223372036854775807 := by unfold maxLen at hdm; omega
 have n0 := Blk.new w 31 (shC f.num f.u va vb vc (.slice Ad LD.length cd))
 have b0 := (Below.refl w.heap.size w).alloc (Nat.le_refl _) (.cells (shC f.num f.u va vb vc (.slice Ad LD.length cd)) 31)
 have hfr := fun W (hW : Below (w.alloc (.cells (shC f.num f.u va vb vc (.slice Ad LD.length cd)) 31)).heap.size (w.alloc (.cells (shC f.num f.u va vb vc (.slice Ad LD.length cd)) 31)) W) => (n0.below' hW).share hw.1
 have HFR := hide hfr
 have HD := hide (hd.below b0)
 have QP : Hid (Calls Tryz.prog 36 #[.agg (frC f.num f.u va vb vc)] (w.alloc (.cells (shC f.num f.u va vb vc (.slice Ad LD.length cd)) 31)) fun e w' => Below (w.alloc (.cells (shC f.num f.u va vb vc (.slice Ad LD.length cd)) 31)).heap.size (w.alloc (.cells (shC f.num f.u va vb vc (.slice Ad LD.length cd)) 31)) w' ∧
   ((okF f ∧ ∃ A c, e = .returned (.tuple #[.slice A (packF f).length c, .int .i64 0]) ∧ By w' (.slice A (packF f).length c) (packF f)) ∨ (¬ okF f ∧ e = .returned (.tuple #[.slice none 0 0, .int .i64 141])))) := by
  refine hide ?_
  by_cases ho : okF f
  ·exact (packFront_ok f va vb vc _ hw ho (ha.below b0) (hb.below b0) (hc.below b0) (ht.below b0)).mono fun e w' ⟨hb, A, c, he, hown⟩ => ⟨hb, .inl ⟨ho, A, c, he, hown.by_⟩⟩
  ·exact (packFront_bad f va vb vc _ hw hi ho (ha.below b0) (hb.below b0) (hc.below b0) (ht.below b0)).mono fun e w' ⟨hb, he⟩ => ⟨hb, .inr ⟨ho, he⟩⟩
 have hfs := frC_size (num := f.num) (a := va) (b := vb) (c := vc) hw.1
 have husz := US.size_ hw.1
 obtain ⟨fr, hfreq, hfrs⟩ : ∃ fr, fr = frC f.num f.u va vb vc ∧ fr.size = 72 := ⟨_, rfl, hfs⟩
 obtain ⟨uc, huc, hucs⟩ : ∃ uc, uc = f.u.cells ∧ uc.size = 68 := ⟨_, rfl, husz⟩
 rw [← hfreq] at QP HFR
 rw [← huc] at HFR
 have HUC := hide (And.intro hfrs hucs)
 have HHU := hide huc
 have HH := hide (And.intro hw (And.intro hi (And.intro hLD (And.intro hul hlen))))
 generalize hsc : shC f.num f.u va vb vc (.slice Ad LD.length cd) = sc at *
 generalize hW0 : w.alloc (.cells sc 31) = W0 at *
 have HB := hide b0
 clear hfr n0 b0 ht ha hb hc hd hfs husz hfreq hfrs huc hucs hw hi hLD hsc hul
 go_enter Tryz.func14, Tryz.ntmps14
 go_wp2_with (first
  | ((with_reducible change wpList _ _ _ (⟨some 14, _, _, _, _, _⟩ :: _) _ _); go_loud (refine wpList_load_midF (by rfl) 28 _ rfl w.heap.size 0 rfl fr _ (HFR.out W0 (Below.refl _ _)).1 Tryz.underlying28 rfl (by rw [HUC.out.1]; kernel_rfl) ?_)))
 refine QP.out.mono ?_
 rintro e w1 ⟨b1, ⟨hok, A1, c1, rfl, hy1⟩ | ⟨hno, rfl⟩⟩
 ·have hm := hok.1
  have hbd := u_bounds hm
  have Q2 := hide (fun W => shapeOf_ok f.u hm W)
  have QB := hide (fun j (hj : j < SG f.u) W => bsU f.u hm j hj W)
  obtain ⟨F8, hF8, hF1, hF2, hF4⟩ : ∃ F : Array Value, F = shU f.u ∧ F.size = 8 ∧ F.all (·.oneCell') = true ∧ F[4]? = some (.int .i64 ((SG f.u : Nat) : Int)) := ⟨_, rfl, rfl, by simp [shU, Value.oneCell'], rfl⟩
  rw [← hF8] at QB Q2
  rw [← HHU.out] at Q2
  obtain ⟨Sn, hSn⟩ : ∃ Sn, Sn = SG f.u := ⟨_, rfl⟩
  rw [← hSn] at QB hF4
  have HF8 := hide (And.intro hF1 (And.intro hF2 hF4))
  have HOK := hide (And.intro hok (And.intro hm (And.intro hbd hSn)))
  have H1 := hide (And.intro b1 hy1)
  clear hok hm hbd hF8 hF1 hF2 hF4 hSn b1 hy1 QP
  go_wp2_with (first
   | ((with_reducible change wpList _ _ _ (⟨some 24, _, _, _, _, _⟩ :: _) _ _); go_loud (refine wpList_load_midF (by rfl) 25 _ rfl w.heap.size 1 rfl uc _ (HFR.out w1 H1.out.1).2.1 Tryz.underlying25 rfl (by rw [HUC.out.2]; kernel_rfl) ?_)))
  refine (Q2.out w1).mono ?_
  rintro e w2 ⟨b2, rfl⟩
  have H2 := hide b2
  clear b2 Q2
  obtain ⟨X, hX⟩ : ∃ X, X = w2.heap.size := ⟨_, rfl⟩
  go_wp2_with ((with_reducible change wpList _ _ _ (⟨none, .store _ (.tmp 6) _, _, _, _, _⟩ :: _) _ _); go_loud (refine wpList_store_row (o := ⟨none, .store _ (.tmp 6) _, _, _, _, _⟩) (Blk.new w2 _ _) F8 (by rw [HF8.out.1]; rfl) HF8.out.2.1 rfl 54 _ _ rfl (by rw [HF8.out.1]; kernel_rfl) rfl rfl ?_; intro w3 hb3 hg3; have H3 := hide (show Below w2.heap.size w2 w3 from ((Below.refl _ w2).alloc (Nat.le_refl _) _).grown hg3 (by simp) (fun k hk => by cases hk; exact Nat.le_refl _)); clear hg3; obtain ⟨-, -, kd⟩ := HFR.out w3 (Below.step H1.out.1 (Below.step H2.out H3.out)); have hx4 : w3.cell? ⟨w2.heap.size, 4, none⟩ = some (.int .i64 (Sn : Int)) := (by rw [hb3.cell]; exact HF8.out.2.2); have HX := hide hb3; clear hb3; rw [← hX] at HX hx4 ⊢; clear hX; by_cases hl : LD.length = Sn))
  ·subst hl
   have H03 := hide (Below.step H1.out.1 (Below.step H2.out H3.out))
   have H13 := hide (Below.step H2.out H3.out)
   have hldb : LD.length ≤ 1048576 := by have h1 := HOK.out.2.2.1; have h2 := HOK.out.2.2.2; omega
   go_wp2
   go_loopw [8, 9, 10, 11, 37] (fun _ _ _ _ u37 wr => ∃ k : Nat, k ≤ LD.length ∧ u37 = .int .i64 (k : Int) ∧ Below w3.heap.size w3 wr ∧ (LD.take k).map (·.2.length) = (lens f.u).take k) (fun _ _ _ _ u37 _ => LD.length - (intOf u37).toNat)
   case atStart => exact ⟨0, by omega, rfl, Below.refl _ _, by simp⟩
   case round =>
    obtain ⟨k, hk, rfl, hbel, heq⟩ := hrel
    have HBL := hide hbel
    have HEQ := hide heq
    clear hbel heq kd hx4
    by_cases hlt : k < LD.length
    ·obtain ⟨x, hx⟩ : ∃ x, LD[k]? = some x := ⟨_, List.getElem?_eq_getElem hlt⟩
     have hD := HD.out.below (Below.step H03.out HBL.out)
     obtain ⟨A', c', hv', _, _, hca⟩ := hD.1.form
     injection hv' with hA' _ hc'
     obtain ⟨b, o, hAb, _, hcell⟩ := hca (by omega)
     have hAd : Ad = some ⟨b, o, none⟩ := hA'.trans hAb
     subst hAd
     have hcx := hcell k (by omega)
     rw [List.getElem?_map, hx] at hcx
     have hbx := hD.2 x (List.mem_of_getElem? hx)
     obtain ⟨Ae, ce, hxe, _, _, _⟩ := hbx.form
     have hcx2 : wr.cell? ⟨b, o + k, none⟩ = some (.slice Ae x.2.length ce) := by rw [hcx]; simp [hxe]
     have QBk := hide (QB.out k (by omega) wr)
     have hst : (LD.take (k + 1)).map (·.2.length) = (LD.take k).map (·.2.length) ++ [x.2.length] := by rw [take_snoc _ _ _ hx]; simp
     have hst2 : (lens f.u).take (k + 1) = (lens f.u).take k ++ [lensAt f.u k] := take_snoc _ _ _ (lens_at f.u k (by have := HOK.out.2.2.2; omega))
     have HST := hide (And.intro hst hst2)
     have HXR : Hid (wr.rangeAt X 0 F8.toList) := fun j v hj => by
      have := (HX.out.below' HBL.out).cell
      rw [Nat.zero_add, this, ← Array.getElem?_toList]
      exact hj
     have hxl : x.2.length ≤ maxLen := by
      obtain ⟨A9, c9, hv9, h9, h9m, _⟩ := hbx.form
      omega
     unfold maxLen at hxl
     have HLX : Hid (lensAt f.u k ≤ 65536) := hide (by have := HOK.out.2.2.1; unfold lensAt; split <;> omega)
     generalize lensAt f.u k = lk at *
     have HXX := hide hx
     clear hcx hcell hca hD hbx hxe hst hst2 hx hA' hAb hc'
     generalize x.2.length = lx at *
     have j1 : (k : Int) < (LD.length : Int) := by omega
     have j2 : (0 : Int) ≤ (k : Int) := by omega
     go_wp2_with (first
      | ((with_reducible change wpList _ _ _ (⟨some 43, _, _, _, _, _⟩ :: _) _ _); go_loud (refine wpList_load_midF (by rfl) 54 _ rfl X 0 rfl F8 _ HXR.out Tryz.underlying54 rfl (by rw [HF8.out.1]; kernel_rfl) ?_)))
     refine QBk.out.mono ?_
     rintro e wb ⟨bb, rfl⟩
     have HBB := hide bb
     clear bb QBk
     by_cases hll : lx = lk
     ·subst hll
      go_wp2
      go_roundw
      case rel => exact ⟨k + 1, by omega, by go_num, Below.step HBL.out HBB.out, by rw [HST.out.1, HST.out.2, HEQ.out]⟩
      case measure => simp [intOf]; omega
     ·have hne : ¬ (lx : Int) = (lk : Int) := by omega
      have HNO : Hid (¬ okS ⟨f, data⟩) := hide fun h => by
       have h2 : data.map List.length = lens f.u := h.2
       have h3 : LD.map (·.2.length) = lens f.u := by rw [← h2, ← HH.out.2.2.1, List.map_map]; rfl
       have h4 := congrArg (List.take (k + 1)) h3
       rw [← List.map_take, HST.out.1, HST.out.2, HEQ.out] at h4
       have h5 := List.append_cancel_left h4
       simp at h5
       exact hll h5
      have HR := hide (Below.step HB.out (Below.step H03.out (Below.step HBL.out HBB.out)))
      go_wp2
      go_ret2
      exact ⟨HR.out, .inr ⟨HNO.out, rfl⟩⟩
    ·have hkl : k = LD.length := by omega
     subst hkl
     have hOK : okS ⟨f, data⟩ := by
      refine ⟨HOK.out.1, ?_⟩
      have h1 := HEQ.out
      rw [List.take_of_length_le (Nat.le_refl _), List.take_of_length_le (by rw [lens_length]; have := HOK.out.2.2.2; omega)] at h1
      show data.map List.length = lens f.u
      rw [← h1, ← HH.out.2.2.1, List.map_map]
      rfl
     have hsum : total LD ≤ 33554432 ∧ cat LD = data.flatten ∧ (packF f).length ≤ 1000000 := by
      have hbd := HOK.out.2.2.1
      have h2 : data.map List.length = lens f.u := hOK.2
      have h3 : LD.map (·.2.length) = lens f.u := by rw [← h2, ← HH.out.2.2.1, List.map_map]; rfl
      have h4 := lens_sum hbd.1
      refine ⟨?_, ?_, ?_⟩
      ·unfold total
       rw [h3, h4]
       have := Nat.mul_le_mul (show SG f.u - 1 ≤ 511 by omega) hbd.2.2.1
       omega
      ·rw [← HH.out.2.2.1]
       unfold cat
       rw [List.flatMap_def]
      ·have h5 := packF_len f HH.out.1 HOK.out.1
       have h6 := writeU_len2 HH.out.1.1 HOK.out.2.1
       rw [h5]
       show 36 + (writeU f.u).length + 32 * CU f.u + 32 * TU f.u + 32 * TU f.u ≤ 1000000
       omega
     have QJ := hide (join_any _ LD wr (HD.out.below (Below.step H03.out HBL.out)) (by omega))
     have hyf := H1.out.2.below (Below.step H13.out HBL.out)
     have HFI := hide (And.intro hOK (And.intro hsum hyf))
     obtain ⟨-, -, kd⟩ := HFR.out wr (Below.step H03.out HBL.out)
     clear hOK hsum hyf
     go_wp2_with fail
     refine QJ.out.mono ?_
     rintro e wj ⟨vj, rfl, oj, bj⟩
     obtain ⟨Aj, cj, rfl, _⟩ := oj.by_.form
     have hl2 := lsts_new (t := 34) (cs := #[.slice A1 (packF f).length c1, .slice Aj (cat LD).length cj]) [(.slice A1 (packF f).length c1, packF f), (.slice Aj (cat LD).length cj, cat LD)] rfl (by simp) (fun y hy => by
      simp only [List.mem_cons, List.not_mem_nil, or_false] at hy
      rcases hy with rfl | rfl
      ·exact HFI.out.2.2.below bj
      ·exact oj.by_)
     have QJ2 := hide (join_any _ _ _ hl2 (by have := HFI.out.2.1; simp [total, cat_length]; unfold total at this; omega))
     have HJ := hide bj
     clear oj bj QJ hl2
     go_wp2_with fail
     refine QJ2.out.mono ?_
     rintro e wk ⟨vk, rfl, ok_, bk⟩
     have hcat : cat [(.slice A1 (packF f).length c1, packF f), (.slice Aj (cat LD).length cj, cat LD)] = packS ⟨f, data⟩ := by
      have := HFI.out.2.1.2.1
      simp [cat, packS] at this ⊢
      exact this
     rw [hcat] at ok_
     obtain ⟨Ak, ck_, rfl, _⟩ := ok_.by_.form
     have hR := Below.step HB.out (Below.step H03.out (Below.step HBL.out (Below.step (Below.al0 HJ.out _) bk)))
     have hB := (Below.step HB.out (Below.step H03.out (Below.step HBL.out (Below.al0 HJ.out (.cells #[.slice A1 (packF f).length c1, .slice Aj (cat LD).length cj] 34))))).size
     have HR := hide (And.intro hR (Own.base ok_ hB))
     clear ok_ bk hR hB hcat QJ2
     go_wp2
     go_ret2
     exact ⟨HR.out.1, .inl ⟨HFI.out.1, _, _, rfl, HR.out.2⟩⟩
  ·have hne : ¬ (LD.length : Int) = (Sn : Int) := by omega
   have HR := hide (Below.step HB.out (Below.step H1.out.1 (Below.step H2.out H3.out)))
   have HNO : Hid (¬ okS ⟨f, data⟩) := hide fun h => by
    have h2 := congrArg List.length h.2
    rw [List.length_map, lens_length] at h2
    have h3 : data.length = SG f.u := h2
    have := HOK.out.2.2.2
    have := HH.out.2.2.2.1
    omega
   go_wp2
   go_ret2
   exact ⟨HR.out, .inr ⟨HNO.out, rfl⟩⟩
 ·have H1 := hide (Below.step HB.out b1)
  have HN := hide hno
  clear b1 QP hno
  go_wp2
  go_ret2
  exact ⟨H1.out, .inr ⟨fun h => HN.out h.1, rfl⟩⟩
end Go.Proofs.YtdohebhbiokljaaGreatDoor
namespace Go.Proofs.YtdohebhbiokljaaGreatDoor
open Go.RowKit
def ZF : Array Value := frC 0 US.zero (.slice none 0 0) (.slice none 0 0) (.slice none 0 0)
def ZP : Array Value := #[.int .i64 0, .int .i64 0, .int .i64 0, .int .i64 0, .int .i64 0, .int .i64 0]
theorem ZF_zero : Tryz.zeroCells28 = ZF := by kernel_rfl
theorem ZF_size : ZF.size = 72 := by kernel_rfl
theorem ZF_one : ZF.all (·.oneCell') = true := by kernel_rfl
theorem ZF_build (W : World) : (Instr.build 28 #[]).run Tryz.prog W = .ok (.agg ZF) W := by kernel_rfl
theorem results_four {P : Program} {fn : Func} {p q u v : Tmp} {ty tz : TypeId} (h : fn.results = #[.cell p ty, .cell q tz, .tmp u, .tmp v]) (tmps : Array Value) (w : World) (g g2 : Nat) (t t2 : TypeId) (cs cs2 : Array Value) (fr fr2 : Nat × Nat) (d d2 : TypeDesc)
  (hp : tmps.getD p undef = .pointer (some ⟨g, 0, none⟩)) (hg : w.heap[g]? = some (.cells cs t fr))
  (hu : P.underlying ty = some d) (hd : (match d with | .struct _ | .array _ _ => true | _ => false) = true) (hi : (P.info? ty).map (·.size) = some cs.size)
  (hq : tmps.getD q undef = .pointer (some ⟨g2, 0, none⟩)) (hg2 : w.heap[g2]? = some (.cells cs2 t2 fr2))
  (hu2 : P.underlying tz = some d2) (hd2 : (match d2 with | .struct _ | .array _ _ => true | _ => false) = true) (hi2 : (P.info? tz).map (·.size) = some cs2.size) :
  (results fn tmps).run P w = .ok (.tuple #[.agg cs, .agg cs2, tmps.getD u undef, tmps.getD v undef]) w := by
 have hp' : tmps[p]?.getD undef = .pointer (some ⟨g, 0, none⟩) := by simpa using hp
 have hq' : tmps[q]?.getD undef = .pointer (some ⟨g2, 0, none⟩) := by simpa using hq
 simp only [results, h]
 simp [Sem.run_bind, Result.andThen, hp', hq', asAddr, run_loadVar_row w g t ty cs fr d hg hu hd hi, run_loadVar_row w g2 t2 tz cs2 fr2 d2 hg2 hu2 hd2 hi2]
set_option maxRecDepth 100000 in
set_option maxHeartbeats 1000000 in
theorem fail_any (x : Int) (w : World) : Calls Tryz.prog 67 #[.int .i64 x] w fun e w' => e = .returned (.tuple #[.agg ZF, .agg ZP, .int .i64 x, .int .i64 140]) ∧ Below w.heap.size w w' := by
 have hb := ZF_build
 have n2 := Blk.new w 28 ZF
 have n3 := Blk.new (w.alloc (.cells ZF 28)) 76 ZP
 have n2' := n2.alloc (.cells ZP 76)
 have b3 := ((Below.refl w.heap.size w).alloc (Nat.le_refl _) (.cells ZF 28)).alloc (by simp) (.cells ZP 76)
 have hz := ZF_zero
 obtain ⟨Z, hZ, hZ1, hZ2⟩ : ∃ Z, Z = ZF ∧ Z.size = 72 ∧ Z.all (·.oneCell') = true := ⟨_, rfl, ZF_size, ZF_one⟩
 rw [← hZ] at hb n2 n3 n2' b3 hz ⊢
 have HZ := hide (And.intro hZ1 hZ2)
 have HB := hide (And.intro n2' (And.intro n3 b3))
 unfold ZP at HB ⊢
 simp only [World.size_alloc] at HB
 clear hZ hZ1 hZ2 n2 n3 n2' b3
 go_enter Tryz.func67, Tryz.ntmps67
 go_wp2_with (first
  | ((with_reducible change wpList _ _ _ (⟨none, .store _ (.tmp 2) _, _, _, _, _⟩ :: _) _ _); go_loud (refine wpList_store_row (o := ⟨none, .store _ (.tmp 2) _, _, _, _, _⟩) HB.out.1 Z rfl HZ.out.2 rfl 28 _ _ rfl (by rw [HZ.out.1]; kernel_rfl) rfl rfl ?_; intro w5 hb5 hg5; have hp5 := HB.out.2.1.grown hg5 (by intro e; injection e with e; omega); have H5 := hide (And.intro hb5 (And.intro hp5 hg5)); clear hb5 hp5 hg5))
  | ((with_reducible change wpList _ _ _ (⟨none, .store _ (.tmp 3) _, _, _, _, _⟩ :: _) _ _); go_loud (refine wpList_store_row (o := ⟨none, .store _ (.tmp 3) _, _, _, _, _⟩) H5.out.2.1 #[.int .i64 0, .int .i64 0, .int .i64 0, .int .i64 0, .int .i64 0, .int .i64 0] rfl (by simp [Value.oneCell']) rfl 76 _ _ rfl (by kernel_rfl) rfl rfl ?_; intro w6 hb6 hg6; have hf6 := H5.out.1.grown hg6 (by intro e; injection e with e; omega); have H6 := hide (And.intro hb6 (And.intro hf6 hg6)); clear hb6 hf6 hg6)))
 have hb5 := HB.out.2.2.grown H5.out.2.2 HB.out.2.2.size (fun k hk => by injection hk with hk; omega)
 have hbel := hb5.grown H6.out.2.2 hb5.size (fun k hk => by injection hk with hk; omega)
 exact bodyPost_ret (results_four rfl _ _ w.heap.size (w.heap.size + 1) 28 76 Z _ (0, 0) (0, 0) _ _ rfl H6.out.2.1 Tryz.underlying28 rfl (by rw [HZ.out.1]; kernel_rfl) rfl H6.out.1 Tryz.underlying76 rfl (by kernel_rfl)) rfl ⟨rfl, hbel⟩
end Go.Proofs.YtdohebhbiokljaaGreatDoor
namespace Go.Proofs.YtdohebhbiokljaaGreatDoor
open Go.RowKit
section
variable {P : Program} {o : Oper} {a : Act} {w : World}
theorem ex_loadB (ty : TypeId) (x : Operand) (ho : o.op = .load ty x) (g : Nat) (hx : a.eval x = .pointer (some ⟨g, 0, none⟩)) (t : TypeId) (cs : Array Value) (d : TypeDesc) (hg : Blk w g t cs)
  (hu : P.underlying ty = some d) (hd : (match d with | .struct _ | .array _ _ => true | _ => false) = true) (hi : (P.info? ty).map (·.size) = some cs.size) : (execOp a.eval o).run P w = .ok (.value (.agg cs)) w := by
 unfold execOp
 simp only [ho, hx, Instr.loadAt, Instr.sureAddr, Sem.run_bind, Sem.run_pure, Result.andThen_ok, run_loadVar_row w g t ty cs (0, 0) d hg hu hd hi]
theorem ex_loadI (ty : TypeId) (x : Operand) (ho : o.op = .load ty x) (p : Addr) (hx : a.eval x = .pointer (some p)) (v : Value) (k : IntKind) (hc : w.cell? p = some v) (hu : P.underlying ty = some (.int k)) : (execOp a.eval o).run P w = .ok (.value v) w := by
 unfold execOp
 simp only [ho, hx, Instr.loadAt, Instr.sureAddr, Sem.run_bind, Sem.run_pure, Result.andThen_ok]
 simp [loadVar, isAgg, underlying, hu, hc, Result.andThen]
theorem ex_buildV (t : TypeId) (ps : Array (Nat × Operand)) (ho : o.op = .build t ps) (vs : Array (Nat × Value)) (hv : ps.map (fun x => (x.1, a.eval x.2)) = vs) (v : Value) (hr : (Instr.build t vs).run P w = .ok v w) : (execOp a.eval o).run P w = .ok (.value v) w := by
 subst hv
 unfold execOp
 simp only [ho, Sem.run_bind, Sem.run_pure, hr, Result.andThen_ok]
theorem wp_store_blk {op : Oper} {K : Act → World → Prop} {Q : Exit → Act → World → Prop} {g : Nat} {t : TypeId} {old : Array Value} (hb : Blk w g t old) (cells : Array Value) (hs : cells.size = old.size) (h1 : cells.all (·.oneCell') = true)
  (ty : TypeId) (x y : Operand) (ho : op.op = .store ty x y) (hi : (P.info? ty).map (·.size) = some cells.size) (hx : a.eval x = .pointer (some ⟨g, 0, none⟩)) (hy : a.eval y = .agg cells)
  (h : ∀ w', Blk w' g t cells → w.grownBy w' (some g) → K (a.put op.dst undef) w') : op.wp P a w K Q := by
 refine wp_store_mid ty x y ho g 0 cells hx hy (fun j hj => ⟨?_, ?_⟩) hi h1 (h _ ?_ (stores_grown g _ _ _))
 ·rw [Nat.zero_add, hb.cell]; simp; omega
 ·rw [Nat.zero_add]; exact hb.frozen j
 ·have := blk_setCells cells.toList w 0 old hb (by simp; omega)
  simp only [List.take_zero, List.nil_append, Nat.zero_add, Array.length_toList] at this
  rw [List.drop_of_length_le (by simp; omega), List.append_nil] at this
  simpa using this
theorem wpList_ex {ops : Array Oper} {rest : List Oper} {Q : Exit → Act → World → Prop} (hgd : o.guard = none) {v : Value} (hr : (execOp a.eval o).run P w = .ok (.value v) w) (h : wpList P ops Q rest (a.put o.dst v) w) : wpList P ops Q (o :: rest) a w := by
 refine wpList_plain hgd fun K hK => ?_
 unfold Oper.wp
 rw [hr]
 exact hK _ _ h
end
def slO (o c i : Nat) : Nat := if i = 0 then o else if c = i then o else o + i
theorem sl_law (W : World) (g o n c : Nat) (i j : Int) (h0 : 0 ≤ i) (h1 : i ≤ j) (h2 : j ≤ (c : Int)) :
  (Instr.sliceAt 34 (.slice (some ⟨g, o, none⟩) n c) (some (.int .i64 i)) (some (.int .i64 j)) none).run Tryz.prog W = .ok (.slice (some ⟨g, slO o c i.toNat, none⟩) (j.toNat - i.toNat) (c - i.toNat)) W := by
 have ht : Tryz.prog.underlying 34 = some (.slice (Tryz.prog.elem 34)) := by kernel_rfl
 have hz : ∀ w, (Go.sizeOf (Tryz.prog.elem 34)).run Tryz.prog w = .ok 1 w := fun w => by kernel_rfl
 rw [run_sliceAt_slice (h := ht), run_slice_lh W _ _ _ _ ht .i64 .i64 _ _ (by omega) (by omega) (by omega), hz]
 unfold slO
 by_cases hz : i.toNat = 0
 ·simp [Result.andThen, sliced, hz, Addr.add]
 ·by_cases hc : c = i.toNat
  ·simp [Result.andThen, sliced, ← hc]
  ·simp [Result.andThen, sliced, hz, hc, Addr.add]
theorem sl_by {w : World} {g o c : Nat} {l : List UInt8} (h : By w (.slice (some ⟨g, o, none⟩) l.length c) l) (i j : Nat) (hij : i ≤ j) (hj : j ≤ l.length) : By w (.slice (some ⟨g, slO o c i, none⟩) (j - i) (c - i)) (sub l i j) := by
 obtain ⟨A', c0, hv, hlc, hcm, _⟩ := h.form
 injection hv with _ _ hc
 subst hc
 unfold slO
 by_cases h0 : i = 0
 ·subst h0
  have := h.sub 0 (j - 0) c (by omega) (by omega) hcm
  rwa [Nat.add_zero] at this
 ·rw [if_neg h0]
  by_cases hci : c = i
  ·have hji : j = i := by omega
   subst hci hji
   have : sub l j j = [] := by simp [sub]
   rw [this, Nat.sub_self]
   exact ⟨by simp, _, _, rfl, Nat.le_refl _, by unfold maxLen; omega, fun h => by simp at h⟩
  ·rw [if_neg hci]
   exact h.sub i (j - i) (c - i) (by omega) (by omega) (by omega)
theorem list16 {α : Type} {l : List α} (h : l.length = 16) : ∃ a0 a1 a2 a3 a4 a5 a6 a7 a8 a9 a10 a11 a12 a13 a14 a15 : α, l = [a0, a1, a2, a3, a4, a5, a6, a7, a8, a9, a10, a11, a12, a13, a14, a15] := by
 match l, h with
 | [a0, a1, a2, a3, a4, a5, a6, a7, a8, a9, a10, a11, a12, a13, a14, a15], _ => exact ⟨_, _, _, _, _, _, _, _, _, _, _, _, _, _, _, _, rfl⟩
theorem list68 {α : Type} {l : List α} (h : l.length = 68) : ∃ a b c d e : List α, l = a ++ (b ++ (c ++ (d ++ e))) ∧ a.length = 16 ∧ b.length = 16 ∧ c.length = 16 ∧ d.length = 16 ∧ e.length = 4 :=
 ⟨l.take 16, (l.drop 16).take 16, (l.drop 32).take 16, (l.drop 48).take 16, l.drop 64, by rw [show 64 = 48 + 16 from rfl, ← List.drop_drop, List.take_append_drop, show 48 = 32 + 16 from rfl, ← List.drop_drop, List.take_append_drop, show 32 = 16 + 16 from rfl, ← List.drop_drop, List.take_append_drop, List.take_append_drop], by simp [h], by simp [h], by simp [h], by simp [h], by simp [h]⟩
theorem list4 {α : Type} {l : List α} (h : l.length = 4) : ∃ a0 a1 a2 a3 : α, l = [a0, a1, a2, a3] := by
 match l, h with
 | [a0, a1, a2, a3], _ => exact ⟨_, _, _, _, rfl⟩
theorem build_front (num : Int) (u : US) (hu : u.wf) (A1 A2 A3 : Option Addr) (n1 n2 n3 k1 k2 k3 : Nat) (W : World) :
  (Instr.build 28 #[(0, .int .i64 num), (1, .agg u.cells), (2, .slice A1 n1 k1), (3, .slice A2 n2 k2), (4, .slice A3 n3 k3)]).run Tryz.prog W = .ok (.agg (frC num u (.slice A1 n1 k1) (.slice A2 n2 k2) (.slice A3 n3 k3))) W := by
 have hl : u.cells.toList.length = 68 := by simpa using US.size_ hu
 unfold frC
 obtain ⟨L, hL⟩ : ∃ L, L = u.cells.toList := ⟨_, rfl⟩
 have hc : u.cells = L.toArray := by rw [hL]
 rw [← hL] at hl ⊢
 rw [hc]
 clear hL hc
 obtain ⟨l1, l2, l3, l4, l5, rfl, h1, h2, h3, h4, h5⟩ := list68 hl
 obtain ⟨a0, a1, a2, a3, a4, a5, a6, a7, a8, a9, a10, a11, a12, a13, a14, a15, rfl⟩ := list16 h1
 obtain ⟨b0, b1, b2, b3, b4, b5, b6, b7, b8, b9, b10, b11, b12, b13, b14, b15, rfl⟩ := list16 h2
 obtain ⟨c0, c1, c2, c3, c4, c5, c6, c7, c8, c9, c10, c11, c12, c13, c14, c15, rfl⟩ := list16 h3
 obtain ⟨d0, d1, d2, d3, d4, d5, d6, d7, d8, d9, d10, d11, d12, d13, d14, d15, rfl⟩ := list16 h4
 obtain ⟨e0, e1, e2, e3, rfl⟩ := list4 h5
 clear hl hu h1 h2 h3 h4 h5
 show (Instr.build 28 _).run Tryz.prog W = _
 kernel_rfl
theorem frC_one {num : Int} {u : US} (hu : u.wf) {a b c : Value} (ha : a.oneCell' = true) (hb : b.oneCell' = true) (hc : c.oneCell' = true) : (frC num u a b c).all (·.oneCell') = true := by
 have h1 := ueb_one u
 unfold frC
 rw [Array.all_eq_true_iff_forall_mem] at h1 ⊢
 intro x hx
 simp only [List.mem_toArray, List.mem_cons, List.mem_append, List.not_mem_nil, or_false] at hx
 rcases hx with rfl | hx | rfl | rfl | rfl
 ·rfl
 ·exact h1 x (by simpa using hx)
 ·exact ha
 ·exact hb
 ·exact hc
def OpP (l : List UInt8) (u : US) : Prop := 36 ≤ l.length ∧ l.take 4 = mark4 ∧ w4 l 4 = 1 ∧ w4 l 12 = 36 ∧ ¬ (w4 l 16 < 36 ∨ l.length < w4 l 16) ∧ readU (txt l) = (u, 0, 0) ∧ ¬ u.n ≤ (w4 l 8 : Int)
theorem openF_pk {en : Nat} {l : List UInt8} {u : US} {x k n : Nat} (h : OpP l u) (hx : x = w4 l 16) (hk : 2 ≤ k ∧ k < 6) (hpre : ∀ j, 2 ≤ j → j < k → w4 l (12 + 4 * j) = pl u (x - 36) j) (hn : 12 + 4 * k = n) (hne : ¬ w4 l n = pl u (x - 36) k) : openF en l = (none, n) := by
 subst hx hn
 obtain ⟨h1, h2, h3, h4, h5, h6, h7⟩ := h
 have hk' : k = 2 ∨ k = 3 ∨ k = 4 ∨ k = 5 := by omega
 unfold openF
 simp only [h6]
 rw [if_neg (by omega), if_neg (by simpa using h2), if_neg (by omega), if_neg (by omega), if_neg h5, if_neg (by simp), if_neg h7]
 rcases hk' with rfl | rfl | rfl | rfl
 ·rw [if_pos hne]
 ·rw [if_neg (by have := hpre 2 (by omega) (by omega); simpa using this), if_pos hne]
 ·rw [if_neg (by have := hpre 2 (by omega) (by omega); simpa using this), if_neg (by have := hpre 3 (by omega) (by omega); simpa using this), if_pos hne]
 ·rw [if_neg (by have := hpre 2 (by omega) (by omega); simpa using this), if_neg (by have := hpre 3 (by omega) (by omega); simpa using this), if_neg (by have := hpre 4 (by omega) (by omega); simpa using this), if_pos hne]
theorem openF_pe {en : Nat} {l : List UInt8} {u : US} {x p : Nat} (h : OpP l u) (hx : x = w4 l 16) (hpre : ∀ j, 2 ≤ j → j < 6 → w4 l (12 + 4 * j) = pl u (x - 36) j) (hp : p = pl u (x - 36) en) :
  openF en l = if l.length ≠ p then (none, min l.length p) else (some ⟨(w4 l 8 : Int), u, ck (CU u) (sub l (pl u (x - 36) 1) (pl u (x - 36) 2)), ck (TU u) (sub l (pl u (x - 36) 2) (pl u (x - 36) 3)), ck (TU u) (sub l (pl u (x - 36) 3) (pl u (x - 36) 4))⟩, 0) := by
 subst hx hp
 obtain ⟨h1, h2, h3, h4, h5, h6, h7⟩ := h
 unfold openF
 simp only [h6]
 rw [if_neg (by omega), if_neg (by simpa using h2), if_neg (by omega), if_neg (by omega), if_neg h5, if_neg (by simp), if_neg h7, if_neg (by have := hpre 2 (by omega) (by omega); simpa using this), if_neg (by have := hpre 3 (by omega) (by omega); simpa using this), if_neg (by have := hpre 4 (by omega) (by omega); simpa using this), if_neg (by have := hpre 5 (by omega) (by omega); simpa using this)]
theorem own_keep {w w' : World} {base n sz X : Nat} {e : TypeId} {v : Value} {xs : List Value} (h : w.ownsRow base e sz v n xs) (hg : w.grownBy w' (some X)) (hX : X < base) : w'.ownsRow base e sz v n xs :=
 World.ownsRow.kept h hg (by
  rcases hb : v.ownBlock with _ | b
  ·exact .inl rfl
  ·refine .inr fun e => ?_
   injection e with e
   have := (h.lt b hb).1
   omega)
theorem ck_take : ∀ (m : Nat) (l : List UInt8) (n : Nat), 32 * m ≤ n → ck m (l.take n) = ck m l
 | 0, _, _, _ => rfl
 | m + 1, l, n, h => by
  show (l.take n).take 32 :: ck m ((l.take n).drop 32) = l.take 32 :: ck m (l.drop 32)
  rw [List.take_take, Nat.min_eq_left (by omega), List.drop_take, ck_take m _ _ (by omega)]
theorem sub_drop (l : List UInt8) (i j k : Nat) : (sub l i j).drop k = sub l (i + k) j := by
 unfold sub
 rw [List.drop_take, List.drop_drop, Nat.sub_sub]
theorem ck_sub (l : List UInt8) (m i j j' : Nat) (h : 32 * m ≤ j - i) (h' : 32 * m ≤ j' - i) : ck m (sub l i j) = ck m (sub l i j') := by
 unfold sub
 rw [ck_take _ _ _ h, ck_take _ _ _ h']
def DsO (w : World) (base : Nat) (v : Value) (L : List (List UInt8)) : Prop := w.ownsRow base 23 32 v L.length (L.flatMap bcells) ∧ Dg L
theorem DsO.ds {w : World} {base : Nat} {v : Value} {L : List (List UInt8)} (h : DsO w base v L) : Ds w v L := ⟨Sl.of_own h.1, h.2⟩
theorem DsO.of_own {w : World} {base b n : Nat} {v : Value} {l : List UInt8} (h : w.ownsRow base 23 32 v n ((ck n l).flatMap bcells)) (hl : 32 * n ≤ l.length) (hb : b ≤ base) : DsO w b v (ck n l) := by
 refine ⟨?_, ck_dg n l hl⟩
 rw [ck_length]
 refine ⟨h.1, h.2.imp id ?_⟩
 rintro ⟨g, cap, cur, hv, hg, r⟩
 exact ⟨g, cap, cur, hv, by omega, r⟩
theorem DsO.below {w w' : World} {base : Nat} {v : Value} {L : List (List UInt8)} (h : DsO w base v L) (hb : Below w.heap.size w w') : DsO w' base v L := ⟨own_below' h.1 hb, h.2⟩
theorem DsO.keep {w w' : World} {base X : Nat} {v : Value} {L : List (List UInt8)} (h : DsO w base v L) (hg : w.grownBy w' (some X)) (hX : X < base) : DsO w' base v L := ⟨own_keep h.1 hg hX, h.2⟩
theorem DsO.mono {w : World} {base b : Nat} {v : Value} {L : List (List UInt8)} (h : DsO w base v L) (hb : b ≤ base) : DsO w b v L := by
 refine ⟨⟨h.1.1, h.1.2.imp id ?_⟩, h.2⟩
 rintro ⟨g, cap, cur, hv, hg, r⟩
 exact ⟨g, cap, cur, hv, by omega, r⟩
end Go.Proofs.YtdohebhbiokljaaGreatDoor
namespace Go.Proofs.YtdohebhbiokljaaGreatDoor
open Go.RowKit
theorem infoD : (Tryz.prog.info? 23).map (fun i => (i.zero, i.size, i.bytes)) = some (some (.agg (Array.replicate 32 (.int .u8 0))), 32, 32) := by kernel_rfl
set_option maxRecDepth 100000 in
set_option maxHeartbeats 2000000 in
theorem cloneD_any (A : Option Addr) (n c : Nat) (L : List (List UInt8)) (w : World) (h : Ds w (.slice A n c) L) (hn : n = L.length) (h0 : 0 < n) (hl : n ≤ 4096) :
  Calls Tryz.prog 49 #[.slice A n c] w fun e w' => Below w.heap.size w w' ∧ ∃ u, e = .returned u ∧ DsO w' w.heap.size u L := by
 obtain ⟨i0, hi, hz0, hz1, hz2⟩ := info_parts infoD
 have HI := hide (And.intro hi (And.intro hz0 (And.intro hz1 hz2)))
 obtain ⟨A', c', hv, _, hcm, hca⟩ := h.1.form
 injection hv with hA' _ hc'
 subst hA' hc'
 obtain ⟨b, o, rfl, hb, hcell⟩ := hca (by omega)
 have hf := flat_size h.2
 have HD := hide h.2
 obtain ⟨F, hF⟩ : ∃ F, F = L.flatMap bcells := ⟨_, rfl⟩
 have HF := hide (show F.length = n * 32 ∧ (∀ u ∈ F, u.oneCell' = true) ∧ F = L.flatMap bcells from ⟨by rw [hF, hf]; omega, fun u hu => by
  rw [hF, List.mem_flatMap] at hu
  obtain ⟨l, _, hl2⟩ := hu
  unfold bcells at hl2
  obtain ⟨x, _, rfl⟩ := List.mem_map.1 hl2
  rfl, hF⟩)
 have a1 := (Below.refl w.heap.size w).alloc (Nat.le_refl _) (.cells #[] 23)
 have HNW := hide (show ∀ j u, F[j]? = some u → (w.alloc (.cells #[] 23)).cell? ((⟨b, o, none⟩ : Addr).add j) = some u from fun j u hj => by
  have hjl := (List.getElem?_eq_some_iff.1 hj).1
  rw [Addr.add_mid, a1.cell (p := ⟨b, o + j, none⟩) hb, hcell j (by have := HF.out.1; rw [← hn]; omega), ← hF]
  exact hj)
 have own : (w.alloc (.cells #[] 23)).ownsRow w.heap.size 23 32 (.slice (some ⟨w.heap.size, 0, none⟩) 0 0) 0 [] := by
  have := (Blk.new w 23 #[]).own (base := w.heap.size) (e := 23) (n := 0) (cap := 0) (sz := 32) rfl (Nat.le_refl _) (by simp) (Nat.zero_le _) (by unfold maxLen; omega)
  simpa using this
 have HO := hide (And.intro own a1)
 have HN := hide hn
 clear h hi hz0 hz1 hz2 hca hcell hf hF own a1 hn
 have heq : ∀ (k : Nat) (W : World), (binOp .eql 26 (.slice (some ⟨b, o, none⟩) k c) (.slice none 0 0)).run Tryz.prog W = .ok (.bool false) W := fun k W => Go.Lib.run_eql_slice_some_nil W ⟨b, o, none⟩ k c Tryz.underlying26
 go_enter Tryz.func49, Tryz.ntmps49
 go_wp2_with (at_builtin; go_loud (refine wpList_append_own_at _ rfl _ _ 26 rfl w.heap.size 23 i0 (.agg (Array.replicate 32 (.int .u8 0))) 32 32 Tryz.underlying26 HI.out.1 HI.out.2.1 HI.out.2.2.1 HI.out.2.2.2 rfl (by decide) _ _ _ rfl HO.out.1 ⟨b, o, none⟩ _ c F rfl HF.out.1 HNW.out HF.out.2.1 (by unfold maxLen; omega) (by omega) HO.out.2.size ?_; intro v3 w3 hown3 hgr3 _ _))
 go_ret
 refine ⟨HO.out.2.grown hgr3 HO.out.2.size (fun k hk => (HO.out.1.lt k hk).1), _, rfl, ?_, HD.out⟩
 rw [← HF.out.2.2, ← HN.out]
 simpa using hown3
def slD (o c i : Nat) : Nat := if i = 0 then o else if c = i then o else o + i * 32
theorem sl_lawD (W : World) (g o n c : Nat) (i j : Int) (h0 : 0 ≤ i) (h1 : i ≤ j) (h2 : j ≤ (c : Int)) :
  (Instr.sliceAt 26 (.slice (some ⟨g, o, none⟩) n c) (some (.int .i64 i)) (some (.int .i64 j)) none).run Tryz.prog W = .ok (.slice (some ⟨g, slD o c i.toNat, none⟩) (j.toNat - i.toNat) (c - i.toNat)) W := by
 have ht : Tryz.prog.underlying 26 = some (.slice (Tryz.prog.elem 26)) := by kernel_rfl
 have hz : ∀ w, (Go.sizeOf (Tryz.prog.elem 26)).run Tryz.prog w = .ok 32 w := fun w => by kernel_rfl
 rw [run_sliceAt_slice (h := ht), run_slice_lh W _ _ _ _ ht .i64 .i64 _ _ (by omega) (by omega) (by omega), hz]
 unfold slD
 by_cases hz : i.toNat = 0
 ·simp [Result.andThen, sliced, hz, Addr.add]
 ·by_cases hc : c = i.toNat
  ·simp [Result.andThen, sliced, ← hc]
  ·simp [Result.andThen, sliced, hz, hc, Addr.add]
   omega
theorem Ds.sub {w : World} {g o n c : Nat} {L : List (List UInt8)} (h : Ds w (.slice (some ⟨g, o, none⟩) n c) L) (i j : Nat) (hij : i < j) (hj : j ≤ L.length) (hic : j ≤ c) : Ds w (.slice (some ⟨g, slD o c i, none⟩) (j - i) (c - i)) ((L.drop i).take (j - i)) := by
 obtain ⟨A', c', hv, hlc, hcm, hca⟩ := h.1.form
 injection hv with hA' _ hc'
 subst hA' hc'
 obtain ⟨b, o', hA, hb, hcell⟩ := hca (by omega)
 injection hA with hA
 injection hA with hAb hAo _
 subst hAb hAo
 have hd : Dg ((L.drop i).take (j - i)) := fun x hx => h.2 x (List.mem_of_mem_drop (List.mem_of_mem_take hx))
 have hlen : ((L.drop i).take (j - i)).length = j - i := by rw [List.length_take, List.length_drop]; omega
 have hsl : slD o c i = o + i * 32 := by
  unfold slD
  by_cases hz : i = 0
  ·rw [if_pos hz, hz]; omega
  ·rw [if_neg hz, if_neg (by omega)]
 refine ⟨⟨by rw [flat_size hd, hlen]; omega, _, _, by rw [hlen], by omega, by omega, fun _ => ⟨g, _, rfl, hb, fun k hk => ?_⟩⟩, hd⟩
 rw [hlen] at hk
 obtain ⟨x, hx⟩ : ∃ x, L[i + k / 32]? = some x := ⟨_, List.getElem?_eq_getElem (by omega)⟩
 have hx2 : ((L.drop i).take (j - i))[k / 32]? = some x := by
  rw [List.getElem?_take_of_lt (by omega), List.getElem?_drop]
  exact hx
 have e1 := flat_get L h.2 (i + k / 32) x hx (k % 32) (by omega)
 have e2 := flat_get _ hd (k / 32) x hx2 (k % 32) (by omega)
 rw [show k / 32 * 32 + k % 32 = k by omega] at e2
 rw [e2, ← e1, hsl, show o + i * 32 + k = o + ((i + k / 32) * 32 + k % 32) by omega]
 exact hcell _ (by omega)
end Go.Proofs.YtdohebhbiokljaaGreatDoor
