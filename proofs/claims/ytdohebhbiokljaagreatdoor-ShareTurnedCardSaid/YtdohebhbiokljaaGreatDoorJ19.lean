import Derived.Test.YtdohebhbiokljaaGreatDoorJ10
set_option linter.all false
namespace Go.Proofs.YtdohebhbiokljaaGreatDoor
open Go.RowKit
def OpenPost (en : Nat) (l : List UInt8) (w : World) (e : Ending) (w' : World) : Prop := Below w.heap.size w w' ∧
 ((∃ at_, openF en l = (none, at_) ∧ e = .returned (.tuple #[.agg ZF, .agg ZP, .int .i64 (at_ : Int), .int .i64 140])) ∨
  (∃ f va vb vc, openF en l = (some f, 0) ∧ e = .returned (.tuple #[.agg (frC f.num f.u va vb vc), .agg (plA f.u (w4 l 16 - 36)), .int .i64 0, .int .i64 0]) ∧ DsO w' w.heap.size va f.ch ∧ DsO w' w.heap.size vb f.bs ∧ DsO w' w.heap.size vc f.sg))
attribute [local go_sem ↓ high] sl_law
theorem ZP_one : ZP.all (·.oneCell') = true := by simp [ZP, Value.oneCell']
set_option maxRecDepth 100000 in
set_option maxHeartbeats 8000000 in
theorem opened_any (v : Value) (l : List UInt8) (en : Nat) (hen : en = 4 ∨ en = 5) (w : World) (h : By w v l) (ht : Tab w) (he : Err w) :
  Calls Tryz.prog 40 #[v, .int .i64 (en : Int)] w (OpenPost en l w) := by
 obtain ⟨A, c, rfl, hlc, hcm, hca⟩ := h.form
 have hl : l.length ≤ 9223372036854775807 := by unfold maxLen at hcm; omega
 have n2 := Blk.new w 28 ZF
 have n3 := Blk.new (w.alloc (.cells ZF 28)) 76 ZP
 have n2' := n2.alloc (.cells ZP 76)
 have b3 := ((Below.refl w.heap.size w).alloc (Nat.le_refl _) (.cells ZF 28)).alloc (by simp) (.cells ZP 76)
 simp only [World.size_alloc] at n3
 have hz := ZF_zero
 obtain ⟨zf, hzf, hzf1, hzf2⟩ : ∃ Z, Z = ZF ∧ Z.size = 72 ∧ Z.all (·.oneCell') = true := ⟨_, rfl, ZF_size, ZF_one⟩
 have HBY := hide (h.below b3)
 have HT := hide (And.intro (ht.below b3) (he.below b3))
 have HBK : Hid (∀ W, Below ((w.alloc (.cells ZF 28)).alloc (.cells ZP 76)).heap.size ((w.alloc (.cells ZF 28)).alloc (.cells ZP 76)) W → Blk W w.heap.size 28 ZF ∧ Blk W (w.heap.size + 1) 76 ZP) := hide fun W hW => ⟨n2'.below' hW, n3.below' hW⟩
 have HB := hide b3
 have QF := hide fail_any
 rw [← hzf] at HBY HT HBK HB hz
 have HZ := hide (And.intro hzf (And.intro hzf1 hzf2))
 unfold ZP at HBY HT HBK HB
 generalize hW0 : (w.alloc (.cells zf 28)).alloc (.cells #[.int .i64 0, .int .i64 0, .int .i64 0, .int .i64 0, .int .i64 0, .int .i64 0] 76) = W0 at *
 clear hzf hzf1 hzf2 n2 n3 n2' b3 ht he h
 go_enter Tryz.func40, Tryz.ntmps40
 by_cases h36 : l.length < 36
 ·have i1 : (l.length : Int) < 36 := by omega
  go_wp2_with fail
  try any_goals (exfalso; omega)
  refine (QF.out (l.length : Int) W0).mono ?_
  rintro e wf ⟨rfl, bf⟩
  have HWF := hide (Below.step (Below.refl _ _) bf)
  have HOP := hide (show openF en l = (none, l.length) by unfold openF; rw [if_pos h36])
  obtain ⟨k2, k3⟩ := HBK.out wf HWF.out
  have HK := hide (And.intro k2 k3)
  clear k2 k3 bf
  skip
  go_wp2_with (first
   | ((with_reducible change wpList _ _ _ (⟨none, .store _ (.tmp 4) _, _, _, _, _⟩ :: _) _ _); go_loud (refine wpList_store_row (o := ⟨none, .store _ (.tmp 4) _, _, _, _, _⟩) HK.out.1 ZF (by rw [HZ.out.2.1]; exact ZF_size) ZF_one rfl 28 _ _ rfl (by rw [ZF_size]; kernel_rfl) rfl rfl ?_; intro w5 hb5 hg5; have hp5 := HK.out.2.grown hg5 (by intro e; injection e with e; omega); have H5 := hide (And.intro hb5 (And.intro hp5 hg5)); clear hb5 hp5 hg5))
   | ((with_reducible change wpList _ _ _ (⟨none, .store _ (.tmp 5) _, _, _, _, _⟩ :: _) _ _); go_loud (refine wpList_store_row (o := ⟨none, .store _ (.tmp 5) _, _, _, _, _⟩) H5.out.2.1 ZP rfl ZP_one rfl 76 _ _ rfl (by kernel_rfl) rfl rfl ?_; intro w6 hb6 hg6; have hf6 := H5.out.1.grown hg6 (by intro e; injection e with e; omega); have H6 := hide (And.intro hb6 (And.intro hf6 hg6)); clear hb6 hf6 hg6)))
  have hb5 := (Below.step HB.out HWF.out).grown H5.out.2.2 (Below.step HB.out HWF.out).size (fun k hk => by injection hk with hk; omega)
  have hbel := hb5.grown H6.out.2.2 hb5.size (fun k hk => by injection hk with hk; omega)
  exact bodyPost_ret (results_four rfl _ _ w.heap.size (w.heap.size + 1) 28 76 ZF ZP (0, 0) (0, 0) _ _ rfl H6.out.2.1 Tryz.underlying28 rfl (by rw [ZF_size]; kernel_rfl) rfl H6.out.1 Tryz.underlying76 rfl (by kernel_rfl)) rfl ⟨hbel, .inl ⟨_, HOP.out, rfl⟩⟩
 obtain ⟨g, go, rfl, _, _⟩ := hca 0 _ (List.getElem?_eq_getElem (show 0 < l.length by omega))
 have i1 : ¬ (l.length : Int) < 36 := by omega
 have i4 : (4 : Int) ≤ (c : Int) := by omega
 have hsub4 : By W0 (.slice (some ⟨g, go, none⟩) 4 c) (l.take 4) := by have := HBY.out.sub 0 4 c (by omega) (by omega) hcm; simpa using this
 obtain ⟨s, hs, hst⟩ := run_str (P := Tryz.prog) hsub4 34 9 5 Tryz.underlying34 Tryz.underlying5 Tryz.underlying9
 clear hsub4 hca
 have QW : Hid (∀ i : Nat, i + 4 ≤ l.length → Calls Tryz.prog 68 #[.slice (some ⟨g, go, none⟩) l.length c, .int .i64 (i : Int)] W0 fun e w' => e = .returned (.int .i64 ((w4 l i : Nat) : Int)) ∧ W0 = w') := hide fun i hi => sword_any _ l i W0 HBY.out hi (by omega)
 by_cases hm : l.take 4 ≠ mark4
 ·have hne : ¬ s = ⟨#[82, 79, 79, 77]⟩ := fun h => hm (by rw [← hs, h]; rfl)
  have hne2 : (s.toList == [82, 79, 79, 77]) = false := by rw [Lib.toList_data, hs]; simpa [mark4] using hm
  clear hs hne
  go_wp2_with fail
  try any_goals (exfalso; omega)
  refine (QF.out 0 W0).mono ?_
  rintro e wf ⟨rfl, bf⟩
  have HWF := hide (Below.step (Below.refl _ _) bf)
  have HOP := hide (show openF en l = (none, 0) by unfold openF; rw [if_neg h36, if_pos hm])
  obtain ⟨k2, k3⟩ := HBK.out wf HWF.out
  have HK := hide (And.intro k2 k3)
  clear k2 k3 bf
  skip
  go_wp2_with (first
   | ((with_reducible change wpList _ _ _ (⟨none, .store _ (.tmp 4) _, _, _, _, _⟩ :: _) _ _); go_loud (refine wpList_store_row (o := ⟨none, .store _ (.tmp 4) _, _, _, _, _⟩) HK.out.1 ZF (by rw [HZ.out.2.1]; exact ZF_size) ZF_one rfl 28 _ _ rfl (by rw [ZF_size]; kernel_rfl) rfl rfl ?_; intro w5 hb5 hg5; have hp5 := HK.out.2.grown hg5 (by intro e; injection e with e; omega); have H5 := hide (And.intro hb5 (And.intro hp5 hg5)); clear hb5 hp5 hg5))
   | ((with_reducible change wpList _ _ _ (⟨none, .store _ (.tmp 5) _, _, _, _, _⟩ :: _) _ _); go_loud (refine wpList_store_row (o := ⟨none, .store _ (.tmp 5) _, _, _, _, _⟩) H5.out.2.1 ZP rfl ZP_one rfl 76 _ _ rfl (by kernel_rfl) rfl rfl ?_; intro w6 hb6 hg6; have hf6 := H5.out.1.grown hg6 (by intro e; injection e with e; omega); have H6 := hide (And.intro hb6 (And.intro hf6 hg6)); clear hb6 hf6 hg6)))
  have hb5 := (Below.step HB.out HWF.out).grown H5.out.2.2 (Below.step HB.out HWF.out).size (fun k hk => by injection hk with hk; omega)
  have hbel := hb5.grown H6.out.2.2 hb5.size (fun k hk => by injection hk with hk; omega)
  exact bodyPost_ret (results_four rfl _ _ w.heap.size (w.heap.size + 1) 28 76 ZF ZP (0, 0) (0, 0) _ _ rfl H6.out.2.1 Tryz.underlying28 rfl (by rw [ZF_size]; kernel_rfl) rfl H6.out.1 Tryz.underlying76 rfl (by kernel_rfl)) rfl ⟨hbel, .inl ⟨_, HOP.out, rfl⟩⟩
 replace hm := Classical.not_not.1 hm
 have hse : s = ⟨#[82, 79, 79, 77]⟩ := by cases s with | mk d => cases d with | mk L => (have : L = mark4 := by rw [← hm, ← hs]); subst this; rfl
 subst hse
 clear hs
 have q4 : Calls Tryz.prog 68 #[.slice (some ⟨g, go, none⟩) l.length c, .int .i64 4] W0 fun e w' => e = .returned (.int .i64 ((w4 l 4 : Nat) : Int)) ∧ W0 = w' := QW.out 4 (by omega)
 by_cases h4 : w4 l 4 ≠ 1
 ·have n4 : ¬ ((w4 l 4 : Nat) : Int) = 1 := by omega
  go_wp2_with fail
  refine q4.mono ?_
  rintro e w' ⟨rfl, rfl⟩
  go_wp2_with fail
  try any_goals (exfalso; omega)
  refine (QF.out 4 W0).mono ?_
  rintro e wf ⟨rfl, bf⟩
  have HWF := hide (Below.step (Below.refl _ _) bf)
  have HOP := hide (show openF en l = (none, 4) by unfold openF; rw [if_neg h36, if_neg (by simpa using hm), if_pos h4])
  obtain ⟨k2, k3⟩ := HBK.out wf HWF.out
  have HK := hide (And.intro k2 k3)
  clear k2 k3 bf
  skip
  go_wp2_with (first
   | ((with_reducible change wpList _ _ _ (⟨none, .store _ (.tmp 4) _, _, _, _, _⟩ :: _) _ _); go_loud (refine wpList_store_row (o := ⟨none, .store _ (.tmp 4) _, _, _, _, _⟩) HK.out.1 ZF (by rw [HZ.out.2.1]; exact ZF_size) ZF_one rfl 28 _ _ rfl (by rw [ZF_size]; kernel_rfl) rfl rfl ?_; intro w5 hb5 hg5; have hp5 := HK.out.2.grown hg5 (by intro e; injection e with e; omega); have H5 := hide (And.intro hb5 (And.intro hp5 hg5)); clear hb5 hp5 hg5))
   | ((with_reducible change wpList _ _ _ (⟨none, .store _ (.tmp 5) _, _, _, _, _⟩ :: _) _ _); go_loud (refine wpList_store_row (o := ⟨none, .store _ (.tmp 5) _, _, _, _, _⟩) H5.out.2.1 ZP rfl ZP_one rfl 76 _ _ rfl (by kernel_rfl) rfl rfl ?_; intro w6 hb6 hg6; have hf6 := H5.out.1.grown hg6 (by intro e; injection e with e; omega); have H6 := hide (And.intro hb6 (And.intro hf6 hg6)); clear hb6 hf6 hg6)))
  have hb5 := (Below.step HB.out HWF.out).grown H5.out.2.2 (Below.step HB.out HWF.out).size (fun k hk => by injection hk with hk; omega)
  have hbel := hb5.grown H6.out.2.2 hb5.size (fun k hk => by injection hk with hk; omega)
  exact bodyPost_ret (results_four rfl _ _ w.heap.size (w.heap.size + 1) 28 76 ZF ZP (0, 0) (0, 0) _ _ rfl H6.out.2.1 Tryz.underlying28 rfl (by rw [ZF_size]; kernel_rfl) rfl H6.out.1 Tryz.underlying76 rfl (by kernel_rfl)) rfl ⟨hbel, .inl ⟨_, HOP.out, rfl⟩⟩
 replace h4 := Classical.not_not.1 h4
 rw [h4] at q4
 have q12 : Calls Tryz.prog 68 #[.slice (some ⟨g, go, none⟩) l.length c, .int .i64 12] W0 fun e w' => e = .returned (.int .i64 ((w4 l 12 : Nat) : Int)) ∧ W0 = w' := QW.out 12 (by omega)
 by_cases h12 : w4 l 12 ≠ 36
 ·have n12 : ¬ ((w4 l 12 : Nat) : Int) = 36 := by omega
  go_wp2_with fail
  refine q4.mono ?_
  rintro e w' ⟨rfl, rfl⟩
  go_wp2_with fail
  refine q12.mono ?_
  rintro e w' ⟨rfl, rfl⟩
  go_wp2_with fail
  try any_goals (exfalso; omega)
  refine (QF.out 12 W0).mono ?_
  rintro e wf ⟨rfl, bf⟩
  have HWF := hide (Below.step (Below.refl _ _) bf)
  have HOP := hide (show openF en l = (none, 12) by unfold openF; rw [if_neg h36, if_neg (by simpa using hm), if_neg (by omega), if_pos h12])
  obtain ⟨k2, k3⟩ := HBK.out wf HWF.out
  have HK := hide (And.intro k2 k3)
  clear k2 k3 bf
  skip
  go_wp2_with (first
   | ((with_reducible change wpList _ _ _ (⟨none, .store _ (.tmp 4) _, _, _, _, _⟩ :: _) _ _); go_loud (refine wpList_store_row (o := ⟨none, .store _ (.tmp 4) _, _, _, _, _⟩) HK.out.1 ZF (by rw [HZ.out.2.1]; exact ZF_size) ZF_one rfl 28 _ _ rfl (by rw [ZF_size]; kernel_rfl) rfl rfl ?_; intro w5 hb5 hg5; have hp5 := HK.out.2.grown hg5 (by intro e; injection e with e; omega); have H5 := hide (And.intro hb5 (And.intro hp5 hg5)); clear hb5 hp5 hg5))
   | ((with_reducible change wpList _ _ _ (⟨none, .store _ (.tmp 5) _, _, _, _, _⟩ :: _) _ _); go_loud (refine wpList_store_row (o := ⟨none, .store _ (.tmp 5) _, _, _, _, _⟩) H5.out.2.1 ZP rfl ZP_one rfl 76 _ _ rfl (by kernel_rfl) rfl rfl ?_; intro w6 hb6 hg6; have hf6 := H5.out.1.grown hg6 (by intro e; injection e with e; omega); have H6 := hide (And.intro hb6 (And.intro hf6 hg6)); clear hb6 hf6 hg6)))
  have hb5 := (Below.step HB.out HWF.out).grown H5.out.2.2 (Below.step HB.out HWF.out).size (fun k hk => by injection hk with hk; omega)
  have hbel := hb5.grown H6.out.2.2 hb5.size (fun k hk => by injection hk with hk; omega)
  exact bodyPost_ret (results_four rfl _ _ w.heap.size (w.heap.size + 1) 28 76 ZF ZP (0, 0) (0, 0) _ _ rfl H6.out.2.1 Tryz.underlying28 rfl (by rw [ZF_size]; kernel_rfl) rfl H6.out.1 Tryz.underlying76 rfl (by kernel_rfl)) rfl ⟨hbel, .inl ⟨_, HOP.out, rfl⟩⟩
 replace h12 := Classical.not_not.1 h12
 rw [h12] at q12
 have q16 : Calls Tryz.prog 68 #[.slice (some ⟨g, go, none⟩) l.length c, .int .i64 16] W0 fun e w' => e = .returned (.int .i64 ((w4 l 16 : Nat) : Int)) ∧ W0 = w' := QW.out 16 (by omega)
 by_cases h16 : w4 l 16 < 36
 ·have n16 : ((w4 l 16 : Nat) : Int) < 36 := by omega
  go_wp2_with fail
  refine q4.mono ?_
  rintro e w' ⟨rfl, rfl⟩
  go_wp2_with fail
  refine q12.mono ?_
  rintro e w' ⟨rfl, rfl⟩
  go_wp2_with fail
  refine q16.mono ?_
  rintro e w' ⟨rfl, rfl⟩
  go_wp2_with fail
  try any_goals (exfalso; omega)
  refine (QF.out 16 W0).mono ?_
  rintro e wf ⟨rfl, bf⟩
  have HWF := hide (Below.step (Below.refl _ _) bf)
  have HOP := hide (show openF en l = (none, 16) by unfold openF; rw [if_neg h36, if_neg (by simpa using hm), if_neg (by omega), if_neg (by omega), if_pos (.inl h16)])
  obtain ⟨k2, k3⟩ := HBK.out wf HWF.out
  have HK := hide (And.intro k2 k3)
  clear k2 k3 bf
  skip
  go_wp2_with (first
   | ((with_reducible change wpList _ _ _ (⟨none, .store _ (.tmp 4) _, _, _, _, _⟩ :: _) _ _); go_loud (refine wpList_store_row (o := ⟨none, .store _ (.tmp 4) _, _, _, _, _⟩) HK.out.1 ZF (by rw [HZ.out.2.1]; exact ZF_size) ZF_one rfl 28 _ _ rfl (by rw [ZF_size]; kernel_rfl) rfl rfl ?_; intro w5 hb5 hg5; have hp5 := HK.out.2.grown hg5 (by intro e; injection e with e; omega); have H5 := hide (And.intro hb5 (And.intro hp5 hg5)); clear hb5 hp5 hg5))
   | ((with_reducible change wpList _ _ _ (⟨none, .store _ (.tmp 5) _, _, _, _, _⟩ :: _) _ _); go_loud (refine wpList_store_row (o := ⟨none, .store _ (.tmp 5) _, _, _, _, _⟩) H5.out.2.1 ZP rfl ZP_one rfl 76 _ _ rfl (by kernel_rfl) rfl rfl ?_; intro w6 hb6 hg6; have hf6 := H5.out.1.grown hg6 (by intro e; injection e with e; omega); have H6 := hide (And.intro hb6 (And.intro hf6 hg6)); clear hb6 hf6 hg6)))
  have hb5 := (Below.step HB.out HWF.out).grown H5.out.2.2 (Below.step HB.out HWF.out).size (fun k hk => by injection hk with hk; omega)
  have hbel := hb5.grown H6.out.2.2 hb5.size (fun k hk => by injection hk with hk; omega)
  exact bodyPost_ret (results_four rfl _ _ w.heap.size (w.heap.size + 1) 28 76 ZF ZP (0, 0) (0, 0) _ _ rfl H6.out.2.1 Tryz.underlying28 rfl (by rw [ZF_size]; kernel_rfl) rfl H6.out.1 Tryz.underlying76 rfl (by kernel_rfl)) rfl ⟨hbel, .inl ⟨_, HOP.out, rfl⟩⟩
 by_cases h17 : l.length < w4 l 16
 ·have n16 : ¬ ((w4 l 16 : Nat) : Int) < 36 := by omega
  have n17 : ((w4 l 16 : Nat) : Int) > (l.length : Int) := by omega
  go_wp2_with fail
  refine q4.mono ?_
  rintro e w' ⟨rfl, rfl⟩
  go_wp2_with fail
  refine q12.mono ?_
  rintro e w' ⟨rfl, rfl⟩
  go_wp2_with fail
  refine q16.mono ?_
  rintro e w' ⟨rfl, rfl⟩
  go_wp2_with fail
  refine q16.mono ?_
  rintro e w' ⟨rfl, rfl⟩
  go_wp2_with fail
  try any_goals (exfalso; omega)
  refine (QF.out 16 W0).mono ?_
  rintro e wf ⟨rfl, bf⟩
  have HWF := hide (Below.step (Below.refl _ _) bf)
  have HOP := hide (show openF en l = (none, 16) by unfold openF; rw [if_neg h36, if_neg (by simpa using hm), if_neg (by omega), if_neg (by omega), if_pos (.inr h17)])
  obtain ⟨k2, k3⟩ := HBK.out wf HWF.out
  have HK := hide (And.intro k2 k3)
  clear k2 k3 bf
  skip
  go_wp2_with (first
   | ((with_reducible change wpList _ _ _ (⟨none, .store _ (.tmp 4) _, _, _, _, _⟩ :: _) _ _); go_loud (refine wpList_store_row (o := ⟨none, .store _ (.tmp 4) _, _, _, _, _⟩) HK.out.1 ZF (by rw [HZ.out.2.1]; exact ZF_size) ZF_one rfl 28 _ _ rfl (by rw [ZF_size]; kernel_rfl) rfl rfl ?_; intro w5 hb5 hg5; have hp5 := HK.out.2.grown hg5 (by intro e; injection e with e; omega); have H5 := hide (And.intro hb5 (And.intro hp5 hg5)); clear hb5 hp5 hg5))
   | ((with_reducible change wpList _ _ _ (⟨none, .store _ (.tmp 5) _, _, _, _, _⟩ :: _) _ _); go_loud (refine wpList_store_row (o := ⟨none, .store _ (.tmp 5) _, _, _, _, _⟩) H5.out.2.1 ZP rfl ZP_one rfl 76 _ _ rfl (by kernel_rfl) rfl rfl ?_; intro w6 hb6 hg6; have hf6 := H5.out.1.grown hg6 (by intro e; injection e with e; omega); have H6 := hide (And.intro hb6 (And.intro hf6 hg6)); clear hb6 hf6 hg6)))
  have hb5 := (Below.step HB.out HWF.out).grown H5.out.2.2 (Below.step HB.out HWF.out).size (fun k hk => by injection hk with hk; omega)
  have hbel := hb5.grown H6.out.2.2 hb5.size (fun k hk => by injection hk with hk; omega)
  exact bodyPost_ret (results_four rfl _ _ w.heap.size (w.heap.size + 1) 28 76 ZF ZP (0, 0) (0, 0) _ _ rfl H6.out.2.1 Tryz.underlying28 rfl (by rw [ZF_size]; kernel_rfl) rfl H6.out.1 Tryz.underlying76 rfl (by kernel_rfl)) rfl ⟨hbel, .inl ⟨_, HOP.out, rfl⟩⟩
 have n16 : ¬ ((w4 l 16 : Nat) : Int) < 36 := by omega
 have n17 : ¬ ((w4 l 16 : Nat) : Int) > (l.length : Int) := by omega
 obtain ⟨x16, hx16⟩ : ∃ x, x = w4 l 16 := ⟨_, rfl⟩
 rw [← hx16] at q16 n16 n17 h16 h17
 have m1 : (36 : Int) ≤ (x16 : Int) := by omega
 have hy12 := sl_by HBY.out 36 x16 (by omega) (by omega)
 have htx : sub l 36 x16 = txt l := by rw [hx16]; rfl
 rw [htx] at hy12
 have htl : (txt l).length = x16 - 36 := by rw [← htx]; unfold sub; rw [List.length_take, List.length_drop]; omega
 have Q12 := read_any _ (txt l) W0 hy12 (by omega) HT.out.1 HT.out.2
 have hne36 : ¬ (w4 l 16 < 36 ∨ l.length < w4 l 16) := by omega
 have HX := hide (And.intro htl (And.intro hx16 hne36))
 have m2 : (x16 : Int) ≤ (c : Int) := by omega
 have QV : Hid (∀ i : Nat, i + 4 ≤ l.length → ∀ W, Below W0.heap.size W0 W → Calls Tryz.prog 68 #[.slice (some ⟨g, go, none⟩) l.length c, .int .i64 (i : Int)] W fun e w' => e = .returned (.int .i64 ((w4 l i : Nat) : Int)) ∧ W = w') := hide fun i hi W hW => sword_any _ l i W (HBY.out.below hW) hi (by omega)
 clear hy12 htx htl hne36 hx16 QW
 rcases readU_cases (txt l) with ⟨u, hu⟩ | ⟨p, e', hu, hne, _, _⟩
 ·obtain ⟨_, huw, hum⟩ := readU_one hu
  obtain ⟨F, hF, hF1, hF2⟩ : ∃ F, F = u.cells ∧ F.size = 68 ∧ F.all (·.oneCell') = true := ⟨_, rfl, US.size_ huw, ueb_one u⟩
  have hFn : F[1]? = some (.int .i64 u.n) := by rw [hF]; rfl
  obtain ⟨SH, hSH, hSH1, hSH2⟩ : ∃ S, S = shU u ∧ S.size = 8 ∧ S.all (·.oneCell') = true := ⟨_, rfl, rfl, by simp [shU, Value.oneCell']⟩
  have QR : Calls Tryz.prog 69 #[.slice (some ⟨g, slO go c 36, none⟩) (x16 - 36) (c - 36)] W0 fun e w' => Below W0.heap.size W0 w' ∧ e = .returned (.tuple #[.agg F, .int .i64 0, .int .i64 0]) := Q12.mono (by rw [hu, hF]; rintro e w' ⟨h1, rfl⟩; exact ⟨h1, rfl⟩)
  have QS : Hid (∀ W, Calls Tryz.prog 37 #[.agg F] W fun e w' => Below W.heap.size W w' ∧ e = .returned (.tuple #[.agg SH, .int .i64 0])) := hide fun W => by have := shapeOf_ok u hum W; rw [← hF, ← hSH] at this; exact this
  have HF := hide (And.intro hF1 (And.intro hF2 (And.intro hFn hF)))
  have HSH := hide (And.intro hSH1 (And.intro hSH2 hSH))
  have HU := hide (And.intro hu (And.intro huw hum))
  clear hu huw hum hF hF1 hF2 hFn hSH hSH1 hSH2 Q12
  go_wp2_with fail
  refine q4.mono ?_
  rintro e w' ⟨rfl, rfl⟩
  go_wp2_with fail
  refine q12.mono ?_
  rintro e w' ⟨rfl, rfl⟩
  go_wp2_with fail
  refine q16.mono ?_
  rintro e w' ⟨rfl, rfl⟩
  go_wp2_with fail
  refine q16.mono ?_
  rintro e w' ⟨rfl, rfl⟩
  go_wp2_with fail
  refine q16.mono ?_
  rintro e w' ⟨rfl, rfl⟩
  go_wp2_with fail
  refine QR.mono ?_
  rintro e w1 ⟨b1, rfl⟩
  have HB1 := hide b1
  clear b1 QR
  go_wp2_with (first
   | ((with_reducible change wpList _ _ _ (⟨none, .store _ (.tmp 9) _, _, _, _, _⟩ :: _) _ _); go_loud (refine wpList_store_row (o := ⟨none, .store _ (.tmp 9) _, _, _, _, _⟩) (g := w1.heap.size) (t := 25) (Blk.new w1 _ _) F (HF.out.1.trans (by kernel_rfl)) HF.out.2.1 rfl 25 _ _ rfl (by rw [HF.out.1]; kernel_rfl) rfl rfl ?_; intro w2 hb2 hg2; have H2 := hide (And.intro hb2 (Below.step HB1.out (((Below.refl _ w1).alloc (Nat.le_refl _) _).grown hg2 (by simp) (fun k hk => by cases hk; exact Nat.le_refl _)))); clear hb2 hg2))
   | ((with_reducible change wpList _ _ _ (⟨some 95, _, _, _, _, _⟩ :: _) _ _); refine wpList_load_row (o := ⟨some 95, .load _ _, _, _, _, _⟩) rfl 25 _ rfl w1.heap.size rfl 25 F (0, 0) _ H2.out.1 Tryz.underlying25 rfl (by rw [HF.out.1]; kernel_rfl) ?_))
  have HG9 := hide HB1.out.size
  generalize w1.heap.size = g9 at *
  refine (QS.out _).mono ?_
  rintro e w3 ⟨b3, rfl⟩
  have H3 := hide (And.intro (H2.out.1.below' b3) (Below.step H2.out.2 b3))
  clear b3 H2
  go_wp2_with ((with_reducible change wpList _ _ _ (⟨none, .store _ (.tmp 12) _, _, _, _, _⟩ :: _) _ _); go_loud (refine wpList_store_row (o := ⟨none, .store _ (.tmp 12) _, _, _, _, _⟩) (g := w3.heap.size) (t := 54) (Blk.new w3 _ _) SH (HSH.out.1.trans (by kernel_rfl)) HSH.out.2.1 rfl 54 _ _ rfl (by rw [HSH.out.1]; kernel_rfl) rfl rfl ?_; intro y4 hb4 hg4; have b4 : Below w3.heap.size w3 y4 := ((Below.refl _ w3).alloc (Nat.le_refl _) _).grown hg4 (by simp) (fun k hk => by cases hk; exact Nat.le_refl _); have H4 := hide (And.intro hb4 (And.intro (H3.out.1.below' b4) (Below.step H3.out.2 b4))); clear hb4 hg4 b4))
  generalize w3.heap.size = g12 at *
  clear H3
  obtain ⟨x8, hx8⟩ : ∃ x, x = w4 l 8 := ⟨_, rfl⟩
  have q8 := hide (show ∀ W, Below W0.heap.size W0 W → Calls Tryz.prog 68 #[.slice (some ⟨g, go, none⟩) l.length c, .int .i64 8] W fun e w' => e = .returned (.int .i64 ((w4 l 8 : Nat) : Int)) ∧ W = w' from QV.out 8 (by omega))
  rw [← hx8] at q8
  have HX8 := hide hx8
  clear hx8
  have HS4 : Hid (∀ W, Below y4.heap.size y4 W → W.cell? ⟨g9, 1, none⟩ = some (.int .i64 u.n)) := hide fun W hW => by rw [(H4.out.2.1.below' hW).cell]; exact HF.out.2.2.1
  have hS4 := HS4.out y4 (Below.refl _ _)
  go_region_held3 (fun w' => w'.cell? ⟨g9, 1, none⟩ = some (.int .i64 u.n)) (first | go_keep | assumption) ((go_at_call 68; (with_reducible refine (q8.out _ ?bb).mono ?_); (case bb => exact H4.out.2.2.drew); rintro e w9 ⟨rfl, rfl⟩))
  by_cases h8 : u.n ≤ (x8 : Int)
  ·have j8 : (x8 : Int) ≥ u.n := h8
   go_wp2_with fail
   try any_goals (exfalso; omega)
   refine (QF.out 8 y4.drew).mono ?_
   rintro e wf ⟨rfl, bf⟩
   have HWF := hide (Below.step (H4.out.2.2.drew) bf)
   have HOP := hide (show openF en l = (none, 8) by unfold openF; rw [if_neg h36, if_neg (by simpa using hm), if_neg (by omega), if_neg (by omega), if_neg HX.out.2.2, if_neg (by rw [HU.out.1]; simp), if_pos (by rw [HU.out.1, ← HX8.out]; exact h8)])
   obtain ⟨k2, k3⟩ := HBK.out wf HWF.out
   have HK := hide (And.intro k2 k3)
   clear k2 k3 bf
   skip
   go_wp2_with (first
    | ((with_reducible change wpList _ _ _ (⟨none, .store _ (.tmp 4) _, _, _, _, _⟩ :: _) _ _); go_loud (refine wpList_store_row (o := ⟨none, .store _ (.tmp 4) _, _, _, _, _⟩) HK.out.1 ZF (by rw [HZ.out.2.1]; exact ZF_size) ZF_one rfl 28 _ _ rfl (by rw [ZF_size]; kernel_rfl) rfl rfl ?_; intro w5 hb5 hg5; have hp5 := HK.out.2.grown hg5 (by intro e; injection e with e; omega); have H5 := hide (And.intro hb5 (And.intro hp5 hg5)); clear hb5 hp5 hg5))
    | ((with_reducible change wpList _ _ _ (⟨none, .store _ (.tmp 5) _, _, _, _, _⟩ :: _) _ _); go_loud (refine wpList_store_row (o := ⟨none, .store _ (.tmp 5) _, _, _, _, _⟩) H5.out.2.1 ZP rfl ZP_one rfl 76 _ _ rfl (by kernel_rfl) rfl rfl ?_; intro w6 hb6 hg6; have hf6 := H5.out.1.grown hg6 (by intro e; injection e with e; omega); have H6 := hide (And.intro hb6 (And.intro hf6 hg6)); clear hb6 hf6 hg6)))
   have hb5 := (Below.step HB.out HWF.out).grown H5.out.2.2 (Below.step HB.out HWF.out).size (fun k hk => by injection hk with hk; omega)
   have hbel := hb5.grown H6.out.2.2 hb5.size (fun k hk => by injection hk with hk; omega)
   exact bodyPost_ret (results_four rfl _ _ w.heap.size (w.heap.size + 1) 28 76 ZF ZP (0, 0) (0, 0) _ _ rfl H6.out.2.1 Tryz.underlying28 rfl (by rw [ZF_size]; kernel_rfl) rfl H6.out.1 Tryz.underlying76 rfl (by kernel_rfl)) rfl ⟨hbel, .inl ⟨_, HOP.out, rfl⟩⟩
  have j8 : ¬ (x8 : Int) ≥ u.n := h8
  go_wp2_with fail
  have hxl : x16 - 36 ≤ 400 := by have h1 := (readU_one HU.out.1).1; have h2 := writeU_len2 HU.out.2.1 HU.out.2.2; rw [← h1, HX.out.1] at h2; exact h2
  have HL := hide (lay_u u (x16 - 36) HU.out.2.2 (by omega))
  obtain ⟨PL, hPL, hPL1, hPL2⟩ : ∃ S, S = plA u (x16 - 36) ∧ S.size = 6 ∧ S.all (·.oneCell') = true := ⟨_, rfl, rfl, by simp [plA, Value.oneCell']⟩
  have hPLc : ∀ k, k < 6 → PL[k]? = some (.int .i64 ((pl u (x16 - 36) k : Nat) : Int)) := fun k hk => by
   rw [hPL]
   have : k = 0 ∨ k = 1 ∨ k = 2 ∨ k = 3 ∨ k = 4 ∨ k = 5 := by omega
   rcases this with rfl | rfl | rfl | rfl | rfl | rfl <;> rfl
  rw [← HSH.out.2.2, ← hPL] at HL
  have HPL := hide (And.intro hPL1 (And.intro hPL2 (And.intro hPLc hPL)))
  have hwr : IntKind.i64.wrap ((x16 : Int) - 36) = ((x16 - 36 : Nat) : Int) := by rw [IntWalk.i64_in _ (by omega)]; omega
  have H5 := hide (show Blk y4.drew g12 54 SH ∧ Blk y4.drew g9 25 F ∧ Below W0.heap.size W0 y4.drew from ⟨H4.out.1, H4.out.2.1, H4.out.2.2.drew⟩)
  clear hPL hPL1 hPL2 hPLc H4 HS4 hS4 q8
  generalize y4.drew = y5 at *
  clear y4
  have q16 := hide (show ∀ W, Below W0.heap.size W0 W → Calls Tryz.prog 68 #[.slice (some ⟨g, go, none⟩) l.length c, .int .i64 16] W fun e w' => e = .returned (.int .i64 (x16 : Int)) ∧ W = w' from by rw [HX.out.2.1]; exact QV.out 16 (by omega))
  refine wp_region_noPanic ?_
  refine have HREST : ∀ (G : Nat) (W : World), Blk W G 76 PL → y5.heap.size ≤ G → Below y5.heap.size y5 W → (?Stm : Nat → World → Prop) G W := ?later; ?now
  case now =>
   refine wp_region_held_drew (S := fun W' => Below y5.heap.size y5 W') (by kernel_rfl) (Below.refl _ _).drew (fun hHeld => ?_)
   refine wpAnyH_take (i := 0) (v := .agg SH) rfl (by kernel_rfl) (by kernel_rfl) (by kernel_rfl) (fun _ _ _ h => h) (Or.inl ⟨by rfl, ?_⟩) (by assumption) ?_
   ·(intro W hW; exact ex_loadB 54 (.tmp 12) (by kernel_rfl) g12 (by kernel_rfl) 54 SH _ (H5.out.1.below' hW) Tryz.underlying54 rfl (by rw [HSH.out.1]; kernel_rfl))
   try simp only [Act.put, List.setIfInBounds_toArray, List.set_cons_zero, List.set_cons_succ, List.getElem_toArray, List.getElem_cons_succ, List.getElem_cons_zero]
   refine wpAnyH_take (i := 1) (v := ?_) rfl (by kernel_rfl) (by kernel_rfl) (by kernel_rfl) (fun _ _ _ h => h) (Or.inl ⟨by rfl, ?_⟩) (by assumption) ?_
   rotate_left
   ·(intro w9 hSw; (try dsimp only at hSw); go_simp; try with_reducible rfl)
   try simp only [Act.put, List.setIfInBounds_toArray, List.set_cons_zero, List.set_cons_succ, List.getElem_toArray, List.getElem_cons_succ, List.getElem_cons_zero]
   refine wpAnyH_ready (rs := [2, 5]) (by kernel_rfl) (by simp) ?_
   refine AllReadyH.cons rfl (fun K hK => ?_) (AllReadyH.cons rfl (fun K hK => ?_) AllReadyH.nil)
   ·skip
    go_simp
    refine (q16.out _ (Below.step H5.out.2.2 hHeld)).mono ?_
    rintro e w9 ⟨rfl, rfl⟩
    refine hK.out _ _ (hHeld) (fun hHeld => ?_)
    clear hK K
    try simp only [Act.put, List.setIfInBounds_toArray, List.set_cons_zero, List.set_cons_succ, List.getElem_toArray, List.getElem_cons_succ, List.getElem_cons_zero]
    refine wpAnyH_take (i := 3) (v := ?_) rfl (by kernel_rfl) (by kernel_rfl) (by kernel_rfl) (fun _ _ _ h => h) (Or.inl ⟨by rfl, ?_⟩) (by assumption) ?_
    rotate_left
    ·(intro w9 hSw; (try dsimp only at hSw); go_simp; try with_reducible rfl)
    try simp only [Act.put, List.setIfInBounds_toArray, List.set_cons_zero, List.set_cons_succ, List.getElem_toArray, List.getElem_cons_succ, List.getElem_cons_zero]
    refine wpAnyH_ready (rs := [4, 5]) (by kernel_rfl) (by simp) ?_
    refine AllReadyH.cons rfl (fun K hK => ?_) (AllReadyH.cons rfl (fun K hK => ?_) AllReadyH.nil)
    ·skip
     go_simp
     refine (HL.out _).mono ?_
     rintro e y6 ⟨b6, rfl⟩
     have HB6 := hide b6
     refine hK.out _ _ (Below.step hHeld b6) (fun hHeld => ?_)
     clear hK K
     try simp only [Act.put, List.setIfInBounds_toArray, List.set_cons_zero, List.set_cons_succ, List.getElem_toArray, List.getElem_cons_succ, List.getElem_cons_zero]
     have HSZ := hide hHeld.size
     refine wpAnyH_ready (rs := [5]) (by kernel_rfl) (by simp) ?_
     refine AllReadyH.cons rfl (fun K hK => ?_) AllReadyH.nil
     go_simp
     refine hK.out _ _ (Below.al0 hHeld _) (fun hHeld => ?_)
     clear hK K
     try simp only [Act.put, List.setIfInBounds_toArray, List.set_cons_zero, List.set_cons_succ, List.getElem_toArray, List.getElem_cons_succ, List.getElem_cons_zero]
     refine wpAnyH_ready (rs := [6]) (by kernel_rfl) (by simp) ?_
     refine AllReadyH.cons rfl (fun K hK => ?_) AllReadyH.nil
     refine wp_store_blk (g := _) (t := 76) (Blk.new y6 _ _) PL (HPL.out.1.trans (by kernel_rfl)) HPL.out.2.1 76 _ _ rfl (by rw [HPL.out.1]; kernel_rfl) rfl rfl ?_
     intro y7 hb7 hg7
     refine hK.out _ _ (hHeld.grown hg7 hHeld.size (fun k hk => by cases hk; exact HSZ.out)) (fun hHeld => ?_)
     clear hK K
     try simp only [Act.put, List.setIfInBounds_toArray, List.set_cons_zero, List.set_cons_succ, List.getElem_toArray, List.getElem_cons_succ, List.getElem_cons_zero]
     refine wpAnyH_done (by kernel_rfl) ?_ _
     refine noPanic_norm ?_
     generalize y6.heap.size = G at *
     exact HREST G y7 hb7 HSZ.out hHeld
    ·skip
     have HSZ := hide hHeld.size
     go_simp
     refine hK.out _ _ (Below.al0 hHeld _) (fun hHeld => ?_)
     clear hK K
     try simp only [Act.put, List.setIfInBounds_toArray, List.set_cons_zero, List.set_cons_succ, List.getElem_toArray, List.getElem_cons_succ, List.getElem_cons_zero]
     refine wpAnyH_ready (rs := [4]) (by kernel_rfl) (by simp) ?_
     refine AllReadyH.cons rfl (fun K hK => ?_) AllReadyH.nil
     go_simp
     refine (HL.out _).mono ?_
     rintro e y6 ⟨b6, rfl⟩
     have HB6 := hide b6
     refine hK.out _ _ (Below.step hHeld b6) (fun hHeld => ?_)
     clear hK K
     try simp only [Act.put, List.setIfInBounds_toArray, List.set_cons_zero, List.set_cons_succ, List.getElem_toArray, List.getElem_cons_succ, List.getElem_cons_zero]
     refine wpAnyH_ready (rs := [6]) (by kernel_rfl) (by simp) ?_
     refine AllReadyH.cons rfl (fun K hK => ?_) AllReadyH.nil
     refine wp_store_blk (g := _) (t := 76) ((Blk.drew (Blk.new _ _ _)).below' HB6.out) PL (HPL.out.1.trans (by kernel_rfl)) HPL.out.2.1 76 _ _ rfl (by rw [HPL.out.1]; kernel_rfl) rfl rfl ?_
     intro y7 hb7 hg7
     refine hK.out _ _ (hHeld.grown hg7 hHeld.size (fun k hk => by cases hk; exact HSZ.out)) (fun hHeld => ?_)
     clear hK K
     try simp only [Act.put, List.setIfInBounds_toArray, List.set_cons_zero, List.set_cons_succ, List.getElem_toArray, List.getElem_cons_succ, List.getElem_cons_zero]
     refine wpAnyH_done (by kernel_rfl) ?_ _
     refine noPanic_norm ?_
     skip
     exact HREST _ y7 hb7 (Nat.le_refl _) hHeld
   ·skip
    have HSZ := hide hHeld.size
    go_simp
    refine hK.out _ _ (Below.al0 hHeld _) (fun hHeld => ?_)
    clear hK K
    try simp only [Act.put, List.setIfInBounds_toArray, List.set_cons_zero, List.set_cons_succ, List.getElem_toArray, List.getElem_cons_succ, List.getElem_cons_zero]
    refine wpAnyH_ready (rs := [2]) (by kernel_rfl) (by simp) ?_
    refine AllReadyH.cons rfl (fun K hK => ?_) AllReadyH.nil
    go_simp
    refine (q16.out _ (Below.step H5.out.2.2 hHeld)).mono ?_
    rintro e w9 ⟨rfl, rfl⟩
    refine hK.out _ _ (hHeld) (fun hHeld => ?_)
    clear hK K
    try simp only [Act.put, List.setIfInBounds_toArray, List.set_cons_zero, List.set_cons_succ, List.getElem_toArray, List.getElem_cons_succ, List.getElem_cons_zero]
    refine wpAnyH_take (i := 3) (v := ?_) rfl (by kernel_rfl) (by kernel_rfl) (by kernel_rfl) (fun _ _ _ h => h) (Or.inl ⟨by rfl, ?_⟩) (by assumption) ?_
    rotate_left
    ·(intro w9 hSw; (try dsimp only at hSw); go_simp; try with_reducible rfl)
    try simp only [Act.put, List.setIfInBounds_toArray, List.set_cons_zero, List.set_cons_succ, List.getElem_toArray, List.getElem_cons_succ, List.getElem_cons_zero]
    refine wpAnyH_ready (rs := [4]) (by kernel_rfl) (by simp) ?_
    refine AllReadyH.cons rfl (fun K hK => ?_) AllReadyH.nil
    go_simp
    refine (HL.out _).mono ?_
    rintro e y6 ⟨b6, rfl⟩
    have HB6 := hide b6
    refine hK.out _ _ (Below.step hHeld b6) (fun hHeld => ?_)
    clear hK K
    try simp only [Act.put, List.setIfInBounds_toArray, List.set_cons_zero, List.set_cons_succ, List.getElem_toArray, List.getElem_cons_succ, List.getElem_cons_zero]
    refine wpAnyH_ready (rs := [6]) (by kernel_rfl) (by simp) ?_
    refine AllReadyH.cons rfl (fun K hK => ?_) AllReadyH.nil
    refine wp_store_blk (g := _) (t := 76) ((Blk.drew (Blk.new _ _ _)).below' HB6.out) PL (HPL.out.1.trans (by kernel_rfl)) HPL.out.2.1 76 _ _ rfl (by rw [HPL.out.1]; kernel_rfl) rfl rfl ?_
    intro y7 hb7 hg7
    refine hK.out _ _ (hHeld.grown hg7 hHeld.size (fun k hk => by cases hk; exact HSZ.out)) (fun hHeld => ?_)
    clear hK K
    try simp only [Act.put, List.setIfInBounds_toArray, List.set_cons_zero, List.set_cons_succ, List.getElem_toArray, List.getElem_cons_succ, List.getElem_cons_zero]
    refine wpAnyH_done (by kernel_rfl) ?_ _
    refine noPanic_norm ?_
    skip
    exact HREST _ y7 hb7 (Nat.le_refl _) hHeld
  case later =>
   intro G y7 hb7 hGge hbel7
   have HGE := hide (Nat.le_trans H5.out.2.2.size hGge)
   clear hGge
   have H7 := hide (And.intro hb7 (And.intro (H5.out.2.1.below' hbel7) (Below.step H5.out.2.2 hbel7)))
   have HO : Hid (OpP l u) := hide ⟨by omega, hm, h4, h12, HX.out.2.2, HU.out.1, by rw [← HX8.out]; omega⟩
   clear hb7 hbel7 H5 HL q16 hwr
   go_wp2_with fail
   go_loopw [14] (fun u14 wr => ∃ k : Nat, 2 ≤ k ∧ k ≤ 6 ∧ u14 = .int .i64 (k : Int) ∧ (∀ j, 2 ≤ j → j < k → w4 l (12 + 4 * j) = pl u (x16 - 36) j) ∧ Below y7.heap.size y7 wr) (fun u14 _ => 6 - (intOf u14).toNat)
   case atStart => exact ⟨2, by omega, by omega, rfl, fun j h1 h2 => by omega, Below.refl _ _⟩
   case round =>
    obtain ⟨k, hk2, hk6, rfl, hpre, hbel⟩ := hrel
    have HP := hide (And.intro hpre hbel)
    clear hpre hbel
    have hBw := hide (Below.step H7.out.2.2 HP.out.2)
    by_cases hlt : k < 6
    ·have j1 : (k : Int) < 6 := by omega
     have hm1 : IntKind.i64.wrap (4 * (k : Int)) = ((4 * k : Nat) : Int) := by rw [IntWalk.i64_in _ (by omega)]; omega
     have hm2 : IntKind.i64.wrap (12 + ((4 * k : Nat) : Int)) = ((12 + 4 * k : Nat) : Int) := by rw [IntWalk.i64_in _ (by omega)]; omega
     obtain ⟨pk, hpk⟩ : ∃ p, p = pl u (x16 - 36) k := ⟨_, rfl⟩
     obtain ⟨xk, hxk⟩ : ∃ x, x = w4 l (12 + 4 * k) := ⟨_, rfl⟩
     have qk := hide (show ∀ W, Below W0.heap.size W0 W → Calls Tryz.prog 68 #[.slice (some ⟨g, go, none⟩) l.length c, .int .i64 ((12 + 4 * k : Nat) : Int)] W fun e w' => e = .returned (.int .i64 (xk : Int)) ∧ W = w' from by rw [hxk]; exact QV.out (12 + 4 * k) (by omega))
     have hcG : wr.cell? ⟨G, k, none⟩ = some (.int .i64 (pk : Int)) := by rw [(H7.out.1.below' HP.out.2).cell, HPL.out.2.2.1 k hlt, hpk]
     have HK2 := hide (And.intro hpk (And.intro hxk (And.intro hk2 (And.intro hk6 hlt))))
     generalize hN1 : (4 * k : Nat) = N1 at *
     generalize hN2 : (12 + N1 : Nat) = N2 at *
     have HN := hide (And.intro hN1 hN2)
     clear hpk hxk hk2 hk6 hlt hN1 hN2
     go_wp2_with fail
     go_region_held3 (fun w' => w'.cell? ⟨G, k, none⟩ = some (.int .i64 (pk : Int))) (first | go_keep | assumption) ((go_at_call 68; (with_reducible refine (qk.out _ ?bb).mono ?_); (case bb => exact hBw.out.drew); rintro e w9 ⟨rfl, rfl⟩))
     by_cases hne : xk = pk
     ·have e1 : ((xk : Int) != (pk : Int)) = false := by simp; omega
      have HE := hide (And.intro e1 hne)
      clear hne
      go_wp2_with fail
      go_roundw
      case rel => exact ⟨k + 1, by have := HK2.out.2.2; omega, by have := HK2.out.2.2; omega, by go_num, fun j h1 h2 => by
       by_cases hj : j = k
       ·rw [hj, HN.out.1, HN.out.2, ← HK2.out.2.1, HE.out.2]; exact HK2.out.1
       ·exact HP.out.1 j h1 (by omega), by exact HP.out.2.drew⟩
      case measure => have := HK2.out.2.2; simp [intOf]; omega
     ·have e1 : ((xk : Int) != (pk : Int)) = true := by simp; omega
      have HE := hide hne
      clear hne
      go_wp2_with fail
      try any_goals (exfalso; omega)
      refine (QF.out (N2:Int) wr.drew).mono ?_
      rintro e wf ⟨rfl, bf⟩
      have HWF := hide (Below.step (hBw.out.drew) bf)
      have HOP := hide (openF_pk (en := en) (n := N2) HO.out HX.out.2.1 ⟨HK2.out.2.2.1, HK2.out.2.2.2.2⟩ HP.out.1 (by rw [HN.out.1, HN.out.2]) (by rw [← HK2.out.2.1, ← HK2.out.1]; exact HE.out))
      obtain ⟨k2, k3⟩ := HBK.out wf HWF.out
      have HK := hide (And.intro k2 k3)
      clear k2 k3 bf
      skip
      go_wp2_with (first
       | ((with_reducible change wpList _ _ _ (⟨none, .store _ (.tmp 4) _, _, _, _, _⟩ :: _) _ _); go_loud (refine wpList_store_row (o := ⟨none, .store _ (.tmp 4) _, _, _, _, _⟩) HK.out.1 ZF (by rw [HZ.out.2.1]; exact ZF_size) ZF_one rfl 28 _ _ rfl (by rw [ZF_size]; kernel_rfl) rfl rfl ?_; intro w5 hb5 hg5; have hp5 := HK.out.2.grown hg5 (by intro e; injection e with e; omega); have H5 := hide (And.intro hb5 (And.intro hp5 hg5)); clear hb5 hp5 hg5))
       | ((with_reducible change wpList _ _ _ (⟨none, .store _ (.tmp 5) _, _, _, _, _⟩ :: _) _ _); go_loud (refine wpList_store_row (o := ⟨none, .store _ (.tmp 5) _, _, _, _, _⟩) H5.out.2.1 ZP rfl ZP_one rfl 76 _ _ rfl (by kernel_rfl) rfl rfl ?_; intro w6 hb6 hg6; have hf6 := H5.out.1.grown hg6 (by intro e; injection e with e; omega); have H6 := hide (And.intro hb6 (And.intro hf6 hg6)); clear hb6 hf6 hg6)))
      have hb5 := (Below.step HB.out HWF.out).grown H5.out.2.2 (Below.step HB.out HWF.out).size (fun k hk => by injection hk with hk; omega)
      have hbel := hb5.grown H6.out.2.2 hb5.size (fun k hk => by injection hk with hk; omega)
      exact bodyPost_ret (results_four rfl _ _ w.heap.size (w.heap.size + 1) 28 76 ZF ZP (0, 0) (0, 0) _ _ rfl H6.out.2.1 Tryz.underlying28 rfl (by rw [ZF_size]; kernel_rfl) rfl H6.out.1 Tryz.underlying76 rfl (by kernel_rfl)) rfl ⟨hbel, .inl ⟨_, HOP.out, rfl⟩⟩
    ·obtain rfl : k = 6 := by omega
     have HA := hide (openF_pe (en := en) HO.out HX.out.2.1 HP.out.1 rfl)
     have HG := hide (And.intro (H7.out.1.below' HP.out.2) (And.intro (H7.out.2.1.below' HP.out.2) hBw.out))
     clear HP hBw H7 hk2 hk6 hlt
     obtain ⟨pe, hpe⟩ : ∃ p, p = pl u (x16 - 36) en := ⟨_, rfl⟩
     have hen0 : (en : Int) < 6 := by omega
     have hcE : wr.cell? ⟨G, en, none⟩ = some (.int .i64 (pe : Int)) := by rw [HG.out.1.cell, HPL.out.2.2.1 en (by omega), hpe]
     have HPE := hide hpe
     clear hpe
     by_cases hend : l.length = pe
     ·have e1 : ((l.length : Int) != (pe : Int)) = false := by simp; omega
      have HE := hide hend
      clear hend
      have hbd := u_bounds HU.out.2.2
      have hlen : l.length = pl u (x16 - 36) en := HE.out.trans HPE.out
      have hp45 : pl u (x16 - 36) 4 ≤ pl u (x16 - 36) en := by
       rcases hen with rfl | rfl
       ·exact Nat.le_refl _
       ·show _ ≤ 36 + (x16 - 36) + 32 * CU u + 32 * TU u + 32 * TU u + ((SG u - 1) * BL u + LS u)
        exact Nat.le_add_right _ _
      have d2 : pl u (x16 - 36) 2 = pl u (x16 - 36) 1 + 32 * CU u := rfl
      have d3 : pl u (x16 - 36) 3 = pl u (x16 - 36) 2 + 32 * TU u := rfl
      have d4 : pl u (x16 - 36) 4 = pl u (x16 - 36) 3 + 32 * TU u := rfl
      have hc1 : wr.cell? ⟨G, 1, none⟩ = some (.int .i64 ((pl u (x16 - 36) 1 : Nat) : Int)) := by rw [HG.out.1.cell, HPL.out.2.2.1 1 (by omega)]
      have hc4 : wr.cell? ⟨G, 4, none⟩ = some (.int .i64 ((pl u (x16 - 36) 4 : Nat) : Int)) := by rw [HG.out.1.cell, HPL.out.2.2.1 4 (by omega)]
      have HPS := hide (fun k hk => HPL.out.2.2.1 k hk)
      obtain ⟨a1, ha1⟩ : ∃ p, p = pl u (x16 - 36) 1 := ⟨_, rfl⟩
      obtain ⟨a2, ha2⟩ : ∃ p, p = pl u (x16 - 36) 2 := ⟨_, rfl⟩
      obtain ⟨a3, ha3⟩ : ∃ p, p = pl u (x16 - 36) 3 := ⟨_, rfl⟩
      obtain ⟨a4, ha4⟩ : ∃ p, p = pl u (x16 - 36) 4 := ⟨_, rfl⟩
      rw [← ha1] at hc1 d2
      rw [← ha2] at d2 d3
      rw [← ha3] at d3 d4
      rw [← ha4] at hc4 d4 hp45
      have QN := hide (newReader_any g (slO go c a1) (a4 - a1) (c - a1) (sub l a1 a4) wr (sl_by (HBY.out.below HG.out.2.2) a1 a4 (by omega) (by omega)) (by rw [sub_length (by omega)]; omega) (by rw [sub_length (by omega)]; omega))
      have HAS := hide (And.intro ha1 (And.intro ha2 (And.intro ha3 (And.intro ha4 (And.intro d2 (And.intro d3 (And.intro d4 (show a4 ≤ l.length by omega))))))))
      have s1 : (a1 : Int) ≤ (a4 : Int) := by omega
      have s2 : (a4 : Int) ≤ (c : Int) := by omega
      clear hlen hp45 d2 d3 d4 ha1 ha2 ha3 ha4 hbd
      go_wp2_with fail
      refine QN.out.mono ?_
      rintro e yR ⟨R, gb, rfl, hrd, hR1, hR2, bR⟩
      have HLT := hide (And.intro HG.out.1.lt HG.out.2.1.lt)
      have HWR := hide HG.out.2.2.size
      have HR := hide (And.intro hrd (And.intro hR1 (And.intro hR2 (And.intro (HG.out.1.below' bR) (And.intro (HG.out.2.1.below' bR) (Below.step HG.out.2.2 bR))))))
      clear hrd hR1 hR2 bR QN HG hc1 hc4 hcE
      go_wp2_with fail
      have hRlt := HR.out.1.lt
      have hglt := HR.out.1.2.2
      have bA := (Below.refl yR.heap.size yR).alloc (Nat.le_refl _) (.cells #[.pointer (some ⟨R, 0, none⟩)] 112)
      have nA := Blk.new yR 112 #[.pointer (some ⟨R, 0, none⟩)]
      obtain ⟨V, hV⟩ : ∃ V, V = yR.heap.size := ⟨_, rfl⟩
      have H8 := hide (And.intro (HR.out.1.below bA) (And.intro nA (And.intro (HR.out.2.2.2.1.below' bA) (And.intro (HR.out.2.2.2.2.1.below' bA) (Below.step HR.out.2.2.2.2.2 bA)))))
      have hsz8 : (yR.alloc (.cells #[.pointer (some ⟨R, 0, none⟩)] 112)).heap.size = V + 1 := by simp [hV]
      rw [← hV] at H8 hRlt hglt ⊢
      have HLE := hide (show w.heap.size + 1 < W0.heap.size from by rw [← hW0]; simp)
      generalize hy8 : yR.alloc (.cells #[.pointer (some ⟨R, 0, none⟩)] 112) = y8 at *
      have HN8 := hide (And.intro hsz8 (And.intro hRlt (And.intro hglt (And.intro HR.out.2.1 (And.intro HR.out.2.2.1 (And.intro HLT.out HWR.out))))))
      clear hsz8 hRlt hglt bA nA hV hy8
      have hw1 : IntKind.i64.wrap ((a2 : Int) - (a1 : Int)) = ((32 * CU u : Nat) : Int) := by have := HAS.out; rw [IntWalk.i64_in _ (by omega)]; omega
      have hw2 : IntKind.i64.wrap ((a3 : Int) - (a2 : Int)) = ((32 * TU u : Nat) : Int) := by have := HAS.out; rw [IntWalk.i64_in _ (by omega)]; omega
      have hw3 : IntKind.i64.wrap ((a4 : Int) - (a3 : Int)) = ((32 * TU u : Nat) : Int) := by have := HAS.out; rw [IntWalk.i64_in _ (by omega)]; omega
      have hbd := u_bounds HU.out.2.2
      have HBD := hide (And.intro hbd.2.2.2.2.2.1 hbd.2.2.2.2.2.2.1)
      clear hbd
      have hCe : ∀ k a, k < 6 → a = pl u (x16 - 36) k → ∀ W, Blk W G 76 PL → W.cell? ⟨G, k, none⟩ = some (.int .i64 (a : Int)) := fun k a hk ha W hW => by rw [hW.cell, HPS.out k hk, ha]
      have HCE := hide (And.intro (hCe 1 a1 (by omega) HAS.out.1) (And.intro (hCe 2 a2 (by omega) HAS.out.2.1) (And.intro (hCe 3 a3 (by omega) HAS.out.2.2.1) (hCe 4 a4 (by omega) HAS.out.2.2.2.1))))
      clear hCe
      have q8 := hide (show ∀ W, Below W0.heap.size W0 W → Calls Tryz.prog 68 #[.slice (some ⟨g, go, none⟩) l.length c, .int .i64 8] W fun e w' => e = .returned (.int .i64 (x8 : Int)) ∧ W = w' from by rw [HX8.out]; exact QV.out 8 (by omega))
      have HBF := hide (show ∀ (A1 A2 A3 : Option Addr) (n1 n2 n3 k1 k2 k3 : Nat) (W : World), (Instr.build 28 #[(0, .int .i64 (x8 : Int)), (1, .agg F), (2, .slice A1 n1 k1), (3, .slice A2 n2 k2), (4, .slice A3 n3 k3)]).run Tryz.prog W = .ok (.agg (frC (x8 : Int) u (.slice A1 n1 k1) (.slice A2 n2 k2) (.slice A3 n3 k3))) W from by rw [HF.out.2.2.2]; exact build_front (x8 : Int) u HU.out.2.1)
      refine wp_region_noPanic ?_
      refine wp_region_held_drew (S := fun W' => Blk W' G 76 PL ∧ Blk W' g9 25 F) (by kernel_rfl) ⟨H8.out.2.2.1, H8.out.2.2.2.1⟩ (fun hHeld => ?_)
      refine wpAnyH_take (i := 0) (v := ?_) rfl (by kernel_rfl) (by kernel_rfl) (by kernel_rfl) (fun _ _ _ h => h) (Or.inl ⟨by rfl, ?_⟩) (by assumption) ?_
      rotate_left
      ·(intro w9 hSw; (try dsimp only at hSw); go_simp; try with_reducible rfl)
      try simp only [Act.put, List.setIfInBounds_toArray, List.set_cons_zero, List.set_cons_succ, List.getElem_toArray, List.getElem_cons_succ, List.getElem_cons_zero]
      refine wpAnyH_take (i := 2) (v := .agg F) rfl (by kernel_rfl) (by kernel_rfl) (by kernel_rfl) (fun _ _ _ h => h) (Or.inl ⟨by rfl, ?_⟩) (by assumption) ?_
      ·(intro W hW; exact ex_loadB 25 (.tmp 9) (by kernel_rfl) g9 (by kernel_rfl) 25 F _ hW.2 Tryz.underlying25 rfl (by rw [HF.out.1]; kernel_rfl))
      try simp only [Act.put, List.setIfInBounds_toArray, List.set_cons_zero, List.set_cons_succ, List.getElem_toArray, List.getElem_cons_succ, List.getElem_cons_zero]
      refine wpAnyH_take (i := 3) (v := ?_) rfl (by kernel_rfl) (by kernel_rfl) (by kernel_rfl) (fun _ _ _ h => h) (Or.inl ⟨by rfl, ?_⟩) (by assumption) ?_
      rotate_left
      ·(intro w9 hSw; (try dsimp only at hSw); go_simp; try with_reducible rfl)
      try simp only [Act.put, List.setIfInBounds_toArray, List.set_cons_zero, List.set_cons_succ, List.getElem_toArray, List.getElem_cons_succ, List.getElem_cons_zero]
      refine wpAnyH_take (i := 4) (v := ?_) rfl (by kernel_rfl) (by kernel_rfl) (by kernel_rfl) (fun _ _ _ h => h) (Or.inl ⟨by rfl, ?_⟩) (by assumption) ?_
      rotate_left
      ·(intro w9 hSw; (try dsimp only at hSw); go_simp; try with_reducible rfl)
      try simp only [Act.put, List.setIfInBounds_toArray, List.set_cons_zero, List.set_cons_succ, List.getElem_toArray, List.getElem_cons_succ, List.getElem_cons_zero]
      refine wpAnyH_take (i := 5) (v := .int .i64 (a2 : Int)) rfl (by kernel_rfl) (by kernel_rfl) (by kernel_rfl) (fun _ _ _ h => h) (Or.inl ⟨by rfl, ?_⟩) (by assumption) ?_
      ·(intro W hW; exact ex_loadI 3 (.tmp 175) (by kernel_rfl) ⟨G, 2, none⟩ (by kernel_rfl) _ .i64 (HCE.out.2.1 W hW.1) Tryz.underlying3)
      try simp only [Act.put, List.setIfInBounds_toArray, List.set_cons_zero, List.set_cons_succ, List.getElem_toArray, List.getElem_cons_succ, List.getElem_cons_zero]
      refine wpAnyH_take (i := 6) (v := ?_) rfl (by kernel_rfl) (by kernel_rfl) (by kernel_rfl) (fun _ _ _ h => h) (Or.inl ⟨by rfl, ?_⟩) (by assumption) ?_
      rotate_left
      ·(intro w9 hSw; (try dsimp only at hSw); go_simp; try with_reducible rfl)
      try simp only [Act.put, List.setIfInBounds_toArray, List.set_cons_zero, List.set_cons_succ, List.getElem_toArray, List.getElem_cons_succ, List.getElem_cons_zero]
      refine wpAnyH_take (i := 7) (v := .int .i64 (a1 : Int)) rfl (by kernel_rfl) (by kernel_rfl) (by kernel_rfl) (fun _ _ _ h => h) (Or.inl ⟨by rfl, ?_⟩) (by assumption) ?_
      ·(intro W hW; exact ex_loadI 3 (.tmp 177) (by kernel_rfl) ⟨G, 1, none⟩ (by kernel_rfl) _ .i64 (HCE.out.1 W hW.1) Tryz.underlying3)
      try simp only [Act.put, List.setIfInBounds_toArray, List.set_cons_zero, List.set_cons_succ, List.getElem_toArray, List.getElem_cons_succ, List.getElem_cons_zero]
      refine wpAnyH_take (i := 8) (v := ?_) rfl (by kernel_rfl) (by kernel_rfl) (by kernel_rfl) (fun _ _ _ h => h) (Or.inl ⟨by rfl, ?_⟩) (by assumption) ?_
      rotate_left
      ·(intro w9 hSw; (try dsimp only at hSw); go_simp; try with_reducible rfl)
      try simp only [Act.put, List.setIfInBounds_toArray, List.set_cons_zero, List.set_cons_succ, List.getElem_toArray, List.getElem_cons_succ, List.getElem_cons_zero]
      refine wpAnyH_take (i := 10) (v := ?_) rfl (by kernel_rfl) (by kernel_rfl) (by kernel_rfl) (fun _ _ _ h => h) (Or.inl ⟨by rfl, ?_⟩) (by assumption) ?_
      rotate_left
      ·(intro w9 hSw; (try dsimp only at hSw); go_simp; try with_reducible rfl)
      try simp only [Act.put, List.setIfInBounds_toArray, List.set_cons_zero, List.set_cons_succ, List.getElem_toArray, List.getElem_cons_succ, List.getElem_cons_zero]
      refine wpAnyH_take (i := 11) (v := ?_) rfl (by kernel_rfl) (by kernel_rfl) (by kernel_rfl) (fun _ _ _ h => h) (Or.inl ⟨by rfl, ?_⟩) (by assumption) ?_
      rotate_left
      ·(intro w9 hSw; (try dsimp only at hSw); go_simp; try with_reducible rfl)
      try simp only [Act.put, List.setIfInBounds_toArray, List.set_cons_zero, List.set_cons_succ, List.getElem_toArray, List.getElem_cons_succ, List.getElem_cons_zero]
      refine wpAnyH_take (i := 12) (v := .int .i64 (a3 : Int)) rfl (by kernel_rfl) (by kernel_rfl) (by kernel_rfl) (fun _ _ _ h => h) (Or.inl ⟨by rfl, ?_⟩) (by assumption) ?_
      ·(intro W hW; exact ex_loadI 3 (.tmp 182) (by kernel_rfl) ⟨G, 3, none⟩ (by kernel_rfl) _ .i64 (HCE.out.2.2.1 W hW.1) Tryz.underlying3)
      try simp only [Act.put, List.setIfInBounds_toArray, List.set_cons_zero, List.set_cons_succ, List.getElem_toArray, List.getElem_cons_succ, List.getElem_cons_zero]
      refine wpAnyH_take (i := 13) (v := ?_) rfl (by kernel_rfl) (by kernel_rfl) (by kernel_rfl) (fun _ _ _ h => h) (Or.inl ⟨by rfl, ?_⟩) (by assumption) ?_
      rotate_left
      ·(intro w9 hSw; (try dsimp only at hSw); go_simp; try with_reducible rfl)
      try simp only [Act.put, List.setIfInBounds_toArray, List.set_cons_zero, List.set_cons_succ, List.getElem_toArray, List.getElem_cons_succ, List.getElem_cons_zero]
      refine wpAnyH_take (i := 14) (v := .int .i64 (a2 : Int)) rfl (by kernel_rfl) (by kernel_rfl) (by kernel_rfl) (fun _ _ _ h => h) (Or.inl ⟨by rfl, ?_⟩) (by assumption) ?_
      ·(intro W hW; exact ex_loadI 3 (.tmp 184) (by kernel_rfl) ⟨G, 2, none⟩ (by kernel_rfl) _ .i64 (HCE.out.2.1 W hW.1) Tryz.underlying3)
      try simp only [Act.put, List.setIfInBounds_toArray, List.set_cons_zero, List.set_cons_succ, List.getElem_toArray, List.getElem_cons_succ, List.getElem_cons_zero]
      refine wpAnyH_take (i := 15) (v := ?_) rfl (by kernel_rfl) (by kernel_rfl) (by kernel_rfl) (fun _ _ _ h => h) (Or.inl ⟨by rfl, ?_⟩) (by assumption) ?_
      rotate_left
      ·(intro w9 hSw; (try dsimp only at hSw); go_simp; try with_reducible rfl)
      try simp only [Act.put, List.setIfInBounds_toArray, List.set_cons_zero, List.set_cons_succ, List.getElem_toArray, List.getElem_cons_succ, List.getElem_cons_zero]
      refine wpAnyH_take (i := 17) (v := ?_) rfl (by kernel_rfl) (by kernel_rfl) (by kernel_rfl) (fun _ _ _ h => h) (Or.inl ⟨by rfl, ?_⟩) (by assumption) ?_
      rotate_left
      ·(intro w9 hSw; (try dsimp only at hSw); go_simp; try with_reducible rfl)
      try simp only [Act.put, List.setIfInBounds_toArray, List.set_cons_zero, List.set_cons_succ, List.getElem_toArray, List.getElem_cons_succ, List.getElem_cons_zero]
      refine wpAnyH_take (i := 18) (v := ?_) rfl (by kernel_rfl) (by kernel_rfl) (by kernel_rfl) (fun _ _ _ h => h) (Or.inl ⟨by rfl, ?_⟩) (by assumption) ?_
      rotate_left
      ·(intro w9 hSw; (try dsimp only at hSw); go_simp; try with_reducible rfl)
      try simp only [Act.put, List.setIfInBounds_toArray, List.set_cons_zero, List.set_cons_succ, List.getElem_toArray, List.getElem_cons_succ, List.getElem_cons_zero]
      refine wpAnyH_take (i := 19) (v := .int .i64 (a4 : Int)) rfl (by kernel_rfl) (by kernel_rfl) (by kernel_rfl) (fun _ _ _ h => h) (Or.inl ⟨by rfl, ?_⟩) (by assumption) ?_
      ·(intro W hW; exact ex_loadI 3 (.tmp 189) (by kernel_rfl) ⟨G, 4, none⟩ (by kernel_rfl) _ .i64 (HCE.out.2.2.2 W hW.1) Tryz.underlying3)
      try simp only [Act.put, List.setIfInBounds_toArray, List.set_cons_zero, List.set_cons_succ, List.getElem_toArray, List.getElem_cons_succ, List.getElem_cons_zero]
      refine wpAnyH_take (i := 20) (v := ?_) rfl (by kernel_rfl) (by kernel_rfl) (by kernel_rfl) (fun _ _ _ h => h) (Or.inl ⟨by rfl, ?_⟩) (by assumption) ?_
      rotate_left
      ·(intro w9 hSw; (try dsimp only at hSw); go_simp; try with_reducible rfl)
      try simp only [Act.put, List.setIfInBounds_toArray, List.set_cons_zero, List.set_cons_succ, List.getElem_toArray, List.getElem_cons_succ, List.getElem_cons_zero]
      refine wpAnyH_take (i := 21) (v := .int .i64 (a3 : Int)) rfl (by kernel_rfl) (by kernel_rfl) (by kernel_rfl) (fun _ _ _ h => h) (Or.inl ⟨by rfl, ?_⟩) (by assumption) ?_
      ·(intro W hW; exact ex_loadI 3 (.tmp 191) (by kernel_rfl) ⟨G, 3, none⟩ (by kernel_rfl) _ .i64 (HCE.out.2.2.1 W hW.1) Tryz.underlying3)
      try simp only [Act.put, List.setIfInBounds_toArray, List.set_cons_zero, List.set_cons_succ, List.getElem_toArray, List.getElem_cons_succ, List.getElem_cons_zero]
      refine wpAnyH_take (i := 22) (v := ?_) rfl (by kernel_rfl) (by kernel_rfl) (by kernel_rfl) (fun _ _ _ h => h) (Or.inl ⟨by rfl, ?_⟩) (by assumption) ?_
      rotate_left
      ·(intro w9 hSw; (try dsimp only at hSw); go_simp; try with_reducible rfl)
      try simp only [Act.put, List.setIfInBounds_toArray, List.set_cons_zero, List.set_cons_succ, List.getElem_toArray, List.getElem_cons_succ, List.getElem_cons_zero]
      refine wpAnyH_take (i := 25) (v := .agg PL) rfl (by kernel_rfl) (by kernel_rfl) (by kernel_rfl) (fun _ _ _ h => h) (Or.inl ⟨by rfl, ?_⟩) (by assumption) ?_
      ·(intro W hW; exact ex_loadB 76 (.tmp 13) (by kernel_rfl) G (by kernel_rfl) 76 PL _ hW.1 Tryz.underlying76 rfl (by rw [HPL.out.1]; kernel_rfl))
      try simp only [Act.put, List.setIfInBounds_toArray, List.set_cons_zero, List.set_cons_succ, List.getElem_toArray, List.getElem_cons_succ, List.getElem_cons_zero]
      refine wpAnyH_ready (rs := [1]) (by kernel_rfl) (by simp) ?_
      refine AllReadyH.cons rfl (fun K hK => ?_) AllReadyH.nil
      go_simp
      refine (q8.out _ H8.out.2.2.2.2.drew).mono ?_
      rintro e w9 ⟨rfl, rfl⟩
      refine hK.out _ _ (hHeld) (fun hHeld => ?_)
      clear hK K
      try simp only [Act.put, List.setIfInBounds_toArray, List.set_cons_zero, List.set_cons_succ, List.getElem_toArray, List.getElem_cons_succ, List.getElem_cons_zero]
      have T1 := hide (takes_any V R gb (CU u) (sub l a1 a4) y8.drew (by have := H8.out.2.1.cell 0; exact this) (by have := HN8.out; omega) (H8.out.1.below ((Below.refl _ _).drew)) (by have := HBD.out; omega) (by rw [sub_length (by have := HAS.out; have := HBD.out; omega)]; have := HAS.out; have := HBD.out; omega) (by rw [sub_length (by have := HAS.out; have := HBD.out; omega)]; have := HAS.out; have := HBD.out; omega))
      refine wpAnyH_ready (rs := [9]) (by kernel_rfl) (by simp) ?_
      refine AllReadyH.cons rfl (fun K hK => ?_) AllReadyH.nil
      go_simp
      refine T1.out.mono ?_
      rintro e z1 ⟨v1, rfl, ho1, hr1, hg1⟩
      have G1 := hide (And.intro ho1 (And.intro hr1 hg1))
      clear ho1 hr1 hg1
      refine hK.out _ _ (⟨hHeld.1.grown G1.out.2.2 (by have := HN8.out; intro e; injection e with e; omega), hHeld.2.grown G1.out.2.2 (by have := HN8.out; intro e; injection e with e; omega)⟩) (fun hHeld => ?_)
      clear hK K
      try simp only [Act.put, List.setIfInBounds_toArray, List.set_cons_zero, List.set_cons_succ, List.getElem_toArray, List.getElem_cons_succ, List.getElem_cons_zero]
      have HV1 := hide (show z1.cell? ⟨V, 0, none⟩ = some (.pointer (some ⟨R, 0, none⟩)) from by rw [(H8.out.2.1.drew.grown G1.out.2.2 (by have := HN8.out; intro e; injection e with e; omega)).cell]; rfl)
      have T2 := hide (takes_any V R gb (TU u) ((sub l a1 a4).drop (32 * CU u)) z1 HV1.out (by have := HN8.out; omega) G1.out.2.1 (by have := HBD.out; omega) (by rw [List.length_drop, sub_length (by have := HAS.out; have := HBD.out; omega)]; have := HAS.out; have := HBD.out; omega) (by rw [List.length_drop, sub_length (by have := HAS.out; have := HBD.out; omega)]; have := HAS.out; have := HBD.out; omega))
      refine wpAnyH_ready (rs := [16]) (by kernel_rfl) (by simp) ?_
      refine AllReadyH.cons rfl (fun K hK => ?_) AllReadyH.nil
      go_simp
      refine T2.out.mono ?_
      rintro e z2 ⟨v2, rfl, ho2, hr2, hg2⟩
      have G2 := hide (And.intro ho2 (And.intro hr2 hg2))
      clear ho2 hr2 hg2
      refine hK.out _ _ (⟨hHeld.1.grown G2.out.2.2 (by have := HN8.out; intro e; injection e with e; omega), hHeld.2.grown G2.out.2.2 (by have := HN8.out; intro e; injection e with e; omega)⟩) (fun hHeld => ?_)
      clear hK K
      try simp only [Act.put, List.setIfInBounds_toArray, List.set_cons_zero, List.set_cons_succ, List.getElem_toArray, List.getElem_cons_succ, List.getElem_cons_zero]
      have HV2 := hide (show z2.cell? ⟨V, 0, none⟩ = some (.pointer (some ⟨R, 0, none⟩)) from by rw [((H8.out.2.1.drew.grown G1.out.2.2 (by have := HN8.out; intro e; injection e with e; omega)).grown G2.out.2.2 (by have := HN8.out; intro e; injection e with e; omega)).cell]; rfl)
      have T3 := hide (takes_any V R gb (TU u) (((sub l a1 a4).drop (32 * CU u)).drop (32 * TU u)) z2 HV2.out (by have := HN8.out; omega) G2.out.2.1 (by have := HBD.out; omega) (by rw [List.length_drop, List.length_drop, sub_length (by have := HAS.out; have := HBD.out; omega)]; have := HAS.out; have := HBD.out; omega) (by rw [List.length_drop, List.length_drop, sub_length (by have := HAS.out; have := HBD.out; omega)]; have := HAS.out; have := HBD.out; omega))
      refine wpAnyH_ready (rs := [23]) (by kernel_rfl) (by simp) ?_
      refine AllReadyH.cons rfl (fun K hK => ?_) AllReadyH.nil
      go_simp
      refine T3.out.mono ?_
      rintro e z3 ⟨v3, rfl, ho3, hr3, hg3⟩
      have G3 := hide (And.intro ho3 (And.intro hr3 hg3))
      clear ho3 hr3 hg3
      refine hK.out _ _ (⟨hHeld.1.grown G3.out.2.2 (by have := HN8.out; intro e; injection e with e; omega), hHeld.2.grown G3.out.2.2 (by have := HN8.out; intro e; injection e with e; omega)⟩) (fun hHeld => ?_)
      clear hK K
      try simp only [Act.put, List.setIfInBounds_toArray, List.set_cons_zero, List.set_cons_succ, List.getElem_toArray, List.getElem_cons_succ, List.getElem_cons_zero]
      clear T1 T2 T3 HV1 HV2
      obtain ⟨A1, k1, rfl, _, _, _⟩ := (Sl.of_own G1.out.1).form
      obtain ⟨A2, k2, rfl, _, _, _⟩ := (Sl.of_own G2.out.1).form
      obtain ⟨A3, k3, rfl, _, _, _⟩ := (Sl.of_own G3.out.1).form
      refine wpAnyH_take (i := 24) (v := .agg (frC (x8 : Int) u (.slice A1 (CU u) k1) (.slice A2 (TU u) k2) (.slice A3 (TU u) k3))) rfl (by kernel_rfl) (by kernel_rfl) (by kernel_rfl) (fun _ _ _ h => h) (Or.inl ⟨by rfl, ?_⟩) (by assumption) ?_
      ·(intro W hW; exact ex_buildV 28 _ rfl #[(0, .int .i64 (x8 : Int)), (1, .agg F), (2, .slice A1 (CU u) k1), (3, .slice A2 (TU u) k2), (4, .slice A3 (TU u) k3)] (by kernel_rfl) _ (HBF.out A1 A2 A3 _ _ _ k1 k2 k3 W))
      try simp only [Act.put, List.setIfInBounds_toArray, List.set_cons_zero, List.set_cons_succ, List.getElem_toArray, List.getElem_cons_succ, List.getElem_cons_zero]
      have hB3 : Below W0.heap.size W0 z3 := ((H8.out.2.2.2.2.drew.grown G1.out.2.2 H8.out.2.2.2.2.size (fun k hk => by have := HN8.out; injection hk with hk; omega)).grown G2.out.2.2 (Nat.le_trans H8.out.2.2.2.2.size G1.out.2.2.size) (fun k hk => by have := HN8.out; injection hk with hk; omega)).grown G3.out.2.2 (Nat.le_trans H8.out.2.2.2.2.size (Nat.le_trans G1.out.2.2.size G2.out.2.2.size)) (fun k hk => by have := HN8.out; injection hk with hk; omega)
      have HB3 := hide (And.intro hB3 (HBK.out z3 hB3))
      clear hB3
      obtain ⟨FC, hFC, hFC1, hFC2⟩ : ∃ C, C = frC (x8 : Int) u (.slice A1 (CU u) k1) (.slice A2 (TU u) k2) (.slice A3 (TU u) k3) ∧ C.size = 72 ∧ C.all (·.oneCell') = true := ⟨_, rfl, frC_size HU.out.2.1, frC_one HU.out.2.1 rfl rfl rfl⟩
      rw [← hFC]
      have HFC := hide (And.intro hFC1 (And.intro hFC2 hFC))
      clear hFC hFC1 hFC2
      refine wpAnyH_ready (rs := [26]) (by kernel_rfl) (by simp) ?_
      refine AllReadyH.cons rfl (fun K hK => ?_) AllReadyH.nil
      refine wp_store_blk (HB3.out.2.1) FC (by rw [HFC.out.1, HZ.out.2.1]) HFC.out.2.1 28 _ _ rfl (by rw [HFC.out.1]; kernel_rfl) rfl rfl ?_
      intro z4 hb4 hg4
      have D4 := hide (And.intro hb4 hg4)
      clear hb4 hg4
      refine hK.out _ _ (⟨hHeld.1.grown D4.out.2 (by have := HGE.out; have := HLE.out; intro e; injection e with e; omega), hHeld.2.grown D4.out.2 (by have := HG9.out; have := HLE.out; intro e; injection e with e; omega)⟩) (fun hHeld => ?_)
      clear hK K
      try simp only [Act.put, List.setIfInBounds_toArray, List.set_cons_zero, List.set_cons_succ, List.getElem_toArray, List.getElem_cons_succ, List.getElem_cons_zero]
      refine wpAnyH_ready (rs := [27]) (by kernel_rfl) (by simp) ?_
      refine AllReadyH.cons rfl (fun K hK => ?_) AllReadyH.nil
      refine wp_store_blk (HB3.out.2.2.grown D4.out.2 (by intro e; injection e with e; omega)) PL (HPL.out.1) HPL.out.2.1 76 _ _ rfl (by rw [HPL.out.1]; kernel_rfl) rfl rfl ?_
      intro z5 hb5 hg5
      have D5 := hide (And.intro hb5 hg5)
      clear hb5 hg5
      refine hK.out _ _ (⟨hHeld.1.grown D5.out.2 (by have := HGE.out; have := HLE.out; intro e; injection e with e; omega), hHeld.2.grown D5.out.2 (by have := HG9.out; have := HLE.out; intro e; injection e with e; omega)⟩) (fun hHeld => ?_)
      clear hK K
      try simp only [Act.put, List.setIfInBounds_toArray, List.set_cons_zero, List.set_cons_succ, List.getElem_toArray, List.getElem_cons_succ, List.getElem_cons_zero]
      refine wpAnyH_take (i := 28) (v := ?_) rfl (by kernel_rfl) (by kernel_rfl) (by kernel_rfl) (fun _ _ _ h => h) (Or.inl ⟨by rfl, ?_⟩) (by assumption) ?_
      rotate_left
      ·(intro w9 hSw; (try dsimp only at hSw); go_simp; try with_reducible rfl)
      try simp only [Act.put, List.setIfInBounds_toArray, List.set_cons_zero, List.set_cons_succ, List.getElem_toArray, List.getElem_cons_succ, List.getElem_cons_zero]
      refine wpAnyH_take (i := 29) (v := ?_) rfl (by kernel_rfl) (by kernel_rfl) (by kernel_rfl) (fun _ _ _ h => h) (Or.inl ⟨by rfl, ?_⟩) (by assumption) ?_
      rotate_left
      ·(intro w9 hSw; (try dsimp only at hSw); go_simp; try with_reducible rfl)
      try simp only [Act.put, List.setIfInBounds_toArray, List.set_cons_zero, List.set_cons_succ, List.getElem_toArray, List.getElem_cons_succ, List.getElem_cons_zero]
      refine wpAnyH_done (by kernel_rfl) ?_ _
      refine noPanic_norm ?_
      go_wp2_with fail
      have hZ4 := D4.out.1.grown D5.out.2 (by intro e; injection e with e; omega)
      have hb4 := (Below.step HB.out HB3.out.1).grown D4.out.2 (Below.step HB.out HB3.out.1).size (fun k hk => by injection hk with hk; omega)
      have hbel := hb4.grown D5.out.2 hb4.size (fun k hk => by injection hk with hk; omega)
      refine bodyPost_ret (results_four rfl _ _ w.heap.size (w.heap.size + 1) 28 76 FC PL (0, 0) (0, 0) _ _ rfl hZ4 Tryz.underlying28 rfl (by rw [HFC.out.1]; kernel_rfl) rfl D5.out.1 Tryz.underlying76 rfl (by rw [HPL.out.1]; kernel_rfl)) rfl ⟨hbel, .inr ⟨⟨(w4 l 8 : Int), u, ck (CU u) (sub l a1 a2), ck (TU u) (sub l a2 a3), ck (TU u) (sub l a3 a4)⟩, .slice A1 (CU u) k1, .slice A2 (TU u) k2, .slice A3 (TU u) k3, ?_, ?_, ?_, ?_, ?_⟩⟩
      ·rw [HA.out, if_neg (by rw [← HPE.out]; exact fun h => h HE.out), HAS.out.1, HAS.out.2.1, HAS.out.2.2.1, HAS.out.2.2.2.1]
      ·rw [HFC.out.2.2, HX8.out, HPL.out.2.2.2, HX.out.2.1]; rfl
      ·have hk := own_keep (own_keep (own_keep (own_keep G1.out.1 G2.out.2.2 ?_) G3.out.2.2 ?_) D4.out.2 ?_) D5.out.2 ?_
       ·rw [ck_sub l (CU u) a1 a2 a4 (by have := HAS.out; omega) (by have := HAS.out; omega)]
        exact DsO.of_own hk (by rw [sub_length (by have := HAS.out; omega)]; have := HAS.out; omega) (by have := HN8.out; have := HLE.out; have h1 : y8.heap.size ≤ z1.heap.size := G1.out.2.2.size; have h2 : z1.heap.size ≤ z2.heap.size := G2.out.2.2.size; (first | (show _ ≤ y8.heap.size; omega) | omega))
       all_goals
        have := HN8.out
        have := HLE.out
        show _ < y8.heap.size
        omega
      ·have hk := own_keep (own_keep (own_keep G2.out.1 G3.out.2.2 ?_) D4.out.2 ?_) D5.out.2 ?_
       ·have hd : (sub l a1 a4).drop (32 * CU u) = sub l a2 a4 := by rw [sub_drop, HAS.out.2.2.2.2.1]
        rw [hd] at hk
        rw [ck_sub l (TU u) a2 a3 a4 (by have := HAS.out; omega) (by have := HAS.out; omega)]
        exact DsO.of_own hk (by rw [sub_length (by have := HAS.out; omega)]; have := HAS.out; omega) (by have := HN8.out; have := HLE.out; have h1 : y8.heap.size ≤ z1.heap.size := G1.out.2.2.size; have h2 : z1.heap.size ≤ z2.heap.size := G2.out.2.2.size; (first | (show _ ≤ y8.heap.size; omega) | omega))
       all_goals
        have := HN8.out
        have := HLE.out
        have : y8.heap.size ≤ z1.heap.size := G1.out.2.2.size
        omega
      ·have hk := own_keep (own_keep G3.out.1 D4.out.2 ?_) D5.out.2 ?_
       ·have hd : ((sub l a1 a4).drop (32 * CU u)).drop (32 * TU u) = sub l a3 a4 := by rw [sub_drop, sub_drop, ← HAS.out.2.2.2.2.1, ← HAS.out.2.2.2.2.2.1]
        rw [hd] at hk
        exact DsO.of_own hk (by rw [sub_length (by have := HAS.out; omega)]; have := HAS.out; omega) (by have := HN8.out; have := HLE.out; have h1 : y8.heap.size ≤ z1.heap.size := G1.out.2.2.size; have h2 : z1.heap.size ≤ z2.heap.size := G2.out.2.2.size; (first | (show _ ≤ y8.heap.size; omega) | omega))
       all_goals
        have := HN8.out
        have := HLE.out
        have : y8.heap.size ≤ z1.heap.size := G1.out.2.2.size
        have : z1.heap.size ≤ z2.heap.size := G2.out.2.2.size
        omega
     ·have e1 : ((l.length : Int) != (pe : Int)) = true := by simp; omega
      have HE := hide hend
      clear hend
      go_wp2_with fail
      rw [show min (l.length : Int) (pe : Int) = ((min l.length pe : Nat) : Int) by omega]
      try any_goals (exfalso; omega)
      refine (QF.out ((min l.length pe:Nat):Int) wr).mono ?_
      rintro e wf ⟨rfl, bf⟩
      have HWF := hide (Below.step (HG.out.2.2) bf)
      have HOP := hide (show openF en l = (none, min l.length pe) by rw [HA.out, HPE.out, if_pos (by rw [← HPE.out]; exact HE.out)])
      obtain ⟨k2, k3⟩ := HBK.out wf HWF.out
      have HK := hide (And.intro k2 k3)
      clear k2 k3 bf
      skip
      go_wp2_with (first
       | ((with_reducible change wpList _ _ _ (⟨none, .store _ (.tmp 4) _, _, _, _, _⟩ :: _) _ _); go_loud (refine wpList_store_row (o := ⟨none, .store _ (.tmp 4) _, _, _, _, _⟩) HK.out.1 ZF (by rw [HZ.out.2.1]; exact ZF_size) ZF_one rfl 28 _ _ rfl (by rw [ZF_size]; kernel_rfl) rfl rfl ?_; intro w5 hb5 hg5; have hp5 := HK.out.2.grown hg5 (by intro e; injection e with e; omega); have H5 := hide (And.intro hb5 (And.intro hp5 hg5)); clear hb5 hp5 hg5))
       | ((with_reducible change wpList _ _ _ (⟨none, .store _ (.tmp 5) _, _, _, _, _⟩ :: _) _ _); go_loud (refine wpList_store_row (o := ⟨none, .store _ (.tmp 5) _, _, _, _, _⟩) H5.out.2.1 ZP rfl ZP_one rfl 76 _ _ rfl (by kernel_rfl) rfl rfl ?_; intro w6 hb6 hg6; have hf6 := H5.out.1.grown hg6 (by intro e; injection e with e; omega); have H6 := hide (And.intro hb6 (And.intro hf6 hg6)); clear hb6 hf6 hg6)))
      have hb5 := (Below.step HB.out HWF.out).grown H5.out.2.2 (Below.step HB.out HWF.out).size (fun k hk => by injection hk with hk; omega)
      have hbel := hb5.grown H6.out.2.2 hb5.size (fun k hk => by injection hk with hk; omega)
      exact bodyPost_ret (results_four rfl _ _ w.heap.size (w.heap.size + 1) 28 76 ZF ZP (0, 0) (0, 0) _ _ rfl H6.out.2.1 Tryz.underlying28 rfl (by rw [ZF_size]; kernel_rfl) rfl H6.out.1 Tryz.underlying76 rfl (by kernel_rfl)) rfl ⟨hbel, .inl ⟨_, HOP.out, rfl⟩⟩
 ·have QR : Calls Tryz.prog 69 #[.slice (some ⟨g, slO go c 36, none⟩) (x16 - 36) (c - 36)] W0 fun e w' => Below W0.heap.size W0 w' ∧ e = .returned (.tuple #[.agg US.zero.cells, .int .i64 (p : Int), .int .i64 (e' : Int)]) := Q12.mono (by rw [hu]; rintro e w' ⟨h1, rfl⟩; exact ⟨h1, rfl⟩)
  obtain ⟨F, hF, hF1, hF2⟩ : ∃ F, F = US.zero.cells ∧ F.size = 68 ∧ F.all (·.oneCell') = true := ⟨_, rfl, US.size_ US.zero_wf, ueb_one _⟩
  rw [← hF] at QR
  have HF := hide (And.intro hF1 hF2)
  have HU := hide (And.intro hu hne)
  have ne1 : ¬ (e' : Int) = 0 := by omega
  have ne2 : ((e' : Int) != 0) = true := by simpa using hne
  clear hu hne hF hF1 hF2 Q12
  go_wp2_with fail
  refine q4.mono ?_
  rintro e w' ⟨rfl, rfl⟩
  go_wp2_with fail
  refine q12.mono ?_
  rintro e w' ⟨rfl, rfl⟩
  go_wp2_with fail
  refine q16.mono ?_
  rintro e w' ⟨rfl, rfl⟩
  go_wp2_with fail
  refine q16.mono ?_
  rintro e w' ⟨rfl, rfl⟩
  go_wp2_with fail
  refine q16.mono ?_
  rintro e w' ⟨rfl, rfl⟩
  go_wp2_with fail
  refine QR.mono ?_
  rintro e w1 ⟨b1, rfl⟩
  have HB1 := hide b1
  clear b1 QR
  go_wp2_with ((with_reducible change wpList _ _ _ (⟨none, .store _ (.tmp 9) _, _, _, _, _⟩ :: _) _ _); go_loud (refine wpList_store_row (o := ⟨none, .store _ (.tmp 9) _, _, _, _, _⟩) (g := w1.heap.size) (t := 25) (Blk.new w1 _ _) F (HF.out.1.trans (by kernel_rfl)) HF.out.2 rfl 25 _ _ rfl (by rw [HF.out.1]; kernel_rfl) rfl rfl ?_; intro w2 hb2 hg2; have H2 := hide (Below.step HB1.out (((Below.refl _ w1).alloc (Nat.le_refl _) _).grown hg2 (by simp) (fun k hk => by cases hk; exact Nat.le_refl _))); clear hb2 hg2))
  try any_goals (exfalso; omega)
  refine (QF.out 36 w2).mono ?_
  rintro e wf ⟨rfl, bf⟩
  have HWF := hide (Below.step (H2.out) bf)
  have HOP := hide (show openF en l = (none, 36) by unfold openF; rw [if_neg h36, if_neg (by simpa using hm), if_neg (by omega), if_neg (by omega), if_neg HX.out.2.2, if_pos (by rw [HU.out.1]; exact HU.out.2)])
  obtain ⟨k2, k3⟩ := HBK.out wf HWF.out
  have HK := hide (And.intro k2 k3)
  clear k2 k3 bf
  skip
  go_wp2_with (first
   | ((with_reducible change wpList _ _ _ (⟨none, .store _ (.tmp 4) _, _, _, _, _⟩ :: _) _ _); go_loud (refine wpList_store_row (o := ⟨none, .store _ (.tmp 4) _, _, _, _, _⟩) HK.out.1 ZF (by rw [HZ.out.2.1]; exact ZF_size) ZF_one rfl 28 _ _ rfl (by rw [ZF_size]; kernel_rfl) rfl rfl ?_; intro w5 hb5 hg5; have hp5 := HK.out.2.grown hg5 (by intro e; injection e with e; omega); have H5 := hide (And.intro hb5 (And.intro hp5 hg5)); clear hb5 hp5 hg5))
   | ((with_reducible change wpList _ _ _ (⟨none, .store _ (.tmp 5) _, _, _, _, _⟩ :: _) _ _); go_loud (refine wpList_store_row (o := ⟨none, .store _ (.tmp 5) _, _, _, _, _⟩) H5.out.2.1 ZP rfl ZP_one rfl 76 _ _ rfl (by kernel_rfl) rfl rfl ?_; intro w6 hb6 hg6; have hf6 := H5.out.1.grown hg6 (by intro e; injection e with e; omega); have H6 := hide (And.intro hb6 (And.intro hf6 hg6)); clear hb6 hf6 hg6)))
  have hb5 := (Below.step HB.out HWF.out).grown H5.out.2.2 (Below.step HB.out HWF.out).size (fun k hk => by injection hk with hk; omega)
  have hbel := hb5.grown H6.out.2.2 hb5.size (fun k hk => by injection hk with hk; omega)
  exact bodyPost_ret (results_four rfl _ _ w.heap.size (w.heap.size + 1) 28 76 ZF ZP (0, 0) (0, 0) _ _ rfl H6.out.2.1 Tryz.underlying28 rfl (by rw [ZF_size]; kernel_rfl) rfl H6.out.1 Tryz.underlying76 rfl (by kernel_rfl)) rfl ⟨hbel, .inl ⟨_, HOP.out, rfl⟩⟩
end Go.Proofs.YtdohebhbiokljaaGreatDoor
