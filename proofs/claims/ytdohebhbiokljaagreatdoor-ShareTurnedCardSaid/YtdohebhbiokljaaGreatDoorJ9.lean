import Derived.Test.YtdohebhbiokljaaGreatDoorJ8
set_option linter.all false
namespace Go.Proofs.YtdohebhbiokljaaGreatDoor
open Go.RowKit
theorem noPanic_norm {Q : Exit → Act → World → Prop} {a : Act} {w : World} (h : Q .normal a w) : NoPanic Q .normal a w := h
set_option maxRecDepth 100000 in
set_option maxHeartbeats 1000000 in
theorem pf_may (u : US) (hu : u.wf) (hi : u.in64) (hn : ¬ u.may) (num : Int) (va vb vc : Value) (w : World) :
  Calls Tryz.prog 36 #[.agg (frC num u va vb vc)] w fun e w' => Below w.heap.size w w' ∧ e = .returned (.tuple #[.slice none 0 0, .int .i64 141]) := by
 have n0 := Blk.new w 28 (frC num u va vb vc)
 have b0 := (Below.refl w.heap.size w).alloc (Nat.le_refl _) (.cells (frC num u va vb vc) 28)
 have hfr := (n0.front hu).2.1
 have Q1 := hide (writeU_bad u hu hi hn (w.alloc (.cells (frC num u va vb vc) 28)))
 have HUC0 := hide (US.size_ hu)
 have HFR := hide hfr
 have HB := hide b0
 generalize frC num u va vb vc = fc at *
 generalize hW0 : w.alloc (.cells fc 28) = W0 at *
 generalize u.cells = uc at *
 clear hfr n0 b0 hu hi hn
 go_enter Tryz.func36, Tryz.ntmps36
 go_wp2_with (first
  | ((with_reducible change wpList _ _ _ (⟨some 14, _, _, _, _, _⟩ :: _) _ _); go_loud (refine wpList_load_midF (by rfl) 25 _ rfl w.heap.size 1 rfl uc _ HFR.out Tryz.underlying25 rfl (by rw [HUC0.out]; kernel_rfl) ?_)))
 refine Q1.out.mono ?_
 rintro e w1 ⟨b1, rfl⟩
 have H1 := hide (Below.step HB.out b1)
 clear b1 Q1
 go_wp2
 go_ret2
 exact ⟨H1.out, rfl⟩
set_option maxRecDepth 100000 in
set_option maxHeartbeats 4000000 in
theorem pf_lens (u : US) (hu : u.wf) (hm : u.may) (nn : Nat) (hn : (nn : Int) < u.n) (Aa Ab Ac : Option Addr) (la lb lc ca cb cc : Nat) (w : World) (ht : Tab w) (hbad : ¬ (la = CU u ∧ lb = TU u ∧ lc = TU u)) :
  Calls Tryz.prog 36 #[.agg (frC (nn : Int) u (.slice Aa la ca) (.slice Ab lb cb) (.slice Ac lc cc))] w fun e w' => Below w.heap.size w w' ∧ e = .returned (.tuple #[.slice none 0 0, .int .i64 141]) := by
 have hbd := u_bounds hm
 obtain ⟨C, hC⟩ : ∃ C, C = CU u := ⟨_, rfl⟩
 obtain ⟨T, hT⟩ : ∃ T, T = TU u := ⟨_, rfl⟩
 have n0 := Blk.new w 28 (frC (nn : Int) u (.slice Aa la ca) (.slice Ab lb cb) (.slice Ac lc cc))
 have b0 := (Below.refl w.heap.size w).alloc (Nat.le_refl _) (.cells (frC (nn : Int) u (.slice Aa la ca) (.slice Ab lb cb) (.slice Ac lc cc)) 28)
 have hfr := fun W (hW : Below (w.alloc (.cells (frC (nn : Int) u (.slice Aa la ca) (.slice Ab lb cb) (.slice Ac lc cc)) 28)).heap.size (w.alloc (.cells (frC (nn : Int) u (.slice Aa la ca) (.slice Ab lb cb) (.slice Ac lc cc)) 28)) W) => (n0.below' hW).front hu
 have HFR := hide hfr
 generalize hfc : frC (nn : Int) u (.slice Aa la ca) (.slice Ab lb cb) (.slice Ac lc cc) = fc at n0 b0 HFR ⊢
 have Q1 := hide (writeU_ok u hu hm _ (ht.below b0))
 have Q2 := hide (fun W => shapeOf_ok u hm W)
 have QN : Hid (∀ W, Calls Tryz.prog 60 #[.int .i64 ((SG u : Nat) : Int)] W fun e w' => e = .returned (.int .i64 (T : Int)) ∧ W = w') := fun W => by
  have := nodes_any (SG u) W (by omega)
  have h2 := wid_pos (SG u)
  rw [show (2 * (wid (SG u) : Int) - 1) = (T : Int) by rw [hT]; unfold TU; omega] at this
  exact this
 have husz := US.size_ hu
 have hL := writeU_len2 hu hm
 have HH := hide (And.intro hu (And.intro hm (And.intro hbd (And.intro hC (And.intro hT (And.intro hC (And.intro hT (And.intro hC (And.intro hT (And.intro hL husz))))))))))
 have HB := hide b0
 generalize hW0 : w.alloc (.cells fc 28) = W0 at *
 obtain ⟨uc, huc⟩ : ∃ uc, uc = u.cells := ⟨_, rfl⟩
 rw [← huc] at Q1 Q2
 have HFR2 : Hid (∀ W, Below W0.heap.size W0 W → W.cell? ⟨w.heap.size, 0, none⟩ = some (.int .i64 (nn : Int)) ∧ W.rangeAt w.heap.size 1 uc.toList ∧ W.cell? ⟨w.heap.size, 69, none⟩ = some (.slice Aa la ca) ∧ W.cell? ⟨w.heap.size, 70, none⟩ = some (.slice Ab lb cb) ∧ W.cell? ⟨w.heap.size, 71, none⟩ = some (.slice Ac lc cc)) := fun W hW => by rw [huc]; exact HFR.out W hW
 have HUC := hide (show uc.size = 68 by rw [huc]; exact husz)
 obtain ⟨F8, hF8, hF1, hF2, hF3, hF4⟩ : ∃ F : Array Value, F = shU u ∧ F.size = 8 ∧ F.all (·.oneCell') = true ∧ F[1]? = some (.int .i64 ((u.n.toNat : Nat) : Int)) ∧ F[4]? = some (.int .i64 ((SG u : Nat) : Int)) := ⟨_, rfl, rfl, by simp [shU, Value.oneCell'], rfl, rfl⟩
 rw [← hF8] at Q2
 have HF8 := hide (And.intro hF8 (And.intro hF1 (And.intro hF2 (And.intro hF3 hF4))))
 clear hF8 hF1 hF2 hF3 hF4
 obtain ⟨Nn, hNn⟩ : ∃ Nn, Nn = u.n.toNat := ⟨_, rfl⟩
 obtain ⟨Sn, hSn⟩ : ∃ Sn, Sn = SG u := ⟨_, rfl⟩
 have QC := hide (fun W => chaini_any u.n.toNat nn W (by omega) (by omega))
 have QC2 : Hid (∀ W, Calls Tryz.prog 44 #[.int .i64 (Nn : Int), .int .i64 (nn : Int)] W fun e W' => ∃ A c, e = .returned (.tuple #[.slice A C c, .int .i64 0]) ∧ Below W.heap.size W W') := fun W => by
  rw [hNn, hC]
  exact (QC.out W).mono fun e w' ⟨A, c, he, _, hb⟩ => ⟨A, c, he, hb⟩
 have HBD2 : Hid (¬ (la = C ∧ lb = T ∧ lc = T)) := hide (by rw [hC, hT]; exact hbad)
 clear QC
 rw [← hNn, ← hSn] at HF8
 rw [← hSn] at QN
 have HSN := hide (And.intro hNn hSn)
 have HBAD := hide hbad
 clear hNn hSn hu hm hbd hn hL husz hfr n0 b0 ht huc HFR hfc hC hT hbad
 go_enter Tryz.func36, Tryz.ntmps36
 go_wp2_with (first
  | ((with_reducible change wpList _ _ _ (⟨some 14, _, _, _, _, _⟩ :: _) _ _); go_loud (refine wpList_load_midF (by rfl) 25 _ rfl w.heap.size 1 rfl uc _ (HFR2.out W0 (Below.refl _ _)).2.1 Tryz.underlying25 rfl (by rw [HUC.out]; kernel_rfl) ?_)))
 refine Q1.out.mono ?_
 rintro e w1 ⟨b1, A1, c1, rfl, o1⟩
 obtain ⟨tx, htx, htl⟩ : ∃ tx, tx = writeU u ∧ tx.length ≤ 400 := ⟨_, rfl, HH.out.2.2.2.2.2.2.2.2.2.1⟩
 rw [← htx] at o1 ⊢
 have HTX := hide (And.intro htx htl)
 have H1 := hide (And.intro b1 o1)
 obtain ⟨k0, -, -, -, -⟩ := HFR2.out w1 b1
 clear b1 o1 Q1 htx htl
 go_wp2_with (first
  | ((with_reducible change wpList _ _ _ (⟨some 22, _, _, _, _, _⟩ :: _) _ _); go_loud (refine wpList_load_midF (by rfl) 25 _ rfl w.heap.size 1 rfl uc _ (HFR2.out w1 H1.out.1).2.1 Tryz.underlying25 rfl (by rw [HUC.out]; kernel_rfl) ?_)))
 refine (Q2.out w1).mono ?_
 rintro e w2 ⟨b2, rfl⟩
 have H2 := hide b2
 clear b2 Q2 k0
 obtain ⟨X, hX⟩ : ∃ X, X = w2.heap.size := ⟨_, rfl⟩
 go_wp2_with ((with_reducible change wpList _ _ _ (⟨none, .store _ (.tmp 6) _, _, _, _, _⟩ :: _) _ _); go_loud (refine wpList_store_row (o := ⟨none, .store _ (.tmp 6) _, _, _, _, _⟩) (Blk.new w2 _ _) F8 (by rw [HF8.out.2.1]; rfl) HF8.out.2.2.1 rfl 54 _ _ rfl (by rw [HF8.out.2.1]; kernel_rfl) rfl rfl ?_; intro w3 hb3 hg3; have H3 := hide (show Below w2.heap.size w2 w3 from ((Below.refl _ w2).alloc (Nat.le_refl _) _).grown hg3 (by simp) (fun k hk => by cases hk; exact Nat.le_refl _)); clear hg3; obtain ⟨k0, -, ka, kb, kc⟩ := HFR2.out w3 (Below.step H1.out.1 (Below.step H2.out H3.out)); have hx1 : w3.cell? ⟨w2.heap.size, 1, none⟩ = some (.int .i64 (Nn : Int)) := (by rw [hb3.cell]; exact HF8.out.2.2.2.1); have hx4 : w3.cell? ⟨w2.heap.size, 4, none⟩ = some (.int .i64 (Sn : Int)) := (by rw [hb3.cell]; exact HF8.out.2.2.2.2); have HX := hide hb3; clear hb3))
 refine (QC2.out w3).mono ?_
 rintro e w4 ⟨A4, c4, rfl, b4⟩
 rw [← hX] at HX ⊢
 clear hX k0 ka kb kc hx1 hx4
 have H04 := hide (Below.step H1.out.1 (Below.step H2.out (Below.step H3.out b4)))
 have HS : Hid (∀ W, Below w4.heap.size w4 W → W.cell? ⟨w.heap.size, 0, none⟩ = some (.int .i64 (nn : Int)) ∧ W.cell? ⟨w.heap.size, 69, none⟩ = some (.slice Aa la ca) ∧ W.cell? ⟨w.heap.size, 70, none⟩ = some (.slice Ab lb cb) ∧ W.cell? ⟨w.heap.size, 71, none⟩ = some (.slice Ac lc cc) ∧ W.cell? ⟨X, 1, none⟩ = some (.int .i64 (Nn : Int)) ∧ W.cell? ⟨X, 4, none⟩ = some (.int .i64 (Sn : Int))) := fun W hW => by
  obtain ⟨k0, -, ka, kb, kc⟩ := HFR2.out W (Below.step H04.out hW)
  have hx := (HX.out.below' b4).below' hW
  exact ⟨k0, ka, kb, kc, by rw [hx.cell]; exact HF8.out.2.2.2.1, by rw [hx.cell]; exact HF8.out.2.2.2.2⟩
 obtain ⟨k0, ka, kb, kc, kn, ks⟩ := HS.out w4 (Below.refl _ _)
 have HR := hide (Below.step HB.out H04.out)
 clear b4 HX QC2
 by_cases e1 : la = C
 ·subst e1
  by_cases e2 : lb = T
  ·subst e2
   have e3 : ¬ (lc : Int) = (lb : Int) := fun h => HBD2.out ⟨rfl, rfl, by omega⟩
   have e4 : ((lc : Int) != (lb : Int)) = true := by simp; omega
   go_wp2_with fail
   go_region_held3 (fun w' => w'.cell? ⟨w.heap.size, 0, none⟩ = some (.int .i64 (nn : Int)) ∧ w'.cell? ⟨w.heap.size, 69, none⟩ = some (.slice Aa la ca) ∧ w'.cell? ⟨w.heap.size, 70, none⟩ = some (.slice Ab lb cb) ∧ w'.cell? ⟨w.heap.size, 71, none⟩ = some (.slice Ac lc cc) ∧ w'.cell? ⟨X, 1, none⟩ = some (.int .i64 (Nn : Int)) ∧ w'.cell? ⟨X, 4, none⟩ = some (.int .i64 (Sn : Int))) (first | go_keep | assumption)
    (first | (go_at_call 60; (with_reducible refine (QN.out _).mono ?_); rintro e w' ⟨rfl, rfl⟩))
   all_goals
    go_wp2
    go_ret2
    exact ⟨by first | exact HR.out | exact HR.out.trans (Below.drew (Below.refl _ _)) | exact below_drewN HR.out _, rfl⟩
  ·have e3 : ¬ (lb : Int) = (T : Int) := by omega
   have e4 : ((lb : Int) != (T : Int)) = true := by simp; omega
   go_wp2_with fail
   refine wp_region_noPanic ?_
   refine wp_region_held_drew (S := fun w' => w'.cell? ⟨w.heap.size, 0, none⟩ = some (.int .i64 (nn : Int)) ∧ w'.cell? ⟨w.heap.size, 69, none⟩ = some (.slice Aa la ca) ∧ w'.cell? ⟨w.heap.size, 70, none⟩ = some (.slice Ab lb cb) ∧ w'.cell? ⟨w.heap.size, 71, none⟩ = some (.slice Ac lc cc) ∧ w'.cell? ⟨X, 1, none⟩ = some (.int .i64 (Nn : Int)) ∧ w'.cell? ⟨X, 4, none⟩ = some (.int .i64 (Sn : Int))) (by kernel_rfl) (HS.out _ (Below.refl _ _).drew) (fun hHeld => ?_)
   refine wpAnyH_take (i := 0) (v := ?_) rfl (by kernel_rfl) (by kernel_rfl) (by kernel_rfl) (fun _ _ _ h => h) (Or.inl ⟨by rfl, ?_⟩) (by assumption) ?_
   rotate_left
   ·(intro w9 hSw; (try dsimp only at hSw); go_simp; try with_reducible rfl)
   try simp only [Act.put, List.setIfInBounds_toArray, List.set_cons_zero, List.set_cons_succ, List.getElem_toArray, List.getElem_cons_succ, List.getElem_cons_zero]
   refine wpAnyH_take (i := 1) (v := ?_) rfl (by kernel_rfl) (by kernel_rfl) (by kernel_rfl) (fun _ _ _ h => h) (Or.inl ⟨by rfl, ?_⟩) (by assumption) ?_
   rotate_left
   ·(intro w9 hSw; (try dsimp only at hSw); go_simp; try with_reducible rfl)
   try simp only [Act.put, List.setIfInBounds_toArray, List.set_cons_zero, List.set_cons_succ, List.getElem_toArray, List.getElem_cons_succ, List.getElem_cons_zero]
   refine wpAnyH_take (i := 2) (v := ?_) rfl (by kernel_rfl) (by kernel_rfl) (by kernel_rfl) (fun _ _ _ h => h) (Or.inl ⟨by rfl, ?_⟩) (by assumption) ?_
   rotate_left
   ·(intro w9 hSw; (try dsimp only at hSw); go_simp; try with_reducible rfl)
   try simp only [Act.put, List.setIfInBounds_toArray, List.set_cons_zero, List.set_cons_succ, List.getElem_toArray, List.getElem_cons_succ, List.getElem_cons_zero]
   refine wpAnyH_take (i := 3) (v := ?_) rfl (by kernel_rfl) (by kernel_rfl) (by kernel_rfl) (fun _ _ _ h => h) (Or.inl ⟨by rfl, ?_⟩) (by assumption) ?_
   rotate_left
   ·(intro w9 hSw; (try dsimp only at hSw); go_simp; try with_reducible rfl)
   try simp only [Act.put, List.setIfInBounds_toArray, List.set_cons_zero, List.set_cons_succ, List.getElem_toArray, List.getElem_cons_succ, List.getElem_cons_zero]
   refine wpAnyH_take (i := 4) (v := ?_) rfl (by kernel_rfl) (by kernel_rfl) (by kernel_rfl) (fun _ _ _ h => h) (Or.inl ⟨by rfl, ?_⟩) (by assumption) ?_
   rotate_left
   ·(intro w9 hSw; (try dsimp only at hSw); go_simp; try with_reducible rfl)
   try simp only [Act.put, List.setIfInBounds_toArray, List.set_cons_zero, List.set_cons_succ, List.getElem_toArray, List.getElem_cons_succ, List.getElem_cons_zero]
   refine wpAnyH_take (i := 5) (v := ?_) rfl (by kernel_rfl) (by kernel_rfl) (by kernel_rfl) (fun _ _ _ h => h) (Or.inl ⟨by rfl, ?_⟩) (by assumption) ?_
   rotate_left
   ·(intro w9 hSw; (try dsimp only at hSw); go_simp; try with_reducible rfl)
   try simp only [Act.put, List.setIfInBounds_toArray, List.set_cons_zero, List.set_cons_succ, List.getElem_toArray, List.getElem_cons_succ, List.getElem_cons_zero]
   refine wpAnyH_take (i := 6) (v := ?_) rfl (by kernel_rfl) (by kernel_rfl) (by kernel_rfl) (fun _ _ _ h => h) (Or.inl ⟨by rfl, ?_⟩) (by assumption) ?_
   rotate_left
   ·(intro w9 hSw; (try dsimp only at hSw); go_simp; try with_reducible rfl)
   try simp only [Act.put, List.setIfInBounds_toArray, List.set_cons_zero, List.set_cons_succ, List.getElem_toArray, List.getElem_cons_succ, List.getElem_cons_zero]
   refine wpAnyH_take (i := 7) (v := ?_) rfl (by kernel_rfl) (by kernel_rfl) (by kernel_rfl) (fun _ _ _ h => h) (Or.inl ⟨by rfl, ?_⟩) (by assumption) ?_
   rotate_left
   ·(intro w9 hSw; (try dsimp only at hSw); go_simp; try with_reducible rfl)
   try simp only [Act.put, List.setIfInBounds_toArray, List.set_cons_zero, List.set_cons_succ, List.getElem_toArray, List.getElem_cons_succ, List.getElem_cons_zero]
   refine wpAnyH_take (i := 8) (v := ?_) rfl (by kernel_rfl) (by kernel_rfl) (by kernel_rfl) (fun _ _ _ h => h) (Or.inl ⟨by rfl, ?_⟩) (by assumption) ?_
   rotate_left
   ·(intro w9 hSw; (try dsimp only at hSw); go_simp; try with_reducible rfl)
   try simp only [Act.put, List.setIfInBounds_toArray, List.set_cons_zero, List.set_cons_succ, List.getElem_toArray, List.getElem_cons_succ, List.getElem_cons_zero]
   refine wpAnyH_take (i := 9) (v := ?_) rfl (by kernel_rfl) (by kernel_rfl) (by kernel_rfl) (fun _ _ _ h => h) (Or.inl ⟨by rfl, ?_⟩) (by assumption) ?_
   rotate_left
   ·(intro w9 hSw; (try dsimp only at hSw); go_simp; try with_reducible rfl)
   try simp only [Act.put, List.setIfInBounds_toArray, List.set_cons_zero, List.set_cons_succ, List.getElem_toArray, List.getElem_cons_succ, List.getElem_cons_zero]
   refine wpAnyH_take (i := 10) (v := ?_) rfl (by kernel_rfl) (by kernel_rfl) (by kernel_rfl) (fun _ _ _ h => h) (Or.inl ⟨by rfl, ?_⟩) (by assumption) ?_
   rotate_left
   ·(intro w9 hSw; (try dsimp only at hSw); go_simp; try with_reducible rfl)
   try simp only [Act.put, List.setIfInBounds_toArray, List.set_cons_zero, List.set_cons_succ, List.getElem_toArray, List.getElem_cons_succ, List.getElem_cons_zero]
   refine wpAnyH_take (i := 11) (v := ?_) rfl (by kernel_rfl) (by kernel_rfl) (by kernel_rfl) (fun _ _ _ h => h) (Or.inl ⟨by rfl, ?_⟩) (by assumption) ?_
   rotate_left
   ·(intro w9 hSw; (try dsimp only at hSw); go_simp; try with_reducible rfl)
   try simp only [Act.put, List.setIfInBounds_toArray, List.set_cons_zero, List.set_cons_succ, List.getElem_toArray, List.getElem_cons_succ, List.getElem_cons_zero]
   refine wpAnyH_take (i := 12) (v := ?_) rfl (by kernel_rfl) (by kernel_rfl) (by kernel_rfl) (fun _ _ _ h => h) (Or.inl ⟨by rfl, ?_⟩) (by assumption) ?_
   rotate_left
   ·(intro w9 hSw; (try dsimp only at hSw); go_simp; try with_reducible rfl)
   try simp only [Act.put, List.setIfInBounds_toArray, List.set_cons_zero, List.set_cons_succ, List.getElem_toArray, List.getElem_cons_succ, List.getElem_cons_zero]
   refine wpAnyH_take (i := 13) (v := ?_) rfl (by kernel_rfl) (by kernel_rfl) (by kernel_rfl) (fun _ _ _ h => h) (Or.inl ⟨by rfl, ?_⟩) (by assumption) ?_
   rotate_left
   ·(intro w9 hSw; (try dsimp only at hSw); go_simp; try with_reducible rfl)
   try simp only [Act.put, List.setIfInBounds_toArray, List.set_cons_zero, List.set_cons_succ, List.getElem_toArray, List.getElem_cons_succ, List.getElem_cons_zero]
   refine wpAnyH_take (i := 14) (v := ?_) rfl (by kernel_rfl) (by kernel_rfl) (by kernel_rfl) (fun _ _ _ h => h) (Or.inl ⟨by rfl, ?_⟩) (by assumption) ?_
   rotate_left
   ·(intro w9 hSw; (try dsimp only at hSw); go_simp; try with_reducible rfl)
   try simp only [Act.put, List.setIfInBounds_toArray, List.set_cons_zero, List.set_cons_succ, List.getElem_toArray, List.getElem_cons_succ, List.getElem_cons_zero]
   refine wpAnyH_take (i := 15) (v := ?_) rfl (by kernel_rfl) (by kernel_rfl) (by kernel_rfl) (fun _ _ _ h => h) (Or.inl ⟨by rfl, ?_⟩) (by assumption) ?_
   rotate_left
   ·(intro w9 hSw; (try dsimp only at hSw); go_simp; try with_reducible rfl)
   try simp only [Act.put, List.setIfInBounds_toArray, List.set_cons_zero, List.set_cons_succ, List.getElem_toArray, List.getElem_cons_succ, List.getElem_cons_zero]
   refine wpAnyH_ready (rs := [16]) (by kernel_rfl) (by simp) ?_
   refine AllReadyH.cons rfl (fun K hK => ?_) AllReadyH.nil
   go_simp
   refine (QN.out _).mono ?_
   rintro e w5 ⟨rfl, rfl⟩
   refine hK.out _ _ hHeld (fun hHeld => ?_)
   clear hK K
   try simp only [Act.put, List.setIfInBounds_toArray, List.set_cons_zero, List.set_cons_succ, List.getElem_toArray, List.getElem_cons_succ, List.getElem_cons_zero]
   refine wpAnyH_take (i := 17) (v := ?_) rfl (by kernel_rfl) (by kernel_rfl) (by kernel_rfl) (fun _ _ _ h => h) (Or.inl ⟨by rfl, ?_⟩) (by assumption) ?_
   rotate_left
   ·(intro w9 hSw; (try dsimp only at hSw); go_simp; try with_reducible rfl)
   try simp only [Act.put, List.setIfInBounds_toArray, List.set_cons_zero, List.set_cons_succ, List.getElem_toArray, List.getElem_cons_succ, List.getElem_cons_zero]
   refine wpAnyH_take (i := 18) (v := ?_) rfl (by kernel_rfl) (by kernel_rfl) (by kernel_rfl) (fun _ _ _ h => h) (Or.inl ⟨by rfl, ?_⟩) (by assumption) ?_
   rotate_left
   ·(intro w9 hSw; (try dsimp only at hSw); go_simp; try with_reducible rfl)
   try simp only [Act.put, List.setIfInBounds_toArray, List.set_cons_zero, List.set_cons_succ, List.getElem_toArray, List.getElem_cons_succ, List.getElem_cons_zero]
   refine wpAnyH_take (i := 19) (v := ?_) rfl (by kernel_rfl) (by kernel_rfl) (by kernel_rfl) (fun _ _ _ h => h) (Or.inl ⟨by rfl, ?_⟩) (by assumption) ?_
   rotate_left
   ·(intro w9 hSw; (try dsimp only at hSw); go_simp; try with_reducible rfl)
   try simp only [Act.put, List.setIfInBounds_toArray, List.set_cons_zero, List.set_cons_succ, List.getElem_toArray, List.getElem_cons_succ, List.getElem_cons_zero]
   refine wpAnyH_take (i := 20) (v := undef) rfl (by kernel_rfl) (by kernel_rfl) (by kernel_rfl) (fun _ _ _ h => h) (Or.inr ⟨by rfl, rfl⟩) (by assumption) ?_
   try simp only [Act.put, List.setIfInBounds_toArray, List.set_cons_zero, List.set_cons_succ, List.getElem_toArray, List.getElem_cons_succ, List.getElem_cons_zero]
   refine wpAnyH_take (i := 21) (v := undef) rfl (by kernel_rfl) (by kernel_rfl) (by kernel_rfl) (fun _ _ _ h => h) (Or.inr ⟨by rfl, rfl⟩) (by assumption) ?_
   try simp only [Act.put, List.setIfInBounds_toArray, List.set_cons_zero, List.set_cons_succ, List.getElem_toArray, List.getElem_cons_succ, List.getElem_cons_zero]
   refine wpAnyH_take (i := 22) (v := undef) rfl (by kernel_rfl) (by kernel_rfl) (by kernel_rfl) (fun _ _ _ h => h) (Or.inr ⟨by rfl, rfl⟩) (by assumption) ?_
   try simp only [Act.put, List.setIfInBounds_toArray, List.set_cons_zero, List.set_cons_succ, List.getElem_toArray, List.getElem_cons_succ, List.getElem_cons_zero]
   refine wpAnyH_take (i := 23) (v := undef) rfl (by kernel_rfl) (by kernel_rfl) (by kernel_rfl) (fun _ _ _ h => h) (Or.inr ⟨by rfl, rfl⟩) (by assumption) ?_
   try simp only [Act.put, List.setIfInBounds_toArray, List.set_cons_zero, List.set_cons_succ, List.getElem_toArray, List.getElem_cons_succ, List.getElem_cons_zero]
   refine wpAnyH_take (i := 24) (v := undef) rfl (by kernel_rfl) (by kernel_rfl) (by kernel_rfl) (fun _ _ _ h => h) (Or.inr ⟨by rfl, rfl⟩) (by assumption) ?_
   try simp only [Act.put, List.setIfInBounds_toArray, List.set_cons_zero, List.set_cons_succ, List.getElem_toArray, List.getElem_cons_succ, List.getElem_cons_zero]
   refine wpAnyH_take (i := 25) (v := undef) rfl (by kernel_rfl) (by kernel_rfl) (by kernel_rfl) (fun _ _ _ h => h) (Or.inr ⟨by rfl, rfl⟩) (by assumption) ?_
   try simp only [Act.put, List.setIfInBounds_toArray, List.set_cons_zero, List.set_cons_succ, List.getElem_toArray, List.getElem_cons_succ, List.getElem_cons_zero]
   refine wpAnyH_take (i := 26) (v := undef) rfl (by kernel_rfl) (by kernel_rfl) (by kernel_rfl) (fun _ _ _ h => h) (Or.inr ⟨by rfl, rfl⟩) (by assumption) ?_
   try simp only [Act.put, List.setIfInBounds_toArray, List.set_cons_zero, List.set_cons_succ, List.getElem_toArray, List.getElem_cons_succ, List.getElem_cons_zero]
   refine wpAnyH_take (i := 27) (v := ?_) rfl (by kernel_rfl) (by kernel_rfl) (by kernel_rfl) (fun _ _ _ h => h) (Or.inl ⟨by rfl, ?_⟩) (by assumption) ?_
   rotate_left
   ·(intro w9 hSw; (try dsimp only at hSw); go_simp; try with_reducible rfl)
   try simp only [Act.put, List.setIfInBounds_toArray, List.set_cons_zero, List.set_cons_succ, List.getElem_toArray, List.getElem_cons_succ, List.getElem_cons_zero]
   refine wpAnyH_done (by kernel_rfl) ?_ _
   refine noPanic_norm ?_
   go_wp2
   go_ret2
   exact ⟨by first | exact HR.out | exact HR.out.trans (Below.drew (Below.refl _ _)) | exact below_drewN HR.out _, rfl⟩
 ·have e3 : ¬ (la : Int) = (C : Int) := by omega
  have e4 : ((la : Int) != (C : Int)) = true := by simp; omega
  go_wp2_with fail
  refine wp_region_noPanic ?_
  refine wp_region_held_drew (S := fun w' => w'.cell? ⟨w.heap.size, 0, none⟩ = some (.int .i64 (nn : Int)) ∧ w'.cell? ⟨w.heap.size, 69, none⟩ = some (.slice Aa la ca) ∧ w'.cell? ⟨w.heap.size, 70, none⟩ = some (.slice Ab lb cb) ∧ w'.cell? ⟨w.heap.size, 71, none⟩ = some (.slice Ac lc cc) ∧ w'.cell? ⟨X, 1, none⟩ = some (.int .i64 (Nn : Int)) ∧ w'.cell? ⟨X, 4, none⟩ = some (.int .i64 (Sn : Int))) (by kernel_rfl) (HS.out _ (Below.refl _ _).drew) (fun hHeld => ?_)
  refine wpAnyH_take (i := 0) (v := ?_) rfl (by kernel_rfl) (by kernel_rfl) (by kernel_rfl) (fun _ _ _ h => h) (Or.inl ⟨by rfl, ?_⟩) (by assumption) ?_
  rotate_left
  ·(intro w9 hSw; (try dsimp only at hSw); go_simp; try with_reducible rfl)
  try simp only [Act.put, List.setIfInBounds_toArray, List.set_cons_zero, List.set_cons_succ, List.getElem_toArray, List.getElem_cons_succ, List.getElem_cons_zero]
  refine wpAnyH_take (i := 1) (v := ?_) rfl (by kernel_rfl) (by kernel_rfl) (by kernel_rfl) (fun _ _ _ h => h) (Or.inl ⟨by rfl, ?_⟩) (by assumption) ?_
  rotate_left
  ·(intro w9 hSw; (try dsimp only at hSw); go_simp; try with_reducible rfl)
  try simp only [Act.put, List.setIfInBounds_toArray, List.set_cons_zero, List.set_cons_succ, List.getElem_toArray, List.getElem_cons_succ, List.getElem_cons_zero]
  refine wpAnyH_take (i := 2) (v := ?_) rfl (by kernel_rfl) (by kernel_rfl) (by kernel_rfl) (fun _ _ _ h => h) (Or.inl ⟨by rfl, ?_⟩) (by assumption) ?_
  rotate_left
  ·(intro w9 hSw; (try dsimp only at hSw); go_simp; try with_reducible rfl)
  try simp only [Act.put, List.setIfInBounds_toArray, List.set_cons_zero, List.set_cons_succ, List.getElem_toArray, List.getElem_cons_succ, List.getElem_cons_zero]
  refine wpAnyH_take (i := 3) (v := ?_) rfl (by kernel_rfl) (by kernel_rfl) (by kernel_rfl) (fun _ _ _ h => h) (Or.inl ⟨by rfl, ?_⟩) (by assumption) ?_
  rotate_left
  ·(intro w9 hSw; (try dsimp only at hSw); go_simp; try with_reducible rfl)
  try simp only [Act.put, List.setIfInBounds_toArray, List.set_cons_zero, List.set_cons_succ, List.getElem_toArray, List.getElem_cons_succ, List.getElem_cons_zero]
  refine wpAnyH_take (i := 4) (v := ?_) rfl (by kernel_rfl) (by kernel_rfl) (by kernel_rfl) (fun _ _ _ h => h) (Or.inl ⟨by rfl, ?_⟩) (by assumption) ?_
  rotate_left
  ·(intro w9 hSw; (try dsimp only at hSw); go_simp; try with_reducible rfl)
  try simp only [Act.put, List.setIfInBounds_toArray, List.set_cons_zero, List.set_cons_succ, List.getElem_toArray, List.getElem_cons_succ, List.getElem_cons_zero]
  refine wpAnyH_take (i := 5) (v := ?_) rfl (by kernel_rfl) (by kernel_rfl) (by kernel_rfl) (fun _ _ _ h => h) (Or.inl ⟨by rfl, ?_⟩) (by assumption) ?_
  rotate_left
  ·(intro w9 hSw; (try dsimp only at hSw); go_simp; try with_reducible rfl)
  try simp only [Act.put, List.setIfInBounds_toArray, List.set_cons_zero, List.set_cons_succ, List.getElem_toArray, List.getElem_cons_succ, List.getElem_cons_zero]
  refine wpAnyH_take (i := 6) (v := ?_) rfl (by kernel_rfl) (by kernel_rfl) (by kernel_rfl) (fun _ _ _ h => h) (Or.inl ⟨by rfl, ?_⟩) (by assumption) ?_
  rotate_left
  ·(intro w9 hSw; (try dsimp only at hSw); go_simp; try with_reducible rfl)
  try simp only [Act.put, List.setIfInBounds_toArray, List.set_cons_zero, List.set_cons_succ, List.getElem_toArray, List.getElem_cons_succ, List.getElem_cons_zero]
  refine wpAnyH_take (i := 7) (v := ?_) rfl (by kernel_rfl) (by kernel_rfl) (by kernel_rfl) (fun _ _ _ h => h) (Or.inl ⟨by rfl, ?_⟩) (by assumption) ?_
  rotate_left
  ·(intro w9 hSw; (try dsimp only at hSw); go_simp; try with_reducible rfl)
  try simp only [Act.put, List.setIfInBounds_toArray, List.set_cons_zero, List.set_cons_succ, List.getElem_toArray, List.getElem_cons_succ, List.getElem_cons_zero]
  refine wpAnyH_take (i := 8) (v := ?_) rfl (by kernel_rfl) (by kernel_rfl) (by kernel_rfl) (fun _ _ _ h => h) (Or.inl ⟨by rfl, ?_⟩) (by assumption) ?_
  rotate_left
  ·(intro w9 hSw; (try dsimp only at hSw); go_simp; try with_reducible rfl)
  try simp only [Act.put, List.setIfInBounds_toArray, List.set_cons_zero, List.set_cons_succ, List.getElem_toArray, List.getElem_cons_succ, List.getElem_cons_zero]
  refine wpAnyH_take (i := 9) (v := ?_) rfl (by kernel_rfl) (by kernel_rfl) (by kernel_rfl) (fun _ _ _ h => h) (Or.inl ⟨by rfl, ?_⟩) (by assumption) ?_
  rotate_left
  ·(intro w9 hSw; (try dsimp only at hSw); go_simp; try with_reducible rfl)
  try simp only [Act.put, List.setIfInBounds_toArray, List.set_cons_zero, List.set_cons_succ, List.getElem_toArray, List.getElem_cons_succ, List.getElem_cons_zero]
  refine wpAnyH_take (i := 10) (v := ?_) rfl (by kernel_rfl) (by kernel_rfl) (by kernel_rfl) (fun _ _ _ h => h) (Or.inl ⟨by rfl, ?_⟩) (by assumption) ?_
  rotate_left
  ·(intro w9 hSw; (try dsimp only at hSw); go_simp; try with_reducible rfl)
  try simp only [Act.put, List.setIfInBounds_toArray, List.set_cons_zero, List.set_cons_succ, List.getElem_toArray, List.getElem_cons_succ, List.getElem_cons_zero]
  refine wpAnyH_take (i := 11) (v := undef) rfl (by kernel_rfl) (by kernel_rfl) (by kernel_rfl) (fun _ _ _ h => h) (Or.inr ⟨by rfl, rfl⟩) (by assumption) ?_
  try simp only [Act.put, List.setIfInBounds_toArray, List.set_cons_zero, List.set_cons_succ, List.getElem_toArray, List.getElem_cons_succ, List.getElem_cons_zero]
  refine wpAnyH_take (i := 12) (v := undef) rfl (by kernel_rfl) (by kernel_rfl) (by kernel_rfl) (fun _ _ _ h => h) (Or.inr ⟨by rfl, rfl⟩) (by assumption) ?_
  try simp only [Act.put, List.setIfInBounds_toArray, List.set_cons_zero, List.set_cons_succ, List.getElem_toArray, List.getElem_cons_succ, List.getElem_cons_zero]
  refine wpAnyH_take (i := 13) (v := undef) rfl (by kernel_rfl) (by kernel_rfl) (by kernel_rfl) (fun _ _ _ h => h) (Or.inr ⟨by rfl, rfl⟩) (by assumption) ?_
  try simp only [Act.put, List.setIfInBounds_toArray, List.set_cons_zero, List.set_cons_succ, List.getElem_toArray, List.getElem_cons_succ, List.getElem_cons_zero]
  refine wpAnyH_take (i := 14) (v := undef) rfl (by kernel_rfl) (by kernel_rfl) (by kernel_rfl) (fun _ _ _ h => h) (Or.inr ⟨by rfl, rfl⟩) (by assumption) ?_
  try simp only [Act.put, List.setIfInBounds_toArray, List.set_cons_zero, List.set_cons_succ, List.getElem_toArray, List.getElem_cons_succ, List.getElem_cons_zero]
  refine wpAnyH_take (i := 15) (v := undef) rfl (by kernel_rfl) (by kernel_rfl) (by kernel_rfl) (fun _ _ _ h => h) (Or.inr ⟨by rfl, rfl⟩) (by assumption) ?_
  try simp only [Act.put, List.setIfInBounds_toArray, List.set_cons_zero, List.set_cons_succ, List.getElem_toArray, List.getElem_cons_succ, List.getElem_cons_zero]
  refine wpAnyH_take (i := 16) (v := undef) rfl (by kernel_rfl) (by kernel_rfl) (by kernel_rfl) (fun _ _ _ h => h) (Or.inr ⟨by rfl, rfl⟩) (by assumption) ?_
  try simp only [Act.put, List.setIfInBounds_toArray, List.set_cons_zero, List.set_cons_succ, List.getElem_toArray, List.getElem_cons_succ, List.getElem_cons_zero]
  refine wpAnyH_take (i := 17) (v := undef) rfl (by kernel_rfl) (by kernel_rfl) (by kernel_rfl) (fun _ _ _ h => h) (Or.inr ⟨by rfl, rfl⟩) (by assumption) ?_
  try simp only [Act.put, List.setIfInBounds_toArray, List.set_cons_zero, List.set_cons_succ, List.getElem_toArray, List.getElem_cons_succ, List.getElem_cons_zero]
  refine wpAnyH_take (i := 18) (v := ?_) rfl (by kernel_rfl) (by kernel_rfl) (by kernel_rfl) (fun _ _ _ h => h) (Or.inl ⟨by rfl, ?_⟩) (by assumption) ?_
  rotate_left
  ·(intro w9 hSw; (try dsimp only at hSw); go_simp; try with_reducible rfl)
  try simp only [Act.put, List.setIfInBounds_toArray, List.set_cons_zero, List.set_cons_succ, List.getElem_toArray, List.getElem_cons_succ, List.getElem_cons_zero]
  refine wpAnyH_take (i := 19) (v := ?_) rfl (by kernel_rfl) (by kernel_rfl) (by kernel_rfl) (fun _ _ _ h => h) (Or.inl ⟨by rfl, ?_⟩) (by assumption) ?_
  rotate_left
  ·(intro w9 hSw; (try dsimp only at hSw); go_simp; try with_reducible rfl)
  try simp only [Act.put, List.setIfInBounds_toArray, List.set_cons_zero, List.set_cons_succ, List.getElem_toArray, List.getElem_cons_succ, List.getElem_cons_zero]
  refine wpAnyH_take (i := 20) (v := undef) rfl (by kernel_rfl) (by kernel_rfl) (by kernel_rfl) (fun _ _ _ h => h) (Or.inr ⟨by rfl, rfl⟩) (by assumption) ?_
  try simp only [Act.put, List.setIfInBounds_toArray, List.set_cons_zero, List.set_cons_succ, List.getElem_toArray, List.getElem_cons_succ, List.getElem_cons_zero]
  refine wpAnyH_take (i := 21) (v := undef) rfl (by kernel_rfl) (by kernel_rfl) (by kernel_rfl) (fun _ _ _ h => h) (Or.inr ⟨by rfl, rfl⟩) (by assumption) ?_
  try simp only [Act.put, List.setIfInBounds_toArray, List.set_cons_zero, List.set_cons_succ, List.getElem_toArray, List.getElem_cons_succ, List.getElem_cons_zero]
  refine wpAnyH_take (i := 22) (v := undef) rfl (by kernel_rfl) (by kernel_rfl) (by kernel_rfl) (fun _ _ _ h => h) (Or.inr ⟨by rfl, rfl⟩) (by assumption) ?_
  try simp only [Act.put, List.setIfInBounds_toArray, List.set_cons_zero, List.set_cons_succ, List.getElem_toArray, List.getElem_cons_succ, List.getElem_cons_zero]
  refine wpAnyH_take (i := 23) (v := undef) rfl (by kernel_rfl) (by kernel_rfl) (by kernel_rfl) (fun _ _ _ h => h) (Or.inr ⟨by rfl, rfl⟩) (by assumption) ?_
  try simp only [Act.put, List.setIfInBounds_toArray, List.set_cons_zero, List.set_cons_succ, List.getElem_toArray, List.getElem_cons_succ, List.getElem_cons_zero]
  refine wpAnyH_take (i := 24) (v := undef) rfl (by kernel_rfl) (by kernel_rfl) (by kernel_rfl) (fun _ _ _ h => h) (Or.inr ⟨by rfl, rfl⟩) (by assumption) ?_
  try simp only [Act.put, List.setIfInBounds_toArray, List.set_cons_zero, List.set_cons_succ, List.getElem_toArray, List.getElem_cons_succ, List.getElem_cons_zero]
  refine wpAnyH_take (i := 25) (v := undef) rfl (by kernel_rfl) (by kernel_rfl) (by kernel_rfl) (fun _ _ _ h => h) (Or.inr ⟨by rfl, rfl⟩) (by assumption) ?_
  try simp only [Act.put, List.setIfInBounds_toArray, List.set_cons_zero, List.set_cons_succ, List.getElem_toArray, List.getElem_cons_succ, List.getElem_cons_zero]
  refine wpAnyH_take (i := 26) (v := undef) rfl (by kernel_rfl) (by kernel_rfl) (by kernel_rfl) (fun _ _ _ h => h) (Or.inr ⟨by rfl, rfl⟩) (by assumption) ?_
  try simp only [Act.put, List.setIfInBounds_toArray, List.set_cons_zero, List.set_cons_succ, List.getElem_toArray, List.getElem_cons_succ, List.getElem_cons_zero]
  refine wpAnyH_take (i := 27) (v := ?_) rfl (by kernel_rfl) (by kernel_rfl) (by kernel_rfl) (fun _ _ _ h => h) (Or.inl ⟨by rfl, ?_⟩) (by assumption) ?_
  rotate_left
  ·(intro w9 hSw; (try dsimp only at hSw); go_simp; try with_reducible rfl)
  try simp only [Act.put, List.setIfInBounds_toArray, List.set_cons_zero, List.set_cons_succ, List.getElem_toArray, List.getElem_cons_succ, List.getElem_cons_zero]
  refine wpAnyH_done (by kernel_rfl) ?_ _
  refine noPanic_norm ?_
  go_wp2
  go_ret2
  exact ⟨by first | exact HR.out | exact HR.out.trans (Below.drew (Below.refl _ _)) | exact below_drewN HR.out _, rfl⟩
set_option maxRecDepth 100000 in
set_option maxHeartbeats 4000000 in
theorem pf_num (u : US) (hu : u.wf) (hm : u.may) (num : Int) (hbad : ¬ (0 ≤ num ∧ num < u.n)) (Aa Ab Ac : Option Addr) (la lb lc ca cb cc : Nat) (w : World) (ht : Tab w) :
  Calls Tryz.prog 36 #[.agg (frC num u (.slice Aa la ca) (.slice Ab lb cb) (.slice Ac lc cc))] w fun e w' => Below w.heap.size w w' ∧ e = .returned (.tuple #[.slice none 0 0, .int .i64 141]) := by
 have hbd := u_bounds hm
 obtain ⟨C, hC⟩ : ∃ C, C = CU u := ⟨_, rfl⟩
 obtain ⟨T, hT⟩ : ∃ T, T = TU u := ⟨_, rfl⟩
 have n0 := Blk.new w 28 (frC num u (.slice Aa la ca) (.slice Ab lb cb) (.slice Ac lc cc))
 have b0 := (Below.refl w.heap.size w).alloc (Nat.le_refl _) (.cells (frC num u (.slice Aa la ca) (.slice Ab lb cb) (.slice Ac lc cc)) 28)
 have hfr := fun W (hW : Below (w.alloc (.cells (frC num u (.slice Aa la ca) (.slice Ab lb cb) (.slice Ac lc cc)) 28)).heap.size (w.alloc (.cells (frC num u (.slice Aa la ca) (.slice Ab lb cb) (.slice Ac lc cc)) 28)) W) => (n0.below' hW).front hu
 have HFR := hide hfr
 generalize hfc : frC num u (.slice Aa la ca) (.slice Ab lb cb) (.slice Ac lc cc) = fc at n0 b0 HFR ⊢
 have Q1 := hide (writeU_ok u hu hm _ (ht.below b0))
 have Q2 := hide (fun W => shapeOf_ok u hm W)
 have QN : Hid (∀ W, Calls Tryz.prog 60 #[.int .i64 ((SG u : Nat) : Int)] W fun e w' => e = .returned (.int .i64 (T : Int)) ∧ W = w') := fun W => by
  have := nodes_any (SG u) W (by omega)
  have h2 := wid_pos (SG u)
  rw [show (2 * (wid (SG u) : Int) - 1) = (T : Int) by rw [hT]; unfold TU; omega] at this
  exact this
 have husz := US.size_ hu
 have hL := writeU_len2 hu hm
 have HH := hide (And.intro hu (And.intro hm (And.intro hbd (And.intro hC (And.intro hT (And.intro hC (And.intro hT (And.intro hC (And.intro hT (And.intro hL husz))))))))))
 have HB := hide b0
 generalize hW0 : w.alloc (.cells fc 28) = W0 at *
 obtain ⟨uc, huc⟩ : ∃ uc, uc = u.cells := ⟨_, rfl⟩
 rw [← huc] at Q1 Q2
 have HFR2 : Hid (∀ W, Below W0.heap.size W0 W → W.cell? ⟨w.heap.size, 0, none⟩ = some (.int .i64 num) ∧ W.rangeAt w.heap.size 1 uc.toList ∧ W.cell? ⟨w.heap.size, 69, none⟩ = some (.slice Aa la ca) ∧ W.cell? ⟨w.heap.size, 70, none⟩ = some (.slice Ab lb cb) ∧ W.cell? ⟨w.heap.size, 71, none⟩ = some (.slice Ac lc cc)) := fun W hW => by rw [huc]; exact HFR.out W hW
 have HUC := hide (show uc.size = 68 by rw [huc]; exact husz)
 obtain ⟨F8, hF8, hF1, hF2, hF3, hF4⟩ : ∃ F : Array Value, F = shU u ∧ F.size = 8 ∧ F.all (·.oneCell') = true ∧ F[1]? = some (.int .i64 ((u.n.toNat : Nat) : Int)) ∧ F[4]? = some (.int .i64 ((SG u : Nat) : Int)) := ⟨_, rfl, rfl, by simp [shU, Value.oneCell'], rfl, rfl⟩
 rw [← hF8] at Q2
 have HF8 := hide (And.intro hF8 (And.intro hF1 (And.intro hF2 (And.intro hF3 hF4))))
 clear hF8 hF1 hF2 hF3 hF4
 obtain ⟨Nn, hNn⟩ : ∃ Nn, Nn = u.n.toNat := ⟨_, rfl⟩
 obtain ⟨Sn, hSn⟩ : ∃ Sn, Sn = SG u := ⟨_, rfl⟩
 have QC2 : Hid (∀ W, Calls Tryz.prog 44 #[.int .i64 (Nn : Int), .int .i64 num] W fun e W' => e = .returned (.tuple #[.slice none 0 0, .int .i64 111]) ∧ W = W') := fun W => by
  rw [hNn]
  exact chaini_bad u.n.toNat num W (by omega) (by omega)
 rw [← hNn, ← hSn] at HF8
 rw [← hSn] at QN
 have HSN := hide (And.intro hNn hSn)
 have HBAD := hide hbad
 clear hNn hSn hu hm hbd hL husz hfr n0 b0 ht huc HFR hfc hC hT hbad
 go_enter Tryz.func36, Tryz.ntmps36
 go_wp2_with (first
  | ((with_reducible change wpList _ _ _ (⟨some 14, _, _, _, _, _⟩ :: _) _ _); go_loud (refine wpList_load_midF (by rfl) 25 _ rfl w.heap.size 1 rfl uc _ (HFR2.out W0 (Below.refl _ _)).2.1 Tryz.underlying25 rfl (by rw [HUC.out]; kernel_rfl) ?_)))
 refine Q1.out.mono ?_
 rintro e w1 ⟨b1, A1, c1, rfl, o1⟩
 obtain ⟨tx, htx, htl⟩ : ∃ tx, tx = writeU u ∧ tx.length ≤ 400 := ⟨_, rfl, HH.out.2.2.2.2.2.2.2.2.2.1⟩
 rw [← htx] at o1 ⊢
 have HTX := hide (And.intro htx htl)
 have H1 := hide (And.intro b1 o1)
 obtain ⟨k0, -, -, -, -⟩ := HFR2.out w1 b1
 clear b1 o1 Q1 htx htl
 go_wp2_with (first
  | ((with_reducible change wpList _ _ _ (⟨some 22, _, _, _, _, _⟩ :: _) _ _); go_loud (refine wpList_load_midF (by rfl) 25 _ rfl w.heap.size 1 rfl uc _ (HFR2.out w1 H1.out.1).2.1 Tryz.underlying25 rfl (by rw [HUC.out]; kernel_rfl) ?_)))
 refine (Q2.out w1).mono ?_
 rintro e w2 ⟨b2, rfl⟩
 have H2 := hide b2
 clear b2 Q2 k0
 obtain ⟨X, hX⟩ : ∃ X, X = w2.heap.size := ⟨_, rfl⟩
 go_wp2_with ((with_reducible change wpList _ _ _ (⟨none, .store _ (.tmp 6) _, _, _, _, _⟩ :: _) _ _); go_loud (refine wpList_store_row (o := ⟨none, .store _ (.tmp 6) _, _, _, _, _⟩) (Blk.new w2 _ _) F8 (by rw [HF8.out.2.1]; rfl) HF8.out.2.2.1 rfl 54 _ _ rfl (by rw [HF8.out.2.1]; kernel_rfl) rfl rfl ?_; intro w3 hb3 hg3; have H3 := hide (show Below w2.heap.size w2 w3 from ((Below.refl _ w2).alloc (Nat.le_refl _) _).grown hg3 (by simp) (fun k hk => by cases hk; exact Nat.le_refl _)); clear hg3; obtain ⟨k0, -, ka, kb, kc⟩ := HFR2.out w3 (Below.step H1.out.1 (Below.step H2.out H3.out)); have hx1 : w3.cell? ⟨w2.heap.size, 1, none⟩ = some (.int .i64 (Nn : Int)) := (by rw [hb3.cell]; exact HF8.out.2.2.2.1); have hx4 : w3.cell? ⟨w2.heap.size, 4, none⟩ = some (.int .i64 (Sn : Int)) := (by rw [hb3.cell]; exact HF8.out.2.2.2.2); have HX := hide hb3; clear hb3))
 refine (QC2.out w3).mono ?_
 rintro e w4 ⟨rfl, rfl⟩
 have b4 := Below.refl w3.heap.size w3
 rw [← hX] at HX ⊢
 clear hX k0 ka kb kc hx1 hx4
 have H04 := hide (Below.step H1.out.1 (Below.step H2.out (Below.step H3.out b4)))
 have HS : Hid (∀ W, Below w3.heap.size w3 W → W.cell? ⟨w.heap.size, 0, none⟩ = some (.int .i64 num) ∧ W.cell? ⟨w.heap.size, 69, none⟩ = some (.slice Aa la ca) ∧ W.cell? ⟨w.heap.size, 70, none⟩ = some (.slice Ab lb cb) ∧ W.cell? ⟨w.heap.size, 71, none⟩ = some (.slice Ac lc cc) ∧ W.cell? ⟨X, 1, none⟩ = some (.int .i64 (Nn : Int)) ∧ W.cell? ⟨X, 4, none⟩ = some (.int .i64 (Sn : Int))) := fun W hW => by
  obtain ⟨k0, -, ka, kb, kc⟩ := HFR2.out W (Below.step H04.out hW)
  have hx := (HX.out.below' b4).below' hW
  exact ⟨k0, ka, kb, kc, by rw [hx.cell]; exact HF8.out.2.2.2.1, by rw [hx.cell]; exact HF8.out.2.2.2.2⟩
 obtain ⟨k0, ka, kb, kc, kn, ks⟩ := HS.out w3 (Below.refl _ _)
 have HR := hide (Below.step HB.out H04.out)
 clear b4 HX QC2
 go_wp2_with fail
 refine wp_region_noPanic ?_
 refine wp_region_held_drew (S := fun w' => w'.cell? ⟨w.heap.size, 0, none⟩ = some (.int .i64 num) ∧ w'.cell? ⟨w.heap.size, 69, none⟩ = some (.slice Aa la ca) ∧ w'.cell? ⟨w.heap.size, 70, none⟩ = some (.slice Ab lb cb) ∧ w'.cell? ⟨w.heap.size, 71, none⟩ = some (.slice Ac lc cc) ∧ w'.cell? ⟨X, 1, none⟩ = some (.int .i64 (Nn : Int)) ∧ w'.cell? ⟨X, 4, none⟩ = some (.int .i64 (Sn : Int))) (by kernel_rfl) (HS.out _ (Below.refl _ _).drew) (fun hHeld => ?_)
 refine wpAnyH_take (i := 0) (v := ?_) rfl (by kernel_rfl) (by kernel_rfl) (by kernel_rfl) (fun _ _ _ h => h) (Or.inl ⟨by rfl, ?_⟩) (by assumption) ?_
 rotate_left
 ·(intro w9 hSw; (try dsimp only at hSw); go_simp; try with_reducible rfl)
 try simp only [Act.put, List.setIfInBounds_toArray, List.set_cons_zero, List.set_cons_succ, List.getElem_toArray, List.getElem_cons_succ, List.getElem_cons_zero]
 refine wpAnyH_take (i := 1) (v := ?_) rfl (by kernel_rfl) (by kernel_rfl) (by kernel_rfl) (fun _ _ _ h => h) (Or.inl ⟨by rfl, ?_⟩) (by assumption) ?_
 rotate_left
 ·(intro w9 hSw; (try dsimp only at hSw); go_simp; try with_reducible rfl)
 try simp only [Act.put, List.setIfInBounds_toArray, List.set_cons_zero, List.set_cons_succ, List.getElem_toArray, List.getElem_cons_succ, List.getElem_cons_zero]
 refine wpAnyH_take (i := 2) (v := ?_) rfl (by kernel_rfl) (by kernel_rfl) (by kernel_rfl) (fun _ _ _ h => h) (Or.inl ⟨by rfl, ?_⟩) (by assumption) ?_
 rotate_left
 ·(intro w9 hSw; (try dsimp only at hSw); go_simp; try with_reducible rfl)
 try simp only [Act.put, List.setIfInBounds_toArray, List.set_cons_zero, List.set_cons_succ, List.getElem_toArray, List.getElem_cons_succ, List.getElem_cons_zero]
 refine wpAnyH_take (i := 3) (v := undef) rfl (by kernel_rfl) (by kernel_rfl) (by kernel_rfl) (fun _ _ _ h => h) (Or.inr ⟨by rfl, rfl⟩) (by assumption) ?_
 try simp only [Act.put, List.setIfInBounds_toArray, List.set_cons_zero, List.set_cons_succ, List.getElem_toArray, List.getElem_cons_succ, List.getElem_cons_zero]
 refine wpAnyH_take (i := 4) (v := undef) rfl (by kernel_rfl) (by kernel_rfl) (by kernel_rfl) (fun _ _ _ h => h) (Or.inr ⟨by rfl, rfl⟩) (by assumption) ?_
 try simp only [Act.put, List.setIfInBounds_toArray, List.set_cons_zero, List.set_cons_succ, List.getElem_toArray, List.getElem_cons_succ, List.getElem_cons_zero]
 refine wpAnyH_take (i := 5) (v := undef) rfl (by kernel_rfl) (by kernel_rfl) (by kernel_rfl) (fun _ _ _ h => h) (Or.inr ⟨by rfl, rfl⟩) (by assumption) ?_
 try simp only [Act.put, List.setIfInBounds_toArray, List.set_cons_zero, List.set_cons_succ, List.getElem_toArray, List.getElem_cons_succ, List.getElem_cons_zero]
 refine wpAnyH_take (i := 6) (v := undef) rfl (by kernel_rfl) (by kernel_rfl) (by kernel_rfl) (fun _ _ _ h => h) (Or.inr ⟨by rfl, rfl⟩) (by assumption) ?_
 try simp only [Act.put, List.setIfInBounds_toArray, List.set_cons_zero, List.set_cons_succ, List.getElem_toArray, List.getElem_cons_succ, List.getElem_cons_zero]
 refine wpAnyH_take (i := 7) (v := undef) rfl (by kernel_rfl) (by kernel_rfl) (by kernel_rfl) (fun _ _ _ h => h) (Or.inr ⟨by rfl, rfl⟩) (by assumption) ?_
 try simp only [Act.put, List.setIfInBounds_toArray, List.set_cons_zero, List.set_cons_succ, List.getElem_toArray, List.getElem_cons_succ, List.getElem_cons_zero]
 refine wpAnyH_take (i := 8) (v := undef) rfl (by kernel_rfl) (by kernel_rfl) (by kernel_rfl) (fun _ _ _ h => h) (Or.inr ⟨by rfl, rfl⟩) (by assumption) ?_
 try simp only [Act.put, List.setIfInBounds_toArray, List.set_cons_zero, List.set_cons_succ, List.getElem_toArray, List.getElem_cons_succ, List.getElem_cons_zero]
 refine wpAnyH_take (i := 9) (v := ?_) rfl (by kernel_rfl) (by kernel_rfl) (by kernel_rfl) (fun _ _ _ h => h) (Or.inl ⟨by rfl, ?_⟩) (by assumption) ?_
 rotate_left
 ·(intro w9 hSw; (try dsimp only at hSw); go_simp; try with_reducible rfl)
 try simp only [Act.put, List.setIfInBounds_toArray, List.set_cons_zero, List.set_cons_succ, List.getElem_toArray, List.getElem_cons_succ, List.getElem_cons_zero]
 refine wpAnyH_take (i := 10) (v := ?_) rfl (by kernel_rfl) (by kernel_rfl) (by kernel_rfl) (fun _ _ _ h => h) (Or.inl ⟨by rfl, ?_⟩) (by assumption) ?_
 rotate_left
 ·(intro w9 hSw; (try dsimp only at hSw); go_simp; try with_reducible rfl)
 try simp only [Act.put, List.setIfInBounds_toArray, List.set_cons_zero, List.set_cons_succ, List.getElem_toArray, List.getElem_cons_succ, List.getElem_cons_zero]
 refine wpAnyH_take (i := 11) (v := undef) rfl (by kernel_rfl) (by kernel_rfl) (by kernel_rfl) (fun _ _ _ h => h) (Or.inr ⟨by rfl, rfl⟩) (by assumption) ?_
 try simp only [Act.put, List.setIfInBounds_toArray, List.set_cons_zero, List.set_cons_succ, List.getElem_toArray, List.getElem_cons_succ, List.getElem_cons_zero]
 refine wpAnyH_take (i := 12) (v := undef) rfl (by kernel_rfl) (by kernel_rfl) (by kernel_rfl) (fun _ _ _ h => h) (Or.inr ⟨by rfl, rfl⟩) (by assumption) ?_
 try simp only [Act.put, List.setIfInBounds_toArray, List.set_cons_zero, List.set_cons_succ, List.getElem_toArray, List.getElem_cons_succ, List.getElem_cons_zero]
 refine wpAnyH_take (i := 13) (v := undef) rfl (by kernel_rfl) (by kernel_rfl) (by kernel_rfl) (fun _ _ _ h => h) (Or.inr ⟨by rfl, rfl⟩) (by assumption) ?_
 try simp only [Act.put, List.setIfInBounds_toArray, List.set_cons_zero, List.set_cons_succ, List.getElem_toArray, List.getElem_cons_succ, List.getElem_cons_zero]
 refine wpAnyH_take (i := 14) (v := undef) rfl (by kernel_rfl) (by kernel_rfl) (by kernel_rfl) (fun _ _ _ h => h) (Or.inr ⟨by rfl, rfl⟩) (by assumption) ?_
 try simp only [Act.put, List.setIfInBounds_toArray, List.set_cons_zero, List.set_cons_succ, List.getElem_toArray, List.getElem_cons_succ, List.getElem_cons_zero]
 refine wpAnyH_take (i := 15) (v := undef) rfl (by kernel_rfl) (by kernel_rfl) (by kernel_rfl) (fun _ _ _ h => h) (Or.inr ⟨by rfl, rfl⟩) (by assumption) ?_
 try simp only [Act.put, List.setIfInBounds_toArray, List.set_cons_zero, List.set_cons_succ, List.getElem_toArray, List.getElem_cons_succ, List.getElem_cons_zero]
 refine wpAnyH_take (i := 16) (v := undef) rfl (by kernel_rfl) (by kernel_rfl) (by kernel_rfl) (fun _ _ _ h => h) (Or.inr ⟨by rfl, rfl⟩) (by assumption) ?_
 try simp only [Act.put, List.setIfInBounds_toArray, List.set_cons_zero, List.set_cons_succ, List.getElem_toArray, List.getElem_cons_succ, List.getElem_cons_zero]
 refine wpAnyH_take (i := 17) (v := undef) rfl (by kernel_rfl) (by kernel_rfl) (by kernel_rfl) (fun _ _ _ h => h) (Or.inr ⟨by rfl, rfl⟩) (by assumption) ?_
 try simp only [Act.put, List.setIfInBounds_toArray, List.set_cons_zero, List.set_cons_succ, List.getElem_toArray, List.getElem_cons_succ, List.getElem_cons_zero]
 refine wpAnyH_take (i := 18) (v := ?_) rfl (by kernel_rfl) (by kernel_rfl) (by kernel_rfl) (fun _ _ _ h => h) (Or.inl ⟨by rfl, ?_⟩) (by assumption) ?_
 rotate_left
 ·(intro w9 hSw; (try dsimp only at hSw); go_simp; try with_reducible rfl)
 try simp only [Act.put, List.setIfInBounds_toArray, List.set_cons_zero, List.set_cons_succ, List.getElem_toArray, List.getElem_cons_succ, List.getElem_cons_zero]
 refine wpAnyH_take (i := 19) (v := ?_) rfl (by kernel_rfl) (by kernel_rfl) (by kernel_rfl) (fun _ _ _ h => h) (Or.inl ⟨by rfl, ?_⟩) (by assumption) ?_
 rotate_left
 ·(intro w9 hSw; (try dsimp only at hSw); go_simp; try with_reducible rfl)
 try simp only [Act.put, List.setIfInBounds_toArray, List.set_cons_zero, List.set_cons_succ, List.getElem_toArray, List.getElem_cons_succ, List.getElem_cons_zero]
 refine wpAnyH_take (i := 20) (v := undef) rfl (by kernel_rfl) (by kernel_rfl) (by kernel_rfl) (fun _ _ _ h => h) (Or.inr ⟨by rfl, rfl⟩) (by assumption) ?_
 try simp only [Act.put, List.setIfInBounds_toArray, List.set_cons_zero, List.set_cons_succ, List.getElem_toArray, List.getElem_cons_succ, List.getElem_cons_zero]
 refine wpAnyH_take (i := 21) (v := undef) rfl (by kernel_rfl) (by kernel_rfl) (by kernel_rfl) (fun _ _ _ h => h) (Or.inr ⟨by rfl, rfl⟩) (by assumption) ?_
 try simp only [Act.put, List.setIfInBounds_toArray, List.set_cons_zero, List.set_cons_succ, List.getElem_toArray, List.getElem_cons_succ, List.getElem_cons_zero]
 refine wpAnyH_take (i := 22) (v := undef) rfl (by kernel_rfl) (by kernel_rfl) (by kernel_rfl) (fun _ _ _ h => h) (Or.inr ⟨by rfl, rfl⟩) (by assumption) ?_
 try simp only [Act.put, List.setIfInBounds_toArray, List.set_cons_zero, List.set_cons_succ, List.getElem_toArray, List.getElem_cons_succ, List.getElem_cons_zero]
 refine wpAnyH_take (i := 23) (v := undef) rfl (by kernel_rfl) (by kernel_rfl) (by kernel_rfl) (fun _ _ _ h => h) (Or.inr ⟨by rfl, rfl⟩) (by assumption) ?_
 try simp only [Act.put, List.setIfInBounds_toArray, List.set_cons_zero, List.set_cons_succ, List.getElem_toArray, List.getElem_cons_succ, List.getElem_cons_zero]
 refine wpAnyH_take (i := 24) (v := undef) rfl (by kernel_rfl) (by kernel_rfl) (by kernel_rfl) (fun _ _ _ h => h) (Or.inr ⟨by rfl, rfl⟩) (by assumption) ?_
 try simp only [Act.put, List.setIfInBounds_toArray, List.set_cons_zero, List.set_cons_succ, List.getElem_toArray, List.getElem_cons_succ, List.getElem_cons_zero]
 refine wpAnyH_take (i := 25) (v := undef) rfl (by kernel_rfl) (by kernel_rfl) (by kernel_rfl) (fun _ _ _ h => h) (Or.inr ⟨by rfl, rfl⟩) (by assumption) ?_
 try simp only [Act.put, List.setIfInBounds_toArray, List.set_cons_zero, List.set_cons_succ, List.getElem_toArray, List.getElem_cons_succ, List.getElem_cons_zero]
 refine wpAnyH_take (i := 26) (v := undef) rfl (by kernel_rfl) (by kernel_rfl) (by kernel_rfl) (fun _ _ _ h => h) (Or.inr ⟨by rfl, rfl⟩) (by assumption) ?_
 try simp only [Act.put, List.setIfInBounds_toArray, List.set_cons_zero, List.set_cons_succ, List.getElem_toArray, List.getElem_cons_succ, List.getElem_cons_zero]
 refine wpAnyH_take (i := 27) (v := ?_) rfl (by kernel_rfl) (by kernel_rfl) (by kernel_rfl) (fun _ _ _ h => h) (Or.inl ⟨by rfl, ?_⟩) (by assumption) ?_
 rotate_left
 ·(intro w9 hSw; (try dsimp only at hSw); go_simp; try with_reducible rfl)
 try simp only [Act.put, List.setIfInBounds_toArray, List.set_cons_zero, List.set_cons_succ, List.getElem_toArray, List.getElem_cons_succ, List.getElem_cons_zero]
 refine wpAnyH_done (by kernel_rfl) ?_ _
 refine noPanic_norm ?_
 go_wp2
 go_ret2
 exact ⟨by first | exact HR.out | exact HR.out.trans (Below.drew (Below.refl _ _)) | exact below_drewN HR.out _, rfl⟩
theorem packFront_bad (f : FS) (va vb vc : Value) (w : World) (hw : f.wf) (hi : f.u.in64) (ho : ¬ okF f) (ha : Ds w va f.ch) (hb : Ds w vb f.bs) (hc : Ds w vc f.sg) (ht : Tab w) :
  Calls Tryz.prog 36 #[.agg (frC f.num f.u va vb vc)] w fun e w' => Below w.heap.size w w' ∧ e = .returned (.tuple #[.slice none 0 0, .int .i64 141]) := by
 by_cases hm : f.u.may
 ·obtain ⟨Aa, ca, rfl, _, _, _⟩ := ha.1.form
  obtain ⟨Ab, cb, rfl, _, _, _⟩ := hb.1.form
  obtain ⟨Ac, cc, rfl, _, _, _⟩ := hc.1.form
  by_cases hn : 0 ≤ f.num ∧ f.num < f.u.n
  ·obtain ⟨nn, hnn⟩ : ∃ nn : Nat, f.num = (nn : Int) := ⟨f.num.toNat, by omega⟩
   rw [hnn]
   exact pf_lens f.u hw.1 hm nn (by omega) Aa Ab Ac _ _ _ ca cb cc w ht (fun h => ho ⟨hm, hn.1, hn.2, h.1, h.2.1, h.2.2⟩)
  ·exact pf_num f.u hw.1 hm f.num hn Aa Ab Ac _ _ _ ca cb cc w ht
 ·exact pf_may f.u hw.1 hi hm f.num va vb vc w
end Go.Proofs.YtdohebhbiokljaaGreatDoor
