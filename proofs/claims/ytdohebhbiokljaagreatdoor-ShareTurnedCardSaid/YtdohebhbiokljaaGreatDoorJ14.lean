import Derived.Test.YtdohebhbiokljaaGreatDoorJ13
set_option linter.all false
namespace Go.Proofs.YtdohebhbiokljaaGreatDoor
open Go.RowKit Exs
theorem by_dig {w : World} {b o : Nat} {l : List UInt8} (hr : w.rangeAt b o (bcells l)) (hl : l.length = 32) (hb : b < w.heap.size) : By w (.slice (some ⟨b, o, none⟩) 32 32) l :=
 ⟨by simp, some ⟨b, o, none⟩, 32, by rw [hl], by omega, by unfold maxLen; omega, fun _ => ⟨b, o, rfl, hb, fun j hj => by
  rw [hl] at hj
  obtain ⟨v, hv⟩ : ∃ v, (bcells l)[j]? = some v := ⟨_, List.getElem?_eq_getElem (by rw [bcells_length]; omega)⟩
  rw [hv]
  exact hr j v hv⟩⟩
set_option maxRecDepth 100000 in
set_option maxHeartbeats 8000000 in
theorem lnodes_any (va vb : Value) (L M : List (List UInt8)) (w : World) (ha : Ds w va L) (hb : Ds w vb M) (hl : L.length ≤ 100000) (hm : M.length ≤ 100000) :
  Calls Tryz.prog 13 #[va, vb] w fun e w' => Below w.heap.size w w' ∧ ∃ r, e = .returned (.bool r) ∧ (r = false → NCt L M) := by
 obtain ⟨A, c, rfl, hlc, hca, -⟩ := ha.1.form
 obtain ⟨B, d, rfl, hmc, hcb, -⟩ := hb.1.form
 have H := hide (And.intro ha hb)
 obtain ⟨nl, hnl⟩ : ∃ n, n = L.length := ⟨_, rfl⟩
 obtain ⟨nm, hnm⟩ : ∃ n, n = M.length := ⟨_, rfl⟩
 rw [← hnl] at hl hlc ⊢
 rw [← hnm] at hm hmc ⊢
 have HL := hide (And.intro hl hm)
 have HN := hide (And.intro hnl hnm)
 clear ha hb hca hcb hnl hnm
 go_enter Tryz.func13, Tryz.ntmps13
 go_wp2_with fail
 go_loopw [5] (fun u5 wr => ∃ i : Nat, 1 ≤ i ∧ i ≤ 100001 ∧ u5 = .int .i64 (i : Int) ∧ (∀ x, 1 ≤ x → x < i → 2 * x < nl → 2 * x < nm → NC (tag2 6 (at0 L (2 * x - 1)) (at0 L (2 * x))) (tag2 6 (at0 M (2 * x - 1)) (at0 M (2 * x)))) ∧ Below w.heap.size w wr) (fun u5 _ => 200000 - (intOf u5).toNat)
 case atStart => exact ⟨1, by omega, by omega, rfl, fun x h1 h2 => by omega, Below.refl _ _⟩
 case round =>
  obtain ⟨i, h1i, hi, rfl, hgood, hbel⟩ := hrel
  by_cases hlt : 2 * i < nl ∧ 2 * i < nm
  ·obtain ⟨y2, hy2⟩ : ∃ y, y = 2 * i := ⟨_, rfl⟩
   obtain ⟨y1, hy1⟩ : ∃ y, y = y2 - 1 := ⟨_, rfl⟩
   have hds1 := H.out.1.below hbel
   have hds2 := H.out.2.below hbel
   have a1 : 2 * (i : Int) < (nl : Int) := by omega
   have a2 : 2 * (i : Int) < (nm : Int) := by omega
   obtain ⟨p1, q1, rfl, hr1, hl1, hp1⟩ := hds1.at (at0_get (L := L) (i := y1) (by have := HN.out.1; omega))
   obtain ⟨p1', q1', hA, hr2, hl2, _⟩ := hds1.at (at0_get (L := L) (i := y2) (by have := HN.out.1; omega))
   injection hA with hA
   injection hA with e1 e2 _
   subst e1 e2
   obtain ⟨p2, q2, rfl, hr3, hl3, hp2⟩ := hds2.at (at0_get (L := M) (i := y1) (by have := HN.out.2; omega))
   obtain ⟨p2', q2', hA, hr4, hl4, _⟩ := hds2.at (at0_get (L := M) (i := y2) (by have := HN.out.2; omega))
   injection hA with hA
   injection hA with e1 e2 _
   subst e1 e2
   obtain ⟨ta, hta⟩ : ∃ t, t = tag2 6 (at0 L y1) (at0 L y2) := ⟨_, rfl⟩
   obtain ⟨tb, htb⟩ : ∃ t, t = tag2 6 (at0 M y1) (at0 M y2) := ⟨_, rfl⟩
   have LA := hide (show ∀ W, Below wr.heap.size wr W → ∀ X, Blk W X 34 #[.slice (some ⟨p1, q1 + y1 * 32, none⟩) 32 32, .slice (some ⟨p1, q1 + y2 * 32, none⟩) 32 32] → Calls Tryz.prog 11 #[.int .u8 6, .slice (some ⟨X, 0, none⟩) 2 2] W fun e w' => ∃ v', e = .returned v' ∧ By w' v' ta ∧ Below W.heap.size W w' from fun W hW X hX => by
    rw [hta]
    refine (list2_any _ _ hl1 hl2 X 0 2 (some ⟨p1, q1 + y1 * 32, none⟩) (some ⟨p1, q1 + y2 * 32, none⟩) 32 32 W hX.lt ((hX.cell 0).trans rfl) ((hX.cell 1).trans rfl) ((by_dig hr1 hl1 hp1).below hW) ((by_dig hr2 hl2 hp1).below hW)).mono ?_
    rintro e w' ⟨v', he, ho, hb⟩
    exact ⟨v', he, ho.by_, hb⟩)
   have LB := hide (show ∀ W, Below wr.heap.size wr W → ∀ X, Blk W X 34 #[.slice (some ⟨p2, q2 + y1 * 32, none⟩) 32 32, .slice (some ⟨p2, q2 + y2 * 32, none⟩) 32 32] → Calls Tryz.prog 11 #[.int .u8 6, .slice (some ⟨X, 0, none⟩) 2 2] W fun e w' => ∃ v', e = .returned v' ∧ By w' v' tb ∧ Below W.heap.size W w' from fun W hW X hX => by
    rw [htb]
    refine (list2_any _ _ hl3 hl4 X 0 2 (some ⟨p2, q2 + y1 * 32, none⟩) (some ⟨p2, q2 + y2 * 32, none⟩) 32 32 W hX.lt ((hX.cell 0).trans rfl) ((hX.cell 1).trans rfl) ((by_dig hr3 hl3 hp2).below hW) ((by_dig hr4 hl4 hp2).below hW)).mono ?_
    rintro e w' ⟨v', he, ho, hb⟩
    exact ⟨v', he, ho.by_, hb⟩)
   have hlta : ta.length ≤ 1099511627776 := by rw [hta]; exact tag2_len _ _ hl1 hl2
   have hltb : tb.length ≤ 1099511627776 := by rw [htb]; exact tag2_len _ _ hl3 hl4
   have HLC : Hid (∀ W u v, By W u ta → By W v tb → Calls Tryz.prog 10 #[u, v] W fun e w' => e = .returned (.bool (decide (ta ≠ tb ∧ shaL ta = shaL tb))) ∧ Below W.heap.size W w') := hide fun W u v h1 h2 => clash_any u v ta tb W h1 h2 hlta hltb
   have HBB := hide hbel
   have HGD := hide hgood
   have HTA := hide (And.intro hta htb)
   have HY := hide (And.intro hy1 hy2)
   have a3 : (y1 : Int) < (nl : Int) := by omega
   have a4 : (y2 : Int) < (nl : Int) := by omega
   have a5 : (y1 : Int) < (nm : Int) := by omega
   have a6 : (y2 : Int) < (nm : Int) := by omega
   have a7 : (0 : Int) ≤ (y1 : Int) := by omega
   have a8 : (0 : Int) ≤ (y2 : Int) := by omega
   have HW := hide (And.intro ((IntWalk.i64_in (2 * (i : Int)) (by omega)).trans (show 2 * (i : Int) = (y2 : Int) from by omega)) ((IntWalk.i64_in ((y2 : Int) - 1) (by omega)).trans (show (y2 : Int) - 1 = (y1 : Int) from by omega)))
   have hi9 : i < 100000 := by have := HL.out; omega
   clear hds1 hds2 hr1 hr2 hr3 hr4 hl1 hl2 hl3 hl4 hp1 hp2 hta htb hlta hltb hbel hgood hy1 hy2
   obtain ⟨rc, hrc⟩ : ∃ r, r = decide (ta ≠ tb ∧ shaL ta = shaL tb) := ⟨_, rfl⟩
   rw [← hrc] at HLC
   have LC := HLC
   have HNX0 := hide (show rc = false → ∀ x, 1 ≤ x → x < i + 1 → 2 * x < nl → 2 * x < nm → NC (tag2 6 (at0 L (2 * x - 1)) (at0 L (2 * x))) (tag2 6 (at0 M (2 * x - 1)) (at0 M (2 * x))) from fun hf x h1 h2 h3 h4 => by
    by_cases hx : x < i
    ·exact HGD.out x h1 hx h3 h4
    ·obtain rfl : x = i := by omega
     intro hs
     rw [← HY.out.2, ← HY.out.1, ← HTA.out.1, ← HTA.out.2] at hs ⊢
     exact Classical.byContradiction fun hne => of_decide_eq_false (hrc.symm.trans hf) ⟨hne, hs⟩)
   clear hrc HLC
   obtain ⟨w1, w3⟩ := HW.out
   go_wp2_with fail
   refine wp_region_noPanic ?_
   refine wp_region_held_drew (S := fun W => Below wr.heap.size wr W) (by kernel_rfl) (Below.refl _ _).drew (fun hHeld => ?_)
   refine wpAnyH_take (i := 0) (v := ?_) rfl (by kernel_rfl) (by kernel_rfl) (by kernel_rfl) (fun _ _ _ h => h) (Or.inl ⟨by rfl, ?_⟩) (by assumption) ?_
   rotate_left
   ·(intro w9 hSw; go_simp; try with_reducible rfl)
   try simp only [Act.put, List.setIfInBounds_toArray, List.set_cons_zero, List.set_cons_succ, List.getElem_toArray, List.getElem_cons_succ, List.getElem_cons_zero]
   refine wpAnyH_take (i := 1) (v := ?_) rfl (by kernel_rfl) (by kernel_rfl) (by kernel_rfl) (fun _ _ _ h => h) (Or.inl ⟨by rfl, ?_⟩) (by assumption) ?_
   rotate_left
   ·(intro w9 hSw; go_simp; try with_reducible rfl)
   try simp only [Act.put, List.setIfInBounds_toArray, List.set_cons_zero, List.set_cons_succ, List.getElem_toArray, List.getElem_cons_succ, List.getElem_cons_zero]
   refine wpAnyH_take (i := 2) (v := ?_) rfl (by kernel_rfl) (by kernel_rfl) (by kernel_rfl) (fun _ _ _ h => h) (Or.inl ⟨by rfl, ?_⟩) (by assumption) ?_
   rotate_left
   ·(intro w9 hSw; go_simp; try with_reducible rfl)
   try simp only [Act.put, List.setIfInBounds_toArray, List.set_cons_zero, List.set_cons_succ, List.getElem_toArray, List.getElem_cons_succ, List.getElem_cons_zero]
   refine wpAnyH_take (i := 3) (v := ?_) rfl (by kernel_rfl) (by kernel_rfl) (by kernel_rfl) (fun _ _ _ h => h) (Or.inl ⟨by rfl, ?_⟩) (by assumption) ?_
   rotate_left
   ·(intro w9 hSw; go_simp; try with_reducible rfl)
   try simp only [Act.put, List.setIfInBounds_toArray, List.set_cons_zero, List.set_cons_succ, List.getElem_toArray, List.getElem_cons_succ, List.getElem_cons_zero]
   refine wpAnyH_take (i := 4) (v := ?_) rfl (by kernel_rfl) (by kernel_rfl) (by kernel_rfl) (fun _ _ _ h => h) (Or.inl ⟨by rfl, ?_⟩) (by assumption) ?_
   rotate_left
   ·(intro w9 hSw; go_simp; try with_reducible rfl)
   try simp only [Act.put, List.setIfInBounds_toArray, List.set_cons_zero, List.set_cons_succ, List.getElem_toArray, List.getElem_cons_succ, List.getElem_cons_zero]
   refine wpAnyH_take (i := 5) (v := ?_) rfl (by kernel_rfl) (by kernel_rfl) (by kernel_rfl) (fun _ _ _ h => h) (Or.inl ⟨by rfl, ?_⟩) (by assumption) ?_
   rotate_left
   ·(intro w9 hSw; go_simp; try with_reducible rfl)
   try simp only [Act.put, List.setIfInBounds_toArray, List.set_cons_zero, List.set_cons_succ, List.getElem_toArray, List.getElem_cons_succ, List.getElem_cons_zero]
   refine wpAnyH_take (i := 6) (v := ?_) rfl (by kernel_rfl) (by kernel_rfl) (by kernel_rfl) (fun _ _ _ h => h) (Or.inl ⟨by rfl, ?_⟩) (by assumption) ?_
   rotate_left
   ·(intro w9 hSw; go_simp; try with_reducible rfl)
   try simp only [Act.put, List.setIfInBounds_toArray, List.set_cons_zero, List.set_cons_succ, List.getElem_toArray, List.getElem_cons_succ, List.getElem_cons_zero]
   refine wpAnyH_take (i := 7) (v := ?_) rfl (by kernel_rfl) (by kernel_rfl) (by kernel_rfl) (fun _ _ _ h => h) (Or.inl ⟨by rfl, ?_⟩) (by assumption) ?_
   rotate_left
   ·(intro w9 hSw; go_simp; try with_reducible rfl)
   try simp only [Act.put, List.setIfInBounds_toArray, List.set_cons_zero, List.set_cons_succ, List.getElem_toArray, List.getElem_cons_succ, List.getElem_cons_zero]
   refine wpAnyH_take (i := 8) (v := ?_) rfl (by kernel_rfl) (by kernel_rfl) (by kernel_rfl) (fun _ _ _ h => h) (Or.inl ⟨by rfl, ?_⟩) (by assumption) ?_
   rotate_left
   ·(intro w9 hSw; go_simp; try with_reducible rfl)
   try simp only [Act.put, List.setIfInBounds_toArray, List.set_cons_zero, List.set_cons_succ, List.getElem_toArray, List.getElem_cons_succ, List.getElem_cons_zero]
   refine wpAnyH_take (i := 9) (v := ?_) rfl (by kernel_rfl) (by kernel_rfl) (by kernel_rfl) (fun _ _ _ h => h) (Or.inl ⟨by rfl, ?_⟩) (by assumption) ?_
   rotate_left
   ·(intro w9 hSw; go_simp; try with_reducible rfl)
   try simp only [Act.put, List.setIfInBounds_toArray, List.set_cons_zero, List.set_cons_succ, List.getElem_toArray, List.getElem_cons_succ, List.getElem_cons_zero]
   refine wpAnyH_take (i := 10) (v := ?_) rfl (by kernel_rfl) (by kernel_rfl) (by kernel_rfl) (fun _ _ _ h => h) (Or.inl ⟨by rfl, ?_⟩) (by assumption) ?_
   rotate_left
   ·(intro w9 hSw; go_simp; try with_reducible rfl)
   try simp only [Act.put, List.setIfInBounds_toArray, List.set_cons_zero, List.set_cons_succ, List.getElem_toArray, List.getElem_cons_succ, List.getElem_cons_zero]
   refine wpAnyH_take (i := 13) (v := ?_) rfl (by kernel_rfl) (by kernel_rfl) (by kernel_rfl) (fun _ _ _ h => h) (Or.inl ⟨by rfl, ?_⟩) (by assumption) ?_
   rotate_left
   ·(intro w9 hSw; go_simp; try with_reducible rfl)
   try simp only [Act.put, List.setIfInBounds_toArray, List.set_cons_zero, List.set_cons_succ, List.getElem_toArray, List.getElem_cons_succ, List.getElem_cons_zero]
   refine wpAnyH_take (i := 14) (v := ?_) rfl (by kernel_rfl) (by kernel_rfl) (by kernel_rfl) (fun _ _ _ h => h) (Or.inl ⟨by rfl, ?_⟩) (by assumption) ?_
   rotate_left
   ·(intro w9 hSw; go_simp; try with_reducible rfl)
   try simp only [Act.put, List.setIfInBounds_toArray, List.set_cons_zero, List.set_cons_succ, List.getElem_toArray, List.getElem_cons_succ, List.getElem_cons_zero]
   refine wpAnyH_take (i := 15) (v := ?_) rfl (by kernel_rfl) (by kernel_rfl) (by kernel_rfl) (fun _ _ _ h => h) (Or.inl ⟨by rfl, ?_⟩) (by assumption) ?_
   rotate_left
   ·(intro w9 hSw; go_simp; try with_reducible rfl)
   try simp only [Act.put, List.setIfInBounds_toArray, List.set_cons_zero, List.set_cons_succ, List.getElem_toArray, List.getElem_cons_succ, List.getElem_cons_zero]
   refine wpAnyH_take (i := 16) (v := ?_) rfl (by kernel_rfl) (by kernel_rfl) (by kernel_rfl) (fun _ _ _ h => h) (Or.inl ⟨by rfl, ?_⟩) (by assumption) ?_
   rotate_left
   ·(intro w9 hSw; go_simp; try with_reducible rfl)
   try simp only [Act.put, List.setIfInBounds_toArray, List.set_cons_zero, List.set_cons_succ, List.getElem_toArray, List.getElem_cons_succ, List.getElem_cons_zero]
   refine wpAnyH_take (i := 17) (v := ?_) rfl (by kernel_rfl) (by kernel_rfl) (by kernel_rfl) (fun _ _ _ h => h) (Or.inl ⟨by rfl, ?_⟩) (by assumption) ?_
   rotate_left
   ·(intro w9 hSw; go_simp; try with_reducible rfl)
   try simp only [Act.put, List.setIfInBounds_toArray, List.set_cons_zero, List.set_cons_succ, List.getElem_toArray, List.getElem_cons_succ, List.getElem_cons_zero]
   refine wpAnyH_take (i := 18) (v := ?_) rfl (by kernel_rfl) (by kernel_rfl) (by kernel_rfl) (fun _ _ _ h => h) (Or.inl ⟨by rfl, ?_⟩) (by assumption) ?_
   rotate_left
   ·(intro w9 hSw; go_simp; try with_reducible rfl)
   try simp only [Act.put, List.setIfInBounds_toArray, List.set_cons_zero, List.set_cons_succ, List.getElem_toArray, List.getElem_cons_succ, List.getElem_cons_zero]
   refine wpAnyH_take (i := 19) (v := ?_) rfl (by kernel_rfl) (by kernel_rfl) (by kernel_rfl) (fun _ _ _ h => h) (Or.inl ⟨by rfl, ?_⟩) (by assumption) ?_
   rotate_left
   ·(intro w9 hSw; go_simp; try with_reducible rfl)
   try simp only [Act.put, List.setIfInBounds_toArray, List.set_cons_zero, List.set_cons_succ, List.getElem_toArray, List.getElem_cons_succ, List.getElem_cons_zero]
   refine wpAnyH_take (i := 20) (v := ?_) rfl (by kernel_rfl) (by kernel_rfl) (by kernel_rfl) (fun _ _ _ h => h) (Or.inl ⟨by rfl, ?_⟩) (by assumption) ?_
   rotate_left
   ·(intro w9 hSw; go_simp; try with_reducible rfl)
   try simp only [Act.put, List.setIfInBounds_toArray, List.set_cons_zero, List.set_cons_succ, List.getElem_toArray, List.getElem_cons_succ, List.getElem_cons_zero]
   refine wpAnyH_take (i := 21) (v := ?_) rfl (by kernel_rfl) (by kernel_rfl) (by kernel_rfl) (fun _ _ _ h => h) (Or.inl ⟨by rfl, ?_⟩) (by assumption) ?_
   rotate_left
   ·(intro w9 hSw; go_simp; try with_reducible rfl)
   try simp only [Act.put, List.setIfInBounds_toArray, List.set_cons_zero, List.set_cons_succ, List.getElem_toArray, List.getElem_cons_succ, List.getElem_cons_zero]
   refine wpAnyH_take (i := 22) (v := ?_) rfl (by kernel_rfl) (by kernel_rfl) (by kernel_rfl) (fun _ _ _ h => h) (Or.inl ⟨by rfl, ?_⟩) (by assumption) ?_
   rotate_left
   ·(intro w9 hSw; go_simp; try with_reducible rfl)
   try simp only [Act.put, List.setIfInBounds_toArray, List.set_cons_zero, List.set_cons_succ, List.getElem_toArray, List.getElem_cons_succ, List.getElem_cons_zero]
   refine wpAnyH_take (i := 23) (v := ?_) rfl (by kernel_rfl) (by kernel_rfl) (by kernel_rfl) (fun _ _ _ h => h) (Or.inl ⟨by rfl, ?_⟩) (by assumption) ?_
   rotate_left
   ·(intro w9 hSw; go_simp; try with_reducible rfl)
   try simp only [Act.put, List.setIfInBounds_toArray, List.set_cons_zero, List.set_cons_succ, List.getElem_toArray, List.getElem_cons_succ, List.getElem_cons_zero]
   refine wpAnyH_ready (rs := [11, 24]) (by kernel_rfl) (by simp) ?_
   refine AllReadyH.cons rfl (fun K hK => ?_) (AllReadyH.cons rfl (fun K hK => ?_) AllReadyH.nil)
   ·skip
    go_simp
    have k1 := (Blk.new wr 34 #[.slice (some ⟨p1, q1 + y1 * 32, none⟩) 32 32, .slice (some ⟨p1, q1 + y2 * 32, none⟩) 32 32]).drew
    have b1 := ((Below.refl _ wr).alloc (Nat.le_refl _) (.cells #[.slice (some ⟨p1, q1 + y1 * 32, none⟩) 32 32, .slice (some ⟨p1, q1 + y2 * 32, none⟩) 32 32] 34)).drew
    obtain ⟨x1, hx1⟩ : ∃ W, W = (wr.alloc (.cells #[.slice (some ⟨p1, q1 + y1 * 32, none⟩) 32 32, .slice (some ⟨p1, q1 + y2 * 32, none⟩) 32 32] 34)).drew := ⟨_, rfl⟩
    rw [← hx1] at k1 b1 ⊢
    have K1 := hide k1
    have B1 := hide b1
    clear hx1 k1 b1
    refine hK.out _ _ (B1.out) (fun hHeld => ?_)
    clear hK K
    try simp only [Act.put, List.setIfInBounds_toArray, List.set_cons_zero, List.set_cons_succ, List.getElem_toArray, List.getElem_cons_succ, List.getElem_cons_zero]
    refine wpAnyH_ready (rs := [12, 24]) (by kernel_rfl) (by simp) ?_
    refine AllReadyH.cons rfl (fun K hK => ?_) (AllReadyH.cons rfl (fun K hK => ?_) AllReadyH.nil)
    ·skip
     go_simp
     refine (LA.out x1 B1.out (wr.heap.size) K1.out).mono ?_
     rintro e x2 ⟨v2, rfl, o2, b2⟩
     have O2 := hide o2
     have B2 := hide (Below.step B1.out b2)
     clear o2 b2
     refine hK.out _ _ (B2.out) (fun hHeld => ?_)
     clear hK K
     try simp only [Act.put, List.setIfInBounds_toArray, List.set_cons_zero, List.set_cons_succ, List.getElem_toArray, List.getElem_cons_succ, List.getElem_cons_zero]
     refine wpAnyH_ready (rs := [24]) (by kernel_rfl) (by simp) ?_
     refine AllReadyH.cons rfl (fun K hK => ?_) AllReadyH.nil
     go_simp
     have k3 := Blk.new x2 34 #[.slice (some ⟨p2, q2 + y1 * 32, none⟩) 32 32, .slice (some ⟨p2, q2 + y2 * 32, none⟩) 32 32]
     have b3 := B2.out.alloc B2.out.size (.cells #[.slice (some ⟨p2, q2 + y1 * 32, none⟩) 32 32, .slice (some ⟨p2, q2 + y2 * 32, none⟩) 32 32] 34)
     obtain ⟨x3, hx3⟩ : ∃ W, W = x2.alloc (.cells #[.slice (some ⟨p2, q2 + y1 * 32, none⟩) 32 32, .slice (some ⟨p2, q2 + y2 * 32, none⟩) 32 32] 34) := ⟨_, rfl⟩
     rw [← hx3] at k3 b3 ⊢
     have K3 := hide k3
     have B3 := hide b3
     have V3 := hide (show By x3 v2 _ from by rw [hx3]; exact O2.out.alloc (.cells #[.slice (some ⟨p2, q2 + y1 * 32, none⟩) 32 32, .slice (some ⟨p2, q2 + y2 * 32, none⟩) 32 32] 34))
     clear hx3 k3 b3
     refine hK.out _ _ (B3.out) (fun hHeld => ?_)
     clear hK K
     try simp only [Act.put, List.setIfInBounds_toArray, List.set_cons_zero, List.set_cons_succ, List.getElem_toArray, List.getElem_cons_succ, List.getElem_cons_zero]
     refine wpAnyH_ready (rs := [25]) (by kernel_rfl) (by simp) ?_
     refine AllReadyH.cons rfl (fun K hK => ?_) AllReadyH.nil
     go_simp
     refine (LB.out x3 B3.out (x2.heap.size) K3.out).mono ?_
     rintro e x4 ⟨v4, rfl, o4, b4⟩
     have O4 := hide o4
     have B4 := hide (Below.step B3.out b4)
     have V4 := hide (V3.out.below b4)
     clear o4 b4
     refine hK.out _ _ (B4.out) (fun hHeld => ?_)
     clear hK K
     try simp only [Act.put, List.setIfInBounds_toArray, List.set_cons_zero, List.set_cons_succ, List.getElem_toArray, List.getElem_cons_succ, List.getElem_cons_zero]
     refine wpAnyH_ready (rs := [26]) (by kernel_rfl) (by simp) ?_
     refine AllReadyH.cons rfl (fun K hK => ?_) AllReadyH.nil
     go_simp
     refine (LC.out x4 v2 v4 V4.out O4.out).mono ?_
     rintro e x5 ⟨rfl, b5⟩
     have HE := hide (Below.step B4.out b5)
     clear b5
     refine hK.out _ _ (HE.out) (fun hHeld => ?_)
     clear hK K
     try simp only [Act.put, List.setIfInBounds_toArray, List.set_cons_zero, List.set_cons_succ, List.getElem_toArray, List.getElem_cons_succ, List.getElem_cons_zero]
     refine wpAnyH_done (by kernel_rfl) ?_ _
     refine noPanic_norm ?_
     cases rc with
     | true =>
      go_wp2
      go_ret
      exact ⟨Below.step HBB.out HE.out, true, rfl, fun h => by cases h⟩
     | false =>
      have HNX := hide (HNX0.out rfl)
      go_wp2_with fail
      go_roundw
      case rel => exact ⟨i + 1, by omega, by omega, by go_num, HNX.out, Below.step HBB.out HE.out⟩
      case measure => simp [intOf]; omega
    ·skip
     go_simp
     have k6 := Blk.new x1 34 #[.slice (some ⟨p2, q2 + y1 * 32, none⟩) 32 32, .slice (some ⟨p2, q2 + y2 * 32, none⟩) 32 32]
     have b6 := B1.out.alloc B1.out.size (.cells #[.slice (some ⟨p2, q2 + y1 * 32, none⟩) 32 32, .slice (some ⟨p2, q2 + y2 * 32, none⟩) 32 32] 34)
     have m6 := K1.out.alloc (.cells #[.slice (some ⟨p2, q2 + y1 * 32, none⟩) 32 32, .slice (some ⟨p2, q2 + y2 * 32, none⟩) 32 32] 34)
     obtain ⟨x6, hx6⟩ : ∃ W, W = x1.alloc (.cells #[.slice (some ⟨p2, q2 + y1 * 32, none⟩) 32 32, .slice (some ⟨p2, q2 + y2 * 32, none⟩) 32 32] 34) := ⟨_, rfl⟩
     rw [← hx6] at k6 b6 m6 ⊢
     have K6 := hide k6
     have B6 := hide b6
     have M6 := hide m6
     clear hx6 k6 b6 m6
     refine hK.out _ _ (B6.out) (fun hHeld => ?_)
     clear hK K
     try simp only [Act.put, List.setIfInBounds_toArray, List.set_cons_zero, List.set_cons_succ, List.getElem_toArray, List.getElem_cons_succ, List.getElem_cons_zero]
     refine wpAnyH_ready (rs := [12]) (by kernel_rfl) (by simp) ?_
     refine AllReadyH.cons rfl (fun K hK => ?_) AllReadyH.nil
     go_simp
     refine (LA.out x6 B6.out (wr.heap.size) M6.out).mono ?_
     rintro e x7 ⟨v7, rfl, o7, b7⟩
     have O7 := hide o7
     have B7 := hide (Below.step B6.out b7)
     have M7 := hide (K6.out.below' b7)
     clear o7 b7
     refine hK.out _ _ (B7.out) (fun hHeld => ?_)
     clear hK K
     try simp only [Act.put, List.setIfInBounds_toArray, List.set_cons_zero, List.set_cons_succ, List.getElem_toArray, List.getElem_cons_succ, List.getElem_cons_zero]
     refine wpAnyH_ready (rs := [25]) (by kernel_rfl) (by simp) ?_
     refine AllReadyH.cons rfl (fun K hK => ?_) AllReadyH.nil
     go_simp
     refine (LB.out x7 B7.out (x1.heap.size) M7.out).mono ?_
     rintro e x8 ⟨v8, rfl, o8, b8⟩
     have O8 := hide o8
     have B8 := hide (Below.step B7.out b8)
     have V8 := hide (O7.out.below b8)
     clear o8 b8
     refine hK.out _ _ (B8.out) (fun hHeld => ?_)
     clear hK K
     try simp only [Act.put, List.setIfInBounds_toArray, List.set_cons_zero, List.set_cons_succ, List.getElem_toArray, List.getElem_cons_succ, List.getElem_cons_zero]
     refine wpAnyH_ready (rs := [26]) (by kernel_rfl) (by simp) ?_
     refine AllReadyH.cons rfl (fun K hK => ?_) AllReadyH.nil
     go_simp
     refine (LC.out x8 v7 v8 V8.out O8.out).mono ?_
     rintro e x9 ⟨rfl, b9⟩
     have HE := hide (Below.step B8.out b9)
     clear b9
     refine hK.out _ _ (HE.out) (fun hHeld => ?_)
     clear hK K
     try simp only [Act.put, List.setIfInBounds_toArray, List.set_cons_zero, List.set_cons_succ, List.getElem_toArray, List.getElem_cons_succ, List.getElem_cons_zero]
     refine wpAnyH_done (by kernel_rfl) ?_ _
     refine noPanic_norm ?_
     cases rc with
     | true =>
      go_wp2
      go_ret
      exact ⟨Below.step HBB.out HE.out, true, rfl, fun h => by cases h⟩
     | false =>
      have HNX := hide (HNX0.out rfl)
      go_wp2_with fail
      go_roundw
      case rel => exact ⟨i + 1, by omega, by omega, by go_num, HNX.out, Below.step HBB.out HE.out⟩
      case measure => simp [intOf]; omega
   ·skip
    go_simp
    have k10 := (Blk.new wr 34 #[.slice (some ⟨p2, q2 + y1 * 32, none⟩) 32 32, .slice (some ⟨p2, q2 + y2 * 32, none⟩) 32 32]).drew
    have b10 := ((Below.refl _ wr).alloc (Nat.le_refl _) (.cells #[.slice (some ⟨p2, q2 + y1 * 32, none⟩) 32 32, .slice (some ⟨p2, q2 + y2 * 32, none⟩) 32 32] 34)).drew
    obtain ⟨x10, hx10⟩ : ∃ W, W = (wr.alloc (.cells #[.slice (some ⟨p2, q2 + y1 * 32, none⟩) 32 32, .slice (some ⟨p2, q2 + y2 * 32, none⟩) 32 32] 34)).drew := ⟨_, rfl⟩
    rw [← hx10] at k10 b10 ⊢
    have K10 := hide k10
    have B10 := hide b10
    clear hx10 k10 b10
    refine hK.out _ _ (B10.out) (fun hHeld => ?_)
    clear hK K
    try simp only [Act.put, List.setIfInBounds_toArray, List.set_cons_zero, List.set_cons_succ, List.getElem_toArray, List.getElem_cons_succ, List.getElem_cons_zero]
    refine wpAnyH_ready (rs := [11]) (by kernel_rfl) (by simp) ?_
    refine AllReadyH.cons rfl (fun K hK => ?_) AllReadyH.nil
    go_simp
    have k11 := Blk.new x10 34 #[.slice (some ⟨p1, q1 + y1 * 32, none⟩) 32 32, .slice (some ⟨p1, q1 + y2 * 32, none⟩) 32 32]
    have b11 := B10.out.alloc B10.out.size (.cells #[.slice (some ⟨p1, q1 + y1 * 32, none⟩) 32 32, .slice (some ⟨p1, q1 + y2 * 32, none⟩) 32 32] 34)
    have m11 := K10.out.alloc (.cells #[.slice (some ⟨p1, q1 + y1 * 32, none⟩) 32 32, .slice (some ⟨p1, q1 + y2 * 32, none⟩) 32 32] 34)
    obtain ⟨x11, hx11⟩ : ∃ W, W = x10.alloc (.cells #[.slice (some ⟨p1, q1 + y1 * 32, none⟩) 32 32, .slice (some ⟨p1, q1 + y2 * 32, none⟩) 32 32] 34) := ⟨_, rfl⟩
    rw [← hx11] at k11 b11 m11 ⊢
    have K11 := hide k11
    have B11 := hide b11
    have M11 := hide m11
    clear hx11 k11 b11 m11
    refine hK.out _ _ (B11.out) (fun hHeld => ?_)
    clear hK K
    try simp only [Act.put, List.setIfInBounds_toArray, List.set_cons_zero, List.set_cons_succ, List.getElem_toArray, List.getElem_cons_succ, List.getElem_cons_zero]
    refine wpAnyH_ready (rs := [12]) (by kernel_rfl) (by simp) ?_
    refine AllReadyH.cons rfl (fun K hK => ?_) AllReadyH.nil
    go_simp
    refine (LA.out x11 B11.out (x10.heap.size) K11.out).mono ?_
    rintro e x12 ⟨v12, rfl, o12, b12⟩
    have O12 := hide o12
    have B12 := hide (Below.step B11.out b12)
    have M12 := hide (M11.out.below' b12)
    clear o12 b12
    refine hK.out _ _ (B12.out) (fun hHeld => ?_)
    clear hK K
    try simp only [Act.put, List.setIfInBounds_toArray, List.set_cons_zero, List.set_cons_succ, List.getElem_toArray, List.getElem_cons_succ, List.getElem_cons_zero]
    refine wpAnyH_ready (rs := [25]) (by kernel_rfl) (by simp) ?_
    refine AllReadyH.cons rfl (fun K hK => ?_) AllReadyH.nil
    go_simp
    refine (LB.out x12 B12.out (wr.heap.size) M12.out).mono ?_
    rintro e x13 ⟨v13, rfl, o13, b13⟩
    have O13 := hide o13
    have B13 := hide (Below.step B12.out b13)
    have V13 := hide (O12.out.below b13)
    clear o13 b13
    refine hK.out _ _ (B13.out) (fun hHeld => ?_)
    clear hK K
    try simp only [Act.put, List.setIfInBounds_toArray, List.set_cons_zero, List.set_cons_succ, List.getElem_toArray, List.getElem_cons_succ, List.getElem_cons_zero]
    refine wpAnyH_ready (rs := [26]) (by kernel_rfl) (by simp) ?_
    refine AllReadyH.cons rfl (fun K hK => ?_) AllReadyH.nil
    go_simp
    refine (LC.out x13 v12 v13 V13.out O13.out).mono ?_
    rintro e x14 ⟨rfl, b14⟩
    have HE := hide (Below.step B13.out b14)
    clear b14
    refine hK.out _ _ (HE.out) (fun hHeld => ?_)
    clear hK K
    try simp only [Act.put, List.setIfInBounds_toArray, List.set_cons_zero, List.set_cons_succ, List.getElem_toArray, List.getElem_cons_succ, List.getElem_cons_zero]
    refine wpAnyH_done (by kernel_rfl) ?_ _
    refine noPanic_norm ?_
    cases rc with
    | true =>
     go_wp2
     go_ret
     exact ⟨Below.step HBB.out HE.out, true, rfl, fun h => by cases h⟩
    | false =>
     have HNX := hide (HNX0.out rfl)
     go_wp2_with fail
     go_roundw
     case rel => exact ⟨i + 1, by omega, by omega, by go_num, HNX.out, Below.step HBB.out HE.out⟩
     case measure => simp [intOf]; omega
  ·have HGD := hide hgood
   have a1 : ¬ (2 * (i : Int) < (nl : Int) ∧ 2 * (i : Int) < (nm : Int)) := by omega
   have hr : NCt L M := fun x h1 h2 h3 l r l' r' e1 e2 e3 e4 => by
    have hh := HGD.out x h1 (by have := HN.out; omega) (by have := HN.out; omega) (by have := HN.out; omega)
    rw [at0_get (by omega)] at e1 e2 e3 e4
    injection e1 with e1
    injection e2 with e2
    injection e3 with e3
    injection e4 with e4
    rw [← e1, ← e2, ← e3, ← e4]
    exact hh
   have HR := hide (And.intro hr hbel)
   clear hr hbel hgood
   by_cases b1 : 2 * (i : Int) < (nl : Int)
   ·have b2 : ¬ 2 * (i : Int) < (nm : Int) := fun h => a1 ⟨b1, h⟩
    clear a1 hlt
    go_wp2
    go_ret
    first | exact ⟨HR.out.2, false, rfl, fun _ => HR.out.1⟩ | exact ⟨HR.out.2, .inl ⟨rfl, HR.out.1⟩⟩
   ·clear a1 hlt
    go_wp2
    go_ret
    first | exact ⟨HR.out.2, false, rfl, fun _ => HR.out.1⟩ | exact ⟨HR.out.2, .inl ⟨rfl, HR.out.1⟩⟩
end Go.Proofs.YtdohebhbiokljaaGreatDoor
