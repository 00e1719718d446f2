import Derived.Test.YtdohebhbiokljaaGreatDoorJ12
import Derived.Test.YtdohebhbiokljaaGreatDoorJ14
import Derived.Deep.DeepCutAuto
set_option linter.all false
namespace Go.Proofs.YtdohebhbiokljaaGreatDoor
open Go.RowKit Exs
theorem Dig.by {w : World} {g : Nat} {l : List UInt8} (h : Blk w g 23 (bcells l).toArray) (hl : l.length = 32) : By w (.slice (some ⟨g, 0, none⟩) 32 32) l := byBlk h hl.symm (by unfold maxLen; omega)
theorem NCs.drop_cons {p i : Nat} {x y c e : List UInt8} {L M : List (List UInt8)} (hc : L[i]? = some c) (he : M[i]? = some e) (h : NC (stepL p x c) (stepL p y e) ∧ NCs (p / 2) (shaL (stepL p x c)) (shaL (stepL p y e)) (L.drop (i + 1)) (M.drop (i + 1))) : NCs p x y (L.drop i) (M.drop i) := by
 obtain ⟨h1, h2⟩ := List.getElem?_eq_some_iff.1 hc
 obtain ⟨h3, h4⟩ := List.getElem?_eq_some_iff.1 he
 rw [List.drop_eq_getElem_cons h1, List.drop_eq_getElem_cons h3, h2, h4]
 exact h
theorem NCs.drop_none {p i : Nat} {x y : List UInt8} {L M : List (List UInt8)} (h : ¬ (i < L.length ∧ i < M.length)) : NCs p x y (L.drop i) (M.drop i) := by
 by_cases hl : i < L.length
 ·have hm : M.drop i = [] := List.drop_eq_nil_of_le (by omega)
  rw [hm]
  unfold NCs
  first | trivial | (split <;> first | trivial | (rename_i h; cases h))
 ·have hm : L.drop i = [] := List.drop_eq_nil_of_le (by omega)
  rw [hm]
  unfold NCs
  first | trivial | (split <;> first | trivial | (rename_i h; cases h))
set_option maxRecDepth 100000 in
set_option maxHeartbeats 8000000 in
theorem lclimbs_any (f g : FS) (k : Nat) (hk : f.num = (k : Int)) (hk9 : k ≤ 100000) (va vb vc xa xb xc : Value) (w : World) (hf : f.u.wf) (hg : g.u.wf) (d1 : Ds w va f.ch) (d2 : Ds w vb f.bs) (e1 : Ds w xa g.ch) (e2 : Ds w xb g.bs) (h1 : 0 < f.bs.length) (h2 : 0 < g.bs.length) (h3 : f.ch.length ≤ 100000) (h4 : g.ch.length ≤ 100000) :
  Calls Tryz.prog 12 #[.agg (frC f.num f.u va vb vc), .agg (frC g.num g.u xa xb xc)] w fun e w' => Below w.heap.size w w' ∧ ∃ r, e = .returned (.bool r) ∧ (r = false → ∀ x y, f.bs[0]? = some x → g.bs[0]? = some y → NC (tag1 5 x) (tag1 5 y) ∧ NCs k (tagD 5 x) (tagD 5 y) f.ch g.ch) := by
 obtain ⟨x0, hx0⟩ : ∃ x, f.bs[0]? = some x := ⟨_, List.getElem?_eq_getElem h1⟩
 obtain ⟨y0, hy0⟩ : ∃ x, g.bs[0]? = some x := ⟨_, List.getElem?_eq_getElem h2⟩
 obtain ⟨A1, n1, rfl, -, hc1, -⟩ := d1.1.form
 obtain ⟨A2, n2, rfl, -, hc2, -⟩ := d2.1.form
 obtain ⟨C1, m1, rfl, -, hc3, -⟩ := e1.1.form
 obtain ⟨C2, m2, rfl, -, hc4, -⟩ := e2.1.form
 obtain ⟨p1, q1, rfl, r1, l1, s1⟩ := d2.at hx0
 obtain ⟨p2, q2, rfl, r2, l2, s2⟩ := e2.at hy0
 rw [Nat.zero_mul, Nat.add_zero] at r1 r2
 obtain ⟨fl, hfl⟩ : ∃ n, n = f.ch.length := ⟨_, rfl⟩
 obtain ⟨gl, hgl⟩ : ∃ n, n = g.ch.length := ⟨_, rfl⟩
 obtain ⟨bn, hbn⟩ : ∃ n, n = f.bs.length := ⟨_, rfl⟩
 obtain ⟨cn, hcn⟩ : ∃ n, n = g.bs.length := ⟨_, rfl⟩
 rw [← hfl] at d1 h3 ⊢
 rw [← hgl] at e1 h4 ⊢
 rw [← hbn] at d2 h1 ⊢
 rw [← hcn] at e2 h2 ⊢
 have hfz : ∀ W g', Blk W g' 28 (frC f.num f.u (.slice A1 fl n1) (.slice (some ⟨p1, q1, none⟩) bn n2) vc) → _ := fun W g' h => Blk.front2 hf h
 have hgz : ∀ W g', Blk W g' 28 (frC g.num g.u (.slice C1 gl m1) (.slice (some ⟨p2, q2, none⟩) cn m2) xc) → _ := fun W g' h => Blk.front2 hg h
 have z1 : (frC f.num f.u (.slice A1 fl n1) (.slice (some ⟨p1, q1, none⟩) bn n2) vc).size = 72 := frC_size hf
 have z2 : (frC g.num g.u (.slice C1 gl m1) (.slice (some ⟨p2, q2, none⟩) cn m2) xc).size = 72 := frC_size hg
 obtain ⟨F1, hF1⟩ : ∃ F, F = frC f.num f.u (.slice A1 fl n1) (.slice (some ⟨p1, q1, none⟩) bn n2) vc := ⟨_, rfl⟩
 obtain ⟨F2, hF2⟩ : ∃ F, F = frC g.num g.u (.slice C1 gl m1) (.slice (some ⟨p2, q2, none⟩) cn m2) xc := ⟨_, rfl⟩
 rw [← hF1] at hfz z1 ⊢
 rw [← hF2] at hgz z2 ⊢
 rw [hk] at hfz
 have HZ := hide (And.intro z1 z2)
 have b0 := ((Below.refl w.heap.size w).alloc (Nat.le_refl _) (.cells F1 28)).alloc (by simp) (.cells F2 28)
 have n0 := (Blk.new w 28 F1).alloc (.cells F2 28)
 have n9 := Blk.new (w.alloc (.cells F1 28)) 28 F2
 simp only [World.size_alloc] at n9
 have hD := fun W (hW : Below ((w.alloc (.cells F1 28)).alloc (.cells F2 28)).heap.size ((w.alloc (.cells F1 28)).alloc (.cells F2 28)) W) => And.intro ((d1.below b0).below hW) ((e1.below b0).below hW)
 have r1' := (by_dig r1 l1 s1).below b0
 have r2' := (by_dig r2 l2 s2).below b0
 have s1' : p1 < ((w.alloc (.cells F1 28)).alloc (.cells F2 28)).heap.size := Nat.lt_of_lt_of_le s1 b0.size
 have s2' : p2 < ((w.alloc (.cells F1 28)).alloc (.cells F2 28)).heap.size := Nat.lt_of_lt_of_le s2 b0.size
 have t1 : ((w.alloc (.cells F1 28)).alloc (.cells F2 28)).rangeAt p1 q1 (bcells x0) := fun j v hj => (b0.cell (p := ⟨p1, q1 + j, none⟩) s1).trans (r1 j v hj)
 have t2 : ((w.alloc (.cells F1 28)).alloc (.cells F2 28)).rangeAt p2 q2 (bcells y0) := fun j v hj => (b0.cell (p := ⟨p2, q2 + j, none⟩) s2).trans (r2 j v hj)
 have HB0 := hide b0
 generalize hW0 : (w.alloc (.cells F1 28)).alloc (.cells F2 28) = W0 at *
 have HFR := hide (show ∀ W, Below W0.heap.size W0 W → (W.cell? ⟨w.heap.size, 0, none⟩ = some (.int .i64 (k : Int)) ∧ W.cell? ⟨w.heap.size, 69, none⟩ = some (.slice A1 fl n1) ∧ W.cell? ⟨w.heap.size, 70, none⟩ = some (.slice (some ⟨p1, q1, none⟩) bn n2)) ∧ W.cell? ⟨w.heap.size + 1, 69, none⟩ = some (.slice C1 gl m1) ∧ W.cell? ⟨w.heap.size + 1, 70, none⟩ = some (.slice (some ⟨p2, q2, none⟩) cn m2) from fun W hW => by
  obtain ⟨⟨y1, -⟩, -, ⟨y2, y3, -⟩⟩ := hfz W _ (n0.below' hW)
  obtain ⟨-, -, ⟨y4, y5, -⟩⟩ := hgz W _ (n9.below' hW)
  exact ⟨⟨y1, y2, y3⟩, y4, y5⟩)
 obtain ⟨X0, hX0⟩ : ∃ F, F = (bcells x0).toArray := ⟨_, rfl⟩
 obtain ⟨Y0, hY0⟩ : ∃ F, F = (bcells y0).toArray := ⟨_, rfl⟩
 obtain ⟨T1, hT1⟩ : ∃ F, F = (bcells (tagD 5 x0)).toArray := ⟨_, rfl⟩
 obtain ⟨T2, hT2⟩ : ∃ F, F = (bcells (tagD 5 y0)).toArray := ⟨_, rfl⟩
 have HS0 := hide (show X0.size = 32 ∧ Y0.size = 32 ∧ T1.size = 32 ∧ T2.size = 32 ∧ T1.all (·.oneCell') = true ∧ T2.all (·.oneCell') = true from ⟨by rw [hX0, arrSize]; exact l1, by rw [hY0, arrSize]; exact l2, by rw [hT1, arrSize]; exact tagD_length _ _, by rw [hT2, arrSize]; exact tagD_length _ _, by rw [hT1]; exact arrOne _, by rw [hT2]; exact arrOne _⟩)
 have HX := hide (show ∀ W, Below W0.heap.size W0 W → W.rangeAt p1 q1 X0.toList ∧ W.rangeAt p2 q2 Y0.toList from fun W hW => ⟨fun j v hj => (hW.cell (p := ⟨p1, q1 + j, none⟩) s1').trans (t1 j v (by rw [hX0] at hj; exact hj)), fun j v hj => (hW.cell (p := ⟨p2, q2 + j, none⟩) s2').trans (t2 j v (by rw [hY0] at hj; exact hj))⟩)
 have QT1 := hide (show ∀ W, Calls Tryz.prog 35 #[.agg X0] W fun e w' => e = .returned (.agg T1) ∧ Below W.heap.size W w' from fun W => by rw [hX0, hT1]; exact rroot_any x0 l1 W)
 have QT2 := hide (show ∀ W, Calls Tryz.prog 35 #[.agg Y0] W fun e w' => e = .returned (.agg T2) ∧ Below W.heap.size W w' from fun W => by rw [hY0, hT2]; exact rroot_any y0 l2 W)
 obtain ⟨ta, hta⟩ : ∃ t, t = tag1 5 x0 := ⟨_, rfl⟩
 obtain ⟨tb, htb⟩ : ∃ t, t = tag1 5 y0 := ⟨_, rfl⟩
 have LA := hide (show ∀ W, Below W0.heap.size W0 W → ∀ X, Blk W X 34 #[.slice (some ⟨p1, q1, none⟩) 32 32] → Calls Tryz.prog 11 #[.int .u8 5, .slice (some ⟨X, 0, none⟩) 1 1] W fun e w' => ∃ v', e = .returned v' ∧ By w' v' ta ∧ Below W.heap.size W w' from fun W hW X hX => by
  rw [hta]
  have h := list1_any 5 x0 (.inr (.inr (.inl ⟨rfl, l1⟩))) X 0 1 (some ⟨p1, q1, none⟩) 32 W hX.lt (by rw [l1]; exact (hX.cell 0).trans rfl) (by rw [l1]; exact ((fun W hW => r1'.below hW) W hW)) (by omega)
  rw [show ((5 : Nat) : Int) = 5 from rfl] at h
  refine h.mono ?_
  rintro e w' ⟨v', he, ho, hb⟩
  exact ⟨v', he, ho.by_, hb⟩)
 have LB := hide (show ∀ W, Below W0.heap.size W0 W → ∀ X, Blk W X 34 #[.slice (some ⟨p2, q2, none⟩) 32 32] → Calls Tryz.prog 11 #[.int .u8 5, .slice (some ⟨X, 0, none⟩) 1 1] W fun e w' => ∃ v', e = .returned v' ∧ By w' v' tb ∧ Below W.heap.size W w' from fun W hW X hX => by
  rw [htb]
  have h := list1_any 5 y0 (.inr (.inr (.inl ⟨rfl, l2⟩))) X 0 1 (some ⟨p2, q2, none⟩) 32 W hX.lt (by rw [l2]; exact (hX.cell 0).trans rfl) (by rw [l2]; exact ((fun W hW => r2'.below hW) W hW)) (by omega)
  rw [show ((5 : Nat) : Int) = 5 from rfl] at h
  refine h.mono ?_
  rintro e w' ⟨v', he, ho, hb⟩
  exact ⟨v', he, ho.by_, hb⟩)
 have hla : ta.length ≤ 1099511627776 := by rw [hta]; exact tag1_len5 _ l1
 have hlb : tb.length ≤ 1099511627776 := by rw [htb]; exact tag1_len5 _ l2
 obtain ⟨rc, hrc⟩ : ∃ r, r = decide (ta ≠ tb ∧ shaL ta = shaL tb) := ⟨_, rfl⟩
 have LC : Hid (∀ W u v, By W u ta → By W v tb → Calls Tryz.prog 10 #[u, v] W fun e w' => e = .returned (.bool rc) ∧ Below W.heap.size W w') := hide fun W u v i1 i2 => by rw [hrc]; exact clash_any u v ta tb W i1 i2 hla hlb
 have HIN := hide (And.intro hx0 (And.intro hy0 (And.intro hta (And.intro htb (And.intro hrc (And.intro hfl (And.intro hgl (And.intro hT1 hT2))))))))
 have HDD := hide hD
 have HL9 := hide (And.intro h3 h4)
 have hbn0 : 0 < bn := h1
 have hcn0 : 0 < cn := h2
 have g1 : ((bn : Int) == 0) = false := by simp; omega
 have g2 : ((cn : Int) == 0) = false := by simp; omega
 obtain ⟨ZD, hZD, hZs⟩ : ∃ Z : Array Value, (#[Value.int .u8 0, .int .u8 0, .int .u8 0, .int .u8 0, .int .u8 0, .int .u8 0, .int .u8 0, .int .u8 0, .int .u8 0, .int .u8 0, .int .u8 0, .int .u8 0, .int .u8 0, .int .u8 0, .int .u8 0, .int .u8 0, .int .u8 0, .int .u8 0, .int .u8 0, .int .u8 0, .int .u8 0, .int .u8 0, .int .u8 0, .int .u8 0, .int .u8 0, .int .u8 0, .int .u8 0, .int .u8 0, .int .u8 0, .int .u8 0, .int .u8 0, .int .u8 0] : Array Value) = Z ∧ Z.size = 32 := ⟨_, rfl, rfl⟩
 have HZD := hide hZs
 clear hZs hx0 hy0 d1 d2 e1 e2 h1 h2 h3 h4 hc1 hc2 hc3 hc4 r1 r2 l1 l2 s1 s2 hfl hgl hbn hcn hfz hgz z1 z2 hF1 hF2 b0 n0 n9 hD r1' r2' s1' s2' t1 t2 hX0 hY0 hT1 hT2 hta htb hla hlb hrc hk
 obtain ⟨⟨c0, c1, c2⟩, c3, c4⟩ := HFR.out W0 (Below.refl _ _)
 go_enter Tryz.func12, Tryz.ntmps12
 go_wp2_with fail
 clear c0 c1 c2 c3 c4
 clear g1 g2
 go_cut [33] (fun u33 wx => u33 = .bool rc ∧ Below W0.heap.size W0 wx)
 case first =>
  refine wp_region_noPanic ?_
  refine wp_region_held_drew (S := fun W => Below W0.heap.size W0 W) (by kernel_rfl) (Below.refl _ _).drew (fun hHeld => ?_)
  refine wpAnyH_take (i := 0) (v := ?_) rfl (by kernel_rfl) (by kernel_rfl) (by kernel_rfl) (fun _ _ _ h => h) (Or.inl ⟨by rfl, ?_⟩) (by assumption) ?_
  rotate_left
  ·(intro w9 hSw; (try dsimp only at hSw); go_simp; try with_reducible rfl)
  try simp only [Act.put, List.setIfInBounds_toArray, List.set_cons_zero, List.set_cons_succ, List.getElem_toArray, List.getElem_cons_succ, List.getElem_cons_zero]
  refine wpAnyH_take (i := 1) (v := .slice (some ⟨p1, q1, none⟩) bn n2) rfl (by kernel_rfl) (by kernel_rfl) (by kernel_rfl) (fun _ _ _ h => h) (Or.inl ⟨by rfl, ?_⟩) (by assumption) ?_
  ·(intro W hW; exact ex_loadC 26 (.tmp 21) (by kernel_rfl) ⟨w.heap.size, 70, none⟩ (by kernel_rfl) _ _ ((HFR.out W hW).1.2.2) Tryz.underlying26 rfl)
  try simp only [Act.put, List.setIfInBounds_toArray, List.set_cons_zero, List.set_cons_succ, List.getElem_toArray, List.getElem_cons_succ, List.getElem_cons_zero]
  refine wpAnyH_take (i := 2) (v := ?_) rfl (by kernel_rfl) (by kernel_rfl) (by kernel_rfl) (fun _ _ _ h => h) (Or.inl ⟨by rfl, ?_⟩) (by assumption) ?_
  rotate_left
  ·(intro w9 hSw; (try dsimp only at hSw); go_simp; try with_reducible rfl)
  try simp only [Act.put, List.setIfInBounds_toArray, List.set_cons_zero, List.set_cons_succ, List.getElem_toArray, List.getElem_cons_succ, List.getElem_cons_zero]
  refine wpAnyH_take (i := 3) (v := ?_) rfl (by kernel_rfl) (by kernel_rfl) (by kernel_rfl) (fun _ _ _ h => h) (Or.inl ⟨by rfl, ?_⟩) (by assumption) ?_
  rotate_left
  ·(intro w9 hSw; (try dsimp only at hSw); go_simp; try with_reducible rfl)
  try simp only [Act.put, List.setIfInBounds_toArray, List.set_cons_zero, List.set_cons_succ, List.getElem_toArray, List.getElem_cons_succ, List.getElem_cons_zero]
  refine wpAnyH_take (i := 6) (v := ?_) rfl (by kernel_rfl) (by kernel_rfl) (by kernel_rfl) (fun _ _ _ h => h) (Or.inl ⟨by rfl, ?_⟩) (by assumption) ?_
  rotate_left
  ·(intro w9 hSw; (try dsimp only at hSw); go_simp; try with_reducible rfl)
  try simp only [Act.put, List.setIfInBounds_toArray, List.set_cons_zero, List.set_cons_succ, List.getElem_toArray, List.getElem_cons_succ, List.getElem_cons_zero]
  refine wpAnyH_take (i := 7) (v := .slice (some ⟨p2, q2, none⟩) cn m2) rfl (by kernel_rfl) (by kernel_rfl) (by kernel_rfl) (fun _ _ _ h => h) (Or.inl ⟨by rfl, ?_⟩) (by assumption) ?_
  ·(intro W hW; exact ex_loadC 26 (.tmp 27) (by kernel_rfl) ⟨w.heap.size + 1, 70, none⟩ (by kernel_rfl) _ _ ((HFR.out W hW).2.2) Tryz.underlying26 rfl)
  try simp only [Act.put, List.setIfInBounds_toArray, List.set_cons_zero, List.set_cons_succ, List.getElem_toArray, List.getElem_cons_succ, List.getElem_cons_zero]
  refine wpAnyH_take (i := 8) (v := ?_) rfl (by kernel_rfl) (by kernel_rfl) (by kernel_rfl) (fun _ _ _ h => h) (Or.inl ⟨by rfl, ?_⟩) (by assumption) ?_
  rotate_left
  ·(intro w9 hSw; (try dsimp only at hSw); go_simp; try with_reducible rfl)
  try simp only [Act.put, List.setIfInBounds_toArray, List.set_cons_zero, List.set_cons_succ, List.getElem_toArray, List.getElem_cons_succ, List.getElem_cons_zero]
  refine wpAnyH_take (i := 9) (v := ?_) rfl (by kernel_rfl) (by kernel_rfl) (by kernel_rfl) (fun _ _ _ h => h) (Or.inl ⟨by rfl, ?_⟩) (by assumption) ?_
  rotate_left
  ·(intro w9 hSw; (try dsimp only at hSw); go_simp; try with_reducible rfl)
  try simp only [Act.put, List.setIfInBounds_toArray, List.set_cons_zero, List.set_cons_succ, List.getElem_toArray, List.getElem_cons_succ, List.getElem_cons_zero]
  refine wpAnyH_ready (rs := [4, 10]) (by kernel_rfl) (by simp) ?_
  refine AllReadyH.cons rfl (fun K hK => ?_) (AllReadyH.cons rfl (fun K hK => ?_) AllReadyH.nil)
  ·skip
   go_simp
   have k1 := (Blk.new W0 34 #[.slice (some ⟨p1, q1, none⟩) 32 32]).drew
   have b1 := ((Below.refl _ W0).alloc (Nat.le_refl _) (.cells #[.slice (some ⟨p1, q1, none⟩) 32 32] 34)).drew
   obtain ⟨x1, hx1⟩ : ∃ W, W = (W0.alloc (.cells #[.slice (some ⟨p1, q1, none⟩) 32 32] 34)).drew := ⟨_, rfl⟩
   rw [← hx1] at k1 b1 ⊢
   have K1 := hide k1
   have B1 := hide b1
   clear hx1 k1 b1
   refine hK.out _ _ (B1.out) (fun hHeld => ?_)
   clear hK K
   try simp only [Act.put, List.setIfInBounds_toArray, List.set_cons_zero, List.set_cons_succ, List.getElem_toArray, List.getElem_cons_succ, List.getElem_cons_zero]
   refine wpAnyH_ready (rs := [5, 10]) (by kernel_rfl) (by simp) ?_
   refine AllReadyH.cons rfl (fun K hK => ?_) (AllReadyH.cons rfl (fun K hK => ?_) AllReadyH.nil)
   ·skip
    go_simp
    refine (LA.out x1 B1.out (W0.heap.size) K1.out).mono ?_
    rintro e x2 ⟨v2, rfl, o2, b2⟩
    have O2 := hide o2
    have B2 := hide (Below.step B1.out b2)
    clear o2 b2
    refine hK.out _ _ (B2.out) (fun hHeld => ?_)
    clear hK K
    try simp only [Act.put, List.setIfInBounds_toArray, List.set_cons_zero, List.set_cons_succ, List.getElem_toArray, List.getElem_cons_succ, List.getElem_cons_zero]
    refine wpAnyH_ready (rs := [10]) (by kernel_rfl) (by simp) ?_
    refine AllReadyH.cons rfl (fun K hK => ?_) AllReadyH.nil
    go_simp
    have k3 := Blk.new x2 34 #[.slice (some ⟨p2, q2, none⟩) 32 32]
    have b3 := B2.out.alloc B2.out.size (.cells #[.slice (some ⟨p2, q2, none⟩) 32 32] 34)
    obtain ⟨x3, hx3⟩ : ∃ W, W = x2.alloc (.cells #[.slice (some ⟨p2, q2, none⟩) 32 32] 34) := ⟨_, rfl⟩
    rw [← hx3] at k3 b3 ⊢
    have K3 := hide k3
    have B3 := hide b3
    have V3 := hide (show By x3 v2 _ from by rw [hx3]; exact O2.out.alloc (.cells #[.slice (some ⟨p2, q2, none⟩) 32 32] 34))
    clear hx3 k3 b3
    refine hK.out _ _ (B3.out) (fun hHeld => ?_)
    clear hK K
    try simp only [Act.put, List.setIfInBounds_toArray, List.set_cons_zero, List.set_cons_succ, List.getElem_toArray, List.getElem_cons_succ, List.getElem_cons_zero]
    refine wpAnyH_ready (rs := [11]) (by kernel_rfl) (by simp) ?_
    refine AllReadyH.cons rfl (fun K hK => ?_) AllReadyH.nil
    go_simp
    refine (LB.out x3 B3.out (x2.heap.size) K3.out).mono ?_
    rintro e x4 ⟨v4, rfl, o4, b4⟩
    have O4 := hide o4
    have B4 := hide (Below.step B3.out b4)
    have V4 := hide (V3.out.below b4)
    clear o4 b4
    refine hK.out _ _ (B4.out) (fun hHeld => ?_)
    clear hK K
    try simp only [Act.put, List.setIfInBounds_toArray, List.set_cons_zero, List.set_cons_succ, List.getElem_toArray, List.getElem_cons_succ, List.getElem_cons_zero]
    refine wpAnyH_ready (rs := [12]) (by kernel_rfl) (by simp) ?_
    refine AllReadyH.cons rfl (fun K hK => ?_) AllReadyH.nil
    go_simp
    refine (LC.out x4 v2 v4 V4.out O4.out).mono ?_
    rintro e x5 ⟨rfl, b5⟩
    have HE := hide (Below.step B4.out b5)
    clear b5
    refine hK.out _ _ (HE.out) (fun hHeld => ?_)
    clear hK K
    try simp only [Act.put, List.setIfInBounds_toArray, List.set_cons_zero, List.set_cons_succ, List.getElem_toArray, List.getElem_cons_succ, List.getElem_cons_zero]
    refine wpAnyH_done (by kernel_rfl) ?_ _
    refine noPanic_norm ?_
    go_wp2_with fail
    go_meet
    exact ⟨rfl, HE.out⟩
   ·skip
    go_simp
    have k6 := Blk.new x1 34 #[.slice (some ⟨p2, q2, none⟩) 32 32]
    have b6 := B1.out.alloc B1.out.size (.cells #[.slice (some ⟨p2, q2, none⟩) 32 32] 34)
    have m6 := K1.out.alloc (.cells #[.slice (some ⟨p2, q2, none⟩) 32 32] 34)
    obtain ⟨x6, hx6⟩ : ∃ W, W = x1.alloc (.cells #[.slice (some ⟨p2, q2, none⟩) 32 32] 34) := ⟨_, rfl⟩
    rw [← hx6] at k6 b6 m6 ⊢
    have K6 := hide k6
    have B6 := hide b6
    have M6 := hide m6
    clear hx6 k6 b6 m6
    refine hK.out _ _ (B6.out) (fun hHeld => ?_)
    clear hK K
    try simp only [Act.put, List.setIfInBounds_toArray, List.set_cons_zero, List.set_cons_succ, List.getElem_toArray, List.getElem_cons_succ, List.getElem_cons_zero]
    refine wpAnyH_ready (rs := [5]) (by kernel_rfl) (by simp) ?_
    refine AllReadyH.cons rfl (fun K hK => ?_) AllReadyH.nil
    go_simp
    refine (LA.out x6 B6.out (W0.heap.size) M6.out).mono ?_
    rintro e x7 ⟨v7, rfl, o7, b7⟩
    have O7 := hide o7
    have B7 := hide (Below.step B6.out b7)
    have M7 := hide (K6.out.below' b7)
    clear o7 b7
    refine hK.out _ _ (B7.out) (fun hHeld => ?_)
    clear hK K
    try simp only [Act.put, List.setIfInBounds_toArray, List.set_cons_zero, List.set_cons_succ, List.getElem_toArray, List.getElem_cons_succ, List.getElem_cons_zero]
    refine wpAnyH_ready (rs := [11]) (by kernel_rfl) (by simp) ?_
    refine AllReadyH.cons rfl (fun K hK => ?_) AllReadyH.nil
    go_simp
    refine (LB.out x7 B7.out (x1.heap.size) M7.out).mono ?_
    rintro e x8 ⟨v8, rfl, o8, b8⟩
    have O8 := hide o8
    have B8 := hide (Below.step B7.out b8)
    have V8 := hide (O7.out.below b8)
    clear o8 b8
    refine hK.out _ _ (B8.out) (fun hHeld => ?_)
    clear hK K
    try simp only [Act.put, List.setIfInBounds_toArray, List.set_cons_zero, List.set_cons_succ, List.getElem_toArray, List.getElem_cons_succ, List.getElem_cons_zero]
    refine wpAnyH_ready (rs := [12]) (by kernel_rfl) (by simp) ?_
    refine AllReadyH.cons rfl (fun K hK => ?_) AllReadyH.nil
    go_simp
    refine (LC.out x8 v7 v8 V8.out O8.out).mono ?_
    rintro e x9 ⟨rfl, b9⟩
    have HE := hide (Below.step B8.out b9)
    clear b9
    refine hK.out _ _ (HE.out) (fun hHeld => ?_)
    clear hK K
    try simp only [Act.put, List.setIfInBounds_toArray, List.set_cons_zero, List.set_cons_succ, List.getElem_toArray, List.getElem_cons_succ, List.getElem_cons_zero]
    refine wpAnyH_done (by kernel_rfl) ?_ _
    refine noPanic_norm ?_
    go_wp2_with fail
    go_meet
    exact ⟨rfl, HE.out⟩
  ·skip
   go_simp
   have k10 := (Blk.new W0 34 #[.slice (some ⟨p2, q2, none⟩) 32 32]).drew
   have b10 := ((Below.refl _ W0).alloc (Nat.le_refl _) (.cells #[.slice (some ⟨p2, q2, none⟩) 32 32] 34)).drew
   obtain ⟨x10, hx10⟩ : ∃ W, W = (W0.alloc (.cells #[.slice (some ⟨p2, q2, none⟩) 32 32] 34)).drew := ⟨_, rfl⟩
   rw [← hx10] at k10 b10 ⊢
   have K10 := hide k10
   have B10 := hide b10
   clear hx10 k10 b10
   refine hK.out _ _ (B10.out) (fun hHeld => ?_)
   clear hK K
   try simp only [Act.put, List.setIfInBounds_toArray, List.set_cons_zero, List.set_cons_succ, List.getElem_toArray, List.getElem_cons_succ, List.getElem_cons_zero]
   refine wpAnyH_ready (rs := [4]) (by kernel_rfl) (by simp) ?_
   refine AllReadyH.cons rfl (fun K hK => ?_) AllReadyH.nil
   go_simp
   have k11 := Blk.new x10 34 #[.slice (some ⟨p1, q1, none⟩) 32 32]
   have b11 := B10.out.alloc B10.out.size (.cells #[.slice (some ⟨p1, q1, none⟩) 32 32] 34)
   have m11 := K10.out.alloc (.cells #[.slice (some ⟨p1, q1, none⟩) 32 32] 34)
   obtain ⟨x11, hx11⟩ : ∃ W, W = x10.alloc (.cells #[.slice (some ⟨p1, q1, none⟩) 32 32] 34) := ⟨_, rfl⟩
   rw [← hx11] at k11 b11 m11 ⊢
   have K11 := hide k11
   have B11 := hide b11
   have M11 := hide m11
   clear hx11 k11 b11 m11
   refine hK.out _ _ (B11.out) (fun hHeld => ?_)
   clear hK K
   try simp only [Act.put, List.setIfInBounds_toArray, List.set_cons_zero, List.set_cons_succ, List.getElem_toArray, List.getElem_cons_succ, List.getElem_cons_zero]
   refine wpAnyH_ready (rs := [5]) (by kernel_rfl) (by simp) ?_
   refine AllReadyH.cons rfl (fun K hK => ?_) AllReadyH.nil
   go_simp
   refine (LA.out x11 B11.out (x10.heap.size) K11.out).mono ?_
   rintro e x12 ⟨v12, rfl, o12, b12⟩
   have O12 := hide o12
   have B12 := hide (Below.step B11.out b12)
   have M12 := hide (M11.out.below' b12)
   clear o12 b12
   refine hK.out _ _ (B12.out) (fun hHeld => ?_)
   clear hK K
   try simp only [Act.put, List.setIfInBounds_toArray, List.set_cons_zero, List.set_cons_succ, List.getElem_toArray, List.getElem_cons_succ, List.getElem_cons_zero]
   refine wpAnyH_ready (rs := [11]) (by kernel_rfl) (by simp) ?_
   refine AllReadyH.cons rfl (fun K hK => ?_) AllReadyH.nil
   go_simp
   refine (LB.out x12 B12.out (W0.heap.size) M12.out).mono ?_
   rintro e x13 ⟨v13, rfl, o13, b13⟩
   have O13 := hide o13
   have B13 := hide (Below.step B12.out b13)
   have V13 := hide (O12.out.below b13)
   clear o13 b13
   refine hK.out _ _ (B13.out) (fun hHeld => ?_)
   clear hK K
   try simp only [Act.put, List.setIfInBounds_toArray, List.set_cons_zero, List.set_cons_succ, List.getElem_toArray, List.getElem_cons_succ, List.getElem_cons_zero]
   refine wpAnyH_ready (rs := [12]) (by kernel_rfl) (by simp) ?_
   refine AllReadyH.cons rfl (fun K hK => ?_) AllReadyH.nil
   go_simp
   refine (LC.out x13 v12 v13 V13.out O13.out).mono ?_
   rintro e x14 ⟨rfl, b14⟩
   have HE := hide (Below.step B13.out b14)
   clear b14
   refine hK.out _ _ (HE.out) (fun hHeld => ?_)
   clear hK K
   try simp only [Act.put, List.setIfInBounds_toArray, List.set_cons_zero, List.set_cons_succ, List.getElem_toArray, List.getElem_cons_succ, List.getElem_cons_zero]
   refine wpAnyH_done (by kernel_rfl) ?_ _
   refine noPanic_norm ?_
   go_wp2_with fail
   go_meet
   exact ⟨rfl, HE.out⟩
 case rest =>
  obtain ⟨rfl, hbc⟩ := hcut
  have HBC := hide hbc
  clear hbc LA LB LC
  by_cases hcl : rc = true
  ·subst hcl
   go_wp2
   go_ret
   first | exact ⟨Below.step HB0.out HBC.out, true, rfl, fun h => by cases h⟩ | exact ⟨Below.step HB0.out HBC.out, .inr rfl⟩
  ·have hcl' : rc = false := by simpa using hcl
   clear hcl
   subst hcl'
   obtain ⟨⟨c0, c1, c2⟩, c3, c4⟩ := HFR.out wc HBC.out
   go_wp2_with (first
    | ((with_reducible change wpList _ _ _ (⟨some 37, _, _, _, _, _⟩ :: _) _ _); go_loud (refine wpList_load_midF (by rfl) 23 _ rfl p1 q1 rfl X0 _ (HX.out wc HBC.out).1 Tryz.underlying23 rfl (by rw [HS0.out.1]; kernel_rfl) ?_)))
   clear c0 c1 c2 c3 c4
   refine (QT1.out _).mono ?_
   rintro e w5 ⟨rfl, b5⟩
   have B5 := hide (Below.step HBC.out b5)
   clear b5
   obtain ⟨gx, hgx⟩ : ∃ g, g = w5.heap.size := ⟨_, rfl⟩
   go_wp2_with (first
    | ((with_reducible change wpList _ _ _ (⟨none, .store _ (.tmp 5) _, _, _, _, _⟩ :: _) _ _); go_loud (refine wpList_store_row (o := ⟨none, .store _ (.tmp 5) _, _, _, _, _⟩) (Blk.new w5 _ _) (T1) (by rw [HS0.out.2.2.1, HZD.out]) (HS0.out.2.2.2.2.1) rfl 23 _ _ rfl (by rw [HS0.out.2.2.1]; kernel_rfl) rfl rfl ?_; intro w6 hb6 hg6; have q6 : Below w5.heap.size w5 w6 := ((Below.refl _ w5).alloc (Nat.le_refl _) _).grown hg6 (by simp) (fun k hk => by cases hk; exact Nat.le_refl _); have H6 := hide (And.intro hb6 (Below.step B5.out q6)); clear hb6 hg6 q6; obtain ⟨⟨c0, c1, c2⟩, c3, c4⟩ := HFR.out w6 H6.out.2))
    | ((with_reducible change wpList _ _ _ (⟨some 42, _, _, _, _, _⟩ :: _) _ _); go_loud (refine wpList_load_midF (by rfl) 23 _ rfl p2 q2 rfl Y0 _ (HX.out w6 H6.out.2).2 Tryz.underlying23 rfl (by rw [HS0.out.2.1]; kernel_rfl) ?_)))
   clear c0 c1 c2 c3 c4
   rw [← hgx] at H6 ⊢
   refine (QT2.out _).mono ?_
   rintro e w7 ⟨rfl, b7⟩
   have K7 := hide (H6.out.1.below' b7)
   have B7 := hide (Below.step H6.out.2 b7)
   clear b7
   obtain ⟨gy, hgy⟩ : ∃ g, g = w7.heap.size := ⟨_, rfl⟩
   have HG := hide (show W0.heap.size ≤ gx ∧ gx < gy from ⟨by rw [hgx]; exact B5.out.size, by rw [hgy]; exact K7.out.lt⟩)
   go_wp2_with (first
    | ((with_reducible change wpList _ _ _ (⟨none, .store _ (.tmp 6) _, _, _, _, _⟩ :: _) _ _); go_loud (refine wpList_store_row (o := ⟨none, .store _ (.tmp 6) _, _, _, _, _⟩) (Blk.new w7 _ _) (T2) (by rw [HS0.out.2.2.2.1, HZD.out]) (HS0.out.2.2.2.2.2) rfl 23 _ _ rfl (by rw [HS0.out.2.2.2.1]; kernel_rfl) rfl rfl ?_; intro w8 hb8 hg8; have q8 : Below w7.heap.size w7 w8 := ((Below.refl _ w7).alloc (Nat.le_refl _) _).grown hg8 (by simp) (fun k hk => by cases hk; exact Nat.le_refl _); have H8 := hide (And.intro hb8 (And.intro (K7.out.below' q8) (Below.step B7.out q8))); clear hb8 hg8 q8; obtain ⟨⟨c0, c1, c2⟩, c3, c4⟩ := HFR.out w8 H8.out.2.2)))
   rw [← hgy] at H8 ⊢
   try rw [← hgx]
   clear c0 c1 c2 c3 c4 hgx hgy hZD
   go_loopw [7, 8] (fun u7 u8 wr => ∃ (i p : Nat) (x y : List UInt8), i ≤ fl ∧ i ≤ gl ∧ p ≤ 100000 ∧ u7 = .int .i64 (p : Int) ∧ u8 = .int .i64 (i : Int) ∧ x.length = 32 ∧ y.length = 32 ∧ Blk wr gx 23 (bcells x).toArray ∧ Blk wr gy 23 (bcells y).toArray ∧ (NCs p x y (f.ch.drop i) (g.ch.drop i) → NCs k (tagD 5 x0) (tagD 5 y0) f.ch g.ch) ∧ Below W0.heap.size W0 wr) (fun u7 u8 _ => 200000 - (intOf u8).toNat)
   case atStart => exact ⟨0, k, tagD 5 x0, tagD 5 y0, by omega, by omega, hk9, rfl, rfl, tagD_length _ _, tagD_length _ _, by rw [← HIN.out.2.2.2.2.2.2.2.1]; exact H8.out.2.1, by rw [← HIN.out.2.2.2.2.2.2.2.2]; exact H8.out.1, fun h => h, H8.out.2.2⟩
   case round =>
    obtain ⟨i, p, x, y, hi, hi', hp9, rfl, rfl, hxl, hyl, kx, ky, himp, hbel⟩ := hrel
    obtain ⟨⟨c0, c1, c2⟩, c3, c4⟩ := HFR.out wr hbel
    clear c0 c2 c4
    by_cases hlt : i < fl ∧ i < gl
    ·obtain ⟨c, hc⟩ : ∃ c, f.ch[i]? = some c := ⟨_, List.getElem?_eq_getElem (by have := HIN.out.2.2.2.2.2.1; omega)⟩
     obtain ⟨e', he⟩ : ∃ c, g.ch[i]? = some c := ⟨_, List.getElem?_eq_getElem (by have := HIN.out.2.2.2.2.2.2.1; omega)⟩
     obtain ⟨p3, q3, rfl, r3, l3, s3⟩ := (HDD.out wr hbel).1.at hc
     obtain ⟨p4, q4, rfl, r4, l4, s4⟩ := (HDD.out wr hbel).2.at he
     have HL := hide (show ∀ W, Below wr.heap.size wr W → W.cell? ⟨w.heap.size, 69, none⟩ = some (.slice (some ⟨p3, q3, none⟩) fl n1) ∧ W.cell? ⟨w.heap.size + 1, 69, none⟩ = some (.slice (some ⟨p4, q4, none⟩) gl m1) from fun W hW => by
      obtain ⟨⟨-, y1, -⟩, y2, -⟩ := HFR.out W (Below.step hbel hW)
      exact ⟨y1, y2⟩)
     have LXC := hide (show ∀ W, Below wr.heap.size wr W → ∀ X, Blk W X 34 #[.slice (some ⟨gx, 0, none⟩) 32 32, .slice (some ⟨p3, q3 + i * 32, none⟩) 32 32] → Calls Tryz.prog 11 #[.int .u8 6, .slice (some ⟨X, 0, none⟩) 2 2] W fun e w' => ∃ v', e = .returned v' ∧ Own w' W.heap.size 5 v' (tag2 6 x c) ∧ Below W.heap.size W w' from fun W hW X hX => list2_any x c hxl l3 X 0 2 (some ⟨gx, 0, none⟩) (some ⟨p3, q3 + i * 32, none⟩) 32 32 W hX.lt ((hX.cell 0).trans rfl) ((hX.cell 1).trans rfl) (byBlk (kx.below' hW) hxl.symm (by unfold maxLen; omega)) ((by_dig r3 l3 s3).below hW))
     have LYE := hide (show ∀ W, Below wr.heap.size wr W → ∀ X, Blk W X 34 #[.slice (some ⟨gy, 0, none⟩) 32 32, .slice (some ⟨p4, q4 + i * 32, none⟩) 32 32] → Calls Tryz.prog 11 #[.int .u8 6, .slice (some ⟨X, 0, none⟩) 2 2] W fun e w' => ∃ v', e = .returned v' ∧ Own w' W.heap.size 5 v' (tag2 6 y e') ∧ Below W.heap.size W w' from fun W hW X hX => list2_any y e' hyl l4 X 0 2 (some ⟨gy, 0, none⟩) (some ⟨p4, q4 + i * 32, none⟩) 32 32 W hX.lt ((hX.cell 0).trans rfl) ((hX.cell 1).trans rfl) (byBlk (ky.below' hW) hyl.symm (by unfold maxLen; omega)) ((by_dig r4 l4 s4).below hW))
     have LCX := hide (show ∀ W, Below wr.heap.size wr W → ∀ X, Blk W X 34 #[.slice (some ⟨p3, q3 + i * 32, none⟩) 32 32, .slice (some ⟨gx, 0, none⟩) 32 32] → Calls Tryz.prog 11 #[.int .u8 6, .slice (some ⟨X, 0, none⟩) 2 2] W fun e w' => ∃ v', e = .returned v' ∧ Own w' W.heap.size 5 v' (tag2 6 c x) ∧ Below W.heap.size W w' from fun W hW X hX => list2_any c x l3 hxl X 0 2 (some ⟨p3, q3 + i * 32, none⟩) (some ⟨gx, 0, none⟩) 32 32 W hX.lt ((hX.cell 0).trans rfl) ((hX.cell 1).trans rfl) ((by_dig r3 l3 s3).below hW) (byBlk (kx.below' hW) hxl.symm (by unfold maxLen; omega)))
     have LEY := hide (show ∀ W, Below wr.heap.size wr W → ∀ X, Blk W X 34 #[.slice (some ⟨p4, q4 + i * 32, none⟩) 32 32, .slice (some ⟨gy, 0, none⟩) 32 32] → Calls Tryz.prog 11 #[.int .u8 6, .slice (some ⟨X, 0, none⟩) 2 2] W fun e w' => ∃ v', e = .returned v' ∧ Own w' W.heap.size 5 v' (tag2 6 e' y) ∧ Below W.heap.size W w' from fun W hW X hX => list2_any e' y l4 hyl X 0 2 (some ⟨p4, q4 + i * 32, none⟩) (some ⟨gy, 0, none⟩) 32 32 W hX.lt ((hX.cell 0).trans rfl) ((hX.cell 1).trans rfl) ((by_dig r4 l4 s4).below hW) (byBlk (ky.below' hW) hyl.symm (by unfold maxLen; omega)))
     have HBB := hide hbel
     have HK := hide (And.intro kx ky)
     have a1 : (i : Int) < (fl : Int) := by omega
     have a2 : (i : Int) < (gl : Int) := by omega
     have a3 : (0 : Int) ≤ (i : Int) := by omega
     have hi9 : i < 100000 := by have := HL9.out; omega
     obtain ⟨tx, htx⟩ : ∃ t, t = stepL p x c := ⟨_, rfl⟩
     obtain ⟨ty, hty⟩ : ∃ t, t = stepL p y e' := ⟨_, rfl⟩
     have htl : tx.length ≤ 1099511627776 ∧ ty.length ≤ 1099511627776 := by
      rw [htx, hty]
      unfold stepL
      split <;> exact ⟨tag2_len _ _ (by assumption) (by assumption), tag2_len _ _ (by assumption) (by assumption)⟩
     obtain ⟨NX, hNX⟩ : ∃ F, F = (bcells (shaL tx)).toArray := ⟨_, rfl⟩
     obtain ⟨NY, hNY⟩ : ∃ F, F = (bcells (shaL ty)).toArray := ⟨_, rfl⟩
     have HSX := hide (show NX.size = 32 ∧ (bcells x).toArray.size = 32 ∧ NY.size = 32 ∧ (bcells y).toArray.size = 32 ∧ NX.all (·.oneCell') = true ∧ NY.all (·.oneCell') = true from ⟨by rw [hNX, arrSize]; exact shaL_length _, by rw [arrSize]; exact hxl, by rw [hNY, arrSize]; exact shaL_length _, by rw [arrSize]; exact hyl, by rw [hNX]; exact arrOne _, by rw [hNY]; exact arrOne _⟩)
     have S1 := hide (show ∀ W v, By W v tx → Calls Tryz.prog 33 #[v] W fun e w' => e = .returned (.agg NX) ∧ Below W.heap.size W w' from fun W v hv => by rw [hNX]; exact rsum_any v tx W hv htl.1)
     have S2 := hide (show ∀ W v, By W v ty → Calls Tryz.prog 33 #[v] W fun e w' => e = .returned (.agg NY) ∧ Below W.heap.size W w' from fun W v hv => by rw [hNY]; exact rsum_any v ty W hv htl.2)
     have HNX := hide (And.intro hNX hNY)
     have hquo : (p : Int).tdiv 2 = ((p / 2 : Nat) : Int) := by rw [Int.tdiv_eq_ediv_of_nonneg (by omega)]; omega
     have hC2 : ∀ W u v, By W u tx → By W v ty → Calls Tryz.prog 10 #[u, v] W fun e w' => e = .returned (.bool (decide (tx ≠ ty ∧ shaL tx = shaL ty))) ∧ Below W.heap.size W w' := fun W u v i1 i2 => clash_any u v tx ty W i1 i2 htl.1 htl.2
     have LC2 := hide hC2
     clear hC2
     have HNX0 := hide (show ¬ (tx ≠ ty ∧ shaL tx = shaL ty) → NCs (p / 2) (shaL tx) (shaL ty) (f.ch.drop (i + 1)) (g.ch.drop (i + 1)) → NCs k (tagD 5 x0) (tagD 5 y0) f.ch g.ch from fun hcl h => himp (NCs.drop_cons hc he (by rw [← htx, ← hty]; exact ⟨fun e => Classical.byContradiction fun hn => hcl ⟨hn, e⟩, h⟩)))
     clear himp
     by_cases hodd : p % 2 = 1
     ·have hrem : (p : Int).tmod 2 = 1 := by rw [Int.tmod_eq_emod_of_nonneg (by omega)]; omega
      have hsx : tx = tag2 6 c x := by rw [htx]; unfold stepL; rw [if_pos hodd]
      have hsy : ty = tag2 6 e' y := by rw [hty]; unfold stepL; rw [if_pos hodd]
      rw [← hsx] at LCX
      rw [← hsy] at LEY
      clear hsx hsy htx hty htl hNX hNY hc he r3 r4 l3 l4 s3 s4 hxl hyl kx ky hbel
      go_wp2_with fail
      refine wp_region_noPanic ?_
      refine wp_region_held_drew (S := fun W => Below wr.heap.size wr W) (by kernel_rfl) (Below.refl _ _).drew (fun hHeld => ?_)
      refine wpAnyH_take (i := 0) (v := ?_) rfl (by kernel_rfl) (by kernel_rfl) (by kernel_rfl) (fun _ _ _ h => h) (Or.inl ⟨by rfl, ?_⟩) (by assumption) ?_
      rotate_left
      ·(intro w9 hSw; (try dsimp only at hSw); go_simp; try with_reducible rfl)
      try simp only [Act.put, List.setIfInBounds_toArray, List.set_cons_zero, List.set_cons_succ, List.getElem_toArray, List.getElem_cons_succ, List.getElem_cons_zero]
      refine wpAnyH_take (i := 1) (v := ?_) rfl (by kernel_rfl) (by kernel_rfl) (by kernel_rfl) (fun _ _ _ h => h) (Or.inl ⟨by rfl, ?_⟩) (by assumption) ?_
      rotate_left
      ·(intro w9 hSw; (try dsimp only at hSw); go_simp; try with_reducible rfl)
      try simp only [Act.put, List.setIfInBounds_toArray, List.set_cons_zero, List.set_cons_succ, List.getElem_toArray, List.getElem_cons_succ, List.getElem_cons_zero]
      refine wpAnyH_take (i := 2) (v := .slice (some ⟨p3, q3, none⟩) fl n1) rfl (by kernel_rfl) (by kernel_rfl) (by kernel_rfl) (fun _ _ _ h => h) (Or.inl ⟨by rfl, ?_⟩) (by assumption) ?_
      ·(intro W hW; exact ex_loadC 26 (.tmp 61) (by kernel_rfl) ⟨w.heap.size, 69, none⟩ (by kernel_rfl) _ _ ((HL.out W hW).1) Tryz.underlying26 rfl)
      try simp only [Act.put, List.setIfInBounds_toArray, List.set_cons_zero, List.set_cons_succ, List.getElem_toArray, List.getElem_cons_succ, List.getElem_cons_zero]
      refine wpAnyH_take (i := 3) (v := ?_) rfl (by kernel_rfl) (by kernel_rfl) (by kernel_rfl) (fun _ _ _ h => h) (Or.inl ⟨by rfl, ?_⟩) (by assumption) ?_
      rotate_left
      ·(intro w9 hSw; (try dsimp only at hSw); go_simp; try with_reducible rfl)
      try simp only [Act.put, List.setIfInBounds_toArray, List.set_cons_zero, List.set_cons_succ, List.getElem_toArray, List.getElem_cons_succ, List.getElem_cons_zero]
      refine wpAnyH_take (i := 4) (v := ?_) rfl (by kernel_rfl) (by kernel_rfl) (by kernel_rfl) (fun _ _ _ h => h) (Or.inl ⟨by rfl, ?_⟩) (by assumption) ?_
      rotate_left
      ·(intro w9 hSw; (try dsimp only at hSw); go_simp; try with_reducible rfl)
      try simp only [Act.put, List.setIfInBounds_toArray, List.set_cons_zero, List.set_cons_succ, List.getElem_toArray, List.getElem_cons_succ, List.getElem_cons_zero]
      refine wpAnyH_take (i := 5) (v := ?_) rfl (by kernel_rfl) (by kernel_rfl) (by kernel_rfl) (fun _ _ _ h => h) (Or.inl ⟨by rfl, ?_⟩) (by assumption) ?_
      rotate_left
      ·(intro w9 hSw; (try dsimp only at hSw); go_simp; try with_reducible rfl)
      try simp only [Act.put, List.setIfInBounds_toArray, List.set_cons_zero, List.set_cons_succ, List.getElem_toArray, List.getElem_cons_succ, List.getElem_cons_zero]
      refine wpAnyH_ready (rs := [6]) (by kernel_rfl) (by simp) ?_
      refine AllReadyH.cons rfl (fun K hK => ?_) AllReadyH.nil
      go_simp
      have k15 := (Blk.new wr 34 #[.slice (some ⟨gx, 0, none⟩) 32 32, .slice (some ⟨p3, q3 + i * 32, none⟩) 32 32]).drew
      have b15 := ((Below.refl _ wr).alloc (Nat.le_refl _) (.cells #[.slice (some ⟨gx, 0, none⟩) 32 32, .slice (some ⟨p3, q3 + i * 32, none⟩) 32 32] 34)).drew
      obtain ⟨x15, hx15⟩ : ∃ W, W = (wr.alloc (.cells #[.slice (some ⟨gx, 0, none⟩) 32 32, .slice (some ⟨p3, q3 + i * 32, none⟩) 32 32] 34)).drew := ⟨_, rfl⟩
      rw [← hx15] at k15 b15 ⊢
      have K15 := hide k15
      have R15 := hide b15
      clear hx15 k15 b15
      refine hK.out _ _ (R15.out) (fun hHeld => ?_)
      clear hK K
      try simp only [Act.put, List.setIfInBounds_toArray, List.set_cons_zero, List.set_cons_succ, List.getElem_toArray, List.getElem_cons_succ, List.getElem_cons_zero]
      refine wpAnyH_ready (rs := [7]) (by kernel_rfl) (by simp) ?_
      refine AllReadyH.cons rfl (fun K hK => ?_) AllReadyH.nil
      go_simp
      refine (LXC.out x15 R15.out _ K15.out).mono ?_
      rintro e y15 ⟨v9, rfl, o15, b15⟩
      have R15b := hide (Below.step R15.out b15)
      have O9 := hide (And.intro o15 (show gx < x15.heap.size from (HK.out.1.below' R15.out).lt))
      have B9 := hide (R15b.out)
      clear o15 b15
      refine hK.out _ _ (R15b.out) (fun hHeld => ?_)
      clear hK K
      try simp only [Act.put, List.setIfInBounds_toArray, List.set_cons_zero, List.set_cons_succ, List.getElem_toArray, List.getElem_cons_succ, List.getElem_cons_zero]
      refine wpAnyH_take (i := 8) (v := ?_) rfl (by kernel_rfl) (by kernel_rfl) (by kernel_rfl) (fun _ _ _ h => h) (Or.inl ⟨by rfl, ?_⟩) (by assumption) ?_
      rotate_left
      ·(intro w9 hSw; (try dsimp only at hSw); go_simp; try with_reducible rfl)
      try simp only [Act.put, List.setIfInBounds_toArray, List.set_cons_zero, List.set_cons_succ, List.getElem_toArray, List.getElem_cons_succ, List.getElem_cons_zero]
      refine wpAnyH_done (by kernel_rfl) ?_ _
      refine noPanic_norm ?_
      go_wp2_with fail
      refine wp_region_noPanic ?_
      refine wp_region_held_drew (S := fun W => Below y15.heap.size y15 W) (by kernel_rfl) (Below.refl _ _).drew (fun hHeld => ?_)
      refine wpAnyH_take (i := 0) (v := ?_) rfl (by kernel_rfl) (by kernel_rfl) (by kernel_rfl) (fun _ _ _ h => h) (Or.inl ⟨by rfl, ?_⟩) (by assumption) ?_
      rotate_left
      ·(intro w9 hSw; (try dsimp only at hSw); go_simp; try with_reducible rfl)
      try simp only [Act.put, List.setIfInBounds_toArray, List.set_cons_zero, List.set_cons_succ, List.getElem_toArray, List.getElem_cons_succ, List.getElem_cons_zero]
      refine wpAnyH_take (i := 1) (v := ?_) rfl (by kernel_rfl) (by kernel_rfl) (by kernel_rfl) (fun _ _ _ h => h) (Or.inl ⟨by rfl, ?_⟩) (by assumption) ?_
      rotate_left
      ·(intro w9 hSw; (try dsimp only at hSw); go_simp; try with_reducible rfl)
      try simp only [Act.put, List.setIfInBounds_toArray, List.set_cons_zero, List.set_cons_succ, List.getElem_toArray, List.getElem_cons_succ, List.getElem_cons_zero]
      refine wpAnyH_take (i := 2) (v := .slice (some ⟨p4, q4, none⟩) gl m1) rfl (by kernel_rfl) (by kernel_rfl) (by kernel_rfl) (fun _ _ _ h => h) (Or.inl ⟨by rfl, ?_⟩) (by assumption) ?_
      ·(intro W hW; exact ex_loadC 26 (.tmp 69) (by kernel_rfl) ⟨w.heap.size + 1, 69, none⟩ (by kernel_rfl) _ _ ((HL.out W (Below.step B9.out hW)).2) Tryz.underlying26 rfl)
      try simp only [Act.put, List.setIfInBounds_toArray, List.set_cons_zero, List.set_cons_succ, List.getElem_toArray, List.getElem_cons_succ, List.getElem_cons_zero]
      refine wpAnyH_take (i := 3) (v := ?_) rfl (by kernel_rfl) (by kernel_rfl) (by kernel_rfl) (fun _ _ _ h => h) (Or.inl ⟨by rfl, ?_⟩) (by assumption) ?_
      rotate_left
      ·(intro w9 hSw; (try dsimp only at hSw); go_simp; try with_reducible rfl)
      try simp only [Act.put, List.setIfInBounds_toArray, List.set_cons_zero, List.set_cons_succ, List.getElem_toArray, List.getElem_cons_succ, List.getElem_cons_zero]
      refine wpAnyH_take (i := 4) (v := ?_) rfl (by kernel_rfl) (by kernel_rfl) (by kernel_rfl) (fun _ _ _ h => h) (Or.inl ⟨by rfl, ?_⟩) (by assumption) ?_
      rotate_left
      ·(intro w9 hSw; (try dsimp only at hSw); go_simp; try with_reducible rfl)
      try simp only [Act.put, List.setIfInBounds_toArray, List.set_cons_zero, List.set_cons_succ, List.getElem_toArray, List.getElem_cons_succ, List.getElem_cons_zero]
      refine wpAnyH_take (i := 5) (v := ?_) rfl (by kernel_rfl) (by kernel_rfl) (by kernel_rfl) (fun _ _ _ h => h) (Or.inl ⟨by rfl, ?_⟩) (by assumption) ?_
      rotate_left
      ·(intro w9 hSw; (try dsimp only at hSw); go_simp; try with_reducible rfl)
      try simp only [Act.put, List.setIfInBounds_toArray, List.set_cons_zero, List.set_cons_succ, List.getElem_toArray, List.getElem_cons_succ, List.getElem_cons_zero]
      refine wpAnyH_ready (rs := [6]) (by kernel_rfl) (by simp) ?_
      refine AllReadyH.cons rfl (fun K hK => ?_) AllReadyH.nil
      go_simp
      have k16 := (Blk.new y15 34 #[.slice (some ⟨gy, 0, none⟩) 32 32, .slice (some ⟨p4, q4 + i * 32, none⟩) 32 32]).drew
      have b16 := ((Below.refl _ y15).alloc (Nat.le_refl _) (.cells #[.slice (some ⟨gy, 0, none⟩) 32 32, .slice (some ⟨p4, q4 + i * 32, none⟩) 32 32] 34)).drew
      obtain ⟨x16, hx16⟩ : ∃ W, W = (y15.alloc (.cells #[.slice (some ⟨gy, 0, none⟩) 32 32, .slice (some ⟨p4, q4 + i * 32, none⟩) 32 32] 34)).drew := ⟨_, rfl⟩
      rw [← hx16] at k16 b16 ⊢
      have K16 := hide k16
      have R16 := hide b16
      clear hx16 k16 b16
      refine hK.out _ _ (R16.out) (fun hHeld => ?_)
      clear hK K
      try simp only [Act.put, List.setIfInBounds_toArray, List.set_cons_zero, List.set_cons_succ, List.getElem_toArray, List.getElem_cons_succ, List.getElem_cons_zero]
      refine wpAnyH_ready (rs := [7]) (by kernel_rfl) (by simp) ?_
      refine AllReadyH.cons rfl (fun K hK => ?_) AllReadyH.nil
      go_simp
      refine (LYE.out x16 (Below.step B9.out R16.out) _ K16.out).mono ?_
      rintro e y16 ⟨v10, rfl, o16, b16⟩
      have R16b := hide (Below.step R16.out b16)
      have O10 := hide (And.intro o16 (show gx < x16.heap.size from (HK.out.1.below' (Below.step B9.out R16.out)).lt))
      have B10 := hide ((Below.step B9.out R16b.out))
      have O9b := hide (And.intro (O9.out.1.below R16b.out) O9.out.2)
      clear o16 b16
      refine hK.out _ _ (R16b.out) (fun hHeld => ?_)
      clear hK K
      try simp only [Act.put, List.setIfInBounds_toArray, List.set_cons_zero, List.set_cons_succ, List.getElem_toArray, List.getElem_cons_succ, List.getElem_cons_zero]
      refine wpAnyH_take (i := 8) (v := ?_) rfl (by kernel_rfl) (by kernel_rfl) (by kernel_rfl) (fun _ _ _ h => h) (Or.inl ⟨by rfl, ?_⟩) (by assumption) ?_
      rotate_left
      ·(intro w9 hSw; (try dsimp only at hSw); go_simp; try with_reducible rfl)
      try simp only [Act.put, List.setIfInBounds_toArray, List.set_cons_zero, List.set_cons_succ, List.getElem_toArray, List.getElem_cons_succ, List.getElem_cons_zero]
      refine wpAnyH_done (by kernel_rfl) ?_ _
      refine noPanic_norm ?_
      go_wp2_with fail
      refine wp_region_noPanic ?_
      refine wp_region_held_drew (S := fun W => Below y16.heap.size y16 W) (by kernel_rfl) (Below.refl _ _).drew (fun hHeld => ?_)
      refine wpAnyH_take (i := 0) (v := ?_) rfl (by kernel_rfl) (by kernel_rfl) (by kernel_rfl) (fun _ _ _ h => h) (Or.inl ⟨by rfl, ?_⟩) (by assumption) ?_
      rotate_left
      ·(intro w9 hSw; (try dsimp only at hSw); go_simp; try with_reducible rfl)
      try simp only [Act.put, List.setIfInBounds_toArray, List.set_cons_zero, List.set_cons_succ, List.getElem_toArray, List.getElem_cons_succ, List.getElem_cons_zero]
      refine wpAnyH_take (i := 1) (v := .slice (some ⟨p3, q3, none⟩) fl n1) rfl (by kernel_rfl) (by kernel_rfl) (by kernel_rfl) (fun _ _ _ h => h) (Or.inl ⟨by rfl, ?_⟩) (by assumption) ?_
      ·(intro W hW; exact ex_loadC 26 (.tmp 79) (by kernel_rfl) ⟨w.heap.size, 69, none⟩ (by kernel_rfl) _ _ ((HL.out W (Below.step B10.out hW)).1) Tryz.underlying26 rfl)
      try simp only [Act.put, List.setIfInBounds_toArray, List.set_cons_zero, List.set_cons_succ, List.getElem_toArray, List.getElem_cons_succ, List.getElem_cons_zero]
      refine wpAnyH_take (i := 2) (v := ?_) rfl (by kernel_rfl) (by kernel_rfl) (by kernel_rfl) (fun _ _ _ h => h) (Or.inl ⟨by rfl, ?_⟩) (by assumption) ?_
      rotate_left
      ·(intro w9 hSw; (try dsimp only at hSw); go_simp; try with_reducible rfl)
      try simp only [Act.put, List.setIfInBounds_toArray, List.set_cons_zero, List.set_cons_succ, List.getElem_toArray, List.getElem_cons_succ, List.getElem_cons_zero]
      refine wpAnyH_take (i := 3) (v := ?_) rfl (by kernel_rfl) (by kernel_rfl) (by kernel_rfl) (fun _ _ _ h => h) (Or.inl ⟨by rfl, ?_⟩) (by assumption) ?_
      rotate_left
      ·(intro w9 hSw; (try dsimp only at hSw); go_simp; try with_reducible rfl)
      try simp only [Act.put, List.setIfInBounds_toArray, List.set_cons_zero, List.set_cons_succ, List.getElem_toArray, List.getElem_cons_succ, List.getElem_cons_zero]
      refine wpAnyH_take (i := 4) (v := ?_) rfl (by kernel_rfl) (by kernel_rfl) (by kernel_rfl) (fun _ _ _ h => h) (Or.inl ⟨by rfl, ?_⟩) (by assumption) ?_
      rotate_left
      ·(intro w9 hSw; (try dsimp only at hSw); go_simp; try with_reducible rfl)
      try simp only [Act.put, List.setIfInBounds_toArray, List.set_cons_zero, List.set_cons_succ, List.getElem_toArray, List.getElem_cons_succ, List.getElem_cons_zero]
      refine wpAnyH_take (i := 5) (v := ?_) rfl (by kernel_rfl) (by kernel_rfl) (by kernel_rfl) (fun _ _ _ h => h) (Or.inl ⟨by rfl, ?_⟩) (by assumption) ?_
      rotate_left
      ·(intro w9 hSw; (try dsimp only at hSw); go_simp; try with_reducible rfl)
      try simp only [Act.put, List.setIfInBounds_toArray, List.set_cons_zero, List.set_cons_succ, List.getElem_toArray, List.getElem_cons_succ, List.getElem_cons_zero]
      refine wpAnyH_ready (rs := [6]) (by kernel_rfl) (by simp) ?_
      refine AllReadyH.cons rfl (fun K hK => ?_) AllReadyH.nil
      go_simp
      have k17 := (Blk.new y16 34 #[.slice (some ⟨p3, q3 + i * 32, none⟩) 32 32, .slice (some ⟨gx, 0, none⟩) 32 32]).drew
      have b17 := ((Below.refl _ y16).alloc (Nat.le_refl _) (.cells #[.slice (some ⟨p3, q3 + i * 32, none⟩) 32 32, .slice (some ⟨gx, 0, none⟩) 32 32] 34)).drew
      obtain ⟨x17, hx17⟩ : ∃ W, W = (y16.alloc (.cells #[.slice (some ⟨p3, q3 + i * 32, none⟩) 32 32, .slice (some ⟨gx, 0, none⟩) 32 32] 34)).drew := ⟨_, rfl⟩
      rw [← hx17] at k17 b17 ⊢
      have K17 := hide k17
      have R17 := hide b17
      clear hx17 k17 b17
      refine hK.out _ _ (R17.out) (fun hHeld => ?_)
      clear hK K
      try simp only [Act.put, List.setIfInBounds_toArray, List.set_cons_zero, List.set_cons_succ, List.getElem_toArray, List.getElem_cons_succ, List.getElem_cons_zero]
      refine wpAnyH_ready (rs := [7]) (by kernel_rfl) (by simp) ?_
      refine AllReadyH.cons rfl (fun K hK => ?_) AllReadyH.nil
      go_simp
      refine (LCX.out x17 (Below.step B10.out R17.out) _ K17.out).mono ?_
      rintro e y17 ⟨v9b, rfl, o17, b17⟩
      have R17b := hide (Below.step R17.out b17)
      have P9 := hide (And.intro o17 (show gx < x17.heap.size from (HK.out.1.below' (Below.step B10.out R17.out)).lt))
      have B11 := hide ((Below.step B10.out R17b.out))
      clear o17 b17
      refine hK.out _ _ (R17b.out) (fun hHeld => ?_)
      clear hK K
      try simp only [Act.put, List.setIfInBounds_toArray, List.set_cons_zero, List.set_cons_succ, List.getElem_toArray, List.getElem_cons_succ, List.getElem_cons_zero]
      refine wpAnyH_take (i := 8) (v := ?_) rfl (by kernel_rfl) (by kernel_rfl) (by kernel_rfl) (fun _ _ _ h => h) (Or.inl ⟨by rfl, ?_⟩) (by assumption) ?_
      rotate_left
      ·(intro w9 hSw; (try dsimp only at hSw); go_simp; try with_reducible rfl)
      try simp only [Act.put, List.setIfInBounds_toArray, List.set_cons_zero, List.set_cons_succ, List.getElem_toArray, List.getElem_cons_succ, List.getElem_cons_zero]
      refine wpAnyH_done (by kernel_rfl) ?_ _
      refine noPanic_norm ?_
      go_wp2_with fail
      refine wp_region_noPanic ?_
      refine wp_region_held_drew (S := fun W => Below y17.heap.size y17 W) (by kernel_rfl) (Below.refl _ _).drew (fun hHeld => ?_)
      refine wpAnyH_take (i := 0) (v := ?_) rfl (by kernel_rfl) (by kernel_rfl) (by kernel_rfl) (fun _ _ _ h => h) (Or.inl ⟨by rfl, ?_⟩) (by assumption) ?_
      rotate_left
      ·(intro w9 hSw; (try dsimp only at hSw); go_simp; try with_reducible rfl)
      try simp only [Act.put, List.setIfInBounds_toArray, List.set_cons_zero, List.set_cons_succ, List.getElem_toArray, List.getElem_cons_succ, List.getElem_cons_zero]
      refine wpAnyH_take (i := 1) (v := .slice (some ⟨p4, q4, none⟩) gl m1) rfl (by kernel_rfl) (by kernel_rfl) (by kernel_rfl) (fun _ _ _ h => h) (Or.inl ⟨by rfl, ?_⟩) (by assumption) ?_
      ·(intro W hW; exact ex_loadC 26 (.tmp 87) (by kernel_rfl) ⟨w.heap.size + 1, 69, none⟩ (by kernel_rfl) _ _ ((HL.out W (Below.step B11.out hW)).2) Tryz.underlying26 rfl)
      try simp only [Act.put, List.setIfInBounds_toArray, List.set_cons_zero, List.set_cons_succ, List.getElem_toArray, List.getElem_cons_succ, List.getElem_cons_zero]
      refine wpAnyH_take (i := 2) (v := ?_) rfl (by kernel_rfl) (by kernel_rfl) (by kernel_rfl) (fun _ _ _ h => h) (Or.inl ⟨by rfl, ?_⟩) (by assumption) ?_
      rotate_left
      ·(intro w9 hSw; (try dsimp only at hSw); go_simp; try with_reducible rfl)
      try simp only [Act.put, List.setIfInBounds_toArray, List.set_cons_zero, List.set_cons_succ, List.getElem_toArray, List.getElem_cons_succ, List.getElem_cons_zero]
      refine wpAnyH_take (i := 3) (v := ?_) rfl (by kernel_rfl) (by kernel_rfl) (by kernel_rfl) (fun _ _ _ h => h) (Or.inl ⟨by rfl, ?_⟩) (by assumption) ?_
      rotate_left
      ·(intro w9 hSw; (try dsimp only at hSw); go_simp; try with_reducible rfl)
      try simp only [Act.put, List.setIfInBounds_toArray, List.set_cons_zero, List.set_cons_succ, List.getElem_toArray, List.getElem_cons_succ, List.getElem_cons_zero]
      refine wpAnyH_take (i := 4) (v := ?_) rfl (by kernel_rfl) (by kernel_rfl) (by kernel_rfl) (fun _ _ _ h => h) (Or.inl ⟨by rfl, ?_⟩) (by assumption) ?_
      rotate_left
      ·(intro w9 hSw; (try dsimp only at hSw); go_simp; try with_reducible rfl)
      try simp only [Act.put, List.setIfInBounds_toArray, List.set_cons_zero, List.set_cons_succ, List.getElem_toArray, List.getElem_cons_succ, List.getElem_cons_zero]
      refine wpAnyH_take (i := 5) (v := ?_) rfl (by kernel_rfl) (by kernel_rfl) (by kernel_rfl) (fun _ _ _ h => h) (Or.inl ⟨by rfl, ?_⟩) (by assumption) ?_
      rotate_left
      ·(intro w9 hSw; (try dsimp only at hSw); go_simp; try with_reducible rfl)
      try simp only [Act.put, List.setIfInBounds_toArray, List.set_cons_zero, List.set_cons_succ, List.getElem_toArray, List.getElem_cons_succ, List.getElem_cons_zero]
      refine wpAnyH_ready (rs := [6]) (by kernel_rfl) (by simp) ?_
      refine AllReadyH.cons rfl (fun K hK => ?_) AllReadyH.nil
      go_simp
      have k18 := (Blk.new y17 34 #[.slice (some ⟨p4, q4 + i * 32, none⟩) 32 32, .slice (some ⟨gy, 0, none⟩) 32 32]).drew
      have b18 := ((Below.refl _ y17).alloc (Nat.le_refl _) (.cells #[.slice (some ⟨p4, q4 + i * 32, none⟩) 32 32, .slice (some ⟨gy, 0, none⟩) 32 32] 34)).drew
      obtain ⟨x18, hx18⟩ : ∃ W, W = (y17.alloc (.cells #[.slice (some ⟨p4, q4 + i * 32, none⟩) 32 32, .slice (some ⟨gy, 0, none⟩) 32 32] 34)).drew := ⟨_, rfl⟩
      rw [← hx18] at k18 b18 ⊢
      have K18 := hide k18
      have R18 := hide b18
      clear hx18 k18 b18
      refine hK.out _ _ (R18.out) (fun hHeld => ?_)
      clear hK K
      try simp only [Act.put, List.setIfInBounds_toArray, List.set_cons_zero, List.set_cons_succ, List.getElem_toArray, List.getElem_cons_succ, List.getElem_cons_zero]
      refine wpAnyH_ready (rs := [7]) (by kernel_rfl) (by simp) ?_
      refine AllReadyH.cons rfl (fun K hK => ?_) AllReadyH.nil
      go_simp
      refine (LEY.out x18 (Below.step B11.out R18.out) _ K18.out).mono ?_
      rintro e y18 ⟨v10b, rfl, o18, b18⟩
      have R18b := hide (Below.step R18.out b18)
      have P10 := hide (And.intro o18 (show gx < x18.heap.size from (HK.out.1.below' (Below.step B11.out R18.out)).lt))
      have B12 := hide ((Below.step B11.out R18b.out))
      have P9b := hide (And.intro (P9.out.1.below R18b.out) P9.out.2)
      clear o18 b18
      refine hK.out _ _ (R18b.out) (fun hHeld => ?_)
      clear hK K
      try simp only [Act.put, List.setIfInBounds_toArray, List.set_cons_zero, List.set_cons_succ, List.getElem_toArray, List.getElem_cons_succ, List.getElem_cons_zero]
      refine wpAnyH_take (i := 8) (v := ?_) rfl (by kernel_rfl) (by kernel_rfl) (by kernel_rfl) (fun _ _ _ h => h) (Or.inl ⟨by rfl, ?_⟩) (by assumption) ?_
      rotate_left
      ·(intro w9 hSw; (try dsimp only at hSw); go_simp; try with_reducible rfl)
      try simp only [Act.put, List.setIfInBounds_toArray, List.set_cons_zero, List.set_cons_succ, List.getElem_toArray, List.getElem_cons_succ, List.getElem_cons_zero]
      refine wpAnyH_done (by kernel_rfl) ?_ _
      refine noPanic_norm ?_
      go_wp2_with fail
      refine (LC2.out y18 v9b v10b P9b.out.1.by_ P10.out.1.by_).mono ?_
      rintro e z1 ⟨rfl, bz1⟩
      have Z1 := hide (Below.step B12.out bz1)
      have OXa := hide (And.intro (P9b.out.1.below bz1) P9b.out.2)
      have OYa := hide (And.intro (P10.out.1.below bz1) P10.out.2)
      clear bz1
      by_cases hcl : tx ≠ ty ∧ shaL tx = shaL ty
      ·rw [decide_eq_true hcl]
       clear hcl
       go_wp2
       go_ret
       first | exact ⟨Below.step HB0.out (Below.step HBB.out Z1.out), true, rfl, fun h => by cases h⟩ | exact ⟨Below.step HB0.out (Below.step HBB.out Z1.out), .inr rfl⟩
      have HNXT := hide (HNX0.out hcl)
      rw [decide_eq_false hcl]
      clear hcl
      go_wp2_with fail
      refine (S1.out z1 v9b OXa.out.1.by_).mono ?_
      rintro e z2 ⟨rfl, bz2⟩
      have Z2 := hide (Below.step Z1.out bz2)
      have OYb := hide (And.intro (OYa.out.1.below bz2) OYa.out.2)
      have KX2 := hide (HK.out.1.below' Z2.out)
      have KY2 := hide (HK.out.2.below' Z2.out)
      clear bz2
      go_wp2_with ((with_reducible change wpList _ _ _ (⟨none, .store _ (.tmp 5) _, _, _, _, _⟩ :: _) _ _); go_loud (refine wpList_store_row (o := ⟨none, .store _ (.tmp 5) _, _, _, _, _⟩) (KX2.out) (NX) (by rw [HSX.out.1, HSX.out.2.1]) (HSX.out.2.2.2.2.1) rfl 23 _ _ rfl (by rw [HSX.out.1]; kernel_rfl) rfl rfl ?_; intro w7 hb7 hg7; have H7 := hide (And.intro hb7 hg7); have OYc := hide (show By w7 v10b _ from Own.by_ (own_keep OYb.out.1 hg7 OYb.out.2)); have KY3 := hide (KY2.out.grown hg7 (by intro e; injection e with e; have := HG.out; omega)); have Z3 := hide ((Below.step HBB.out Z2.out).grown hg7 (Below.step HBB.out Z2.out).size (fun j hj => by injection hj with hj; have := HG.out; omega)); clear hb7 hg7))
      refine (S2.out w7 v10b OYc.out).mono ?_
      rintro e z4 ⟨rfl, bz4⟩
      have Z4 := hide (Below.step Z3.out bz4)
      have KX4 := hide (H7.out.1.below' bz4)
      have KY4 := hide (KY3.out.below' bz4)
      clear bz4
      go_wp2_with ((with_reducible change wpList _ _ _ (⟨none, .store _ (.tmp 6) _, _, _, _, _⟩ :: _) _ _); go_loud (refine wpList_store_row (o := ⟨none, .store _ (.tmp 6) _, _, _, _, _⟩) (KY4.out) (NY) (by rw [HSX.out.2.2.1, HSX.out.2.2.2.1]) (HSX.out.2.2.2.2.2) rfl 23 _ _ rfl (by rw [HSX.out.2.2.1]; kernel_rfl) rfl rfl ?_; intro w9 hb9 hg9; have H9 := hide hb9; have KX5 := hide (KX4.out.grown hg9 (by intro e; injection e with e; have := HG.out; omega)); have Z5 := hide (Z4.out.grown hg9 Z4.out.size (fun j hj => by injection hj with hj; have := HG.out; omega)); clear hb9 hg9))
      go_roundw
      case rel => exact ⟨i + 1, p / 2, shaL tx, shaL ty, by omega, by omega, by omega, by go_num, by go_num, shaL_length _, shaL_length _, by rw [← HNX.out.1]; exact KX5.out, by rw [← HNX.out.2]; exact H9.out, HNXT.out, Z5.out⟩
      case measure => simp [intOf]; omega
     ·have hrem : (p : Int).tmod 2 = 0 := by rw [Int.tmod_eq_emod_of_nonneg (by omega)]; omega
      have hsx : tx = tag2 6 x c := by rw [htx]; unfold stepL; rw [if_neg hodd]
      have hsy : ty = tag2 6 y e' := by rw [hty]; unfold stepL; rw [if_neg hodd]
      rw [← hsx] at LXC
      rw [← hsy] at LYE
      clear hsx hsy htx hty htl hNX hNY hc he r3 r4 l3 l4 s3 s4 hxl hyl kx ky hbel
      go_wp2_with fail
      refine wp_region_noPanic ?_
      refine wp_region_held_drew (S := fun W => Below wr.heap.size wr W) (by kernel_rfl) (Below.refl _ _).drew (fun hHeld => ?_)
      refine wpAnyH_take (i := 0) (v := ?_) rfl (by kernel_rfl) (by kernel_rfl) (by kernel_rfl) (fun _ _ _ h => h) (Or.inl ⟨by rfl, ?_⟩) (by assumption) ?_
      rotate_left
      ·(intro w9 hSw; (try dsimp only at hSw); go_simp; try with_reducible rfl)
      try simp only [Act.put, List.setIfInBounds_toArray, List.set_cons_zero, List.set_cons_succ, List.getElem_toArray, List.getElem_cons_succ, List.getElem_cons_zero]
      refine wpAnyH_take (i := 1) (v := ?_) rfl (by kernel_rfl) (by kernel_rfl) (by kernel_rfl) (fun _ _ _ h => h) (Or.inl ⟨by rfl, ?_⟩) (by assumption) ?_
      rotate_left
      ·(intro w9 hSw; (try dsimp only at hSw); go_simp; try with_reducible rfl)
      try simp only [Act.put, List.setIfInBounds_toArray, List.set_cons_zero, List.set_cons_succ, List.getElem_toArray, List.getElem_cons_succ, List.getElem_cons_zero]
      refine wpAnyH_take (i := 2) (v := .slice (some ⟨p3, q3, none⟩) fl n1) rfl (by kernel_rfl) (by kernel_rfl) (by kernel_rfl) (fun _ _ _ h => h) (Or.inl ⟨by rfl, ?_⟩) (by assumption) ?_
      ·(intro W hW; exact ex_loadC 26 (.tmp 61) (by kernel_rfl) ⟨w.heap.size, 69, none⟩ (by kernel_rfl) _ _ ((HL.out W hW).1) Tryz.underlying26 rfl)
      try simp only [Act.put, List.setIfInBounds_toArray, List.set_cons_zero, List.set_cons_succ, List.getElem_toArray, List.getElem_cons_succ, List.getElem_cons_zero]
      refine wpAnyH_take (i := 3) (v := ?_) rfl (by kernel_rfl) (by kernel_rfl) (by kernel_rfl) (fun _ _ _ h => h) (Or.inl ⟨by rfl, ?_⟩) (by assumption) ?_
      rotate_left
      ·(intro w9 hSw; (try dsimp only at hSw); go_simp; try with_reducible rfl)
      try simp only [Act.put, List.setIfInBounds_toArray, List.set_cons_zero, List.set_cons_succ, List.getElem_toArray, List.getElem_cons_succ, List.getElem_cons_zero]
      refine wpAnyH_take (i := 4) (v := ?_) rfl (by kernel_rfl) (by kernel_rfl) (by kernel_rfl) (fun _ _ _ h => h) (Or.inl ⟨by rfl, ?_⟩) (by assumption) ?_
      rotate_left
      ·(intro w9 hSw; (try dsimp only at hSw); go_simp; try with_reducible rfl)
      try simp only [Act.put, List.setIfInBounds_toArray, List.set_cons_zero, List.set_cons_succ, List.getElem_toArray, List.getElem_cons_succ, List.getElem_cons_zero]
      refine wpAnyH_take (i := 5) (v := ?_) rfl (by kernel_rfl) (by kernel_rfl) (by kernel_rfl) (fun _ _ _ h => h) (Or.inl ⟨by rfl, ?_⟩) (by assumption) ?_
      rotate_left
      ·(intro w9 hSw; (try dsimp only at hSw); go_simp; try with_reducible rfl)
      try simp only [Act.put, List.setIfInBounds_toArray, List.set_cons_zero, List.set_cons_succ, List.getElem_toArray, List.getElem_cons_succ, List.getElem_cons_zero]
      refine wpAnyH_ready (rs := [6]) (by kernel_rfl) (by simp) ?_
      refine AllReadyH.cons rfl (fun K hK => ?_) AllReadyH.nil
      go_simp
      have k19 := (Blk.new wr 34 #[.slice (some ⟨gx, 0, none⟩) 32 32, .slice (some ⟨p3, q3 + i * 32, none⟩) 32 32]).drew
      have b19 := ((Below.refl _ wr).alloc (Nat.le_refl _) (.cells #[.slice (some ⟨gx, 0, none⟩) 32 32, .slice (some ⟨p3, q3 + i * 32, none⟩) 32 32] 34)).drew
      obtain ⟨x19, hx19⟩ : ∃ W, W = (wr.alloc (.cells #[.slice (some ⟨gx, 0, none⟩) 32 32, .slice (some ⟨p3, q3 + i * 32, none⟩) 32 32] 34)).drew := ⟨_, rfl⟩
      rw [← hx19] at k19 b19 ⊢
      have K19 := hide k19
      have R19 := hide b19
      clear hx19 k19 b19
      refine hK.out _ _ (R19.out) (fun hHeld => ?_)
      clear hK K
      try simp only [Act.put, List.setIfInBounds_toArray, List.set_cons_zero, List.set_cons_succ, List.getElem_toArray, List.getElem_cons_succ, List.getElem_cons_zero]
      refine wpAnyH_ready (rs := [7]) (by kernel_rfl) (by simp) ?_
      refine AllReadyH.cons rfl (fun K hK => ?_) AllReadyH.nil
      go_simp
      refine (LXC.out x19 R19.out _ K19.out).mono ?_
      rintro e y19 ⟨v9, rfl, o19, b19⟩
      have R19b := hide (Below.step R19.out b19)
      have O9 := hide (And.intro o19 (show gx < x19.heap.size from (HK.out.1.below' R19.out).lt))
      have B9 := hide (R19b.out)
      clear o19 b19
      refine hK.out _ _ (R19b.out) (fun hHeld => ?_)
      clear hK K
      try simp only [Act.put, List.setIfInBounds_toArray, List.set_cons_zero, List.set_cons_succ, List.getElem_toArray, List.getElem_cons_succ, List.getElem_cons_zero]
      refine wpAnyH_take (i := 8) (v := ?_) rfl (by kernel_rfl) (by kernel_rfl) (by kernel_rfl) (fun _ _ _ h => h) (Or.inl ⟨by rfl, ?_⟩) (by assumption) ?_
      rotate_left
      ·(intro w9 hSw; (try dsimp only at hSw); go_simp; try with_reducible rfl)
      try simp only [Act.put, List.setIfInBounds_toArray, List.set_cons_zero, List.set_cons_succ, List.getElem_toArray, List.getElem_cons_succ, List.getElem_cons_zero]
      refine wpAnyH_done (by kernel_rfl) ?_ _
      refine noPanic_norm ?_
      go_wp2_with fail
      refine wp_region_noPanic ?_
      refine wp_region_held_drew (S := fun W => Below y19.heap.size y19 W) (by kernel_rfl) (Below.refl _ _).drew (fun hHeld => ?_)
      refine wpAnyH_take (i := 0) (v := ?_) rfl (by kernel_rfl) (by kernel_rfl) (by kernel_rfl) (fun _ _ _ h => h) (Or.inl ⟨by rfl, ?_⟩) (by assumption) ?_
      rotate_left
      ·(intro w9 hSw; (try dsimp only at hSw); go_simp; try with_reducible rfl)
      try simp only [Act.put, List.setIfInBounds_toArray, List.set_cons_zero, List.set_cons_succ, List.getElem_toArray, List.getElem_cons_succ, List.getElem_cons_zero]
      refine wpAnyH_take (i := 1) (v := ?_) rfl (by kernel_rfl) (by kernel_rfl) (by kernel_rfl) (fun _ _ _ h => h) (Or.inl ⟨by rfl, ?_⟩) (by assumption) ?_
      rotate_left
      ·(intro w9 hSw; (try dsimp only at hSw); go_simp; try with_reducible rfl)
      try simp only [Act.put, List.setIfInBounds_toArray, List.set_cons_zero, List.set_cons_succ, List.getElem_toArray, List.getElem_cons_succ, List.getElem_cons_zero]
      refine wpAnyH_take (i := 2) (v := .slice (some ⟨p4, q4, none⟩) gl m1) rfl (by kernel_rfl) (by kernel_rfl) (by kernel_rfl) (fun _ _ _ h => h) (Or.inl ⟨by rfl, ?_⟩) (by assumption) ?_
      ·(intro W hW; exact ex_loadC 26 (.tmp 69) (by kernel_rfl) ⟨w.heap.size + 1, 69, none⟩ (by kernel_rfl) _ _ ((HL.out W (Below.step B9.out hW)).2) Tryz.underlying26 rfl)
      try simp only [Act.put, List.setIfInBounds_toArray, List.set_cons_zero, List.set_cons_succ, List.getElem_toArray, List.getElem_cons_succ, List.getElem_cons_zero]
      refine wpAnyH_take (i := 3) (v := ?_) rfl (by kernel_rfl) (by kernel_rfl) (by kernel_rfl) (fun _ _ _ h => h) (Or.inl ⟨by rfl, ?_⟩) (by assumption) ?_
      rotate_left
      ·(intro w9 hSw; (try dsimp only at hSw); go_simp; try with_reducible rfl)
      try simp only [Act.put, List.setIfInBounds_toArray, List.set_cons_zero, List.set_cons_succ, List.getElem_toArray, List.getElem_cons_succ, List.getElem_cons_zero]
      refine wpAnyH_take (i := 4) (v := ?_) rfl (by kernel_rfl) (by kernel_rfl) (by kernel_rfl) (fun _ _ _ h => h) (Or.inl ⟨by rfl, ?_⟩) (by assumption) ?_
      rotate_left
      ·(intro w9 hSw; (try dsimp only at hSw); go_simp; try with_reducible rfl)
      try simp only [Act.put, List.setIfInBounds_toArray, List.set_cons_zero, List.set_cons_succ, List.getElem_toArray, List.getElem_cons_succ, List.getElem_cons_zero]
      refine wpAnyH_take (i := 5) (v := ?_) rfl (by kernel_rfl) (by kernel_rfl) (by kernel_rfl) (fun _ _ _ h => h) (Or.inl ⟨by rfl, ?_⟩) (by assumption) ?_
      rotate_left
      ·(intro w9 hSw; (try dsimp only at hSw); go_simp; try with_reducible rfl)
      try simp only [Act.put, List.setIfInBounds_toArray, List.set_cons_zero, List.set_cons_succ, List.getElem_toArray, List.getElem_cons_succ, List.getElem_cons_zero]
      refine wpAnyH_ready (rs := [6]) (by kernel_rfl) (by simp) ?_
      refine AllReadyH.cons rfl (fun K hK => ?_) AllReadyH.nil
      go_simp
      have k20 := (Blk.new y19 34 #[.slice (some ⟨gy, 0, none⟩) 32 32, .slice (some ⟨p4, q4 + i * 32, none⟩) 32 32]).drew
      have b20 := ((Below.refl _ y19).alloc (Nat.le_refl _) (.cells #[.slice (some ⟨gy, 0, none⟩) 32 32, .slice (some ⟨p4, q4 + i * 32, none⟩) 32 32] 34)).drew
      obtain ⟨x20, hx20⟩ : ∃ W, W = (y19.alloc (.cells #[.slice (some ⟨gy, 0, none⟩) 32 32, .slice (some ⟨p4, q4 + i * 32, none⟩) 32 32] 34)).drew := ⟨_, rfl⟩
      rw [← hx20] at k20 b20 ⊢
      have K20 := hide k20
      have R20 := hide b20
      clear hx20 k20 b20
      refine hK.out _ _ (R20.out) (fun hHeld => ?_)
      clear hK K
      try simp only [Act.put, List.setIfInBounds_toArray, List.set_cons_zero, List.set_cons_succ, List.getElem_toArray, List.getElem_cons_succ, List.getElem_cons_zero]
      refine wpAnyH_ready (rs := [7]) (by kernel_rfl) (by simp) ?_
      refine AllReadyH.cons rfl (fun K hK => ?_) AllReadyH.nil
      go_simp
      refine (LYE.out x20 (Below.step B9.out R20.out) _ K20.out).mono ?_
      rintro e y20 ⟨v10, rfl, o20, b20⟩
      have R20b := hide (Below.step R20.out b20)
      have O10 := hide (And.intro o20 (show gx < x20.heap.size from (HK.out.1.below' (Below.step B9.out R20.out)).lt))
      have B10 := hide ((Below.step B9.out R20b.out))
      have O9b := hide (And.intro (O9.out.1.below R20b.out) O9.out.2)
      clear o20 b20
      refine hK.out _ _ (R20b.out) (fun hHeld => ?_)
      clear hK K
      try simp only [Act.put, List.setIfInBounds_toArray, List.set_cons_zero, List.set_cons_succ, List.getElem_toArray, List.getElem_cons_succ, List.getElem_cons_zero]
      refine wpAnyH_take (i := 8) (v := ?_) rfl (by kernel_rfl) (by kernel_rfl) (by kernel_rfl) (fun _ _ _ h => h) (Or.inl ⟨by rfl, ?_⟩) (by assumption) ?_
      rotate_left
      ·(intro w9 hSw; (try dsimp only at hSw); go_simp; try with_reducible rfl)
      try simp only [Act.put, List.setIfInBounds_toArray, List.set_cons_zero, List.set_cons_succ, List.getElem_toArray, List.getElem_cons_succ, List.getElem_cons_zero]
      refine wpAnyH_done (by kernel_rfl) ?_ _
      refine noPanic_norm ?_
      go_wp2_with fail
      refine (LC2.out y20 v9 v10 O9b.out.1.by_ O10.out.1.by_).mono ?_
      rintro e z1 ⟨rfl, bz1⟩
      have Z1 := hide (Below.step B10.out bz1)
      have OXa := hide (And.intro (O9b.out.1.below bz1) O9b.out.2)
      have OYa := hide (And.intro (O10.out.1.below bz1) O10.out.2)
      clear bz1
      by_cases hcl : tx ≠ ty ∧ shaL tx = shaL ty
      ·rw [decide_eq_true hcl]
       clear hcl
       go_wp2
       go_ret
       first | exact ⟨Below.step HB0.out (Below.step HBB.out Z1.out), true, rfl, fun h => by cases h⟩ | exact ⟨Below.step HB0.out (Below.step HBB.out Z1.out), .inr rfl⟩
      have HNXT := hide (HNX0.out hcl)
      rw [decide_eq_false hcl]
      clear hcl
      go_wp2_with fail
      refine (S1.out z1 v9 OXa.out.1.by_).mono ?_
      rintro e z2 ⟨rfl, bz2⟩
      have Z2 := hide (Below.step Z1.out bz2)
      have OYb := hide (And.intro (OYa.out.1.below bz2) OYa.out.2)
      have KX2 := hide (HK.out.1.below' Z2.out)
      have KY2 := hide (HK.out.2.below' Z2.out)
      clear bz2
      go_wp2_with ((with_reducible change wpList _ _ _ (⟨none, .store _ (.tmp 5) _, _, _, _, _⟩ :: _) _ _); go_loud (refine wpList_store_row (o := ⟨none, .store _ (.tmp 5) _, _, _, _, _⟩) (KX2.out) (NX) (by rw [HSX.out.1, HSX.out.2.1]) (HSX.out.2.2.2.2.1) rfl 23 _ _ rfl (by rw [HSX.out.1]; kernel_rfl) rfl rfl ?_; intro w7 hb7 hg7; have H7 := hide (And.intro hb7 hg7); have OYc := hide (show By w7 v10 _ from Own.by_ (own_keep OYb.out.1 hg7 OYb.out.2)); have KY3 := hide (KY2.out.grown hg7 (by intro e; injection e with e; have := HG.out; omega)); have Z3 := hide ((Below.step HBB.out Z2.out).grown hg7 (Below.step HBB.out Z2.out).size (fun j hj => by injection hj with hj; have := HG.out; omega)); clear hb7 hg7))
      refine (S2.out w7 v10 OYc.out).mono ?_
      rintro e z4 ⟨rfl, bz4⟩
      have Z4 := hide (Below.step Z3.out bz4)
      have KX4 := hide (H7.out.1.below' bz4)
      have KY4 := hide (KY3.out.below' bz4)
      clear bz4
      go_wp2_with ((with_reducible change wpList _ _ _ (⟨none, .store _ (.tmp 6) _, _, _, _, _⟩ :: _) _ _); go_loud (refine wpList_store_row (o := ⟨none, .store _ (.tmp 6) _, _, _, _, _⟩) (KY4.out) (NY) (by rw [HSX.out.2.2.1, HSX.out.2.2.2.1]) (HSX.out.2.2.2.2.2) rfl 23 _ _ rfl (by rw [HSX.out.2.2.1]; kernel_rfl) rfl rfl ?_; intro w9 hb9 hg9; have H9 := hide hb9; have KX5 := hide (KX4.out.grown hg9 (by intro e; injection e with e; have := HG.out; omega)); have Z5 := hide (Z4.out.grown hg9 Z4.out.size (fun j hj => by injection hj with hj; have := HG.out; omega)); clear hb9 hg9))
      go_roundw
      case rel => exact ⟨i + 1, p / 2, shaL tx, shaL ty, by omega, by omega, by omega, by go_num, by go_num, shaL_length _, shaL_length _, by rw [← HNX.out.1]; exact KX5.out, by rw [← HNX.out.2]; exact H9.out, HNXT.out, Z5.out⟩
      case measure => simp [intOf]; omega
    ·have HBB := hide hbel
     have HNI := hide (himp (NCs.drop_none (by have := HIN.out.2.2.2.2.2; omega)))
     have a12 : ¬ (i : Int) < (fl : Int) ∨ ¬ (i : Int) < (gl : Int) := by omega
     clear himp kx ky hbel
     by_cases a1 : (i : Int) < (fl : Int)
     ·have a2 : ¬ (i : Int) < (gl : Int) := by omega
      go_wp2
      go_ret
      first | exact ⟨Below.step HB0.out HBB.out, .inl ⟨rfl, fun x y h1 h2 => (by
        obtain ⟨j1, j2, j3, j4, j5, -⟩ := HIN.out
        rw [j1] at h1
        rw [j2] at h2
        injection h1 with h1
        injection h2 with h2
        subst h1 h2
        rw [j3, j4] at j5
        exact ⟨fun e => Classical.byContradiction fun hn => of_decide_eq_false j5.symm ⟨hn, e⟩, HNI.out⟩)⟩⟩ | exact ⟨Below.step HB0.out HBB.out, false, rfl, fun _ => fun x y h1 h2 => (by
        obtain ⟨j1, j2, j3, j4, j5, -⟩ := HIN.out
        rw [j1] at h1
        rw [j2] at h2
        injection h1 with h1
        injection h2 with h2
        subst h1 h2
        rw [j3, j4] at j5
        exact ⟨fun e => Classical.byContradiction fun hn => of_decide_eq_false j5.symm ⟨hn, e⟩, HNI.out⟩)⟩
     ·go_wp2
      go_ret
      first | exact ⟨Below.step HB0.out HBB.out, .inl ⟨rfl, fun x y h1 h2 => (by
        obtain ⟨j1, j2, j3, j4, j5, -⟩ := HIN.out
        rw [j1] at h1
        rw [j2] at h2
        injection h1 with h1
        injection h2 with h2
        subst h1 h2
        rw [j3, j4] at j5
        exact ⟨fun e => Classical.byContradiction fun hn => of_decide_eq_false j5.symm ⟨hn, e⟩, HNI.out⟩)⟩⟩ | exact ⟨Below.step HB0.out HBB.out, false, rfl, fun _ => fun x y h1 h2 => (by
        obtain ⟨j1, j2, j3, j4, j5, -⟩ := HIN.out
        rw [j1] at h1
        rw [j2] at h2
        injection h1 with h1
        injection h2 with h2
        subst h1 h2
        rw [j3, j4] at j5
        exact ⟨fun e => Classical.byContradiction fun hn => of_decide_eq_false j5.symm ⟨hn, e⟩, HNI.out⟩)⟩
end Go.Proofs.YtdohebhbiokljaaGreatDoor
