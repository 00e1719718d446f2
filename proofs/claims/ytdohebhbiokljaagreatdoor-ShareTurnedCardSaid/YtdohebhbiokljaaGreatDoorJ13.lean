import Derived.Test.YtdohebhbiokljaaGreatDoorJ12
set_option linter.all false
namespace Go.Proofs.YtdohebhbiokljaaGreatDoor
open Go.RowKit
set_option maxRecDepth 100000 in
set_option maxHeartbeats 4000000 in
theorem fsame_all (f f' : FS) (a b c a' b' c' : Value) (w : World) (hw : f.wf) (hw' : f'.wf) (ha : Ds w a f.ch) (hb : Ds w b f.bs) (hc : Ds w c f.sg) (ha' : Ds w a' f'.ch) (hb' : Ds w b' f'.bs) (hc' : Ds w c' f'.sg) :
  Calls Tryz.prog 31 #[.agg (frC f.num f.u a b c), .agg (frC f'.num f'.u a' b' c')] w fun e w' => e = .returned (.bool (decide (f.num = f'.num ∧ f.u = f'.u ∧ f.ch = f'.ch ∧ f.bs = f'.bs ∧ f.sg = f'.sg))) ∧ Below w.heap.size w w' := by
 obtain ⟨num, u, ch, bs, sg⟩ := f
 obtain ⟨num', u', ch', bs', sg'⟩ := f'
 have huw := hw.1
 have huw' := hw'.1
 simp only at *
 obtain ⟨A1, k1, rfl, _, _, _⟩ := ha.1.form
 obtain ⟨A2, k2, rfl, _, _, _⟩ := hb.1.form
 obtain ⟨A3, k3, rfl, _, _, _⟩ := hc.1.form
 obtain ⟨A4, k4, rfl, _, _, _⟩ := ha'.1.form
 obtain ⟨A5, k5, rfl, _, _, _⟩ := hb'.1.form
 obtain ⟨A6, k6, rfl, _, _, _⟩ := hc'.1.form
 generalize hF1 : frC num u (.slice A1 ch.length k1) (.slice A2 bs.length k2) (.slice A3 sg.length k3) = F1 at *
 generalize hF2 : frC num' u' (.slice A4 ch'.length k4) (.slice A5 bs'.length k5) (.slice A6 sg'.length k6) = F2 at *
 have n1 := Blk.new w 28 F1
 have b1 := (Below.refl w.heap.size w).alloc (Nat.le_refl _) (.cells F1 28)
 have n2 := Blk.new (w.alloc (.cells F1 28)) 28 F2
 have b2 := b1.alloc (by simp) (.cells F2 28)
 simp only [World.size_alloc] at n2
 have n1' := n1.alloc (.cells F2 28)
 obtain ⟨UC, hUC, hU1⟩ : ∃ C, C = u.cells ∧ C.size = 68 := ⟨_, rfl, US.size_ huw⟩
 obtain ⟨UD, hUD, hU2⟩ : ∃ C, C = u'.cells ∧ C.size = 68 := ⟨_, rfl, US.size_ huw'⟩
 have HC := hide (show ∀ W, Below ((w.alloc (.cells F1 28)).alloc (.cells F2 28)).heap.size ((w.alloc (.cells F1 28)).alloc (.cells F2 28)) W →
   (W.rangeAt w.heap.size 1 UC.toList ∧ W.rangeAt (w.heap.size + 1) 1 UD.toList) ∧ (W.cell? ⟨w.heap.size, 0, none⟩ = some (.int .i64 num) ∧ W.cell? ⟨w.heap.size + 1, 0, none⟩ = some (.int .i64 num')) ∧
   (W.cell? ⟨w.heap.size, 69, none⟩ = some (.slice A1 ch.length k1) ∧ W.cell? ⟨w.heap.size + 1, 69, none⟩ = some (.slice A4 ch'.length k4)) ∧ (W.cell? ⟨w.heap.size, 70, none⟩ = some (.slice A2 bs.length k2) ∧ W.cell? ⟨w.heap.size + 1, 70, none⟩ = some (.slice A5 bs'.length k5)) ∧ (W.cell? ⟨w.heap.size, 71, none⟩ = some (.slice A3 sg.length k3) ∧ W.cell? ⟨w.heap.size + 1, 71, none⟩ = some (.slice A6 sg'.length k6)) from fun W hW => by
  have q1 := n1'.below' hW
  have q2 := n2.below' hW
  rw [← hF1] at q1
  rw [← hF2] at q2
  obtain ⟨p0, p1, p2, p3, p4⟩ := q1.front huw
  obtain ⟨r0, r1, r2, r3, r4⟩ := q2.front huw'
  rw [hUC, hUD]
  exact ⟨⟨p1, r1⟩, ⟨p0, r0⟩, ⟨p2, r2⟩, ⟨p3, r3⟩, ⟨p4, r4⟩⟩)
 have HD := hide (show ∀ W, Below ((w.alloc (.cells F1 28)).alloc (.cells F2 28)).heap.size ((w.alloc (.cells F1 28)).alloc (.cells F2 28)) W →
   (Ds W (.slice A1 ch.length k1) ch ∧ Ds W (.slice A4 ch'.length k4) ch') ∧ (Ds W (.slice A2 bs.length k2) bs ∧ Ds W (.slice A5 bs'.length k5) bs') ∧ (Ds W (.slice A3 sg.length k3) sg ∧ Ds W (.slice A6 sg'.length k6) sg') from fun W hW =>
  ⟨⟨(ha.below b2).below hW, (ha'.below b2).below hW⟩, ⟨(hb.below b2).below hW, (hb'.below b2).below hW⟩, ⟨(hc.below b2).below hW, (hc'.below b2).below hW⟩⟩)
 have HE := hide (show ∀ W, (binOp .eql 25 (.agg UC) (.agg UD)).run Tryz.prog W = .ok (.bool (decide (u = u'))) W from fun W => by rw [hUC, hUD, ueb_eql u u' huw huw' W])
 generalize hW0 : (w.alloc (.cells F1 28)).alloc (.cells F2 28) = W0 at *
 obtain ⟨⟨_, _⟩, ⟨c1, c2⟩, ⟨c3, c4⟩, ⟨c5, c6⟩, ⟨c7, c8⟩⟩ := HC.out W0 (Below.refl _ _)
 have HB := hide b2
 clear n1 n2 n1' b1 b2 ha hb hc ha' hb' hc' hF1 hF2 hUC hUD hw huw hw' huw'
 by_cases h1 : num = num'
 case neg =>
  have g1 : (num == num') = false := beq_eq_false_iff_ne.2 h1
  go_enter Tryz.func31, Tryz.ntmps31
  go_wp2
  go_ret
  exact ⟨by rw [decide_eq_false (fun h => h1 h.1)]; rfl, HB.out⟩
 case pos =>
  subst h1
  by_cases h2 : u = u'
  case neg =>
   rw [decide_eq_false h2] at HE
   go_enter Tryz.func31, Tryz.ntmps31
   go_wp2_with (first
    | ((with_reducible change wpList _ _ _ (⟨some 12, _, _, _, _, _⟩ :: _) _ _); go_loud (refine wpList_load_midF (by rfl) 25 _ rfl w.heap.size 1 rfl UC _ (HC.out W0 (Below.refl _ _)).1.1 Tryz.underlying25 rfl (by rw [hU1]; kernel_rfl) ?_))
    | ((with_reducible change wpList _ _ _ (⟨some 14, _, _, _, _, _⟩ :: _) _ _); go_loud (refine wpList_load_midF (by rfl) 25 _ rfl (w.heap.size + 1) 1 rfl UD _ (HC.out W0 (Below.refl _ _)).1.2 Tryz.underlying25 rfl (by rw [hU2]; kernel_rfl) ?_))
    | ((with_reducible change wpList _ _ _ (⟨some 15, _, _, _, _, _⟩ :: _) _ _); go_loud (refine wpList_exW (by rfl) (ex_binA .eql 25 (.tmp 12) (.tmp 14) rfl (.inl rfl) UC UD rfl rfl (by kernel_rfl) false (HE.out W0)) ?_)))
   go_ret
   exact ⟨by rw [decide_eq_false (fun h => h2 h.2.1)]; rfl, HB.out⟩
  case pos =>
   rw [decide_eq_true h2] at HE
   go_enter Tryz.func31, Tryz.ntmps31
   go_wp2_with (first
    | ((with_reducible change wpList _ _ _ (⟨some 12, _, _, _, _, _⟩ :: _) _ _); go_loud (refine wpList_load_midF (by rfl) 25 _ rfl w.heap.size 1 rfl UC _ (HC.out W0 (Below.refl _ _)).1.1 Tryz.underlying25 rfl (by rw [hU1]; kernel_rfl) ?_))
    | ((with_reducible change wpList _ _ _ (⟨some 14, _, _, _, _, _⟩ :: _) _ _); go_loud (refine wpList_load_midF (by rfl) 25 _ rfl (w.heap.size + 1) 1 rfl UD _ (HC.out W0 (Below.refl _ _)).1.2 Tryz.underlying25 rfl (by rw [hU2]; kernel_rfl) ?_))
    | ((with_reducible change wpList _ _ _ (⟨some 15, _, _, _, _, _⟩ :: _) _ _); go_loud (refine wpList_exW (by rfl) (ex_binA .eql 25 (.tmp 12) (.tmp 14) rfl (.inl rfl) UC UD rfl rfl (by kernel_rfl) true (HE.out W0)) ?_)))
   refine (dsame_all _ _ ch ch' W0 (HD.out W0 (Below.refl _ _)).1.1 (HD.out W0 (Below.refl _ _)).1.2).mono ?_
   rintro e w1 ⟨rfl, q1⟩
   have Q1 := hide (q1)
   clear q1
   clear c1 c2 c3 c4 c5 c6 c7 c8
   obtain ⟨⟨_, _⟩, ⟨_, _⟩, ⟨_, _⟩, ⟨c5, c6⟩, ⟨c7, c8⟩⟩ := HC.out w1 Q1.out
   by_cases h3 : ch = ch'
   case neg =>
    rw [decide_eq_false h3]
    go_wp2
    go_ret
    exact ⟨by rw [decide_eq_false (fun h => h3 h.2.2.1)]; rfl, Below.step HB.out Q1.out⟩
   rw [decide_eq_true h3]
   go_wp2_with fail
   refine (dsame_all _ _ bs bs' w1 (HD.out w1 (Q1.out)).2.1.1 (HD.out w1 (Q1.out)).2.1.2).mono ?_
   rintro e w2 ⟨rfl, q2⟩
   have Q2 := hide (Below.step Q1.out q2)
   clear q2
   clear c5 c6 c7 c8
   obtain ⟨⟨_, _⟩, ⟨_, _⟩, ⟨_, _⟩, ⟨_, _⟩, ⟨c7, c8⟩⟩ := HC.out w2 Q2.out
   by_cases h4 : bs = bs'
   case neg =>
    rw [decide_eq_false h4]
    go_wp2
    go_ret
    exact ⟨by rw [decide_eq_false (fun h => h4 h.2.2.2.1)]; rfl, Below.step HB.out Q2.out⟩
   rw [decide_eq_true h4]
   go_wp2_with fail
   refine (dsame_all _ _ sg sg' w2 (HD.out w2 (Q2.out)).2.2.1 (HD.out w2 (Q2.out)).2.2.2).mono ?_
   rintro e w3 ⟨rfl, q3⟩
   have Q3 := hide (Below.step Q2.out q3)
   clear q3
   clear c7 c8
   by_cases h5 : sg = sg'
   case neg =>
    rw [decide_eq_false h5]
    go_wp2
    go_ret
    exact ⟨by rw [decide_eq_false (fun h => h5 h.2.2.2.2)]; rfl, Below.step HB.out Q3.out⟩
   rw [decide_eq_true h5]
   go_wp2
   go_ret
   exact ⟨by rw [decide_eq_true ⟨(by first | rfl | trivial), h2, h3, h4, h5⟩]; rfl, Below.step HB.out Q3.out⟩
end Go.Proofs.YtdohebhbiokljaaGreatDoor
namespace Go.Proofs.YtdohebhbiokljaaGreatDoor
open Go.RowKit
set_option maxRecDepth 100000 in
set_option maxHeartbeats 4000000 in
theorem ssame_all (s s' : SS) (va vb : Value) (w : World) (hw : s.f.wf) (hw' : s'.f.wf) (ha : ShV w va s) (hb : ShV w vb s') :
  Calls Tryz.prog 9 #[va, vb] w fun e w' => e = .returned (.bool (decide ((s.f.num = s'.f.num ∧ s.f.u = s'.f.u ∧ s.f.ch = s'.f.ch ∧ s.f.bs = s'.f.bs ∧ s.f.sg = s'.f.sg) ∧ s.data = s'.data))) ∧ Below w.heap.size w w' := by
 obtain ⟨f, data⟩ := s
 obtain ⟨f', data'⟩ := s'
 obtain ⟨a1, a2, a3, a4, LA, rfl, x1, x2, x3, x4, x5⟩ := ha
 obtain ⟨e1, e2, e3, e4, LB, rfl, y1, y2, y3, y4, y5⟩ := hb
 simp only at *
 obtain ⟨A4, k4, rfl, hl4, hm4, _⟩ := x4.1.form
 obtain ⟨B4, j4, rfl, _, _, _⟩ := y4.1.form
 have hLA : LA.length = data.length := by rw [← x5]; simp
 have hLB : LB.length = data'.length := by rw [← y5]; simp
 have hlen : data.length ≤ 9223372036854775807 := by unfold maxLen at hm4; omega
 have huw := hw.1
 have huw' := hw'.1
 obtain ⟨F1, hF1, hz1⟩ : ∃ F, F = frC f.num f.u a1 a2 a3 ∧ F.size = 72 := ⟨_, rfl, frC_size huw⟩
 obtain ⟨F2, hF2, hz2⟩ : ∃ F, F = frC f'.num f'.u e1 e2 e3 ∧ F.size = 72 := ⟨_, rfl, frC_size huw'⟩
 generalize hS1 : shC f.num f.u a1 a2 a3 (.slice A4 LA.length k4) = S1 at *
 generalize hS2 : shC f'.num f'.u e1 e2 e3 (.slice B4 LB.length j4) = S2 at *
 have n1 := Blk.new w 31 S1
 have b1 := (Below.refl w.heap.size w).alloc (Nat.le_refl _) (.cells S1 31)
 have n2 := Blk.new (w.alloc (.cells S1 31)) 31 S2
 have b2 := b1.alloc (by simp) (.cells S2 31)
 simp only [World.size_alloc] at n2
 have n1' := n1.alloc (.cells S2 31)
 have HC := hide (show ∀ W, Below ((w.alloc (.cells S1 31)).alloc (.cells S2 31)).heap.size ((w.alloc (.cells S1 31)).alloc (.cells S2 31)) W →
   (W.rangeAt w.heap.size 0 F1.toList ∧ W.rangeAt (w.heap.size + 1) 0 F2.toList) ∧ (W.cell? ⟨w.heap.size, 72, none⟩ = some (.slice A4 data.length k4) ∧ W.cell? ⟨w.heap.size + 1, 72, none⟩ = some (.slice B4 data'.length j4)) from fun W hW => by
  have q1 := n1'.below' hW
  have q2 := n2.below' hW
  rw [← hS1, hLA] at q1
  rw [← hS2, hLB] at q2
  obtain ⟨p0, _, p2⟩ := q1.share huw
  obtain ⟨r0, _, r2⟩ := q2.share huw'
  rw [hF1, hF2]
  exact ⟨⟨p0, r0⟩, p2, r2⟩)
 have HD := hide (show ∀ W, Below ((w.alloc (.cells S1 31)).alloc (.cells S2 31)).heap.size ((w.alloc (.cells S1 31)).alloc (.cells S2 31)) W →
   Lsts W (.slice A4 data.length k4) LA ∧ Lsts W (.slice B4 data'.length j4) LB from fun W hW => by
  have q1 := (x4.below b2).below hW
  have q2 := (y4.below b2).below hW
  rw [hLA] at q1
  rw [hLB] at q2
  exact ⟨q1, q2⟩)
 have Q := hide (show Calls Tryz.prog 31 #[.agg F1, .agg F2] ((w.alloc (.cells S1 31)).alloc (.cells S2 31)) fun e w' => e = .returned (.bool (decide (f.num = f'.num ∧ f.u = f'.u ∧ f.ch = f'.ch ∧ f.bs = f'.bs ∧ f.sg = f'.sg))) ∧ Below ((w.alloc (.cells S1 31)).alloc (.cells S2 31)).heap.size ((w.alloc (.cells S1 31)).alloc (.cells S2 31)) w' from by
  rw [hF1, hF2]
  exact fsame_all f f' a1 a2 a3 e1 e2 e3 _ hw hw' (x1.below b2) (x2.below b2) (x3.below b2) (y1.below b2) (y2.below b2) (y3.below b2))
 have HX := hide (And.intro (And.intro x5 y5) (And.intro hLA hLB))
 generalize hW0 : (w.alloc (.cells S1 31)).alloc (.cells S2 31) = W0 at *
 have HB := hide b2
 clear n1 n2 n1' b1 b2 x1 x2 x3 x4 y1 y2 y3 y4 x5 y5 hF1 hF2 hS1 hS2 hw huw hw' huw' hLA hLB hl4 hm4
 go_enter Tryz.func9, Tryz.ntmps9
 go_wp2_with (first
  | ((with_reducible change wpList _ _ _ (⟨some 7, _, _, _, _, _⟩ :: _) _ _); go_loud (refine wpList_load_midF (by rfl) 28 _ rfl w.heap.size 0 rfl F1 _ (HC.out W0 (Below.refl _ _)).1.1 Tryz.underlying28 rfl (by rw [hz1]; kernel_rfl) ?_))
  | ((with_reducible change wpList _ _ _ (⟨some 9, _, _, _, _, _⟩ :: _) _ _); go_loud (refine wpList_load_midF (by rfl) 28 _ rfl (w.heap.size + 1) 0 rfl F2 _ (HC.out W0 (Below.refl _ _)).1.2 Tryz.underlying28 rfl (by rw [hz2]; kernel_rfl) ?_)))
 refine Q.out.mono ?_
 rintro e w1 ⟨rfl, q1⟩
 obtain ⟨c1, c2⟩ := (HC.out w1 q1).2
 have Q1 := hide q1
 clear q1 Q
 by_cases hfr : f.num = f'.num ∧ f.u = f'.u ∧ f.ch = f'.ch ∧ f.bs = f'.bs ∧ f.sg = f'.sg
 case neg =>
  rw [decide_eq_false hfr]
  go_wp2
  go_ret
  exact ⟨by rw [decide_eq_false (fun h => hfr h.1)]; rfl, Below.step HB.out Q1.out⟩
 rw [decide_eq_true hfr]
 by_cases hdl : data.length = data'.length
 case neg =>
  have i2 : ¬ (data.length : Int) = (data'.length : Int) := by omega
  have HDL := hide hdl
  clear hdl
  generalize hn1 : data.length = n1 at *
  generalize hn2 : data'.length = n2 at *
  have HN := hide (And.intro hn1 hn2)
  clear hn1 hn2
  go_wp2
  go_ret
  exact ⟨by rw [decide_eq_false (fun h => HDL.out (by rw [← HN.out.1, ← HN.out.2, h.2]))]; rfl, Below.step HB.out Q1.out⟩
 rw [← hdl] at c2 HC HD HX
 have HDL := hide hdl
 have HFR := hide hfr
 clear hdl hfr
 go_wp2
 go_loopw [5] (fun u5 wr => ∃ k : Nat, k ≤ data.length ∧ u5 = .int .i64 (k : Int) ∧ data.take k = data'.take k ∧ Below W0.heap.size W0 wr) (fun u5 _ => data.length - (intOf u5).toNat)
 case atStart => exact ⟨0, by omega, rfl, rfl, Q1.out⟩
 case round =>
  obtain ⟨k, hk, rfl, htk, hbel⟩ := hrel
  have HBB := hide hbel
  have HTK := hide htk
  clear c1 c2 htk
  obtain ⟨c1, c2⟩ := (HC.out wr hbel).2
  by_cases hlt : k < data.length
  ·obtain ⟨d1, d2⟩ := HD.out wr hbel
   obtain ⟨x, hx⟩ : ∃ x, LA[k]? = some x := ⟨_, List.getElem?_eq_getElem (by have := HX.out.2.1; omega)⟩
   obtain ⟨y, hy⟩ : ∃ y, LB[k]? = some y := ⟨_, List.getElem?_eq_getElem (by have := HX.out.2.2; omega)⟩
   have hdx : data[k]? = some x.2 := by
    have h1 := congrArg (·[k]?) HX.out.1.1
    simp only [List.getElem?_map, hx, Option.map_some] at h1
    exact h1.symm
   have hdy : data'[k]? = some y.2 := by
    have h1 := congrArg (·[k]?) HX.out.1.2
    simp only [List.getElem?_map, hy, Option.map_some] at h1
    exact h1.symm
   obtain ⟨p1, o1, C1, s1, rfl, hc1, hb1⟩ := d1.at_ hx
   obtain ⟨p2, o2, C2, s2, rfl, hc2, hb2⟩ := d2.at_ hy
   have HXY := hide (And.intro hdx hdy)
   have cv1 : ∀ q, (convert 34 9 (.slice C1 x.2.length s1)).run Tryz.prog (wr.drewN q) = .ok (.string ⟨x.2.toArray⟩) (wr.drewN q) := fun q => run_strL (show By (wr.drewN q) _ _ from hb1) _ _ 5 Tryz.underlying34 Tryz.underlying5 Tryz.underlying9
   have cv2 : ∀ q, (convert 34 9 (.slice C2 y.2.length s2)).run Tryz.prog (wr.drewN q) = .ok (.string ⟨y.2.toArray⟩) (wr.drewN q) := fun q => run_strL (show By (wr.drewN q) _ _ from hb2) _ _ 5 Tryz.underlying34 Tryz.underlying5 Tryz.underlying9
   have j1 : (k : Int) < (data.length : Int) := by omega
   have j2 : (0 : Int) ≤ (k : Int) := by omega
   by_cases hxy : x.2 = y.2
   ·rw [← hxy] at cv2 hc2
    have HTK2 := hide (show data.take (k + 1) = data'.take (k + 1) from by rw [List.take_add_one, List.take_add_one, HTK.out, HXY.out.1, HXY.out.2, hxy])
    generalize x.2.length = nx at *
    generalize (⟨x.2.toArray⟩ : ByteArray) = sx at *
    clear hb1 hb2 hxy hx hy d1 d2 hbel hdx hdy
    go_wp2_with fail
    go_quiet (fail)
    go_wp2_with fail
    go_roundw
    case rel => exact ⟨k + 1, by omega, by go_num, HTK2.out, below_drewN HBB.out _⟩
    case measure => simp [intOf]; omega
   ·have n2 : ((⟨x.2.toArray⟩ : ByteArray).toList == (⟨y.2.toArray⟩ : ByteArray).toList) = false := by
     rw [ByteArray.toList_eq, ByteArray.toList_eq]
     exact beq_eq_false_iff_ne.2 (by simpa using hxy)
    have HNE := hide (show ¬ data = data' from fun h => hxy (by
     have h1 := HXY.out.1
     rw [h, HXY.out.2] at h1
     injection h1 with h1
     exact h1.symm))
    generalize x.2.length = nx at *
    generalize y.2.length = ny at *
    generalize (⟨x.2.toArray⟩ : ByteArray) = sx at *
    generalize (⟨y.2.toArray⟩ : ByteArray) = sy at *
    clear hb1 hb2 hxy hx hy d1 d2 hbel hdx hdy
    go_wp2_with fail
    go_quiet (fail)
    go_wp2
    go_ret
    exact ⟨by rw [decide_eq_false (fun h => HNE.out h.2)]; rfl, Below.step HB.out (below_drewN HBB.out _)⟩
  ·have hkl : k = data.length := by omega
   subst hkl
   clear hbel
   have hdd : data = data' := by
    have h1 := HTK.out
    rw [List.take_length] at h1
    have h2 := HDL.out
    rw [h2, List.take_length] at h1
    exact h1
   have HDD := hide hdd
   clear hdd
   go_wp2
   go_ret
   exact ⟨by rw [decide_eq_true ⟨HFR.out, HDD.out⟩]; rfl, Below.step HB.out HBB.out⟩
end Go.Proofs.YtdohebhbiokljaaGreatDoor
namespace Go.Proofs.YtdohebhbiokljaaGreatDoor
open Go.RowKit Exs
theorem digEql (a b : List UInt8) (ha : a.length = 32) (hb : b.length = 32) (w : World) : (binOp .eql 23 (.agg (bcells a).toArray) (.agg (bcells b).toArray)).run Tryz.prog w = .ok (.bool (decide (a = b))) w := by
 have bs : ∀ w, (sizeOf 5).run Tryz.prog w = .ok 1 w := fun w => by kernel_rfl
 have e := run_equalIn_bytes w 9998 23 5 32 Tryz.underlying23 Tryz.underlying5 bs a b ha hb
 rw [run_eql_struct]
 have e' : (Op.equalIn 10000 23 (.agg (bcells a).toArray) (.agg (bcells b).toArray)).run Tryz.prog w = .ok (a == b) w := e
 rw [e']
 by_cases h : a = b <;> simp [Result.andThen, h]
set_option maxRecDepth 100000 in
set_option maxHeartbeats 2000000 in
theorem clash_any (va vb : Value) (x y : List UInt8) (w : World) (ha : By w va x) (hb : By w vb y) (hx : x.length ≤ 1099511627776) (hy : y.length ≤ 1099511627776) :
  Calls Tryz.prog 10 #[va, vb] w fun e w' => e = .returned (.bool (decide (x ≠ y ∧ shaL x = shaL y))) ∧ Below w.heap.size w w' := by
 have Q1 := hide (same_any va vb x y w ha hb)
 by_cases hxy : x = y
 case pos =>
  rw [decide_eq_true hxy] at Q1
  clear ha hb hx hy
  go_enter Tryz.func10, Tryz.ntmps10
  go_wp2_with fail
  refine Q1.out.mono ?_
  rintro e w1 ⟨rfl, b1⟩
  go_wp2
  go_ret
  exact ⟨by rw [decide_eq_false (fun h => h.1 hxy)]; rfl, b1⟩
 case neg =>
  rw [decide_eq_false hxy] at Q1
  obtain ⟨F, hF⟩ : ∃ F, F = (bcells (shaL x)).toArray := ⟨_, rfl⟩
  obtain ⟨G, hG⟩ : ∃ F, F = (bcells (shaL y)).toArray := ⟨_, rfl⟩
  have Q2 := hide (fun W (h : Below w.heap.size w W) => rsum_any va x W (ha.below h) hx)
  have Q3 := hide (fun W (h : Below w.heap.size w W) => rsum_any vb y W (hb.below h) hy)
  rw [← hF] at Q2
  rw [← hG] at Q3
  have HNE := hide (show ∀ W, (binOp .eql 23 (.agg F) (.agg G)).run Tryz.prog W = .ok (.bool (decide (shaL x = shaL y))) W from fun W => by rw [hF, hG]; exact digEql _ _ (shaL_length _) (shaL_length _) W)
  have HD := hide (show decide (x ≠ y ∧ shaL x = shaL y) = decide (shaL x = shaL y) from decide_eq_decide.2 ⟨fun h => h.2, fun h => ⟨hxy, h⟩⟩)
  rw [HD.out]
  generalize decide (shaL x = shaL y) = r at *
  clear ha hb hx hy hF hG HD hxy
  go_enter Tryz.func10, Tryz.ntmps10
  go_wp2_with fail
  refine Q1.out.mono ?_
  rintro e w1 ⟨rfl, b1⟩
  have B1 := hide b1
  clear b1 Q1
  go_wp2_with fail
  refine (Q2.out w1 B1.out).mono ?_
  rintro e w2 ⟨rfl, b2⟩
  have B2 := hide (Below.step B1.out b2)
  clear b2 Q2
  go_wp2_with fail
  refine (Q3.out w2 B2.out).mono ?_
  rintro e w3 ⟨rfl, b3⟩
  have B3 := hide (Below.step B2.out b3)
  clear b3 Q3
  go_wp2_with (first
   | ((with_reducible change wpList _ _ _ (⟨some 14, _, _, _, _, _⟩ :: _) _ _); go_loud (refine wpList_exW (by rfl) (ex_binA .eql 23 (.tmp 11) (.tmp 13) rfl (.inl rfl) F G rfl rfl (by kernel_rfl) r (HNE.out w3)) ?_)))
  go_ret
  exact ⟨rfl, B3.out⟩
set_option maxHeartbeats 1000000 in
theorem list1_any (t : Nat) (l : List UInt8) (ht : okT t l.length) (b o c : Nat) (Ap : Option Addr) (cp : Nat) (w : World) (hb : b < w.heap.size) (hc : w.cell? ⟨b, o, none⟩ = some (.slice Ap l.length cp)) (hv : By w (.slice Ap l.length cp) l) (hl : l.length ≤ 1099511627000) :
  Calls Tryz.prog 11 #[.int .u8 (t : Int), .slice (some ⟨b, o, none⟩) 1 c] w fun e w' => ∃ v', e = .returned v' ∧ Own w' w.heap.size 5 v' (tag1 t l) ∧ Below w.heap.size w w' := by
 have Q := hide (rbytes_one t l ht b o c Ap cp w hb hc hv hl)
 clear ht hb hc hv hl
 go_enter Tryz.func11, Tryz.ntmps11
 go_wp2_with fail
 refine Q.out.mono ?_
 rintro e w1 ⟨v1, rfl, o1, b1⟩
 have H := hide (And.intro o1 b1)
 clear o1 b1 Q
 go_wp2
 go_ret
 exact ⟨_, rfl, H.out.1, H.out.2⟩
set_option maxHeartbeats 1000000 in
theorem list2_any (x y : List UInt8) (hx : x.length = 32) (hy : y.length = 32) (b o c : Nat) (Ap Aq : Option Addr) (cp cq : Nat) (w : World) (hb : b < w.heap.size) (hc : w.cell? ⟨b, o, none⟩ = some (.slice Ap 32 cp)) (hd : w.cell? ⟨b, o + 1, none⟩ = some (.slice Aq 32 cq)) (hv : By w (.slice Ap 32 cp) x) (hu : By w (.slice Aq 32 cq) y) :
  Calls Tryz.prog 11 #[.int .u8 6, .slice (some ⟨b, o, none⟩) 2 c] w fun e w' => ∃ v', e = .returned v' ∧ Own w' w.heap.size 5 v' (tag2 6 x y) ∧ Below w.heap.size w w' := by
 have Q := hide (rbytes_node x y hx hy b o c Ap Aq cp cq w hb hc hd hv hu)
 clear hx hy hb hc hd hv hu
 go_enter Tryz.func11, Tryz.ntmps11
 go_wp2_with fail
 refine Q.out.mono ?_
 rintro e w1 ⟨v1, rfl, o1, b1⟩
 have H := hide (And.intro o1 b1)
 clear o1 b1 Q
 go_wp2
 go_ret
 exact ⟨_, rfl, H.out.1, H.out.2⟩
end Go.Proofs.YtdohebhbiokljaaGreatDoor
