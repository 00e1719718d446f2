/- Joined texts: SbQ, SbR, SbS, SbT, ShrG, SbU, Open, Bulk, OpnU, OpnS. -/
import Derived.Test.YtdohebhbiokljaaDoorJ8
import Derived.Laws.StructEq
import Derived.Stop.BytesEq
import Derived.Test.YtdohebhbiokljaaDoorJ3
import Derived.Test.YtdohebhbiokljaaDoorJ5
import Derived.Test.YtdohebhbiokljaaDoorJ4
import Derived.Test.YtdohebhbiokljaaDoorJ11
import Derived.Test.YtdohebhbiokljaaDoorJ1
import Derived.ProofKit
import Derived.OpenShut
import Derived.ShutString
import Derived.ChangeOld
import Derived.SizedLaws
import Derived.JoinedCond
import Derived.Deep.CondSized
import Derived.Test.YtdohebhbiokljaaDoorRows
import Derived.ChangeShapes
import Derived.WideShapes
import Derived.Deep.Slices

/- The document's same: lists of digests, fronts, shares that are the same. Printed by wip/sbn.py Q. -/
namespace Go.Proofs.YtdohebhbiokljaaDoor
open Go.RowKit

section
variable {P : Program} {o : Oper} {a : Act} {w : World}
theorem ex_loadR (ty : TypeId) (x : Operand) (ho : o.op = .load ty x) (b k : Nat) (hx : a.eval x = .pointer (some ⟨b, k, none⟩)) (F : Array Value) (d : TypeDesc) (hc : w.rangeAt b k F.toList)
    (hu : P.underlying ty = some d) (hd : d.isRow = true) (hi : (P.info? ty).map (·.size) = some F.size) : (execOp a.eval o).run P w = .ok (.value (.agg F)) w := by
  unfold execOp
  simp only [ho, hx, Sem.run_bind, Sem.run_pure, Result.andThen_ok, run_loadAt_mid w b k ty F.toList d hc hu hd (by simpa using hi)]
theorem ex_binA (op : BinOp) (t : TypeId) (x y : Operand) (ho : o.op = .binOp op t x y t) (hop : op = .eql ∨ op = .neq) (xs ys : Array Value) (hx : a.eval x = .agg xs) (hy : a.eval y = .agg ys) (hm : P.eqGuardType P.depth t = false) (r : Bool) (hr : (binOp op t (.agg xs) (.agg ys)).run P w = .ok (.bool r) w) : (execOp a.eval o).run P w = .ok (.value (.bool r)) w := by
  unfold execOp
  rcases hop with rfl | rfl
  · simp only [ho, hx, hy, Sem.run_bind, Sem.run_pure, run_eqGuard_agg w _ _ _ _ _ _ hm, Result.andThen_ok, hr]
  · simp only [ho, hx, hy, Sem.run_bind, Sem.run_pure, run_eqGuard_agg w _ _ _ _ _ _ hm, Result.andThen_ok, hr]
theorem wpList_exW {ops : Array Oper} {rest : List Oper} {Q : Exit → Act → World → Prop} (hw : Region.wanted o (yielded ops a.tmps) = true) {v : Value} (hr : (execOp a.eval o).run P w = .ok (.value v) w) (h : wpList P ops Q rest (a.put o.dst v) w) : wpList P ops Q (o :: rest) a w :=
  wpList_step fun K hK => by
    rw [if_pos hw]
    unfold Oper.wp
    rw [hr]
    exact hK _ _ h
end
theorem dig_neq (d : List UInt8) (h : d.length = 32) (w : World) : (binOp .neq 35 (.agg (bcells d).toArray) (.agg (bcells d).toArray)).run Tryd.prog w = .ok (.bool false) w := by
  have bs : ∀ w, (sizeOf 5).run Tryd.prog w = .ok 1 w := fun w => by kernel_rfl
  have e := run_equalIn_bytes w 9998 35 5 32 Tryd.underlying35 Tryd.underlying5 bs d d h h
  rw [run_neq_struct]
  have e' : (Op.equalIn 10000 35 (.agg (bcells d).toArray) (.agg (bcells d).toArray)).run Tryd.prog w = .ok (d == d) w := e
  rw [e']
  simp [Result.andThen]
set_option maxRecDepth 100000 in
set_option maxHeartbeats 2000000 in
theorem dsame_any (va vb : Value) (L : List (List UInt8)) (w : World) (ha : Ds w va L) (hb : Ds w vb L) :
    Calls Tryd.prog 68 #[va, vb] w fun e w' => e = .returned (.bool true) ∧ Below w.heap.size w w' := by
  obtain ⟨A, c, rfl, _, hca, _⟩ := ha.1.form
  obtain ⟨B, d, rfl, _, hcb, _⟩ := hb.1.form
  have H := hide (And.intro ha hb)
  have hL : L.length ≤ 9223372036854775807 := by unfold maxLen at hca; omega
  clear ha hb hca hcb
  go_enter Tryd.func68, Tryd.ntmps68
  go_wp2_with fail
  go_loopw [5] (fun u5 wr => ∃ k : Nat, k ≤ L.length ∧ u5 = .int .i64 (k : Int) ∧ Below w.heap.size w wr) (fun u5 _ => L.length - (intOf u5).toNat)
  case atStart => exact ⟨0, by omega, rfl, Below.refl _ _⟩
  case round =>
    obtain ⟨k, hk, rfl, hbel⟩ := hrel
    by_cases hlt : k < L.length
    · obtain ⟨x, hx⟩ : ∃ d, L[k]? = some d := ⟨_, List.getElem?_eq_getElem hlt⟩
      obtain ⟨b1, o1, rfl, hr1, hx32, _⟩ := (H.out.1.below hbel).at hx
      obtain ⟨b2, o2, rfl, hr2, _, _⟩ := (H.out.2.below hbel).at hx
      obtain ⟨F, hF, hF1, hF2, hF3⟩ := dig_cells hx32
      have hne : ∀ W, (binOp .neq 35 (.agg F) (.agg F)).run Tryd.prog W = .ok (.bool false) W := fun W => by rw [hF]; exact dig_neq x hx32 W
      rw [← hF3] at hr1 hr2
      have HF := hide (And.intro hF1 (And.intro hF2 (And.intro hF3 hne)))
      have HR := hide (And.intro hr1 hr2)
      have HBB := hide hbel
      have j1 : (k : Int) < (L.length : Int) := by omega
      have j2 : (0 : Int) ≤ (k : Int) := by omega
      clear hF hF1 hF2 hF3 hr1 hr2 hx32 hne
      go_wp2_with fail
      refine wp_region_noPanic ?_
      refine wp_region_held_drew (S := fun W => W.rangeAt b1 (o1 + k * 32) F.toList ∧ W.rangeAt b2 (o2 + k * 32) F.toList) (by kernel_rfl) ⟨HR.out.1, HR.out.2⟩ (fun hHeld => ?_)
      refine wpAnyH_take (i := 0) (v := ?_) rfl (by kernel_rfl) (by kernel_rfl) (by kernel_rfl) (fun _ _ _ h => h) (Or.inl ⟨by rfl, ?_⟩) (by assumption) ?_
      rotate_left
      · (intro w9 hSw; (try dsimp only at hSw); go_simp; try with_reducible rfl)
      try simp only [Act.put, List.setIfInBounds_toArray, List.set_cons_zero, List.set_cons_succ, List.getElem_toArray, List.getElem_cons_succ, List.getElem_cons_zero]
      refine wpAnyH_take (i := 1) (v := ?_) rfl (by kernel_rfl) (by kernel_rfl) (by kernel_rfl) (fun _ _ _ h => h) (Or.inl ⟨by rfl, ?_⟩) (by assumption) ?_
      rotate_left
      · (intro w9 hSw; (try dsimp only at hSw); go_simp; try with_reducible rfl)
      try simp only [Act.put, List.setIfInBounds_toArray, List.set_cons_zero, List.set_cons_succ, List.getElem_toArray, List.getElem_cons_succ, List.getElem_cons_zero]
      refine wpAnyH_take (i := 2) (v := ?_) rfl (by kernel_rfl) (by kernel_rfl) (by kernel_rfl) (fun _ _ _ h => h) (Or.inl ⟨by rfl, ?_⟩) (by assumption) ?_
      rotate_left
      · (intro w9 hSw; (try dsimp only at hSw); go_simp; try with_reducible rfl)
      try simp only [Act.put, List.setIfInBounds_toArray, List.set_cons_zero, List.set_cons_succ, List.getElem_toArray, List.getElem_cons_succ, List.getElem_cons_zero]
      refine wpAnyH_take (i := 3) (v := .agg F) rfl (by kernel_rfl) (by kernel_rfl) (by kernel_rfl) (fun _ _ _ h => h) (Or.inl ⟨by rfl, ?_⟩) (by assumption) ?_
      · (intro W hW; exact ex_loadR 35 (.tmp 19) (by kernel_rfl) b1 (o1 + k * 32) rfl F _ hW.1 Tryd.underlying35 rfl (by rw [HF.out.1]; kernel_rfl))
      try simp only [Act.put, List.setIfInBounds_toArray, List.set_cons_zero, List.set_cons_succ, List.getElem_toArray, List.getElem_cons_succ, List.getElem_cons_zero]
      refine wpAnyH_take (i := 4) (v := ?_) rfl (by kernel_rfl) (by kernel_rfl) (by kernel_rfl) (fun _ _ _ h => h) (Or.inl ⟨by rfl, ?_⟩) (by assumption) ?_
      rotate_left
      · (intro w9 hSw; (try dsimp only at hSw); go_simp; try with_reducible rfl)
      try simp only [Act.put, List.setIfInBounds_toArray, List.set_cons_zero, List.set_cons_succ, List.getElem_toArray, List.getElem_cons_succ, List.getElem_cons_zero]
      refine wpAnyH_take (i := 5) (v := ?_) rfl (by kernel_rfl) (by kernel_rfl) (by kernel_rfl) (fun _ _ _ h => h) (Or.inl ⟨by rfl, ?_⟩) (by assumption) ?_
      rotate_left
      · (intro w9 hSw; (try dsimp only at hSw); go_simp; try with_reducible rfl)
      try simp only [Act.put, List.setIfInBounds_toArray, List.set_cons_zero, List.set_cons_succ, List.getElem_toArray, List.getElem_cons_succ, List.getElem_cons_zero]
      refine wpAnyH_take (i := 6) (v := ?_) rfl (by kernel_rfl) (by kernel_rfl) (by kernel_rfl) (fun _ _ _ h => h) (Or.inl ⟨by rfl, ?_⟩) (by assumption) ?_
      rotate_left
      · (intro w9 hSw; (try dsimp only at hSw); go_simp; try with_reducible rfl)
      try simp only [Act.put, List.setIfInBounds_toArray, List.set_cons_zero, List.set_cons_succ, List.getElem_toArray, List.getElem_cons_succ, List.getElem_cons_zero]
      refine wpAnyH_take (i := 7) (v := .agg F) rfl (by kernel_rfl) (by kernel_rfl) (by kernel_rfl) (fun _ _ _ h => h) (Or.inl ⟨by rfl, ?_⟩) (by assumption) ?_
      · (intro W hW; exact ex_loadR 35 (.tmp 23) (by kernel_rfl) b2 (o2 + k * 32) rfl F _ hW.2 Tryd.underlying35 rfl (by rw [HF.out.1]; kernel_rfl))
      try simp only [Act.put, List.setIfInBounds_toArray, List.set_cons_zero, List.set_cons_succ, List.getElem_toArray, List.getElem_cons_succ, List.getElem_cons_zero]
      refine wpAnyH_take (i := 8) (v := .bool false) rfl (by kernel_rfl) (by kernel_rfl) (by kernel_rfl) (fun _ _ _ h => h) (Or.inl ⟨by rfl, ?_⟩) (by assumption) ?_
      · (intro W hW; exact ex_binA .neq 35 (.tmp 20) (.tmp 24) (by kernel_rfl) (.inr rfl) F F (by kernel_rfl) (by kernel_rfl) (by kernel_rfl) false (HF.out.2.2.2 W))
      try simp only [Act.put, List.setIfInBounds_toArray, List.set_cons_zero, List.set_cons_succ, List.getElem_toArray, List.getElem_cons_succ, List.getElem_cons_zero]
      refine wpAnyH_done (by kernel_rfl) ?_ _
      refine noPanic_norm ?_
      go_wp2_with fail
      go_roundw
      case rel => exact ⟨k + 1, by omega, by go_num, HBB.out.drew⟩
      case measure => simp [intOf]; omega
    · have hkl : k = L.length := by omega
      subst hkl
      have HBB := hide hbel
      clear hbel
      go_wp2
      go_ret
      exact ⟨rfl, HBB.out⟩
end Go.Proofs.YtdohebhbiokljaaDoor

/- The document's SameFront and SameShare of what is the same. Printed by wip/sbn.py R. -/
namespace Go.Proofs.YtdohebhbiokljaaDoor
open Go.RowKit

set_option maxRecDepth 100000 in
set_option maxHeartbeats 4000000 in
theorem fsame_any (f : FS) (a b c a' b' c' : Value) (w : World) (hw : f.wf) (ha : Ds w a f.ch) (hb : Ds w b f.bs) (hc : Ds w c f.sg) (ha' : Ds w a' f.ch) (hb' : Ds w b' f.bs) (hc' : Ds w c' f.sg) :
    Calls Tryd.prog 36 #[.agg (frC f.num f.u a b c), .agg (frC f.num f.u a' b' c')] w fun e w' => e = .returned (.bool true) ∧ Below w.heap.size w w' := by
  obtain ⟨num, u, ch, bs, sg⟩ := f
  have huw := hw.1
  simp only at *
  obtain ⟨A1, k1, rfl, _, _, _⟩ := ha.1.form
  obtain ⟨A2, k2, rfl, _, _, _⟩ := hb.1.form
  obtain ⟨A3, k3, rfl, _, _, _⟩ := hc.1.form
  obtain ⟨A4, k4, rfl, _, _, _⟩ := ha'.1.form
  obtain ⟨A5, k5, rfl, _, _, _⟩ := hb'.1.form
  obtain ⟨A6, k6, rfl, _, _, _⟩ := hc'.1.form
  generalize hF1 : frC num u (.slice A1 ch.length k1) (.slice A2 bs.length k2) (.slice A3 sg.length k3) = F1 at *
  generalize hF2 : frC num u (.slice A4 ch.length k4) (.slice A5 bs.length k5) (.slice A6 sg.length k6) = F2 at *
  have n1 := Blk.new w 61 F1
  have b1 := (Below.refl w.heap.size w).alloc (Nat.le_refl _) (.cells F1 61)
  have n2 := Blk.new (w.alloc (.cells F1 61)) 61 F2
  have b2 := b1.alloc (by simp) (.cells F2 61)
  simp only [World.size_alloc] at n2
  have n1' := n1.alloc (.cells F2 61)
  obtain ⟨UC, hUC, hU1⟩ : ∃ C, C = u.cells ∧ C.size = 68 := ⟨_, rfl, US.size_ huw⟩
  have HC := hide (show ∀ W, Below ((w.alloc (.cells F1 61)).alloc (.cells F2 61)).heap.size ((w.alloc (.cells F1 61)).alloc (.cells F2 61)) W →
      (W.rangeAt w.heap.size 1 UC.toList ∧ W.rangeAt (w.heap.size + 1) 1 UC.toList) ∧ (W.cell? ⟨w.heap.size, 0, none⟩ = some (.int .i64 num) ∧ W.cell? ⟨w.heap.size + 1, 0, none⟩ = some (.int .i64 num)) ∧
      (W.cell? ⟨w.heap.size, 69, none⟩ = some (.slice A1 ch.length k1) ∧ W.cell? ⟨w.heap.size + 1, 69, none⟩ = some (.slice A4 ch.length k4)) ∧ (W.cell? ⟨w.heap.size, 70, none⟩ = some (.slice A2 bs.length k2) ∧ W.cell? ⟨w.heap.size + 1, 70, none⟩ = some (.slice A5 bs.length k5)) ∧ (W.cell? ⟨w.heap.size, 71, none⟩ = some (.slice A3 sg.length k3) ∧ W.cell? ⟨w.heap.size + 1, 71, none⟩ = some (.slice A6 sg.length k6)) from fun W hW => by
    have q1 := n1'.below' hW
    have q2 := n2.below' hW
    rw [← hF1] at q1
    rw [← hF2] at q2
    obtain ⟨p0, p1, p2, p3, p4⟩ := q1.front huw
    obtain ⟨r0, r1, r2, r3, r4⟩ := q2.front huw
    rw [hUC]
    exact ⟨⟨p1, r1⟩, ⟨p0, r0⟩, ⟨p2, r2⟩, ⟨p3, r3⟩, ⟨p4, r4⟩⟩)
  have HD := hide (show ∀ W, Below ((w.alloc (.cells F1 61)).alloc (.cells F2 61)).heap.size ((w.alloc (.cells F1 61)).alloc (.cells F2 61)) W →
      (Ds W (.slice A1 ch.length k1) ch ∧ Ds W (.slice A4 ch.length k4) ch) ∧ (Ds W (.slice A2 bs.length k2) bs ∧ Ds W (.slice A5 bs.length k5) bs) ∧ (Ds W (.slice A3 sg.length k3) sg ∧ Ds W (.slice A6 sg.length k6) sg) from fun W hW =>
    ⟨⟨(ha.below b2).below hW, (ha'.below b2).below hW⟩, ⟨(hb.below b2).below hW, (hb'.below b2).below hW⟩, ⟨(hc.below b2).below hW, (hc'.below b2).below hW⟩⟩)
  have HE := hide (show ∀ W, (binOp .eql 37 (.agg UC) (.agg UC)).run Tryd.prog W = .ok (.bool true) W from fun W => by rw [hUC, ueb_eql u u huw huw W]; simp)
  generalize hW0 : (w.alloc (.cells F1 61)).alloc (.cells F2 61) = W0 at *
  obtain ⟨⟨_, _⟩, ⟨c1, c2⟩, ⟨c3, c4⟩, ⟨c5, c6⟩, ⟨c7, c8⟩⟩ := HC.out W0 (Below.refl _ _)
  have HB := hide b2
  clear n1 n2 n1' b1 b2 ha hb hc ha' hb' hc' hF1 hF2 hUC hw huw
  go_enter Tryd.func36, Tryd.ntmps36
  go_wp2_with (first
    | ((with_reducible change wpList _ _ _ (⟨some 12, _, _, _, _, _⟩ :: _) _ _); go_loud (refine wpList_load_midF (by rfl) 37 _ rfl w.heap.size 1 rfl UC _ (HC.out W0 (Below.refl _ _)).1.1 Tryd.underlying37 rfl (by rw [hU1]; kernel_rfl) ?_))
    | ((with_reducible change wpList _ _ _ (⟨some 14, _, _, _, _, _⟩ :: _) _ _); go_loud (refine wpList_load_midF (by rfl) 37 _ rfl (w.heap.size + 1) 1 rfl UC _ (HC.out W0 (Below.refl _ _)).1.2 Tryd.underlying37 rfl (by rw [hU1]; kernel_rfl) ?_))
    | ((with_reducible change wpList _ _ _ (⟨some 15, _, _, _, _, _⟩ :: _) _ _); go_loud (refine wpList_exW (by rfl) (ex_binA .eql 37 (.tmp 12) (.tmp 14) rfl (.inl rfl) UC UC rfl rfl (by kernel_rfl) true (HE.out W0)) ?_)))
  refine (dsame_any _ _ ch W0 (HD.out W0 (Below.refl _ _)).1.1 (HD.out W0 (Below.refl _ _)).1.2).mono ?_
  rintro e w1 ⟨rfl, q1⟩
  obtain ⟨⟨_, _⟩, ⟨_, _⟩, ⟨_, _⟩, ⟨c5, c6⟩, ⟨c7, c8⟩⟩ := HC.out w1 q1
  have Q1 := hide q1
  clear q1
  go_wp2_with fail
  refine (dsame_any _ _ bs w1 (HD.out w1 Q1.out).2.1.1 (HD.out w1 Q1.out).2.1.2).mono ?_
  rintro e w2 ⟨rfl, q2⟩
  have Q2 := hide (Below.step Q1.out q2)
  clear q2 c1 c2 c3 c4
  obtain ⟨⟨_, _⟩, ⟨_, _⟩, ⟨_, _⟩, ⟨_, _⟩, ⟨c7, c8⟩⟩ := HC.out w2 Q2.out
  go_wp2_with fail
  refine (dsame_any _ _ sg w2 (HD.out w2 Q2.out).2.2.1 (HD.out w2 Q2.out).2.2.2).mono ?_
  rintro e w3 ⟨rfl, q3⟩
  have Q3 := hide (Below.step HB.out (Below.step Q2.out q3))
  clear q3
  go_wp2
  go_ret
  exact ⟨rfl, Q3.out⟩
end Go.Proofs.YtdohebhbiokljaaDoor

/- The document's SameShare of what is the same. Printed by wip/sbn.py S. -/
namespace Go.Proofs.YtdohebhbiokljaaDoor
open Go.RowKit

/-- One list of those that stand in memory. -/
theorem Lsts.at_ {w : World} {A : Option Addr} {n c : Nat} {L : List (Value × List UInt8)} (h : Lsts w (.slice A n c) L) {k : Nat} {x : Value × List UInt8} (hx : L[k]? = some x) :
    ∃ b o C c2, A = some ⟨b, o, none⟩ ∧ w.cell? ⟨b, o + k, none⟩ = some (.slice C x.2.length c2) ∧ By w (.slice C x.2.length c2) x.2 := by
  have hk := (List.getElem?_eq_some_iff.1 hx).1
  obtain ⟨A', c', hv', _, _, hca⟩ := h.1.form
  injection hv' with hA' hn' hc'
  obtain ⟨b, o, hAb, _, hcell⟩ := hca (by omega)
  have hcx := hcell k (by omega)
  rw [List.getElem?_map, hx] at hcx
  have hbx := h.2 x (List.mem_of_getElem? hx)
  obtain ⟨Ae, ce, hxe, _, _, _⟩ := hbx.form
  rw [hxe] at hbx
  exact ⟨b, o, Ae, ce, hA'.trans hAb, by rw [hcx]; simp [hxe], hbx⟩
set_option maxRecDepth 100000 in
set_option maxHeartbeats 4000000 in
theorem ssame_any (s : SS) (va vb : Value) (w : World) (hw : s.f.wf) (ha : ShV w va s) (hb : ShV w vb s) :
    Calls Tryd.prog 34 #[va, vb] w fun e w' => e = .returned (.bool true) ∧ Below w.heap.size w w' := by
  obtain ⟨f, data⟩ := s
  obtain ⟨a1, a2, a3, a4, LA, rfl, x1, x2, x3, x4, x5⟩ := ha
  obtain ⟨e1, e2, e3, e4, LB, rfl, y1, y2, y3, y4, y5⟩ := hb
  simp only at *
  obtain ⟨A4, k4, rfl, hl4, hm4, _⟩ := x4.1.form
  obtain ⟨B4, j4, rfl, _, _, _⟩ := y4.1.form
  have hLA : LA.length = data.length := by rw [← x5]; simp
  have hLB : LB.length = data.length := by rw [← y5]; simp
  have hlen : data.length ≤ 9223372036854775807 := by unfold maxLen at hm4; omega
  have huw := hw.1
  obtain ⟨F1, hF1, hz1⟩ : ∃ F, F = frC f.num f.u a1 a2 a3 ∧ F.size = 72 := ⟨_, rfl, frC_size huw⟩
  obtain ⟨F2, hF2, hz2⟩ : ∃ F, F = frC f.num f.u e1 e2 e3 ∧ F.size = 72 := ⟨_, rfl, frC_size huw⟩
  generalize hS1 : shC f.num f.u a1 a2 a3 (.slice A4 LA.length k4) = S1 at *
  generalize hS2 : shC f.num f.u e1 e2 e3 (.slice B4 LB.length j4) = S2 at *
  have n1 := Blk.new w 63 S1
  have b1 := (Below.refl w.heap.size w).alloc (Nat.le_refl _) (.cells S1 63)
  have n2 := Blk.new (w.alloc (.cells S1 63)) 63 S2
  have b2 := b1.alloc (by simp) (.cells S2 63)
  simp only [World.size_alloc] at n2
  have n1' := n1.alloc (.cells S2 63)
  have HC := hide (show ∀ W, Below ((w.alloc (.cells S1 63)).alloc (.cells S2 63)).heap.size ((w.alloc (.cells S1 63)).alloc (.cells S2 63)) W →
      (W.rangeAt w.heap.size 0 F1.toList ∧ W.rangeAt (w.heap.size + 1) 0 F2.toList) ∧ (W.cell? ⟨w.heap.size, 72, none⟩ = some (.slice A4 data.length k4) ∧ W.cell? ⟨w.heap.size + 1, 72, none⟩ = some (.slice B4 data.length j4)) from fun W hW => by
    have q1 := n1'.below' hW
    have q2 := n2.below' hW
    rw [← hS1, hLA] at q1
    rw [← hS2, hLB] at q2
    obtain ⟨p0, _, p2⟩ := q1.share huw
    obtain ⟨r0, _, r2⟩ := q2.share huw
    rw [hF1, hF2]
    exact ⟨⟨p0, r0⟩, p2, r2⟩)
  have HD := hide (show ∀ W, Below ((w.alloc (.cells S1 63)).alloc (.cells S2 63)).heap.size ((w.alloc (.cells S1 63)).alloc (.cells S2 63)) W →
      Lsts W (.slice A4 data.length k4) LA ∧ Lsts W (.slice B4 data.length j4) LB from fun W hW => by
    have q1 := (x4.below b2).below hW
    have q2 := (y4.below b2).below hW
    rw [hLA] at q1
    rw [hLB] at q2
    exact ⟨q1, q2⟩)
  have Q := hide (show Calls Tryd.prog 36 #[.agg F1, .agg F2] ((w.alloc (.cells S1 63)).alloc (.cells S2 63)) fun e w' => e = .returned (.bool true) ∧ Below ((w.alloc (.cells S1 63)).alloc (.cells S2 63)).heap.size ((w.alloc (.cells S1 63)).alloc (.cells S2 63)) w' from by
    rw [hF1, hF2]
    exact fsame_any f a1 a2 a3 e1 e2 e3 _ hw (x1.below b2) (x2.below b2) (x3.below b2) (y1.below b2) (y2.below b2) (y3.below b2))
  have HX := hide (And.intro (And.intro x5 y5) (And.intro hLA hLB))
  generalize hW0 : (w.alloc (.cells S1 63)).alloc (.cells S2 63) = W0 at *
  have HB := hide b2
  clear n1 n2 n1' b1 b2 x1 x2 x3 x4 y1 y2 y3 y4 x5 y5 hF1 hF2 hS1 hS2 hw huw hLA hLB hl4 hm4
  go_enter Tryd.func34, Tryd.ntmps34
  go_wp2_with (first
    | ((with_reducible change wpList _ _ _ (⟨some 7, _, _, _, _, _⟩ :: _) _ _); go_loud (refine wpList_load_midF (by rfl) 61 _ rfl w.heap.size 0 rfl F1 _ (HC.out W0 (Below.refl _ _)).1.1 Tryd.underlying61 rfl (by rw [hz1]; kernel_rfl) ?_))
    | ((with_reducible change wpList _ _ _ (⟨some 9, _, _, _, _, _⟩ :: _) _ _); go_loud (refine wpList_load_midF (by rfl) 61 _ rfl (w.heap.size + 1) 0 rfl F2 _ (HC.out W0 (Below.refl _ _)).1.2 Tryd.underlying61 rfl (by rw [hz2]; kernel_rfl) ?_)))
  refine Q.out.mono ?_
  rintro e w1 ⟨rfl, q1⟩
  obtain ⟨c1, c2⟩ := (HC.out w1 q1).2
  have Q1 := hide q1
  clear q1 Q
  go_wp2
  go_loopw [5] (fun u5 wr => ∃ k : Nat, k ≤ data.length ∧ u5 = .int .i64 (k : Int) ∧ Below W0.heap.size W0 wr) (fun u5 _ => data.length - (intOf u5).toNat)
  case atStart => exact ⟨0, by omega, rfl, Q1.out⟩
  case round =>
    obtain ⟨k, hk, rfl, hbel⟩ := hrel
    have HBB := hide hbel
    clear c1 c2
    obtain ⟨c1, c2⟩ := (HC.out wr hbel).2
    by_cases hlt : k < data.length
    · obtain ⟨d1, d2⟩ := HD.out wr hbel
      obtain ⟨x, hx⟩ : ∃ x, LA[k]? = some x := ⟨_, List.getElem?_eq_getElem (by have := HX.out.2.1; omega)⟩
      obtain ⟨y, hy⟩ : ∃ y, LB[k]? = some y := ⟨_, List.getElem?_eq_getElem (by have := HX.out.2.2; omega)⟩
      have hxy : x.2 = y.2 := by
        have h1 := congrArg (·[k]?) HX.out.1.1
        have h2 := congrArg (·[k]?) HX.out.1.2
        simp only [List.getElem?_map, hx, hy, Option.map_some] at h1 h2
        rw [← h2] at h1
        injection h1
      obtain ⟨p1, o1, C1, s1, rfl, hc1, hb1⟩ := d1.at_ hx
      obtain ⟨p2, o2, C2, s2, rfl, hc2, hb2⟩ := d2.at_ hy
      rw [← hxy] at hc2 hb2
      have cv1 : ∀ q, (convert 38 9 (.slice C1 x.2.length s1)).run Tryd.prog (wr.drewN q) = .ok (.string ⟨x.2.toArray⟩) (wr.drewN q) := fun q => run_strL (show By (wr.drewN q) _ _ from hb1) _ _ 5 Tryd.underlying38 Tryd.underlying5 Tryd.underlying9
      have cv2 : ∀ q, (convert 38 9 (.slice C2 x.2.length s2)).run Tryd.prog (wr.drewN q) = .ok (.string ⟨x.2.toArray⟩) (wr.drewN q) := fun q => run_strL (show By (wr.drewN q) _ _ from hb2) _ _ 5 Tryd.underlying38 Tryd.underlying5 Tryd.underlying9
      have j1 : (k : Int) < (data.length : Int) := by omega
      have j2 : (0 : Int) ≤ (k : Int) := by omega
      generalize x.2.length = nx at *
      generalize (⟨x.2.toArray⟩ : ByteArray) = sx at *
      clear hb1 hb2 hxy hx hy d1 d2 hbel
      go_wp2_with fail
      go_quiet (fail)
      go_wp2_with fail
      go_roundw
      case rel => exact ⟨k + 1, by omega, by go_num, below_drewN HBB.out _⟩
      case measure => simp [intOf]; omega
    · have hkl : k = data.length := by omega
      subst hkl
      clear hbel
      go_wp2
      go_ret
      exact ⟨rfl, Below.step HB.out HBB.out⟩
end Go.Proofs.YtdohebhbiokljaaDoor

/- What was opened is well formed. -/
namespace Go.Proofs.YtdohebhbiokljaaDoor
open Go.RowKit

theorem Opened.wf {e : Nat} {b : List UInt8} {f : FS} (h : Opened e b f) (hl : pl f.u (w4 b 16 - 36) 4 ≤ b.length) : f.wf := by
  have h4 := pl_4 f.u (w4 b 16 - 36)
  have h3 := pl_3 f.u (w4 b 16 - 36)
  have h2 := pl_2 f.u (w4 b 16 - 36)
  refine ⟨(readU_one h.ueb).2.1, ?_, ?_, ?_⟩
  · rw [h.ch]
    exact ck_dg _ _ (by rw [sub_length (by omega)]; omega)
  · rw [h.bs]
    exact ck_dg _ _ (by rw [sub_length (by omega)]; omega)
  · rw [h.sg]
    exact ck_dg _ _ (by rw [sub_length (by omega)]; omega)
theorem openS_ok {b : List UInt8} {s : SS} {m : Nat} (h : openS b = (some s, m)) : s.f.wf ∧ s.f.u.in64 ∧ okS s ∧ packS s = b := by
  obtain ⟨h1, h2⟩ := openS_one h
  unfold openS at h
  rcases hf : openF 5 b with ⟨_ | f, k⟩
  · rw [hf] at h; simp at h
  · rw [hf] at h
    simp only [Prod.mk.injEq, Option.some.injEq] at h
    obtain ⟨rfl, _⟩ := h
    obtain ⟨ho, _⟩ := openF_ok hf
    have h5 := pl_5 f.u (w4 b 16 - 36)
    have hlen := ho.len
    exact ⟨ho.wf (by omega), US.may_in64 ho.may, h2, h1⟩
theorem openS_at {b : List UInt8} {at_ : Nat} (h : openS b = (none, at_)) : at_ ≤ b.length := by
  unfold openS at h
  rcases hf : openF 5 b with ⟨_ | f, k⟩
  · rw [hf] at h
    simp only [Prod.mk.injEq, true_and] at h
    subst h
    exact openF_at hf
  · rw [hf] at h; simp at h
theorem openS_of (s : SS) (hw : s.f.wf) (ho : okS s) {r : Option SS} {m : Nat} (h : openS (packS s) = (r, m)) : r = some s := by
  rw [openS_pack s hw ho] at h
  injection h with h _
  exact h.symm
theorem openF_of4 (f : FS) (hw : f.wf) (ho : okF f) {r : Option FS} {m : Nat} (h : openF 4 (packF f) = (r, m)) : r = some f := by
  rw [openF_pack f hw ho] at h
  injection h with h _
  exact h.symm
theorem packS_front_le (s : SS) : (packF s.f).length ≤ (packS s).length := by unfold packS; simp
end Go.Proofs.YtdohebhbiokljaaDoor

/- The contracts of the law's plain shape and of lives; ShareNames. -/
namespace Go.Proofs.YtdohebhbiokljaaDoor
open Go.RowKit

theorem known_ok2 : agOK 1 1 50 60 := by unfold agOK upN; decide
theorem known_len2 : uebLen 1 1 50 60 z32 z32 = 131 := by unfold uebLen; decide +kernel
theorem lays2 : lays 1 2 50 10 131 = #[.int .i64 36, .int .i64 167, .int .i64 167, .int .i64 263, .int .i64 359, .int .i64 419] := by kernel_rfl
theorem sits2 : Sits 1 1 50 60 2 10 50 10 := fun w => by
  have := again_any 1 1 50 60 w (by omega) (by omega) (by omega) (by omega)
  rw [if_pos known_ok2] at this
  exact this
theorem laid2 (w : World) (ht : Tab w) : Calls Tryd.prog 39 #[.agg #[.int .i64 1, .int .i64 1, .int .i64 50, .int .i64 60, .int .i64 2, .int .i64 10, .int .i64 50, .int .i64 10]] w fun x w' => Below w.heap.size w w' ∧
      x = .returned (.tuple #[.agg #[.int .i64 36, .int .i64 167, .int .i64 167, .int .i64 263, .int .i64 359, .int .i64 419], .int .i64 0]) := by
  have := laid_ok 1 1 50 60 2 10 50 10 w sits2 known_ok2 (by omega) (by omega) (by omega) (by omega) (by omega) 131 known_len2 ht
  rw [lays2] at this
  exact this

set_option maxRecDepth 100000 in
set_option maxHeartbeats 1000000 in
theorem plain_any (w : World) : Calls Tryd.prog 37 #[] w fun x w' => Below w.heap.size w w' ∧ x = .returned (.agg #[.int .i64 1, .int .i64 1, .int .i64 50, .int .i64 60, .int .i64 2, .int .i64 10, .int .i64 50, .int .i64 10]) := by
  go_enter Tryd.func37, Tryd.ntmps37
  go_wp2
  go_returns
  exact ⟨(Below.refl w.heap.size w).alloc (Nat.le_refl _) _, rfl⟩

set_option maxRecDepth 100000 in
set_option maxHeartbeats 1000000 in
theorem lives_any (w : World) (ht : Tab w) : Calls Tryd.prog 9 #[] w fun x w' => Below w.heap.size w w' ∧ x = .returned (.bool true) := by
  have P := hide (fun w => plain_any w)
  have F1 := hide (fun w1 (h : Below w.heap.size w w1) => frontLen_any 1 1 50 60 2 10 50 10 36 167 167 263 359 419 0 w1 (fun w2 h2 => laid2 w2 ((ht.below h).below h2)))
  have F2 := hide (fun w1 (h : Below w.heap.size w w1) => len_any 1 1 50 60 2 10 50 10 36 167 167 263 359 419 0 w1 (fun w2 h2 => laid2 w2 ((ht.below h).below h2)))
  have F3 := hide (fun w1 (h : Below w.heap.size w w1) => place_in 1 1 50 60 2 10 50 10 36 167 167 263 359 419 1 10 409 w1 (by omega) (by omega) sits2 rfl (by decide) (by decide) (fun w2 h2 => laid2 w2 ((ht.below h).below h2)))
  have q4 : ∀ w1, Below w.heap.size w w1 → Calls Tryd.prog 18 #[.agg (uebC 1 1 50 60 (bcells z32 ++ bcells z32))] w1 fun e w' => Below w1.heap.size w1 w' ∧ e = .returned (.tuple #[.int .i64 131, .int .i64 0]) := fun w1 h => by
    have := length_any 1 1 50 60 z32 z32 w1 (by omega) (by omega) (by omega) (by omega) rfl rfl (ht.below h)
    rwa [if_pos known_ok2, known_len2] at this
  have F4 := hide q4
  have hkc := ueb_cells 1 1 50 60
  clear ht q4
  generalize uebC 1 1 50 60 (bcells z32 ++ bcells z32) = cs at *
  go_enter Tryd.func9, Tryd.ntmps9
  go_wp2_with fail
  refine (P.out _).mono ?_
  rintro x w1 ⟨b1, rfl⟩
  have B1 := hide b1
  clear b1
  go_wp2_with fail
  refine (F1.out _ B1.out).mono ?_
  rintro x w2 ⟨b2, rfl⟩
  have B2 := hide (Below.step B1.out b2)
  clear b2
  go_wp2_with fail
  refine (P.out _).mono ?_
  rintro x w3 ⟨b3, rfl⟩
  have B3 := hide (Below.step B2.out b3)
  clear b3
  go_wp2_with fail
  refine (F2.out _ B3.out).mono ?_
  rintro x w4 ⟨b4, rfl⟩
  have B4 := hide (Below.step B3.out b4)
  clear b4
  go_wp2_with fail
  refine (P.out _).mono ?_
  rintro x w5 ⟨b5, rfl⟩
  have B5 := hide (Below.step B4.out b5)
  clear b5
  go_wp2_with fail
  refine (F3.out _ B5.out).mono ?_
  rintro x w6 ⟨b6, rfl⟩
  have B6 := hide (Below.step B5.out b6)
  clear b6
  go_wp2_with fail
  refine (F4.out _ B6.out).mono ?_
  rintro x w7 ⟨b7, rfl⟩
  have B7 := hide (Below.step B6.out b7)
  clear b7
  go_wp2
  go_ret
  exact ⟨B7.out, rfl⟩

set_option maxRecDepth 100000 in
set_option maxHeartbeats 1000000 in
theorem law_sharenames (w : World) (ht : Tab w) : Calls Tryd.prog 4 #[] w fun x w' => x = .returned (.bool true) ∧ Below w.heap.size w w' := by
  have P := hide (lives_any w ht)
  clear ht
  go_enter Tryd.func4, Tryd.ntmps4
  go_wp2_with fail
  refine P.out.mono ?_
  rintro x w1 ⟨b1, rfl⟩
  have B1 := hide b1
  clear b1
  go_wp2
  go_ret
  exact ⟨rfl, B1.out⟩

theorem of_laidT {W : World} {r : List (String × DataW Unit)}
    (h0 : laidMet Tryd.prog (("internal/strconv.uint64pow10", Rows.laid_internal_strconv_uint64pow10) :: r) W) : Tab W := by
  have e : (Rows.laid_internal_strconv_uint64pow10 : DataW Unit) = Lib.tabData .u64 Lib.pow10Tab := by kernel_rfl
  rw [e] at h0
  exact Lib.tabIs_of_head gTab gTabType Tryd.underlying191 Tryd.underlying143 (by kernel_rfl) (by kernel_rfl) h0
end Go.Proofs.YtdohebhbiokljaaDoor

/- The law ShareBack. Printed by wip/sbu.py. -/
namespace Go.Proofs.YtdohebhbiokljaaDoor
open Go.RowKit

/-- A front as it lies in memory. -/
def FrV (w : World) (v : Value) (f : FS) : Prop := ∃ a b c, v = .agg (frC f.num f.u a b c) ∧ Ds w a f.ch ∧ Ds w b f.bs ∧ Ds w c f.sg
theorem FrV.below {w w' : World} {v : Value} {f : FS} (h : FrV w v f) (hb : Below w.heap.size w w') : FrV w' v f := by
  obtain ⟨a, b, c, h1, h2, h3, h4⟩ := h
  exact ⟨a, b, c, h1, h2.below hb, h3.below hb, h4.below hb⟩
theorem Blk.range {w : World} {g : Nat} {t : TypeId} {S : Array Value} (h : Blk w g t S) : w.rangeAt g 0 S.toList := fun j v hj => by
  rw [Nat.zero_add, h.cell, ← Array.getElem?_toList, hj]
theorem Ds.one_ {w : World} {v : Value} {L : List (List UInt8)} (h : Ds w v L) : v.oneCell' = true := by
  obtain ⟨A, c, rfl, _⟩ := h.1.form
  rfl
theorem ShV.open_ {w : World} {v : Value} {s : SS} (h : ShV w v s) (hw : s.f.wf) : ∃ S F : Array Value, v = .agg S ∧ S.size = 73 ∧ S.all (·.oneCell') = true ∧ F.size = 72 ∧ F.all (·.oneCell') = true ∧
    (∀ (W : World) (g : Nat) (t : TypeId), Blk W g t S → W.rangeAt g 0 F.toList) ∧ FrV w (.agg F) s.f := by
  obtain ⟨a, b, c, d, LD, rfl, h1, h2, h3, h4, h5⟩ := h
  have hd : d.oneCell' = true := by
    obtain ⟨A, k, rfl, _⟩ := h4.1.form
    rfl
  exact ⟨_, _, rfl, shC_size hw.1, shC_one hw.1 h1.one_ h2.one_ h3.one_ hd, frC_size hw.1, frC_one hw.1 h1.one_ h2.one_ h3.one_, fun W g t hb => (hb.share hw.1).1, a, b, c, rfl, h1, h2, h3⟩
theorem packF_any (f : FS) (v : Value) (w : World) (hw : f.wf) (ho : okF f) (hv : FrV w v f) (ht : Tab w) :
    Calls Tryd.prog 33 #[v] w fun e w' => Below w.heap.size w w' ∧ ∃ A c, e = .returned (.tuple #[.slice A (packF f).length c, .int .i64 0]) ∧ Own w' w.heap.size 5 (.slice A (packF f).length c) (packF f) := by
  obtain ⟨a, b, c, rfl, h1, h2, h3⟩ := hv
  exact packFront_ok f a b c w hw ho h1 h2 h3 ht
theorem frsame_any (f : FS) (v v' : Value) (w : World) (hw : f.wf) (h : FrV w v f) (h' : FrV w v' f) :
    Calls Tryd.prog 36 #[v, v'] w fun e w' => e = .returned (.bool true) ∧ Below w.heap.size w w' := by
  obtain ⟨a, b, c, rfl, h1, h2, h3⟩ := h
  obtain ⟨a', b', c', rfl, h4, h5, h6⟩ := h'
  exact fsame_any f a b c a' b' c' w hw h1 h2 h3 h4 h5 h6
set_option maxRecDepth 100000 in
set_option maxHeartbeats 8000000 in
theorem law_shareback (s : SS) (v vb : Value) (lb : List UInt8) (w : World) (hv : ShV w v s) (hw : s.f.wf) (hi : s.f.u.in64) (hb : By w vb lb) (ht : Tab w) (he : Err w) :
    Calls Tryd.prog 8 #[v, vb] w fun e w' => e = .returned (.bool true) ∧ Below w.heap.size w w' := by
  obtain ⟨S0, F0, rfl, s1, s2, f1, f2, hfr, hfv⟩ := hv.open_ hw
  obtain ⟨B, cb, rfl, _, _, _⟩ := hb.form
  have n1 := Blk.new w 63 S0
  have b1 := (Below.refl w.heap.size w).alloc (Nat.le_refl _) (.cells S0 63)
  have HI := hide (show ∀ W, Below (w.alloc (.cells S0 63)).heap.size (w.alloc (.cells S0 63)) W → ShV W (.agg S0) s ∧ By W (.slice B lb.length cb) lb ∧ Tab W ∧ Err W from fun W hW => ⟨(hv.below b1).below hW, (hb.below b1).below hW, (ht.below b1).below hW, (he.below b1).below hW⟩)
  have HR := hide (show ∀ W, Below (w.alloc (.cells S0 63)).heap.size (w.alloc (.cells S0 63)) W → Blk W w.heap.size 63 S0 ∧ W.rangeAt w.heap.size 0 F0.toList ∧ FrV W (.agg F0) s.f from fun W hW => ⟨n1.below' hW, hfr W _ _ (n1.below' hW), (hfv.below b1).below hW⟩)
  obtain ⟨zs, hzs, hzs1, hzs2⟩ : ∃ Z, Z = ZS ∧ Z.size = 73 ∧ Z.all (·.oneCell') = true := ⟨_, rfl, ZS_size, ZS_one⟩
  obtain ⟨zf, hzf, hzf1⟩ : ∃ Z, Z = ZF ∧ Z.size = 72 := ⟨_, rfl, ZF_size⟩
  have hz := ZS_zero
  have hzF := ZF_zero
  rw [← hzs] at hz
  rw [← hzf] at hzF
  have HZ := hide (And.intro hzs1 (And.intro hzs2 (And.intro hzs hzf1)))
  have HS := hide (And.intro s1 (And.intro s2 (And.intro f1 f2)))
  have HW := hide (And.intro hw hi)
  have HB := hide b1
  generalize hW0 : w.alloc (.cells S0 63) = W0 at *
  clear hzs hzf hzs1 hzs2 hzf1 s1 s2 f1 f2 hfr hfv n1 b1 hv hb ht he hw hi
  go_enter Tryd.func8, Tryd.ntmps8
  go_wp2_with fail
  refine (lives_any W0 (HI.out W0 (Below.refl _ _)).2.2.1).mono ?_
  rintro e w1 ⟨b1, rfl⟩
  have B1 := hide b1
  clear b1
  go_wp2_with (first
    | ((with_reducible change wpList _ _ _ (⟨some 22, _, _, _, _, _⟩ :: _) _ _); go_loud (refine wpList_load_midF (by rfl) 63 _ rfl (w.heap.size) 0 rfl S0 _ ((HR.out w1 B1.out).1.range) Tryd.underlying63 rfl (by rw [HS.out.1]; kernel_rfl) ?_)))
  refine (pack_any_share s (.agg S0) w1 HW.out.1 HW.out.2 (HI.out w1 B1.out).1 (HI.out w1 B1.out).2.2.1).mono ?_
  rintro e w2 ⟨b2, ⟨hok, A, c, rfl, hown⟩ | ⟨hno, rfl⟩⟩
  · have B2 := hide (Below.step B1.out b2)
    have hne : 0 < (packS s).length := by
      unfold packS packF
      simp only [List.length_append, hdF_length]
      omega
    obtain ⟨g, cap, hAc, hg, hglt⟩ := hown.form hne
    injection hAc with hA1 _ hc1
    subst hA1 hc1
    have HOK := hide hok
    have HL := hide hown.by_
    clear b2 hown hok hne
    go_wp2_with fail
    refine (open_any _ (packS s) w2 HL.out (HI.out w2 B2.out).2.2.1 (HI.out w2 B2.out).2.2.2).mono ?_
    rintro e w3 ⟨b3, ⟨at_, hop, rfl⟩ | ⟨s', v', hop, rfl, hv'⟩⟩
    · exact absurd (openS_of s HW.out.1 HOK.out hop) (by simp)
    obtain rfl : s' = s := by
      have := openS_of s HW.out.1 HOK.out hop
      injection this
    obtain ⟨S1, _, rfl, z1, z2, _, _, _, _⟩ := hv'.open_ HW.out.1
    have B3 := hide (Below.step B2.out b3)
    have HL3 := hide (HL.out.below b3)
    have HV1 := hide hv'
    have HZ1 := hide (And.intro z1 z2)
    clear b3 hop hv' z1 z2 HL
    go_wp2_with (first
      | ((with_reducible change wpList _ _ _ (⟨none, .store _ (.tmp 7) _, _, _, _, _⟩ :: _) _ _); go_loud (refine wpList_store_row (o := ⟨none, .store _ (.tmp 7) _, _, _, _, _⟩) (Blk.new w3 _ _) S1 (by rw [HZ1.out.1, HZ.out.1]) (HZ1.out.2) rfl 63 _ _ rfl (by rw [HZ1.out.1]; kernel_rfl) rfl rfl ?_; intro w4 hb9 hg9; have K4 := hide (And.intro hb9 (show Below w3.heap.size w3 w4 from ((Below.refl _ w3).alloc (Nat.le_refl _) _).grown hg9 (by simp) (fun k hk => by cases hk; exact Nat.le_refl _))); clear hb9 hg9; have B4 := hide (Below.step B3.out K4.out.2)))
      | ((with_reducible change wpList _ _ _ (⟨some 36, _, _, _, _, _⟩ :: _) _ _); go_loud (refine wpList_load_midF (by rfl) 61 _ rfl (w.heap.size) 0 rfl F0 _ ((HR.out w4 B4.out).2.1) Tryd.underlying61 rfl (by rw [HS.out.2.2.1]; kernel_rfl) ?_)))
    refine (packF_any s'.f (.agg F0) w4 HW.out.1 HOK.out.1 (HR.out w4 B4.out).2.2 (HI.out w4 B4.out).2.2.1).mono ?_
    rintro e w5 ⟨b5, A5, c5, rfl, hown5⟩
    have B5 := hide (Below.step B4.out b5)
    have HN5 := hide hown5.by_
    obtain ⟨A5', c5', hv5, hlc5, hcm5, _⟩ := hown5.by_.form
    injection hv5 with hA5 _ hcc5
    subst hA5 hcc5
    have K5 := hide (K4.out.1.below' b5)
    have HL5 := hide (HL3.out.below (Below.step K4.out.2 b5))
    have HV5 := hide (HV1.out.below (Below.step K4.out.2 b5))
    have Q6 := hide (ssame_any s' (.agg S1) (.agg S0) w5 HW.out.1 HV5.out (HI.out w5 B5.out).1)
    have hle := packS_front_le s'
    have hfront := packF_front s'
    have hcap : (packS s').length ≤ c := by
      obtain ⟨_, _, hv9, h9, _⟩ := HL5.out.form
      injection hv9
      omega
    have HFR := hide hfront
    have HSB := hide (show ∀ W, Below w5.heap.size w5 W → By W (.slice (some ⟨g, 0, none⟩) (packF s'.f).length c) (packF s'.f) ∧ By W (.slice A5 (packF s'.f).length c5) (packF s'.f) from fun W hW => by
      refine ⟨?_, HN5.out.below hW⟩
      obtain ⟨_, _, hv9, _, hm9, _⟩ := HL5.out.form
      injection hv9 with _ _ hc9
      subst hc9
      have := (HL5.out.below hW).sub 0 (packF s'.f).length c (by omega) (by omega) hm9
      rw [List.drop_zero, hfront] at this
      simpa using this)
    have HQF := hide (fun W hW => openFront_any (.slice A5 (packF s'.f).length c5) (packF s'.f) W (HSB.out W hW).2)
    have k1 : ¬ ((packS s').length : Int) < ((packF s'.f).length : Int) := by omega
    have k2 : ((packF s'.f).length : Int) ≤ (c : Int) := by omega
    have k3 : (0 : Int) ≤ ((packF s'.f).length : Int) := by omega
    have HX := hide hlc5
    clear b5 hown5 hle hfront hcap hlc5 hcm5 HL3 HV1
    generalize hpF : (packF s'.f).length = nF at *
    generalize hpS : (packS s').length = nS at *
    go_wp2_with (first
      | ((with_reducible change wpList _ _ _ (⟨some 51, _, _, _, _, _⟩ :: _) _ _); go_loud (refine wpList_load_midF (by rfl) 63 _ rfl (w3.heap.size) 0 rfl S1 _ (K5.out.range) Tryd.underlying63 rfl (by rw [HZ1.out.1]; kernel_rfl) ?_))
      | ((with_reducible change wpList _ _ _ (⟨some 52, _, _, _, _, _⟩ :: _) _ _); go_loud (refine wpList_load_midF (by rfl) 63 _ rfl (w.heap.size) 0 rfl S0 _ ((HR.out w5 B5.out).1.range) Tryd.underlying63 rfl (by rw [HS.out.1]; kernel_rfl) ?_)))
    refine Q6.out.mono ?_
    rintro e w6 ⟨rfl, b6⟩
    have Q7 := hide (same_any _ _ _ _ w6 (HSB.out w6 b6).1 (HSB.out w6 b6).2)
    rw [show decide (packF s'.f = packF s'.f) = true from decide_eq_true rfl] at Q7
    have b56 := hide b6
    clear b6 Q6
    go_wp2_with fail
    refine Q7.out.mono ?_
    rintro e w7 ⟨rfl, b7⟩
    have b57 := hide (Below.step b56.out b7)
    have B7 := hide (Below.step B5.out b57.out)
    have Q8 := hide (HQF.out w7 b57.out (HI.out w7 B7.out).2.2.1 (HI.out w7 B7.out).2.2.2)
    clear b7 Q7 b56
    go_wp2_with fail
    refine Q8.out.mono ?_
    rintro e w8 ⟨b8, ⟨at_, hop, rfl⟩ | ⟨f', va, vb', vc, hop, rfl, d1, d2, d3⟩⟩
    · exact absurd (openF_of4 s'.f HW.out.1 HOK.out.1 hop) (by simp)
    obtain rfl : f' = s'.f := by
      have := openF_of4 s'.f HW.out.1 HOK.out.1 hop
      injection this
    have q1 := frC_size (num := s'.f.num) (a := va) (b := vb') (c := vc) HW.out.1.1
    have q2 := frC_one (num := s'.f.num) HW.out.1.1 d1.ds.one_ d2.ds.one_ d3.ds.one_
    have hfv : FrV w8 (.agg (frC s'.f.num s'.f.u va vb' vc)) s'.f := ⟨_, _, _, rfl, d1.ds, d2.ds, d3.ds⟩
    generalize frC s'.f.num s'.f.u va vb' vc = F1 at *
    have HF1 := hide (And.intro q1 q2)
    have HFV := hide hfv
    have B8 := hide (Below.step B7.out b8)
    clear b8 hop q1 q2 hfv d1 d2 d3 Q8 k1 k2 k3
    go_wp2_with (first
      | ((with_reducible change wpList _ _ _ (⟨none, .store _ (.tmp 12) _, _, _, _, _⟩ :: _) _ _); go_loud (refine wpList_store_row (o := ⟨none, .store _ (.tmp 12) _, _, _, _, _⟩) (Blk.new w8 _ _) F1 (by rw [HF1.out.1, HZ.out.2.2.2]) (HF1.out.2) rfl 61 _ _ rfl (by rw [HF1.out.1]; kernel_rfl) rfl rfl ?_; intro w9 hb9 hg9; have K9 := hide (And.intro hb9 (show Below w8.heap.size w8 w9 from ((Below.refl _ w8).alloc (Nat.le_refl _) _).grown hg9 (by simp) (fun k hk => by cases hk; exact Nat.le_refl _))); clear hb9 hg9; have B9 := hide (Below.step B8.out K9.out.2)))
      | ((with_reducible change wpList _ _ _ (⟨some 85, _, _, _, _, _⟩ :: _) _ _); go_loud (refine wpList_load_midF (by rfl) 61 _ rfl (w8.heap.size) 0 rfl F1 _ (K9.out.1.range) Tryd.underlying61 rfl (by rw [HF1.out.1]; kernel_rfl) ?_))
      | ((with_reducible change wpList _ _ _ (⟨some 87, _, _, _, _, _⟩ :: _) _ _); go_loud (refine wpList_load_midF (by rfl) 61 _ rfl (w.heap.size) 0 rfl F0 _ ((HR.out w9 B9.out).2.1) Tryd.underlying61 rfl (by rw [HS.out.2.2.1]; kernel_rfl) ?_)))
    refine (frsame_any s'.f (.agg F1) (.agg F0) w9 HW.out.1 (HFV.out.below K9.out.2) (HR.out w9 B9.out).2.2).mono ?_
    rintro e w10 ⟨rfl, b10⟩
    have BT := hide (Below.step B9.out b10)
    clear b10 HSB HQF HL5 HV5 K5 HN5 HF1 HFV K9 K4 HZ1
    go_wp2_with fail
    refine (open_any _ lb w10 (HI.out w10 BT.out).2.1 (HI.out w10 BT.out).2.2.1 (HI.out w10 BT.out).2.2.2).mono ?_
    rintro e u1 ⟨c1, ⟨at_, hop, rfl⟩ | ⟨s2, v2, hop, rfl, hv2⟩⟩
    · have hat := openS_at hop
      have hc1 := hide (Below.step BT.out c1)
      clear c1 hop
      rw [← HZ.out.2.2.1]
      go_wp2_with (first
        | ((with_reducible change wpList _ _ _ (⟨none, .store _ (.tmp 14) _, _, _, _, _⟩ :: _) _ _); go_loud (refine wpList_store_row (o := ⟨none, .store _ (.tmp 14) _, _, _, _, _⟩) (Blk.new u1 _ _) zs (rfl) (HZ.out.2.1) rfl 63 _ _ rfl (by rw [HZ.out.1]; kernel_rfl) rfl rfl ?_; intro u2 hb9 hg9; have K2 := hide (And.intro hb9 (show Below u1.heap.size u1 u2 from ((Below.refl _ u1).alloc (Nat.le_refl _) _).grown hg9 (by simp) (fun k hk => by cases hk; exact Nat.le_refl _))); clear hb9 hg9)))
      have k1 : (at_ : Int) ≤ (lb.length : Int) := by omega
      have k0 : (0 : Int) ≤ (at_ : Int) := by omega
      have G2 := hide (Below.step HB.out (Below.step hc1.out K2.out.2))
      clear hat
      go_wp2
      go_ret
      exact ⟨rfl, G2.out⟩
    · obtain ⟨hw2, hi2, hok2, hpk2⟩ := openS_ok hop
      obtain ⟨S2, F2, rfl, z1, z2, _, _, _, _⟩ := hv2.open_ hw2
      have hc1 := hide (Below.step BT.out c1)
      have HV2 := hide hv2
      have HK := hide (And.intro (And.intro hw2 hi2) (And.intro hok2 hpk2))
      have HZ2 := hide (And.intro z1 z2)
      clear c1 hop hv2 z1 z2 hw2 hi2 hok2 hpk2
      go_wp2_with (first
        | ((with_reducible change wpList _ _ _ (⟨none, .store _ (.tmp 14) _, _, _, _, _⟩ :: _) _ _); go_loud (refine wpList_store_row (o := ⟨none, .store _ (.tmp 14) _, _, _, _, _⟩) (Blk.new u1 _ _) S2 (by rw [HZ2.out.1, HZ.out.1]) (HZ2.out.2) rfl 63 _ _ rfl (by rw [HZ2.out.1]; kernel_rfl) rfl rfl ?_; intro u2 hb9 hg9; have K2 := hide (And.intro hb9 (show Below u1.heap.size u1 u2 from ((Below.refl _ u1).alloc (Nat.le_refl _) _).grown hg9 (by simp) (fun k hk => by cases hk; exact Nat.le_refl _))); clear hb9 hg9))
        | ((with_reducible change wpList _ _ _ (⟨some 112, _, _, _, _, _⟩ :: _) _ _); go_loud (refine wpList_load_midF (by rfl) 63 _ rfl (u1.heap.size) 0 rfl S2 _ (K2.out.1.range) Tryd.underlying63 rfl (by rw [HZ2.out.1]; kernel_rfl) ?_)))
      have c3 := hide (Below.step hc1.out K2.out.2)
      refine (pack_any_share s2 (.agg S2) u2 HK.out.1.1 HK.out.1.2 (HV2.out.below K2.out.2) (HI.out u2 c3.out).2.2.1).mono ?_
      rintro e u3 ⟨c4, ⟨_, A2, k2, rfl, hown2⟩ | ⟨hno, rfl⟩⟩
      · have hby2 := hown2.by_
        have c5 := hide (Below.step c3.out c4)
        have Q9 := hide (same_any _ _ _ _ u3 hby2 (HI.out u3 c5.out).2.1)
        rw [show decide (packS s2 = lb) = true from decide_eq_true HK.out.2.2] at Q9
        clear c4 hown2 hby2
        generalize (packS s2).length = n2 at *
        go_wp2_with fail
        refine Q9.out.mono ?_
        rintro e u4 ⟨rfl, c6⟩
        have G2 := hide (Below.step HB.out (Below.step c5.out c6))
        clear c6
        go_wp2
        go_ret
        exact ⟨rfl, G2.out⟩
      · exact absurd HK.out.2.1 hno
  · have BT := hide (Below.step B1.out b2)
    clear b2
    go_wp2_with fail
    refine (open_any _ lb w2 (HI.out w2 BT.out).2.1 (HI.out w2 BT.out).2.2.1 (HI.out w2 BT.out).2.2.2).mono ?_
    rintro e u1 ⟨c1, ⟨at_, hop, rfl⟩ | ⟨s2, v2, hop, rfl, hv2⟩⟩
    · have hat := openS_at hop
      have hc1 := hide (Below.step BT.out c1)
      clear c1 hop
      rw [← HZ.out.2.2.1]
      go_wp2_with (first
        | ((with_reducible change wpList _ _ _ (⟨none, .store _ (.tmp 14) _, _, _, _, _⟩ :: _) _ _); go_loud (refine wpList_store_row (o := ⟨none, .store _ (.tmp 14) _, _, _, _, _⟩) (Blk.new u1 _ _) zs (rfl) (HZ.out.2.1) rfl 63 _ _ rfl (by rw [HZ.out.1]; kernel_rfl) rfl rfl ?_; intro u2 hb9 hg9; have K2 := hide (And.intro hb9 (show Below u1.heap.size u1 u2 from ((Below.refl _ u1).alloc (Nat.le_refl _) _).grown hg9 (by simp) (fun k hk => by cases hk; exact Nat.le_refl _))); clear hb9 hg9)))
      have k1 : (at_ : Int) ≤ (lb.length : Int) := by omega
      have k0 : (0 : Int) ≤ (at_ : Int) := by omega
      have G2 := hide (Below.step HB.out (Below.step hc1.out K2.out.2))
      clear hat
      go_wp2
      go_ret
      exact ⟨rfl, G2.out⟩
    · obtain ⟨hw2, hi2, hok2, hpk2⟩ := openS_ok hop
      obtain ⟨S2, F2, rfl, z1, z2, _, _, _, _⟩ := hv2.open_ hw2
      have hc1 := hide (Below.step BT.out c1)
      have HV2 := hide hv2
      have HK := hide (And.intro (And.intro hw2 hi2) (And.intro hok2 hpk2))
      have HZ2 := hide (And.intro z1 z2)
      clear c1 hop hv2 z1 z2 hw2 hi2 hok2 hpk2
      go_wp2_with (first
        | ((with_reducible change wpList _ _ _ (⟨none, .store _ (.tmp 14) _, _, _, _, _⟩ :: _) _ _); go_loud (refine wpList_store_row (o := ⟨none, .store _ (.tmp 14) _, _, _, _, _⟩) (Blk.new u1 _ _) S2 (by rw [HZ2.out.1, HZ.out.1]) (HZ2.out.2) rfl 63 _ _ rfl (by rw [HZ2.out.1]; kernel_rfl) rfl rfl ?_; intro u2 hb9 hg9; have K2 := hide (And.intro hb9 (show Below u1.heap.size u1 u2 from ((Below.refl _ u1).alloc (Nat.le_refl _) _).grown hg9 (by simp) (fun k hk => by cases hk; exact Nat.le_refl _))); clear hb9 hg9))
        | ((with_reducible change wpList _ _ _ (⟨some 112, _, _, _, _, _⟩ :: _) _ _); go_loud (refine wpList_load_midF (by rfl) 63 _ rfl (u1.heap.size) 0 rfl S2 _ (K2.out.1.range) Tryd.underlying63 rfl (by rw [HZ2.out.1]; kernel_rfl) ?_)))
      have c3 := hide (Below.step hc1.out K2.out.2)
      refine (pack_any_share s2 (.agg S2) u2 HK.out.1.1 HK.out.1.2 (HV2.out.below K2.out.2) (HI.out u2 c3.out).2.2.1).mono ?_
      rintro e u3 ⟨c4, ⟨_, A2, k2, rfl, hown2⟩ | ⟨hno, rfl⟩⟩
      · have hby2 := hown2.by_
        have c5 := hide (Below.step c3.out c4)
        have Q9 := hide (same_any _ _ _ _ u3 hby2 (HI.out u3 c5.out).2.1)
        rw [show decide (packS s2 = lb) = true from decide_eq_true HK.out.2.2] at Q9
        clear c4 hown2 hby2
        generalize (packS s2).length = n2 at *
        go_wp2_with fail
        refine Q9.out.mono ?_
        rintro e u4 ⟨rfl, c6⟩
        have G2 := hide (Below.step HB.out (Below.step c5.out c6))
        clear c6
        go_wp2
        go_ret
        exact ⟨rfl, G2.out⟩
      · exact absurd HK.out.2.1 hno
end Go.Proofs.YtdohebhbiokljaaDoor

/- From the reading of an argument to what the walks are told of it. -/
namespace Go.Proofs.YtdohebhbiokljaaDoor
open Go.RowKit

theorem cell_lt {w : World} {a : Addr} {v : Value} (h : w.cell? a = some v) : a.block < w.heap.size := by
  rcases Nat.lt_or_ge a.block w.heap.size with h1 | h1
  · exact h1
  · simp [World.cell?, Array.getElem?_eq_none h1] at h

/-- A slice of bytes that came in. -/
theorem by_of_row {w : World} {a : Addr} {len cap : Nat} {zs : List Int} (hl : len ≤ cap) (hm : cap ≤ maxLen) (hz : zs.length = cap)
    (hcell : ∀ i, i < zs.length → w.cell? (a.add i) = some (.int .u8 (zs.getD i 0))) (hwz : ∀ n ∈ zs, (Lit.int .u8 n).wf = true) :
    ∃ l : List UInt8, l.length = len ∧ By w (.slice (some a) len cap) l := by
  refine ⟨(zs.take len).map fun z => UInt8.ofNat z.toNat, by simp; omega, ?_, some a, cap, by simp; omega, by simp; omega, hm, fun h0 => ?_⟩
  · simp
  · obtain ⟨b, o, sp⟩ := a
    simp only [List.length_map, List.length_take] at h0
    have h1 := hcell 0 (by omega)
    have hsp : sp = none := by simpa [Addr.add] using World.cell?_spot h1
    subst hsp
    refine ⟨b, o, rfl, cell_lt (a := ⟨b, o, none⟩) (by simpa [Addr.add] using h1), fun j hj => ?_⟩
    simp only [List.length_map, List.length_take, Nat.mul_one] at hj
    have hc := hcell j (by omega)
    rw [Addr.add_mid] at hc
    rw [hc, bcells_get, List.getElem?_map, List.getElem?_take_of_lt (by omega), List.getElem?_eq_getElem (by omega)]
    have hw := hwz zs[j] (List.getElem_mem (by omega))
    have hb : 0 ≤ zs[j] ∧ zs[j] ≤ 255 := by simpa [Lit.wf, IntKind.min, IntKind.max, IntKind.bits, IntKind.signed] using hw
    simp only [Option.map_some, Option.some.injEq, Value.int.injEq, true_and]
    rw [List.getD_eq_getElem?_getD, List.getElem?_eq_getElem (by omega), Option.getD_some, UInt8.toNat_ofNat']
    omega

end Go.Proofs.YtdohebhbiokljaaDoor

/- What the bound of an Upto statement gives: of each argument that it is small. -/
namespace Go.Proofs.YtdohebhbiokljaaDoor.bulks

theorem one_le {H : Type} (d : DataW H) : 1 ≤ Rows.uptoBulk d := by
  cases d with
  | lit l => cases l <;> simp [Rows.uptoBulk]
  | nil => simp [Rows.uptoBulk]
  | ptr d => simp [Rows.uptoBulk]
  | slice a b => simp [Rows.uptoBulk]
  | agg a => simp [Rows.uptoBulk]
  | iface t d => simp [Rows.uptoBulk]
  | map a => simp [Rows.uptoBulk]
  | held h => simp [Rows.uptoBulk]
theorem in_all {H : Type} {d : DataW H} {l : List (DataW H)} (h : d ∈ l) : Rows.uptoBulk d ≤ Rows.uptoBulkAll l := by
  induction l with
  | nil => cases h
  | cons x r ih =>
    simp only [Rows.uptoBulkAll]
    rcases List.mem_cons.1 h with e | e
    · subst e; omega
    · have := ih e; omega
theorem count_le {H : Type} (l : List (DataW H)) : l.length ≤ Rows.uptoBulkAll l := by
  induction l with
  | nil => simp [Rows.uptoBulkAll]
  | cons x r ih => have := one_le x; simp only [Rows.uptoBulkAll, List.length_cons]; omega
theorem slice_le {H : Type} (a b : List (DataW H)) : a.length + b.length + 1 ≤ Rows.uptoBulk (.slice a b) := by
  have h1 := count_le a
  have h2 := count_le b
  simp only [Rows.uptoBulk]
  omega
theorem elems_le {H : Type} (a b : List (DataW H)) : Rows.uptoBulkAll a + 1 ≤ Rows.uptoBulk (.slice a b) := by
  simp only [Rows.uptoBulk]; omega
theorem string_eq {H : Type} (b : List UInt8) : Rows.uptoBulk (DataW.lit (H := H) (.string b)) = b.length + 1 := by simp [Rows.uptoBulk]
/-- Each part of what is read is within the bound. -/
theorem part {H : Type} {l : List (DataW H)} (hk : Rows.uptoSmall H l = true) {d : DataW H} (h : d ∈ l) : Rows.uptoBulk d ≤ 1048576 :=
  Nat.le_trans (in_all h) (of_decide_eq_true hk)
end Go.Proofs.YtdohebhbiokljaaDoor.bulks

/- A Ueb that came in, as the walks are told of it. -/
namespace Go.Proofs.YtdohebhbiokljaaDoor
open Go.RowKit Go.ChangeShapes Go.WideShapes

set_option maxRecDepth 10000
section
variable {H : Type} {enc : TypeId × Value → H} {w : World} {base : Nat} {spare : Nat → Bool} {held : Bool}
theorem digest_of {cs : List Value} {fuel : Nat} {x : DataW H × List MemPlace} (h : DataW.trod enc Tryd.prog w base spare held fuel 35 cs = some x) : ∃ l : List UInt8, cs = bcells l ∧ l.length = 32 := by
  obtain ⟨xs, m, rfl, hx, hl, hxl, hf⟩ := DataW.trod_array Tryd.underlying35 h
  rw [show Tryd.prog.cellsOf 35 = 32 by kernel_rfl] at hl
  have hc1 : Tryd.prog.cellsOf 5 = 1 := by kernel_rfl
  have key : ∀ i, i < 32 → ∃ b : UInt8, cs[i]? = some (.int .u8 (b.toNat : Int)) := by
    intro i hi
    have h1 := hf i hi
    rw [hc1, Nat.mul_one, List.getElem?_eq_getElem (show i < xs.length by omega)] at h1
    obtain ⟨n, h2, _, h3⟩ := DataW.trod_int Tryd.underlying5 h1
    have h4 : cs[i]? = some (.int .u8 n) := by
      have := congrArg (·[0]?) h2
      simpa using this
    have h5 : 0 ≤ n ∧ n < 256 := by
      have h6 : 0 ≤ n ∧ n ≤ 255 := by simpa [Lit.wf, IntKind.min, IntKind.max, IntKind.signed, IntKind.bits] using h3
      omega
    refine ⟨UInt8.ofNat n.toNat, ?_⟩
    have h7 : ((UInt8.ofNat n.toNat).toNat : Int) = n := by
      rw [UInt8.toNat_ofNat']
      omega
    rw [h4, h7]
  refine ⟨cs.map fun v => match v with | .int _ n => UInt8.ofNat n.toNat | _ => 0, ?_, by simp [hl]⟩
  refine List.ext_getElem? fun i => ?_
  by_cases hi : i < 32
  · obtain ⟨b, hb⟩ := key i hi
    rw [bcells_get, List.getElem?_map, hb]
    simp
  · rw [List.getElem?_eq_none (by omega), List.getElem?_eq_none (by simp [hl]; omega)]
theorem cut_list {α : Type} (l : List α) (i j : Nat) : l.drop i = (l.drop i).take j ++ l.drop (i + j) := by
  rw [← List.drop_drop, List.take_append_drop]
theorem ueb_of {cs : List Value} {fuel : Nat} {x : DataW H × List MemPlace} (h : DataW.trod enc Tryd.prog w base spare held fuel 37 cs = some x) : ∃ u : US, cs.toArray = u.cells ∧ u.wf ∧ u.in64 := by
  obtain ⟨xs, m, rfl, hx, hl, hxl, hf⟩ := DataW.trod_struct Tryd.underlying37 h
  rw [show Tryd.prog.cellsOf 37 = 68 by kernel_rfl] at hl
  have c1 : Tryd.prog.cellsOf 3 = 1 := by kernel_rfl
  have c2 : Tryd.prog.cellsOf 35 = 32 := by kernel_rfl
  have hx6 : xs.length = 6 := hxl
  have get : ∀ i, i < 6 → ∃ y, xs[i]? = some y := fun i hi => ⟨_, List.getElem?_eq_getElem (by omega)⟩
  obtain ⟨y0, g0⟩ := get 0 (by omega)
  obtain ⟨y1, g1⟩ := get 1 (by omega)
  obtain ⟨y2, g2⟩ := get 2 (by omega)
  obtain ⟨y3, g3⟩ := get 3 (by omega)
  obtain ⟨y4, g4⟩ := get 4 (by omega)
  obtain ⟨y5, g5⟩ := get 5 (by omega)
  have f0 : DataW.trod enc Tryd.prog w base spare held m 3 ((cs.drop 0).take (Tryd.prog.cellsOf 3)) = some y0 := (hf 0 _ rfl).trans g0
  have f1 : DataW.trod enc Tryd.prog w base spare held m 3 ((cs.drop 1).take (Tryd.prog.cellsOf 3)) = some y1 := (hf 1 _ rfl).trans g1
  have f2 : DataW.trod enc Tryd.prog w base spare held m 3 ((cs.drop 2).take (Tryd.prog.cellsOf 3)) = some y2 := (hf 2 _ rfl).trans g2
  have f3 : DataW.trod enc Tryd.prog w base spare held m 3 ((cs.drop 3).take (Tryd.prog.cellsOf 3)) = some y3 := (hf 3 _ rfl).trans g3
  have f4 : DataW.trod enc Tryd.prog w base spare held m 35 ((cs.drop 4).take (Tryd.prog.cellsOf 35)) = some y4 := (hf 4 _ rfl).trans g4
  have f5 : DataW.trod enc Tryd.prog w base spare held m 35 ((cs.drop 36).take (Tryd.prog.cellsOf 35)) = some y5 := (hf 5 _ rfl).trans g5
  rw [c1] at f0 f1 f2 f3
  rw [c2] at f4 f5
  obtain ⟨k, e0, _, w0⟩ := DataW.trod_int Tryd.underlying3 f0
  obtain ⟨n, e1, _, w1⟩ := DataW.trod_int Tryd.underlying3 f1
  obtain ⟨seg, e2, _, w2⟩ := DataW.trod_int Tryd.underlying3 f2
  obtain ⟨size, e3, _, w3⟩ := DataW.trod_int Tryd.underlying3 f3
  obtain ⟨sh, e4, l4⟩ := digest_of f4
  obtain ⟨sg, e5, l5⟩ := digest_of f5
  refine ⟨⟨k, n, seg, size, sh, sg⟩, ?_, ⟨l4, l5⟩, wf64 w0, wf64 w1, wf64 w2, wf64 w3⟩
  have hcs : cs = .int .i64 k :: .int .i64 n :: .int .i64 seg :: .int .i64 size :: (bcells sh ++ bcells sg) := by
    have a0 := cut_list cs 0 1
    have a1 := cut_list cs 1 1
    have a2 := cut_list cs 2 1
    have a3 := cut_list cs 3 1
    have a4 := cut_list cs 4 32
    have a5 := cut_list cs 36 32
    rw [e0] at a0
    rw [e1] at a1
    rw [e2] at a2
    rw [e3] at a3
    rw [e4] at a4
    rw [e5, show 36 + 32 = 68 from rfl, List.drop_eq_nil_of_le (show cs.length ≤ 68 by omega), List.append_nil] at a5
    rw [show 4 + 32 = 36 from rfl, a5] at a4
    rw [show 3 + 1 = 4 from rfl, a4] at a3
    rw [show 2 + 1 = 3 from rfl, a3] at a2
    rw [show 1 + 1 = 2 from rfl, a2] at a1
    rw [show 0 + 1 = 1 from rfl, a1] at a0
    rw [List.drop_zero] at a0
    exact a0
  rw [hcs]
  rfl
theorem open_ueb {v : Value} {d : DataW H} {p : List MemPlace} {r : Reach} {b0 : Nat} {P' : World} (hv : Value.okWide Tryd.prog P' r b0 37 v) (h : DataW.Trod enc Tryd.prog w base spare held 37 v d p) : ∃ u : US, v = .agg u.cells ∧ u.wf ∧ u.in64 := by
  obtain ⟨cs, rfl, _⟩ := okWide_struct Tryd.underlying37 hv
  obtain ⟨fuel, hf⟩ := h
  obtain ⟨u, h1, h2⟩ := ueb_of hf
  exact ⟨u, by rw [← h1]; exact congrArg Value.agg (Array.toArray_toList).symm, h2⟩
end
end Go.Proofs.YtdohebhbiokljaaDoor

/- A share that came in, as the walks are told of it. -/
namespace Go.Proofs.YtdohebhbiokljaaDoor
open Go.RowKit Go.ChangeShapes Go.WideShapes

set_option maxRecDepth 10000
theorem Ds.nil (w : World) : Ds w (.slice none 0 0) [] := ⟨⟨rfl, none, 0, rfl, by simp, by unfold maxLen; omega, fun h => absurd h (by simp)⟩, fun x hx => by simp at hx⟩
theorem Lsts.nil (w : World) : Lsts w (.slice none 0 0) [] := ⟨⟨rfl, none, 0, rfl, by simp, by unfold maxLen; omega, fun h => absurd h (by simp)⟩, fun x hx => by simp at hx⟩
/-- Digests that stand one behind the other. -/
theorem digs_row {w : World} {a : Addr} {len cap : Nat} (hl : len ≤ cap) (hm : cap ≤ maxLen)
    (hx : ∀ i, i < len → ∃ l : List UInt8, l.length = 32 ∧ ∀ j, j < 32 → w.cell? ((a.add (i * 32)).add j) = (bcells l)[j]?) : ∃ L : List (List UInt8), Ds w (.slice (some a) len cap) L := by
  have key : ∀ n, n ≤ len → ∃ L : List (List UInt8), L.length = n ∧ Dg L ∧ ∀ i l, L[i]? = some l → ∀ j, j < 32 → w.cell? ((a.add (i * 32)).add j) = (bcells l)[j]? := by
    intro n
    induction n with
    | zero => exact fun _ => ⟨[], rfl, fun x h => by simp at h, fun i l h => by simp at h⟩
    | succ n ih =>
      intro hn
      obtain ⟨L, h1, h2, h3⟩ := ih (by omega)
      obtain ⟨l, hl32, hc⟩ := hx n (by omega)
      refine ⟨L ++ [l], by simp [h1], fun y hy => ?_, fun i y hy j hj => ?_⟩
      · rcases List.mem_append.1 hy with hy | hy
        · exact h2 y hy
        · rw [List.mem_singleton.1 hy]; exact hl32
      · rcases Nat.lt_trichotomy i n with hi | hi | hi
        · rw [List.getElem?_append_left (by omega)] at hy
          exact h3 i y hy j hj
        · subst hi
          rw [List.getElem?_append_right (by omega), h1, Nat.sub_self] at hy
          simp only [List.getElem?_cons_zero, Option.some.injEq] at hy
          subst hy
          exact hc j hj
        · rw [List.getElem?_eq_none (by simp; omega)] at hy
          cases hy
  obtain ⟨L, h1, h2, h3⟩ := key len (Nat.le_refl _)
  refine ⟨L, ⟨by rw [flat_size h2]; omega, some a, cap, by rw [h1], by rw [h1]; exact hl, hm, fun h0 => ?_⟩, h2⟩
  obtain ⟨l0, hl0⟩ : ∃ l, L[0]? = some l := ⟨_, List.getElem?_eq_getElem h0⟩
  have hd0 : l0.length = 32 := h2 l0 (List.mem_of_getElem? hl0)
  obtain ⟨b, o, sp⟩ := a
  have hc0 := h3 0 l0 hl0 0 (by omega)
  obtain ⟨v0, hv0⟩ : ∃ v, (bcells l0)[0]? = some v := ⟨_, List.getElem?_eq_getElem (by rw [bcells_length]; omega)⟩
  rw [hv0] at hc0
  have hsp : sp = none := by simpa [Addr.add] using World.cell?_spot hc0
  subst hsp
  refine ⟨b, o, rfl, cell_lt (a := ⟨b, o, none⟩) (by simpa [Addr.add] using hc0), fun j hj => ?_⟩
  obtain ⟨l, hl⟩ : ∃ l, L[j / 32]? = some l := ⟨_, List.getElem?_eq_getElem (by omega)⟩
  have hc := h3 (j / 32) l hl (j % 32) (by omega)
  have hf := flat_get L h2 (j / 32) l hl (j % 32) (by omega)
  rw [show j / 32 * 32 + j % 32 = j by omega] at hf
  rw [hf, ← hc, Addr.add_mid, Addr.add_mid, show o + j / 32 * 32 + j % 32 = o + j by omega]
/-- Lists of bytes that stand one behind the other. -/
theorem lists_row {w : World} {a : Addr} {len cap : Nat} {V : Nat → Value} (hl : len ≤ cap) (hm : cap ≤ maxLen)
    (hx : ∀ i, i < len → w.cell? (a.add i) = some (V i) ∧ ∃ l : List UInt8, By w (V i) l) : ∃ L, Lsts w (.slice (some a) len cap) L := by
  have key : ∀ n, n ≤ len → ∃ L : List (Value × List UInt8), L.length = n ∧ ∀ i x, L[i]? = some x → V i = x.1 ∧ By w x.1 x.2 := by
    intro n
    induction n with
    | zero => exact fun _ => ⟨[], rfl, fun i l h => by simp at h⟩
    | succ n ih =>
      intro hn
      obtain ⟨L, h1, h2⟩ := ih (by omega)
      obtain ⟨_, l, hb⟩ := hx n (by omega)
      refine ⟨L ++ [(V n, l)], by simp [h1], fun i x h => ?_⟩
      rcases Nat.lt_trichotomy i n with hi | hi | hi
      · rw [List.getElem?_append_left (by omega)] at h
        exact h2 i x h
      · subst hi
        rw [List.getElem?_append_right (by omega), h1, Nat.sub_self] at h
        simp only [List.getElem?_cons_zero, Option.some.injEq] at h
        subst h
        exact ⟨rfl, hb⟩
      · rw [List.getElem?_eq_none (by simp; omega)] at h
        cases h
  obtain ⟨L, h1, h2⟩ := key len (Nat.le_refl _)
  refine ⟨L, ⟨by simp, some a, cap, by rw [h1], by rw [h1]; exact hl, hm, fun h0 => ?_⟩, fun x hxm => ?_⟩
  · obtain ⟨b, o, sp⟩ := a
    have hc0 := (hx 0 (by omega)).1
    have hsp : sp = none := by simpa [Addr.add] using World.cell?_spot hc0
    subst hsp
    refine ⟨b, o, rfl, cell_lt (a := ⟨b, o, none⟩) (by simpa [Addr.add] using hc0), fun j hj => ?_⟩
    obtain ⟨x, hxx⟩ : ∃ x, L[j]? = some x := ⟨_, List.getElem?_eq_getElem (by omega)⟩
    have hc := (hx j (by omega)).1
    rw [(h2 j x hxx).1] at hc
    rw [Addr.add_mid] at hc
    rw [List.getElem?_map, hxx, hc]
    rfl
  · obtain ⟨i, hi⟩ := List.mem_iff_getElem?.1 hxm
    exact (h2 i x hi).2
section
variable {H : Type} {enc : TypeId × Value → H} {w : World} {base : Nat} {spare : Nat → Bool} {held : Bool}
theorem digs_of {cs : List Value} {fuel : Nat} {x : DataW H × List MemPlace} (h : DataW.trod enc Tryd.prog w base spare held fuel 59 cs = some x) : ∃ v L, cs = [v] ∧ Ds w v L := by
  rcases Go.Deep.open_slice Tryd.underlying59 h with ⟨rfl, _⟩ | ⟨a, len, cap, m, n, D, Pl, rfl, _, hl, hm, hmm, _, hx⟩
  · exact ⟨_, [], rfl, Ds.nil w⟩
  · rw [show Tryd.prog.cellsOf 35 = 32 by kernel_rfl] at hx
    obtain ⟨L, hL⟩ := digs_row (w := w) (a := a) hl hm (fun i hi => by
      obtain ⟨cs', h1, h2⟩ := hx i (by rw [hmm]; split <;> omega)
      obtain ⟨l, rfl, h3⟩ := digest_of h2
      exact ⟨l, h3, (World.cells?_some h1).2.2⟩)
    exact ⟨_, L, rfl, hL⟩
theorem data_of {cs : List Value} {fuel : Nat} {x : DataW H × List MemPlace} (h : DataW.trod enc Tryd.prog w base (fun _ => true) held fuel 47 cs = some x) : ∃ v L, cs = [v] ∧ Lsts w v L := by
  rcases Go.Deep.open_slice1 Tryd.underlying47 (by kernel_rfl) h with ⟨rfl, _⟩ | ⟨a, len, cap, m, n, V, D, Pl, rfl, _, hl, hm, hmm, _, hx⟩
  · exact ⟨_, [], rfl, Lsts.nil w⟩
  · obtain ⟨L, hL⟩ := lists_row (w := w) (a := a) (V := V) hl hm (fun i hi => by
      obtain ⟨h1, t1⟩ := hx i (by rw [hmm]; split <;> omega)
      refine ⟨h1, ?_⟩
      rcases open_ints Tryd.underlying38 Tryd.underlying5 (by kernel_rfl) t1 with ⟨g1, _⟩ | ⟨y, yl, yc, zs, g1, _, yl1, ym, yz, yx, ycell, ywz⟩
      · simp only [List.cons.injEq, and_true] at g1
        rw [g1]
        exact ⟨[], By.nil w⟩
      · simp only [List.cons.injEq, and_true] at g1
        rw [g1]
        obtain ⟨lb, _, hy⟩ := by_of_row yl1 ym (by simpa using yz) ycell ywz
        exact ⟨lb, hy⟩)
    exact ⟨_, L, rfl, hL⟩
theorem front_of {cs : List Value} {fuel : Nat} {x : DataW H × List MemPlace} (h : DataW.trod enc Tryd.prog w base (fun _ => true) held fuel 61 cs = some x) :
    ∃ (f : FS) (a b c : Value), cs = (frC f.num f.u a b c).toList ∧ f.wf ∧ f.u.in64 ∧ Ds w a f.ch ∧ Ds w b f.bs ∧ Ds w c f.sg := by
  obtain ⟨xs, m, rfl, hx, hl, hxl, hf⟩ := DataW.trod_struct Tryd.underlying61 h
  rw [show Tryd.prog.cellsOf 61 = 72 by kernel_rfl] at hl
  have c1 : Tryd.prog.cellsOf 3 = 1 := by kernel_rfl
  have c2 : Tryd.prog.cellsOf 37 = 68 := by kernel_rfl
  have c3 : Tryd.prog.cellsOf 59 = 1 := by kernel_rfl
  have hx5 : xs.length = 5 := hxl
  have get : ∀ i, i < 5 → ∃ y, xs[i]? = some y := fun i hi => ⟨_, List.getElem?_eq_getElem (by omega)⟩
  obtain ⟨y0, g0⟩ := get 0 (by omega)
  obtain ⟨y1, g1⟩ := get 1 (by omega)
  obtain ⟨y2, g2⟩ := get 2 (by omega)
  obtain ⟨y3, g3⟩ := get 3 (by omega)
  obtain ⟨y4, g4⟩ := get 4 (by omega)
  have f0 : DataW.trod enc Tryd.prog w base (fun _ => true) held m 3 ((cs.drop 0).take (Tryd.prog.cellsOf 3)) = some y0 := (hf 0 _ rfl).trans g0
  have f1 : DataW.trod enc Tryd.prog w base (fun _ => true) held m 37 ((cs.drop 1).take (Tryd.prog.cellsOf 37)) = some y1 := (hf 1 _ rfl).trans g1
  have f2 : DataW.trod enc Tryd.prog w base (fun _ => true) held m 59 ((cs.drop 69).take (Tryd.prog.cellsOf 59)) = some y2 := (hf 2 _ rfl).trans g2
  have f3 : DataW.trod enc Tryd.prog w base (fun _ => true) held m 59 ((cs.drop 70).take (Tryd.prog.cellsOf 59)) = some y3 := (hf 3 _ rfl).trans g3
  have f4 : DataW.trod enc Tryd.prog w base (fun _ => true) held m 59 ((cs.drop 71).take (Tryd.prog.cellsOf 59)) = some y4 := (hf 4 _ rfl).trans g4
  rw [c1] at f0
  rw [c2] at f1
  rw [c3] at f2 f3 f4
  obtain ⟨k, e0, _, _⟩ := DataW.trod_int Tryd.underlying3 f0
  obtain ⟨u, e1, hu, hi⟩ := ueb_of f1
  obtain ⟨a, L1, e2, d1⟩ := digs_of f2
  obtain ⟨b, L2, e3, d2⟩ := digs_of f3
  obtain ⟨c, L3, e4, d3⟩ := digs_of f4
  have e1' : (cs.drop 1).take 68 = u.cells.toList := by rw [← e1]
  refine ⟨⟨k, u, L1, L2, L3⟩, a, b, c, ?_, ⟨hu, d1.2, d2.2, d3.2⟩, hi, d1, d2, d3⟩
  have a0 := cut_list cs 0 1
  have a1 := cut_list cs 1 68
  have a2 := cut_list cs 69 1
  have a3 := cut_list cs 70 1
  have a4 := cut_list cs 71 1
  rw [e0] at a0
  rw [e1'] at a1
  rw [e2] at a2
  rw [e3] at a3
  rw [e4, show 71 + 1 = 72 from rfl, List.drop_eq_nil_of_le (show cs.length ≤ 72 by omega), List.append_nil] at a4
  rw [show 70 + 1 = 71 from rfl, a4] at a3
  rw [show 69 + 1 = 70 from rfl, a3] at a2
  rw [show 1 + 68 = 69 from rfl, a2] at a1
  rw [show 0 + 1 = 1 from rfl, a1] at a0
  rw [List.drop_zero] at a0
  exact a0
theorem share_of {cs : List Value} {fuel : Nat} {x : DataW H × List MemPlace} (h : DataW.trod enc Tryd.prog w base (fun _ => true) held fuel 63 cs = some x) :
    ∃ s : SS, ShV w (.agg cs.toArray) s ∧ s.f.wf ∧ s.f.u.in64 := by
  obtain ⟨xs, m, rfl, hx, hl, hxl, hf⟩ := DataW.trod_struct Tryd.underlying63 h
  rw [show Tryd.prog.cellsOf 63 = 73 by kernel_rfl] at hl
  have c1 : Tryd.prog.cellsOf 61 = 72 := by kernel_rfl
  have c2 : Tryd.prog.cellsOf 47 = 1 := by kernel_rfl
  have hx2 : xs.length = 2 := hxl
  have get : ∀ i, i < 2 → ∃ y, xs[i]? = some y := fun i hi => ⟨_, List.getElem?_eq_getElem (by omega)⟩
  obtain ⟨y0, g0⟩ := get 0 (by omega)
  obtain ⟨y1, g1⟩ := get 1 (by omega)
  have f0 : DataW.trod enc Tryd.prog w base (fun _ => true) held m 61 ((cs.drop 0).take (Tryd.prog.cellsOf 61)) = some y0 := (hf 0 _ rfl).trans g0
  have f1 : DataW.trod enc Tryd.prog w base (fun _ => true) held m 47 ((cs.drop 72).take (Tryd.prog.cellsOf 47)) = some y1 := (hf 1 _ rfl).trans g1
  rw [c1] at f0
  rw [c2] at f1
  obtain ⟨f, a, b, c, e0, hw, hi, d1, d2, d3⟩ := front_of f0
  obtain ⟨d, LD, e1, hd⟩ := data_of f1
  refine ⟨⟨f, LD.map (·.2)⟩, ⟨a, b, c, d, LD, ?_, d1, d2, d3, hd, rfl⟩, hw, hi⟩
  have a0 := cut_list cs 0 72
  have a1 := cut_list cs 72 1
  rw [e1, show 72 + 1 = 73 from rfl, List.drop_eq_nil_of_le (show cs.length ≤ 73 by omega), List.append_nil] at a1
  rw [e0, show 0 + 72 = 72 from rfl, a1, List.drop_zero] at a0
  unfold shC
  rw [a0]
theorem open_share {v : Value} {d : DataW H} {p : List MemPlace} {r : Reach} {b0 : Nat} {P' : World} (hv : Value.okWide Tryd.prog P' r b0 63 v) (h : DataW.Trod enc Tryd.prog w base (fun _ => true) held 63 v d p) :
    ∃ s : SS, ShV w v s ∧ s.f.wf ∧ s.f.u.in64 := by
  obtain ⟨cs, rfl, _⟩ := okWide_struct Tryd.underlying63 hv
  obtain ⟨fuel, hf⟩ := h
  obtain ⟨s, h1, h2⟩ := share_of hf
  exact ⟨s, by rw [show cs = cs.toList.toArray from Array.toArray_toList.symm]; exact h1, h2⟩
end
end Go.Proofs.YtdohebhbiokljaaDoor
