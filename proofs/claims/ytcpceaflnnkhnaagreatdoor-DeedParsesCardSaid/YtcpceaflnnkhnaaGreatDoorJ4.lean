/- Joined texts: PrtB. -/
import Derived.Test.YtcpceaflnnkhnaaGreatDoorJ3
import Derived.Test.YtcpceaflnnkhnaaGreatDoorJ2
import Derived.Deep.RegionHeld3
import Derived.Deep.DrawnRows

/- The contracts of a capability's parts, by its kind. Printed by wip/prtb.py. -/
namespace Go.Proofs.YtcpceaflnnkhnaaGreatDoor
open Go.RowKit
attribute [local go_sem ↓] Go.wp_at_zero Go.wp_at_succ

theorem blk_newh {W : World} {g : Nat} {t : TypeId} {cs : Array Value} (h : W.heap.size = g) : Blk (W.alloc (.cells cs t)) g t cs := by subst h; exact Blk.new W t cs
theorem OwnT.alloc {w : World} {base : Nat} {v : Value} {ts : List ByteArray} (h : OwnT w base v ts) (o : Obj) : OwnT (w.alloc o) base v ts := World.ownsRow.alloc h o
theorem OwnT.drew {w : World} {base : Nat} {v : Value} {ts : List ByteArray} (h : OwnT w base v ts) : OwnT w.drew base v ts := h
theorem OwnT.lower {w : World} {b b' : Nat} {v : Value} {ts : List ByteArray} (h : OwnT w b v ts) (hb : b' ≤ b) : OwnT w b' v ts := by
  obtain ⟨h1, h2 | ⟨g, cap, cur, hv, hg, r⟩⟩ := h
  · exact ⟨h1, .inl h2⟩
  · exact ⟨h1, .inr ⟨g, cap, cur, hv, Nat.le_trans hb hg, r⟩⟩
/-- 'append([]string{a, b}, ts...)' at a step of a region that draws its order. -/
theorem step_pushT {w w0 : World} {base : Nat} {x y : ByteArray} {v0 u : Value} {ts : List ByteArray}
    {ops : Array Oper} {o : Oper} {a : Act} {K : Act → World → Prop} {Q : Exit → Act → World → Prop} {E : Prop} (hgd : o.guard = none) (s z : Operand)
    (ho : o.op = .call { callee := .builtin .append, args := #[s, z], argTypes := #[71, 71] }) (hs : a.eval s = v0) (hx : a.eval z = u)
    (hd : ∃ g, v0 = .slice (some ⟨g, 0, none⟩) 2 2 ∧ Blk w g 9 #[.string x, .string y] ∧ (∃ b2, OwnT w b2 u ts) ∧ base ≤ g) (hb : Below base w0 w) (hbase : base ≤ w.heap.size) (hl : ts.length ≤ 1000)
    (h : ∀ v' w', OwnT w' base v' (x :: y :: ts) → Below base w0 w' → K (a.put o.dst v') w') :
    if Region.wanted o (yielded ops a.tmps) = true then Oper.wp Tryz.prog o a w K Q else E := by
  have hw : Region.wanted o (yielded ops a.tmps) = true := by simp [Region.wanted, hgd]
  rw [if_pos hw]
  obtain ⟨g, rfl, h1, ⟨b2, h2⟩, hg⟩ := hd
  have hown : w.ownsRow base 9 1 (.slice (some ⟨g, 0, none⟩) 2 2) 2 [.string x, .string y] := h1.own (base := base) (n := 2) (cap := 2) (sz := 1) rfl hg rfl (Nat.le_refl _) (by unfold maxLen; omega)
  obtain ⟨v', w', hrun, h3, h4, h6⟩ := run_pushS (P := Tryz.prog) elemT o.type hown (Sl.of_own h2) (by unfold maxLen; omega) (by omega) hbase (fun z hz => by
    obtain ⟨t, _, rfl⟩ := List.mem_map.1 hz
    rfl)
  unfold Oper.wp execOp
  simp only [ho, resolve, invoke, builtin, Sem.run_bind, Sem.run_pure, Result.andThen_ok, List.map_toArray, List.map_cons, List.map_nil, hs, hx, hrun]
  refine h v' w' ?_ (hb.grown h4 hbase fun k hk => (hown.lt k hk).1)
  unfold OwnT
  have e : (x :: y :: ts).length = 2 + ts.length := by simp; omega
  rw [e]
  exact h3
set_option maxRecDepth 100000 in
set_option maxHeartbeats 1000000 in
theorem parts_literal (v : Value) (l : List UInt8) (w : World) (hv : By w v l) (hl : l.length ≤ 87960930222000) :
    Calls Tryz.prog 219 #[.agg #[v]] w fun e w' => ∃ u ts, e = .returned u ∧ OwnT w' w.heap.size u ts ∧ ts.map lst = [letters l] ∧ Below w.heap.size w w' := by
  obtain ⟨A, c, rfl, -, -, -⟩ := hv.form
  have HB := hide ((Below.refl w.heap.size w).alloc (Nat.le_refl _) (.cells #[.slice A l.length c] 135))
  have Q := hide (bletters_any _ l _ (hv.below HB.out) hl)
  obtain ⟨n, hn⟩ : ∃ n, n = l.length := ⟨_, rfl⟩
  rw [← hn] at Q HB ⊢
  clear hn hv hl
  go_enter Tryz.func219, Tryz.ntmps219
  go_wp2_with (go_at_call 204; refine Q.out.mono ?_; rintro e w1 ⟨s, rfl, hs, b1⟩; go_loud (have H1 := hide (And.intro hs (HB.out.trans (b1.mono HB.out.size))); clear hs b1))
  go_ret
  refine ⟨_, [s], rfl, ?_, by rw [List.map_cons, List.map_nil]; exact congrArg (fun x => [x]) H1.out.1, H1.out.2.alloc H1.out.2.size _⟩
  have := (Blk.new w1 9 #[.string s]).own (base := w.heap.size) (n := 1) (cap := 1) (sz := 1) rfl H1.out.2.size rfl (Nat.le_refl _) (by unfold maxLen; omega)
  exact this
set_option maxRecDepth 100000 in
set_option maxHeartbeats 8000000 in
theorem parts_reading (r : RV) (w : World) (hf : r.wf) (hi : r.in64) (ht : Tab w) :
    Calls Tryz.prog 201 #[.agg r.cells.toArray] w fun e w' => ∃ u ts, e = .returned u ∧ OwnT w' w.heap.size u ts ∧ ts.map lst = r.parts ∧ Below w.heap.size w w' := by
  have hsz := RV.cells_length hf
  obtain ⟨C, hC⟩ : ∃ C, C = r.cells.toArray := ⟨_, rfl⟩
  have hcell : ∀ j, j < 52 → C[j]? = r.cells[j]? := fun j hj => by rw [hC, List.getElem?_toArray]
  rw [← hC]
  obtain ⟨w0, hw0⟩ : ∃ w0, w0 = w.alloc (.cells C 90) := ⟨_, rfl⟩
  have hb0 : Blk w0 w.heap.size 90 C := by rw [hw0]; exact Blk.new w _ C
  have hbw : Below w.heap.size w w0 := by rw [hw0]; exact (Below.refl _ w).alloc (Nat.le_refl _) _
  have hkey : ∀ W, Below w0.heap.size w0 W → By W (.slice (some ⟨w.heap.size, 0, none⟩) 16 16) r.key := fun W hW => ⟨by simp, _, 16, by rw [hf.1], by rw [hf.1]; exact Nat.le_refl _, by unfold maxLen; omega, fun _ => ⟨w.heap.size, 0, rfl, Nat.lt_of_lt_of_le hb0.lt hW.size, fun j hj => by
    rw [hf.1, Nat.mul_one] at hj
    rw [Nat.zero_add, (hb0.below' hW).cell, hcell j (by omega)]
    unfold RV.cells
    rw [List.getElem?_append_left (by simp [hf.1]; omega)]⟩⟩
  have hueb : ∀ W, Below w0.heap.size w0 W → By W (.slice (some ⟨w.heap.size, 16, none⟩) 32 32) r.ueb := fun W hW => ⟨by simp, _, 32, by rw [hf.2], by rw [hf.2]; exact Nat.le_refl _, by unfold maxLen; omega, fun _ => ⟨w.heap.size, 16, rfl, Nat.lt_of_lt_of_le hb0.lt hW.size, fun j hj => by
    rw [hf.2, Nat.mul_one] at hj
    rw [(hb0.below' hW).cell, hcell (16 + j) (by omega)]
    unfold RV.cells
    rw [List.getElem?_append_right (by simp [hf.1]), List.getElem?_append_left (by simp [hf.1, hf.2]; omega)]
    congr 1
    simp [hf.1]⟩⟩
  have QL := hide (show ∀ (o n : Nat) (W : World), ((o = 0 ∧ n = 16) ∨ (o = 16 ∧ n = 32)) → Below w0.heap.size w0 W → Calls Tryz.prog 204 #[.slice (some ⟨w.heap.size, o, none⟩) n n] W fun e w' => ∃ s : ByteArray, e = .returned (.string s) ∧ lst s = letters (if o = 0 then r.key else r.ueb) ∧ Below W.heap.size W w' from fun o n W h hW => by
    rcases h with ⟨rfl, rfl⟩ | ⟨rfl, rfl⟩
    · exact bletters_any _ r.key W (hkey W hW) (by rw [hf.1]; omega)
    · exact bletters_any _ r.ueb W (hueb W hW) (by rw [hf.2]; omega))
  have c0 := (hcell 48 (by omega)).trans (cells_at r hf 0)
  have c1 := (hcell 49 (by omega)).trans (cells_at r hf 1)
  have c2 := (hcell 50 (by omega)).trans (cells_at r hf 2)
  have c3 := (hcell 51 (by omega)).trans (cells_at r hf 3)
  simp only [List.getElem?_cons_zero, List.getElem?_cons_succ] at c0 c1 c2 c3
  obtain ⟨z0, z1, z2, z3, hz⟩ : ∃ z0 z1 z2 z3, z0 = r.k ∧ z1 = r.n ∧ z2 = r.seg ∧ z3 = r.size := ⟨_, _, _, _, rfl, rfl, rfl, rfl⟩
  rw [← hz.1] at c0
  rw [← hz.2.1] at c1
  rw [← hz.2.2.1] at c2
  rw [← hz.2.2.2] at c3
  obtain ⟨ts, hts⟩ : ∃ ts, ts = [numS z0, numS z1, numS z2, numS z3] := ⟨_, rfl⟩
  have QN := hide (show ∀ (g : Nat) (W : World), Below w0.heap.size w0 W → Blk W g 3 #[.int .i64 z0, .int .i64 z1, .int .i64 z2, .int .i64 z3] → Calls Tryz.prog 205 #[.slice (some ⟨g, 0, none⟩) 4 4] W fun e w' => ∃ A c, e = .returned (.slice A 4 c) ∧ OwnT w' W.heap.size (.slice A 4 c) ts ∧ Below W.heap.size W w' from fun g W hW hB => by
    have := numbers_any g 4 [z0, z1, z2, z3] W hB.lt (fun k x hx => by
      rw [hB.cell]
      match k, hx with
      | 0, hx => simp at hx; simp [hx]
      | 1, hx => simp at hx; simp [hx]
      | 2, hx => simp at hx; simp [hx]
      | 3, hx => simp at hx; simp [hx]
      | k + 4, hx => simp at hx) (fun x hx => by
      simp only [List.mem_cons, List.not_mem_nil, or_false] at hx
      rcases hx with rfl | rfl | rfl | rfl
      · rw [hz.1]; exact hi.1
      · rw [hz.2.1]; exact hi.2.1
      · rw [hz.2.2.1]; exact hi.2.2.1
      · rw [hz.2.2.2]; exact hi.2.2.2) (by simp) ((ht.below hbw).below hW)
    refine this.mono fun e w' ⟨v, h1, h2, h3⟩ => ?_
    obtain ⟨A, c, rfl, -⟩ := OwnT.form h2
    exact ⟨A, c, h1, by rw [hts]; exact h2, h3⟩)
  have HS : Hid (∀ W, Below w0.heap.size w0 W → W.cell? ⟨w.heap.size, 48, none⟩ = some (.int .i64 z0) ∧ W.cell? ⟨w.heap.size, 49, none⟩ = some (.int .i64 z1) ∧ W.cell? ⟨w.heap.size, 50, none⟩ = some (.int .i64 z2) ∧ W.cell? ⟨w.heap.size, 51, none⟩ = some (.int .i64 z3)) := fun W hW => by
    have hbW := hb0.below' hW
    exact ⟨(hbW.cell 48).trans c0, (hbW.cell 49).trans c1, (hbW.cell 50).trans c2, (hbW.cell 51).trans c3⟩
  obtain ⟨s0, s1, s2, s3⟩ := HS.out w0 (Below.refl _ _)
  have HT := hide (And.intro hts (And.intro hz (And.intro hbw hb0.lt)))
  clear hts hz hbw hb0 hkey hueb hcell c0 c1 c2 c3 hC hf hi ht hsz
  have HW := hide hw0
  go_enter Tryz.func201, Tryz.ntmps201
  go_wp2_with fail
  rw [← HW.out]
  clear hw0
  go_region_held3 (fun w' => w'.cell? ⟨w.heap.size, 48, none⟩ = some (.int .i64 z0) ∧ w'.cell? ⟨w.heap.size, 49, none⟩ = some (.int .i64 z1) ∧ w'.cell? ⟨w.heap.size, 50, none⟩ = some (.int .i64 z2) ∧ w'.cell? ⟨w.heap.size, 51, none⟩ = some (.int .i64 z3))
    (first | go_keep | exact HS.out _ (by (repeat (first | with_reducible exact Below.refl _ _ | with_reducible exact b5 | with_reducible refine Below.drew ?_ | with_reducible refine Below.al0 ?_ _ | with_reducible refine Below.step ?_ q1 | with_reducible refine Below.step ?_ q2 | with_reducible refine Below.step ?_ q3))))
    (first
      | (go_at_call 204; (with_reducible refine (QL.out 0 16 _ (.inl ⟨rfl, rfl⟩) ?b1).mono ?_); (case b1 => (repeat (first | with_reducible exact Below.refl _ _ | with_reducible exact b5 | with_reducible refine Below.drew ?_ | with_reducible refine Below.al0 ?_ _ | with_reducible refine Below.step ?_ q1 | with_reducible refine Below.step ?_ q2 | with_reducible refine Below.step ?_ q3))); rintro e w1 ⟨x1, rfl, p1, q1⟩)
      | (go_at_call 204; (with_reducible refine (QL.out 16 32 _ (.inr ⟨rfl, rfl⟩) ?b2).mono ?_); (case b2 => (repeat (first | with_reducible exact Below.refl _ _ | with_reducible exact b5 | with_reducible refine Below.drew ?_ | with_reducible refine Below.al0 ?_ _ | with_reducible refine Below.step ?_ q1 | with_reducible refine Below.step ?_ q2 | with_reducible refine Below.step ?_ q3))); rintro e w2 ⟨x2, rfl, p2, q2⟩)
      | (go_at_call 205; (with_reducible refine (QN.out _ _ ?b3 ?b4).mono ?_); (case b3 => (repeat (first | with_reducible exact Below.refl _ _ | with_reducible exact b5 | with_reducible refine Below.drew ?_ | with_reducible refine Below.al0 ?_ _ | with_reducible refine Below.step ?_ q1 | with_reducible refine Below.step ?_ q2 | with_reducible refine Below.step ?_ q3))); (case b4 => (repeat (first | (with_reducible refine blk_newh ?_; simp; done) | with_reducible refine Blk.drew ?_ | with_reducible refine Blk.alloc ?_ _ | with_reducible refine Blk.below' ?_ q3 | with_reducible refine Blk.below' ?_ q2 | with_reducible refine Blk.below' ?_ q1))); rintro e w3 ⟨A3, cc3, rfl, o3, q3⟩)
      | (go_loud (refine step_pushT (base := w0.heap.size) (w0 := w0) (x := x1) (y := x2) (ts := ts) rfl _ _ rfl rfl rfl ?d1 ?d3 ?d4 ?d6 ?_); (case d1 => refine ⟨_, rfl, ?k1, ?k2, ?k3⟩; (case k1 => (repeat (first | (with_reducible refine blk_newh ?_; simp; done) | with_reducible refine Blk.drew ?_ | with_reducible refine Blk.alloc ?_ _ | with_reducible refine Blk.below' ?_ q3 | with_reducible refine Blk.below' ?_ q2 | with_reducible refine Blk.below' ?_ q1))); (case k2 => first | exact ⟨_, o3⟩ | exact ⟨_, OwnT.alloc o3 _⟩); (case k3 => have e1 := q1.size; have e2 := q2.size; have e3 := q3.size; (try simp at e1); (try simp at e2); (try simp at e3); (try simp); omega)); (case d3 => (repeat (first | with_reducible exact Below.refl _ _ | with_reducible exact b5 | with_reducible refine Below.drew ?_ | with_reducible refine Below.al0 ?_ _ | with_reducible refine Below.step ?_ q1 | with_reducible refine Below.step ?_ q2 | with_reducible refine Below.step ?_ q3))); (case d4 => have e1 := q1.size; have e2 := q2.size; have e3 := q3.size; (try simp at e1); (try simp at e2); (try simp at e3); (try simp); omega); (case d6 => rw [HT.out.1]; simp); intro v5 w5 o5 b5))
  all_goals
    go_wp2
    go_ret
    refine ⟨_, _, rfl, o5.lower HT.out.2.2.1.size, ?_, HT.out.2.2.1.trans (b5.mono HT.out.2.2.1.size)⟩
    rw [List.map_cons, List.map_cons, p1, p2, HT.out.1, HT.out.2.1.1, HT.out.2.1.2.1, HT.out.2.1.2.2.1, HT.out.2.1.2.2.2]
    rfl
set_option maxRecDepth 100000 in
set_option maxHeartbeats 8000000 in
theorem parts_verifying (r : RV) (w : World) (hf : r.wf) (hi : r.in64) (ht : Tab w) :
    Calls Tryz.prog 212 #[.agg r.cells.toArray] w fun e w' => ∃ u ts, e = .returned u ∧ OwnT w' w.heap.size u ts ∧ ts.map lst = r.parts ∧ Below w.heap.size w w' := by
  have hsz := RV.cells_length hf
  obtain ⟨C, hC⟩ : ∃ C, C = r.cells.toArray := ⟨_, rfl⟩
  have hcell : ∀ j, j < 52 → C[j]? = r.cells[j]? := fun j hj => by rw [hC, List.getElem?_toArray]
  rw [← hC]
  obtain ⟨w0, hw0⟩ : ∃ w0, w0 = w.alloc (.cells C 93) := ⟨_, rfl⟩
  have hb0 : Blk w0 w.heap.size 93 C := by rw [hw0]; exact Blk.new w _ C
  have hbw : Below w.heap.size w w0 := by rw [hw0]; exact (Below.refl _ w).alloc (Nat.le_refl _) _
  have hkey : ∀ W, Below w0.heap.size w0 W → By W (.slice (some ⟨w.heap.size, 0, none⟩) 16 16) r.key := fun W hW => ⟨by simp, _, 16, by rw [hf.1], by rw [hf.1]; exact Nat.le_refl _, by unfold maxLen; omega, fun _ => ⟨w.heap.size, 0, rfl, Nat.lt_of_lt_of_le hb0.lt hW.size, fun j hj => by
    rw [hf.1, Nat.mul_one] at hj
    rw [Nat.zero_add, (hb0.below' hW).cell, hcell j (by omega)]
    unfold RV.cells
    rw [List.getElem?_append_left (by simp [hf.1]; omega)]⟩⟩
  have hueb : ∀ W, Below w0.heap.size w0 W → By W (.slice (some ⟨w.heap.size, 16, none⟩) 32 32) r.ueb := fun W hW => ⟨by simp, _, 32, by rw [hf.2], by rw [hf.2]; exact Nat.le_refl _, by unfold maxLen; omega, fun _ => ⟨w.heap.size, 16, rfl, Nat.lt_of_lt_of_le hb0.lt hW.size, fun j hj => by
    rw [hf.2, Nat.mul_one] at hj
    rw [(hb0.below' hW).cell, hcell (16 + j) (by omega)]
    unfold RV.cells
    rw [List.getElem?_append_right (by simp [hf.1]), List.getElem?_append_left (by simp [hf.1, hf.2]; omega)]
    congr 1
    simp [hf.1]⟩⟩
  have QL := hide (show ∀ (o n : Nat) (W : World), ((o = 0 ∧ n = 16) ∨ (o = 16 ∧ n = 32)) → Below w0.heap.size w0 W → Calls Tryz.prog 204 #[.slice (some ⟨w.heap.size, o, none⟩) n n] W fun e w' => ∃ s : ByteArray, e = .returned (.string s) ∧ lst s = letters (if o = 0 then r.key else r.ueb) ∧ Below W.heap.size W w' from fun o n W h hW => by
    rcases h with ⟨rfl, rfl⟩ | ⟨rfl, rfl⟩
    · exact bletters_any _ r.key W (hkey W hW) (by rw [hf.1]; omega)
    · exact bletters_any _ r.ueb W (hueb W hW) (by rw [hf.2]; omega))
  have c0 := (hcell 48 (by omega)).trans (cells_at r hf 0)
  have c1 := (hcell 49 (by omega)).trans (cells_at r hf 1)
  have c2 := (hcell 50 (by omega)).trans (cells_at r hf 2)
  have c3 := (hcell 51 (by omega)).trans (cells_at r hf 3)
  simp only [List.getElem?_cons_zero, List.getElem?_cons_succ] at c0 c1 c2 c3
  obtain ⟨z0, z1, z2, z3, hz⟩ : ∃ z0 z1 z2 z3, z0 = r.k ∧ z1 = r.n ∧ z2 = r.seg ∧ z3 = r.size := ⟨_, _, _, _, rfl, rfl, rfl, rfl⟩
  rw [← hz.1] at c0
  rw [← hz.2.1] at c1
  rw [← hz.2.2.1] at c2
  rw [← hz.2.2.2] at c3
  obtain ⟨ts, hts⟩ : ∃ ts, ts = [numS z0, numS z1, numS z2, numS z3] := ⟨_, rfl⟩
  have QN := hide (show ∀ (g : Nat) (W : World), Below w0.heap.size w0 W → Blk W g 3 #[.int .i64 z0, .int .i64 z1, .int .i64 z2, .int .i64 z3] → Calls Tryz.prog 205 #[.slice (some ⟨g, 0, none⟩) 4 4] W fun e w' => ∃ A c, e = .returned (.slice A 4 c) ∧ OwnT w' W.heap.size (.slice A 4 c) ts ∧ Below W.heap.size W w' from fun g W hW hB => by
    have := numbers_any g 4 [z0, z1, z2, z3] W hB.lt (fun k x hx => by
      rw [hB.cell]
      match k, hx with
      | 0, hx => simp at hx; simp [hx]
      | 1, hx => simp at hx; simp [hx]
      | 2, hx => simp at hx; simp [hx]
      | 3, hx => simp at hx; simp [hx]
      | k + 4, hx => simp at hx) (fun x hx => by
      simp only [List.mem_cons, List.not_mem_nil, or_false] at hx
      rcases hx with rfl | rfl | rfl | rfl
      · rw [hz.1]; exact hi.1
      · rw [hz.2.1]; exact hi.2.1
      · rw [hz.2.2.1]; exact hi.2.2.1
      · rw [hz.2.2.2]; exact hi.2.2.2) (by simp) ((ht.below hbw).below hW)
    refine this.mono fun e w' ⟨v, h1, h2, h3⟩ => ?_
    obtain ⟨A, c, rfl, -⟩ := OwnT.form h2
    exact ⟨A, c, h1, by rw [hts]; exact h2, h3⟩)
  have HS : Hid (∀ W, Below w0.heap.size w0 W → W.cell? ⟨w.heap.size, 48, none⟩ = some (.int .i64 z0) ∧ W.cell? ⟨w.heap.size, 49, none⟩ = some (.int .i64 z1) ∧ W.cell? ⟨w.heap.size, 50, none⟩ = some (.int .i64 z2) ∧ W.cell? ⟨w.heap.size, 51, none⟩ = some (.int .i64 z3)) := fun W hW => by
    have hbW := hb0.below' hW
    exact ⟨(hbW.cell 48).trans c0, (hbW.cell 49).trans c1, (hbW.cell 50).trans c2, (hbW.cell 51).trans c3⟩
  obtain ⟨s0, s1, s2, s3⟩ := HS.out w0 (Below.refl _ _)
  have HT := hide (And.intro hts (And.intro hz (And.intro hbw hb0.lt)))
  clear hts hz hbw hb0 hkey hueb hcell c0 c1 c2 c3 hC hf hi ht hsz
  have HW := hide hw0
  go_enter Tryz.func212, Tryz.ntmps212
  go_wp2_with fail
  rw [← HW.out]
  clear hw0
  go_region_held3 (fun w' => w'.cell? ⟨w.heap.size, 48, none⟩ = some (.int .i64 z0) ∧ w'.cell? ⟨w.heap.size, 49, none⟩ = some (.int .i64 z1) ∧ w'.cell? ⟨w.heap.size, 50, none⟩ = some (.int .i64 z2) ∧ w'.cell? ⟨w.heap.size, 51, none⟩ = some (.int .i64 z3))
    (first | go_keep | exact HS.out _ (by (repeat (first | with_reducible exact Below.refl _ _ | with_reducible exact b5 | with_reducible refine Below.drew ?_ | with_reducible refine Below.al0 ?_ _ | with_reducible refine Below.step ?_ q1 | with_reducible refine Below.step ?_ q2 | with_reducible refine Below.step ?_ q3))))
    (first
      | (go_at_call 204; (with_reducible refine (QL.out 0 16 _ (.inl ⟨rfl, rfl⟩) ?b1).mono ?_); (case b1 => (repeat (first | with_reducible exact Below.refl _ _ | with_reducible exact b5 | with_reducible refine Below.drew ?_ | with_reducible refine Below.al0 ?_ _ | with_reducible refine Below.step ?_ q1 | with_reducible refine Below.step ?_ q2 | with_reducible refine Below.step ?_ q3))); rintro e w1 ⟨x1, rfl, p1, q1⟩)
      | (go_at_call 204; (with_reducible refine (QL.out 16 32 _ (.inr ⟨rfl, rfl⟩) ?b2).mono ?_); (case b2 => (repeat (first | with_reducible exact Below.refl _ _ | with_reducible exact b5 | with_reducible refine Below.drew ?_ | with_reducible refine Below.al0 ?_ _ | with_reducible refine Below.step ?_ q1 | with_reducible refine Below.step ?_ q2 | with_reducible refine Below.step ?_ q3))); rintro e w2 ⟨x2, rfl, p2, q2⟩)
      | (go_at_call 205; (with_reducible refine (QN.out _ _ ?b3 ?b4).mono ?_); (case b3 => (repeat (first | with_reducible exact Below.refl _ _ | with_reducible exact b5 | with_reducible refine Below.drew ?_ | with_reducible refine Below.al0 ?_ _ | with_reducible refine Below.step ?_ q1 | with_reducible refine Below.step ?_ q2 | with_reducible refine Below.step ?_ q3))); (case b4 => (repeat (first | (with_reducible refine blk_newh ?_; simp; done) | with_reducible refine Blk.drew ?_ | with_reducible refine Blk.alloc ?_ _ | with_reducible refine Blk.below' ?_ q3 | with_reducible refine Blk.below' ?_ q2 | with_reducible refine Blk.below' ?_ q1))); rintro e w3 ⟨A3, cc3, rfl, o3, q3⟩)
      | (go_loud (refine step_pushT (base := w0.heap.size) (w0 := w0) (x := x1) (y := x2) (ts := ts) rfl _ _ rfl rfl rfl ?d1 ?d3 ?d4 ?d6 ?_); (case d1 => refine ⟨_, rfl, ?k1, ?k2, ?k3⟩; (case k1 => (repeat (first | (with_reducible refine blk_newh ?_; simp; done) | with_reducible refine Blk.drew ?_ | with_reducible refine Blk.alloc ?_ _ | with_reducible refine Blk.below' ?_ q3 | with_reducible refine Blk.below' ?_ q2 | with_reducible refine Blk.below' ?_ q1))); (case k2 => first | exact ⟨_, o3⟩ | exact ⟨_, OwnT.alloc o3 _⟩); (case k3 => have e1 := q1.size; have e2 := q2.size; have e3 := q3.size; (try simp at e1); (try simp at e2); (try simp at e3); (try simp); omega)); (case d3 => (repeat (first | with_reducible exact Below.refl _ _ | with_reducible exact b5 | with_reducible refine Below.drew ?_ | with_reducible refine Below.al0 ?_ _ | with_reducible refine Below.step ?_ q1 | with_reducible refine Below.step ?_ q2 | with_reducible refine Below.step ?_ q3))); (case d4 => have e1 := q1.size; have e2 := q2.size; have e3 := q3.size; (try simp at e1); (try simp at e2); (try simp at e3); (try simp); omega); (case d6 => rw [HT.out.1]; simp); intro v5 w5 o5 b5))
  all_goals
    go_wp2
    go_ret
    refine ⟨_, _, rfl, o5.lower HT.out.2.2.1.size, ?_, HT.out.2.2.1.trans (b5.mono HT.out.2.2.1.size)⟩
    rw [List.map_cons, List.map_cons, p1, p2, HT.out.1, HT.out.2.1.1, HT.out.2.1.2.1, HT.out.2.1.2.2.1, HT.out.2.1.2.2.2]
    rfl

end Go.Proofs.YtcpceaflnnkhnaaGreatDoor
