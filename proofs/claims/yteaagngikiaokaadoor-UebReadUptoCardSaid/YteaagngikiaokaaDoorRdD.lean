/- The document's Rows of the zero Ueb: six rows of the six names. -/
import Derived.Test.YteaagngikiaokaaDoorRdC
import Derived.Test.YteaagngikiaokaaDoorRefU
namespace Go.Proofs.YteaagngikiaokaaDoor
open Go.RowKit

theorem build_row (s : ByteArray) (A : Option Addr) (n c : Nat) (W : World) : (Instr.build 55 #[(0, .string s), (1, .slice A n c)]).run Tryd.prog W = .ok (.agg #[.string s, .slice A n c]) W := by kernel_rfl
theorem build_six (s0 s1 s2 s3 s4 s5 : ByteArray) (A0 A1 A2 A3 A4 A5 : Option Addr) (n0 n1 n2 n3 n4 n5 c0 c1 c2 c3 c4 c5 : Nat) (W : World) : (Instr.buildSlice 22 6 #[(0, .agg #[.string s0, .slice A0 n0 c0]), (1, .agg #[.string s1, .slice A1 n1 c1]), (2, .agg #[.string s2, .slice A2 n2 c2]), (3, .agg #[.string s3, .slice A3 n3 c3]), (4, .agg #[.string s4, .slice A4 n4 c4]), (5, .agg #[.string s5, .slice A5 n5 c5])]).run Tryd.prog W =
    .ok (.slice (some ⟨W.heap.size, 0, none⟩) 6 6) (W.alloc (.cells #[.string s0, .slice A0 n0 c0, .string s1, .slice A1 n1 c1, .string s2, .slice A2 n2 c2, .string s3, .slice A3 n3 c3, .string s4, .slice A4 n4 c4, .string s5, .slice A5 n5 c5] 55)) := by
  go_simp
theorem load_int0 {W : World} {b f : Nat} (h : W.cell? ⟨b, f, none⟩ = some (.int .i64 0)) : (Instr.loadAt 3 (.pointer (some ⟨b, f, none⟩))).run Tryd.prog W = .ok (.int .i64 0) W := by
  go_simp

def rowP (k : Nat) (v : Value) : Prop := ∃ A n c, v = .agg #[.string (keyB k), .slice A n c]
def sliceP (v : Value) : Prop := ∃ A n c, v = .slice A n c
def SP (bx : Nat) : Nat → Value → Prop
  | 0, v => v = .pointer (some ⟨bx, 0, none⟩)
  | 5, v => v = .pointer (some ⟨bx, 1, none⟩)
  | 10, v => v = .pointer (some ⟨bx, 2, none⟩)
  | 19, v => v = .pointer (some ⟨bx, 3, none⟩)
  | 1, v => v = .int .i64 0
  | 6, v => v = .int .i64 0
  | 11, v => v = .int .i64 0
  | 20, v => v = .int .i64 0
  | 2, v => ∃ s, v = .string s
  | 7, v => ∃ s, v = .string s
  | 12, v => ∃ s, v = .string s
  | 21, v => ∃ s, v = .string s
  | 4, v => rowP 0 v
  | 9, v => rowP 1 v
  | 14, v => rowP 2 v
  | 16, v => rowP 4 v
  | 18, v => rowP 5 v
  | 23, v => rowP 3 v
  | _, v => sliceP v
/-- Six rows of the six names, in their order. -/
def Six (w : World) (g : Nat) : Prop := ∃ e f v0 v1 v2 v3 v4 v5, w.heap[g]? = some (.cells #[.string (keyB 0), v0, .string (keyB 1), v1, .string (keyB 2), v2, .string (keyB 4), v3, .string (keyB 5), v4, .string (keyB 3), v5] e f)
theorem Six.lt {w : World} {g : Nat} (h : Six w g) : g < w.heap.size := by
  obtain ⟨e, f, v0, v1, v2, v3, v4, v5, h⟩ := h
  rcases Nat.lt_or_ge g w.heap.size with h' | h'
  · exact h'
  · rw [Array.getElem?_eq_none h'] at h; cases h
theorem Six.below {w w' : World} {g : Nat} (h : Six w g) (hb : Below w.heap.size w w') : Six w' g := by
  have hlt := h.lt
  obtain ⟨e, f, v0, v1, v2, v3, v4, v5, h⟩ := h
  exact ⟨e, f, v0, v1, v2, v3, v4, v5, (hb.block g hlt).trans h⟩

structure RI (w0 : World) (bx : Nat) (listed : Array Bool) (a : Act) (w : World) : Prop where
  size : listed.size = 26
  tsz : a.tmps.size = 38
  df : a.defers = []
  t1 : a.tmps[1]? = some (.pointer (some ⟨bx, 0, none⟩))
  t3 : ∃ v, a.tmps[3]? = some v ∧ sliceP v
  t4 : ∃ v, a.tmps[4]? = some v ∧ sliceP v
  blk : Blk w bx 44 US.zero.cells
  bel : Below w0.heap.size w0 w
  slots : ∀ i, i < 24 → listed.getD i false = true → ∃ v, a.tmps[13 + i]? = some v ∧ SP bx i v
  s24 : listed.getD 24 false = true → ∃ g, a.tmps[37]? = some (.slice (some ⟨g, 0, none⟩) 6 6) ∧ Six w g ∧ w0.heap.size ≤ g
  s25 : listed.getD 25 false = true → ∃ g, a.tmps[2]? = some (.slice (some ⟨g, 0, none⟩) 6 6) ∧ Six w g ∧ w0.heap.size ≤ g

theorem RI.put {w0 : World} {bx : Nat} {listed : Array Bool} {a : Act} {w w' : World} (h : RI w0 bx listed a w) (i d : Nat) (hi : i < 24) (hd : d = 13 + i) (v : Value) (hv : SP bx i v) (hb : Below w.heap.size w w') : RI w0 bx (listed.setIfInBounds i true) (a.put (some d) v) w' := by
  subst hd
  have hs : i < listed.size := by rw [h.size]; omega
  have hg : ∀ j, j ≠ i → (listed.setIfInBounds i true).getD j false = listed.getD j false := fun j hj => by rw [getD_set hs, if_neg hj]
  refine ⟨by simpa using h.size, by simpa [Act.put] using h.tsz, h.df, (put_other (by omega)).trans h.t1, ?_, ?_, h.blk.below' hb, Below.step h.bel hb, fun j hj hl => ?_, fun hl => ?_, fun hl => ?_⟩
  · obtain ⟨v, h1, h2⟩ := h.t3
    exact ⟨v, (put_other (by omega)).trans h1, h2⟩
  · obtain ⟨v, h1, h2⟩ := h.t4
    exact ⟨v, (put_other (by omega)).trans h1, h2⟩
  · by_cases hji : j = i
    · subst hji
      exact ⟨v, put_same (by rw [h.tsz]; omega), hv⟩
    · rw [hg j hji] at hl
      obtain ⟨v, h1, h2⟩ := h.slots j hj hl
      exact ⟨v, (put_other (by omega)).trans h1, h2⟩
  · rw [hg 24 (by omega)] at hl
    obtain ⟨g, h1, h2, h3⟩ := h.s24 hl
    exact ⟨g, (put_other (by omega)).trans h1, h2.below hb, h3⟩
  · rw [hg 25 (by omega)] at hl
    obtain ⟨g, h1, h2, h3⟩ := h.s25 hl
    exact ⟨g, (put_other (by omega)).trans h1, h2.below hb, h3⟩

theorem op_conv {P : Program} {ops : Array Oper} {Q : Exit → Act → World → Prop} {K : Act → World → Prop} {i : Nat} {a : Act} {w w' : World} {d s : Tmp} {st dt t : TypeId} {p : String} {af : Array Edge} {u v : Value} (hi : ops[i]? = some ⟨some d, .convert st dt (.tmp s), t, p, af, none⟩) (hs : a.eval (.tmp s) = u) (hr : (convert st dt u).run P w = .ok v w') (h : K (a.put (some d) v) w') : wpOp P ops Q i K a w :=
  op_value hi rfl (by simp [execOp, hs, hr, Result.andThen]) h
theorem op_build2 {P : Program} {ops : Array Oper} {Q : Exit → Act → World → Prop} {K : Act → World → Prop} {i : Nat} {a : Act} {w : World} {d s : Tmp} {ty t : TypeId} {p : String} {af : Array Edge} {c u v : Value} (hi : ops[i]? = some ⟨some d, .build ty #[(0, .const c), (1, .tmp s)], t, p, af, none⟩) (hs : a.eval (.tmp s) = u) (hr : (Instr.build ty #[(0, c), (1, u)]).run P w = .ok v w) (h : K (a.put (some d) v) w) : wpOp P ops Q i K a w := by
  have hc : a.eval (.const c) = c := rfl
  exact op_value hi rfl (by simp [execOp, hs, hr, hc, Result.andThen]) h
theorem op_six {P : Program} {ops : Array Oper} {Q : Exit → Act → World → Prop} {K : Act → World → Prop} {i : Nat} {a : Act} {w w' : World} {d s0 s1 s2 s3 s4 s5 : Tmp} {ty t : TypeId} {p : String} {af : Array Edge} {u0 u1 u2 u3 u4 u5 v : Value} (hi : ops[i]? = some ⟨some d, .buildSlice ty 6 #[(0, .tmp s0), (1, .tmp s1), (2, .tmp s2), (3, .tmp s3), (4, .tmp s4), (5, .tmp s5)], t, p, af, none⟩)
    (h0 : a.eval (.tmp s0) = u0) (h1 : a.eval (.tmp s1) = u1) (h2 : a.eval (.tmp s2) = u2) (h3 : a.eval (.tmp s3) = u3) (h4 : a.eval (.tmp s4) = u4) (h5 : a.eval (.tmp s5) = u5) (hr : (Instr.buildSlice ty 6 #[(0, u0), (1, u1), (2, u2), (3, u3), (4, u4), (5, u5)]).run P w = .ok v w') (h : K (a.put (some d) v) w') : wpOp P ops Q i K a w :=
  op_value hi rfl (by simp [execOp, h0, h1, h2, h3, h4, h5, hr, Result.andThen]) h
theorem op_assign {P : Program} {ops : Array Oper} {Q : Exit → Act → World → Prop} {K : Act → World → Prop} {i : Nat} {a : Act} {w : World} {d s : Tmp} {t : TypeId} {p : String} {af : Array Edge} {v : Value} (hi : ops[i]? = some ⟨some d, .assign (.tmp s), t, p, af, none⟩) (hs : a.eval (.tmp s) = v) (h : K (a.put (some d) v) w) : wpOp P ops Q i K a w :=
  op_value hi rfl (by simp [execOp, hs]) h

theorem RI.six {w0 : World} {bx : Nat} {listed : Array Bool} {a : Act} {w w' : World} (h : RI w0 bx listed a w) (g : Nat) (hb : Below w.heap.size w w') (hs : Six w' g) (hg0 : w0.heap.size ≤ g) : RI w0 bx (listed.setIfInBounds 24 true) (a.put (some 37) (.slice (some ⟨g, 0, none⟩) 6 6)) w' := by
  have hs24 : 24 < listed.size := by rw [h.size]; omega
  have hg : ∀ j, j ≠ 24 → (listed.setIfInBounds 24 true).getD j false = listed.getD j false := fun j hj => by rw [getD_set hs24, if_neg hj]
  refine ⟨by simpa using h.size, by simpa [Act.put] using h.tsz, h.df, (put_other (by omega)).trans h.t1, ?_, ?_, h.blk.below' hb, Below.step h.bel hb, fun j hj hl => ?_, fun hl => ?_, fun hl => ?_⟩
  · obtain ⟨v, h1, h2⟩ := h.t3
    exact ⟨v, (put_other (by omega)).trans h1, h2⟩
  · obtain ⟨v, h1, h2⟩ := h.t4
    exact ⟨v, (put_other (by omega)).trans h1, h2⟩
  · rw [hg j (by omega)] at hl
    obtain ⟨v, h1, h2⟩ := h.slots j hj hl
    exact ⟨v, (put_other (by omega)).trans h1, h2⟩
  · exact ⟨g, put_same (by rw [h.tsz]; omega), hs, hg0⟩
  · rw [hg 25 (by omega)] at hl
    obtain ⟨g, h1, h2, h3⟩ := h.s25 hl
    exact ⟨g, (put_other (by omega)).trans h1, h2.below hb, h3⟩
theorem RI.last {w0 : World} {bx : Nat} {listed : Array Bool} {a : Act} {w : World} (h : RI w0 bx listed a w) (g : Nat) (hs : Six w g) (hg0 : w0.heap.size ≤ g) : RI w0 bx (listed.setIfInBounds 25 true) (a.put (some 2) (.slice (some ⟨g, 0, none⟩) 6 6)) w := by
  have hs24 : 25 < listed.size := by rw [h.size]; omega
  have hg : ∀ j, j ≠ 25 → (listed.setIfInBounds 25 true).getD j false = listed.getD j false := fun j hj => by rw [getD_set hs24, if_neg hj]
  refine ⟨by simpa using h.size, by simpa [Act.put] using h.tsz, h.df, (put_other (by omega)).trans h.t1, ?_, ?_, h.blk, h.bel, fun j hj hl => ?_, fun hl => ?_, fun hl => ?_⟩
  · obtain ⟨v, h1, h2⟩ := h.t3
    exact ⟨v, (put_other (by omega)).trans h1, h2⟩
  · obtain ⟨v, h1, h2⟩ := h.t4
    exact ⟨v, (put_other (by omega)).trans h1, h2⟩
  · rw [hg j (by omega)] at hl
    obtain ⟨v, h1, h2⟩ := h.slots j hj hl
    exact ⟨v, (put_other (by omega)).trans h1, h2⟩
  · rw [hg 24 (by omega)] at hl
    obtain ⟨g, h1, h2, h3⟩ := h.s24 hl
    exact ⟨g, (put_other (by omega)).trans h1, h2, h3⟩
  · exact ⟨g, put_same (by rw [h.tsz]; omega), hs, hg0⟩

set_option maxRecDepth 100000 in
theorem op_dig {ops : Array Oper} {Q : Exit → Act → World → Prop} {K : Act → World → Prop} {i : Nat} {a : Act} {w : World} {d x : Tmp} {t at_ : TypeId} {p : String} {af : Array Edge} (hi : ops[i]? = some ⟨some d, .call { callee := .value (.func 43), args := #[.tmp x], argTypes := #[at_] }, t, p, af, none⟩)
    (hx : a.tmps[x]? = some (.int .i64 0)) (h : ∀ s w', Below w.heap.size w w' → K (a.put (some d) (.string s)) w') : wpOp Tryd.prog ops Q i K a w := by
  unfold wpOp
  simp only [hi]
  rw [if_pos (by simp [Region.wanted])]
  refine .inl ?_
  unfold Oper.wp
  go_simp
  refine (rdigits_any 0 w (by omega)).mono ?_
  rintro e w2 ⟨rfl, hb⟩
  exact h _ _ hb

set_option maxRecDepth 100000 in
set_option maxHeartbeats 4000000 in
theorem rows_any (w : World) : Calls Tryd.prog 48 #[.agg US.zero.cells] w fun e w' => Below w.heap.size w w' ∧ ∃ g, e = .returned (.slice (some ⟨g, 0, none⟩) 6 6) ∧ Six w' g ∧ w.heap.size ≤ g := by
  have hB0 := Blk.new w 44 US.zero.cells
  have hal := (Below.refl w.heap.size w).alloc (Nat.le_refl _) (.cells US.zero.cells 44)
  obtain ⟨z, hzz, hzl⟩ : ∃ z, z = List.replicate 32 (0 : UInt8) ∧ z.length = 32 := ⟨_, rfl, by simp⟩
  have hz : US.zero.cells.toList = [.int .i64 0, .int .i64 0, .int .i64 0, .int .i64 0] ++ (bcells z ++ bcells z) := by rw [hzz]; kernel_rfl
  have hsub : ∀ W, Blk W w.heap.size 44 US.zero.cells → ∀ o, o = 4 ∨ o = 36 → By W (.slice (some ⟨w.heap.size, o, none⟩) 32 32) z := fun W hW o ho => by
    refine by_mid hzl.symm hW (fun j hj => ?_) (by omega)
    rw [← Array.getElem?_toList, hz]
    rcases ho with rfl | rfl
    · rw [List.getElem?_append_right (by simp), List.getElem?_append_left (by simp; omega)]
      simp
    · rw [List.getElem?_append_right (by simp; omega), List.getElem?_append_right (by simp; omega), bcells_length, hzl]
      simp only [List.length_cons, List.length_nil]
      rw [show 36 + j - (0 + 1 + 1 + 1 + 1) - 32 = j by omega]
  have HS := hide (fun W hW => hsub W hW 36 (.inr rfl))
  have HS4 := hide (fun W hW => hsub W hW 4 (.inl rfl))
  have HB0 := hide hB0
  have HAL := hide hal
  clear hz hsub hB0 hal hzz
  generalize hcs : US.zero.cells = cs at *
  have HCS := hide hcs
  clear hcs
  go_enter Tryd.func48, Tryd.ntmps48
  go_wp2_with (at_builtin; go_loud (first
    | (refine wpList_pushV elem8 (Own.nil (w.alloc (.cells cs 44)) w.heap.size _) HAL.out HAL.out.size (HS.out _ HB0.out) (by rw [hzl]; decide) rfl _ _ rfl rfl rfl ?_; intro v1 w1 hown1 hbel1 hgr1 _)
    | (refine wpList_pushV elem8 (Own.nil w1 w.heap.size _) hbel1 hbel1.size (HS4.out _ (HB0.out.grown hgr1 (by intro h; cases h))) (by rw [hzl]; decide) rfl _ _ rfl rfl rfl ?_; intro v2 w2 hown2 hbel2 hgr2 _)))
  subst HCS
  obtain ⟨A1, c1, rfl, _⟩ := hown1.by_.form
  obtain ⟨A2, c2, rfl, _⟩ := hown2.by_.form
  have HBK := (HB0.out.grown hgr1 (by intro h; cases h)).grown hgr2 (by intro h; cases h)
  refine wp_region_any rfl ?_
  refine wpAny_inv (RI w w.heap.size) (fun listed a W h => h.size.trans rfl) ?step ?fin _ _ _ _ (by simp) ?start
  case start =>
    refine ⟨by simp, by simp, rfl, rfl, ⟨_, rfl, _, _, _, rfl⟩, ⟨_, rfl, _, _, _, rfl⟩, HBK.drew, below_drewN hbel2 1, fun i hi hl => ?_, fun hl => ?_, fun hl => ?_⟩
    all_goals
      simp [Array.getD] at hl
  case fin =>
    intro listed a W h hr
    have hall : ∀ i, i < 26 → listed.getD i false = true := fun i hi => all_ready (h.size.trans rfl) (by kernel_rfl) hr i hi
    obtain ⟨g, h1, h2, h3⟩ := h.s25 (hall 25 (by omega))
    have hdf := h.df
    have hbel := h.bel
    have hv : a.tmps.getD 2 undef = .slice (some ⟨g, 0, none⟩) 6 6 := by simp [Array.getD_eq_getD_getElem?, h1]
    clear h hr hall
    go_wp2
    exact bodyPost_ret (results_tmp rfl _ _ _) (by simpa using hdf) ⟨hbel, g, by simpa using hv, h2, h3⟩
  case step =>
    intro listed a W i h hi
    obtain ⟨hlt, hf, o, ho, hdep⟩ := ready_at hi
    have hi26 : i < 26 := hlt
    have hff : listed.getD i false = false := by
      have : i < listed.size := by rw [h.size]; exact hi26
      simpa [Array.getD, this] using hf
    clear hi hlt hf
    have hc6 : i = 0 ∨ i = 1 ∨ i = 2 ∨ i = 3 ∨ i = 4 ∨ i = 5 ∨ i = 6 ∨ i = 7 ∨ i = 8 ∨ i = 9 ∨ i = 10 ∨ i = 11 ∨ i = 12 ∨ i = 13 ∨ i = 14 ∨ i = 15 ∨ i = 16 ∨ i = 17 ∨ i = 18 ∨ i = 19 ∨ i = 20 ∨ i = 21 ∨ i = 22 ∨ i = 23 ∨ i = 24 ∨ i = 25 := by omega
    rcases hc6 with rfl | rfl | rfl | rfl | rfl | rfl | rfl | rfl | rfl | rfl | rfl | rfl | rfl | rfl | rfl | rfl | rfl | rfl | rfl | rfl | rfl | rfl | rfl | rfl | rfl | rfl
    · clear ho hdep
      have hv : a.eval (.tmp 1) = .pointer (some ⟨w.heap.size, 0, none⟩) := eval_tmp h.t1
      exact op_value (v := .pointer (some ⟨w.heap.size, 0, none⟩)) rfl rfl (by simp [execOp, hv, fa0, tgt, Result.andThen]) (h.put 0 13 (by omega) rfl _ rfl (Below.refl _ _))
    · simp at ho
      subst ho
      simp [Region.binds] at hdep
      obtain ⟨v, hv, hp⟩ := h.slots 0 (by omega) (gd hdep)
      have hp : v = .pointer (some ⟨w.heap.size, 0, none⟩) := hp
      subst hp
      exact op_load rfl (eval_tmp hv) (load_int0 ((h.blk.cell 0).trans rfl)) (h.put 1 14 (by omega) rfl _ rfl (Below.refl _ _))
    · simp at ho
      subst ho
      simp [Region.binds] at hdep
      obtain ⟨v, hv, hp⟩ := h.slots 1 (by omega) (gd hdep)
      have hp : v = .int .i64 0 := hp
      subst hp
      exact op_dig rfl hv fun s w' hb => h.put 2 15 (by omega) rfl _ ⟨s, rfl⟩ hb
    · simp at ho
      subst ho
      simp [Region.binds] at hdep
      obtain ⟨v, hv, s, hp⟩ := h.slots 2 (by omega) (gd hdep)
      subst hp
      have hr := run_bytes_of_string (P := Tryd.prog) W 9 27 5 s Tryd.underlying9 Tryd.underlying27 Tryd.underlying5
      exact op_conv rfl (eval_tmp hv) hr (h.put 3 16 (by omega) rfl _ ⟨_, _, _, rfl⟩ (Below.al0 (below_drewN (Below.refl _ W) 1) _))
    · simp at ho
      subst ho
      simp [Region.binds] at hdep
      obtain ⟨v, hv, A, n, c, hp⟩ := h.slots 3 (by omega) (gd hdep)
      subst hp
      exact op_build2 rfl (eval_tmp hv) (build_row (keyB 0) A n c W) (h.put 4 17 (by omega) rfl _ ⟨_, _, _, rfl⟩ (Below.refl _ _))
    · clear ho hdep
      have hv : a.eval (.tmp 1) = .pointer (some ⟨w.heap.size, 0, none⟩) := eval_tmp h.t1
      exact op_value (v := .pointer (some ⟨w.heap.size, 1, none⟩)) rfl rfl (by simp [execOp, hv, fa1, tgt, Result.andThen]) (h.put 5 18 (by omega) rfl _ rfl (Below.refl _ _))
    · simp at ho
      subst ho
      simp [Region.binds] at hdep
      obtain ⟨v, hv, hp⟩ := h.slots 5 (by omega) (gd hdep)
      have hp : v = .pointer (some ⟨w.heap.size, 1, none⟩) := hp
      subst hp
      exact op_load rfl (eval_tmp hv) (load_int0 ((h.blk.cell 1).trans rfl)) (h.put 6 19 (by omega) rfl _ rfl (Below.refl _ _))
    · simp at ho
      subst ho
      simp [Region.binds] at hdep
      obtain ⟨v, hv, hp⟩ := h.slots 6 (by omega) (gd hdep.1)
      have hp : v = .int .i64 0 := hp
      subst hp
      exact op_dig rfl hv fun s w' hb => h.put 7 20 (by omega) rfl _ ⟨s, rfl⟩ hb
    · simp at ho
      subst ho
      simp [Region.binds] at hdep
      obtain ⟨v, hv, s, hp⟩ := h.slots 7 (by omega) (gd hdep)
      subst hp
      have hr := run_bytes_of_string (P := Tryd.prog) W 9 27 5 s Tryd.underlying9 Tryd.underlying27 Tryd.underlying5
      exact op_conv rfl (eval_tmp hv) hr (h.put 8 21 (by omega) rfl _ ⟨_, _, _, rfl⟩ (Below.al0 (below_drewN (Below.refl _ W) 1) _))
    · simp at ho
      subst ho
      simp [Region.binds] at hdep
      obtain ⟨v, hv, A, n, c, hp⟩ := h.slots 8 (by omega) (gd hdep)
      subst hp
      exact op_build2 rfl (eval_tmp hv) (build_row (keyB 1) A n c W) (h.put 9 22 (by omega) rfl _ ⟨_, _, _, rfl⟩ (Below.refl _ _))
    · clear ho hdep
      have hv : a.eval (.tmp 1) = .pointer (some ⟨w.heap.size, 0, none⟩) := eval_tmp h.t1
      exact op_value (v := .pointer (some ⟨w.heap.size, 2, none⟩)) rfl rfl (by simp [execOp, hv, fa2, tgt, Result.andThen]) (h.put 10 23 (by omega) rfl _ rfl (Below.refl _ _))
    · simp at ho
      subst ho
      simp [Region.binds] at hdep
      obtain ⟨v, hv, hp⟩ := h.slots 10 (by omega) (gd hdep)
      have hp : v = .pointer (some ⟨w.heap.size, 2, none⟩) := hp
      subst hp
      exact op_load rfl (eval_tmp hv) (load_int0 ((h.blk.cell 2).trans rfl)) (h.put 11 24 (by omega) rfl _ rfl (Below.refl _ _))
    · simp at ho
      subst ho
      simp [Region.binds] at hdep
      obtain ⟨v, hv, hp⟩ := h.slots 11 (by omega) (gd hdep.1)
      have hp : v = .int .i64 0 := hp
      subst hp
      exact op_dig rfl hv fun s w' hb => h.put 12 25 (by omega) rfl _ ⟨s, rfl⟩ hb
    · simp at ho
      subst ho
      simp [Region.binds] at hdep
      obtain ⟨v, hv, s, hp⟩ := h.slots 12 (by omega) (gd hdep)
      subst hp
      have hr := run_bytes_of_string (P := Tryd.prog) W 9 27 5 s Tryd.underlying9 Tryd.underlying27 Tryd.underlying5
      exact op_conv rfl (eval_tmp hv) hr (h.put 13 26 (by omega) rfl _ ⟨_, _, _, rfl⟩ (Below.al0 (below_drewN (Below.refl _ W) 1) _))
    · simp at ho
      subst ho
      simp [Region.binds] at hdep
      obtain ⟨v, hv, A, n, c, hp⟩ := h.slots 13 (by omega) (gd hdep)
      subst hp
      exact op_build2 rfl (eval_tmp hv) (build_row (keyB 2) A n c W) (h.put 14 27 (by omega) rfl _ ⟨_, _, _, rfl⟩ (Below.refl _ _))
    · clear ho hdep
      obtain ⟨v, hv, hp⟩ := h.t3
      exact op_move rfl (eval_tmp hv) (h.put 15 28 (by omega) rfl _ hp (Below.refl _ _))
    · simp at ho
      subst ho
      simp [Region.binds] at hdep
      obtain ⟨v, hv, A, n, c, hp⟩ := h.slots 15 (by omega) (gd hdep)
      subst hp
      exact op_build2 rfl (eval_tmp hv) (build_row (keyB 4) A n c W) (h.put 16 29 (by omega) rfl _ ⟨_, _, _, rfl⟩ (Below.refl _ _))
    · clear ho hdep
      obtain ⟨v, hv, hp⟩ := h.t4
      exact op_move rfl (eval_tmp hv) (h.put 17 30 (by omega) rfl _ hp (Below.refl _ _))
    · simp at ho
      subst ho
      simp [Region.binds] at hdep
      obtain ⟨v, hv, A, n, c, hp⟩ := h.slots 17 (by omega) (gd hdep)
      subst hp
      exact op_build2 rfl (eval_tmp hv) (build_row (keyB 5) A n c W) (h.put 18 31 (by omega) rfl _ ⟨_, _, _, rfl⟩ (Below.refl _ _))
    · clear ho hdep
      have hv : a.eval (.tmp 1) = .pointer (some ⟨w.heap.size, 0, none⟩) := eval_tmp h.t1
      exact op_value (v := .pointer (some ⟨w.heap.size, 3, none⟩)) rfl rfl (by simp [execOp, hv, fa3, tgt, Result.andThen]) (h.put 19 32 (by omega) rfl _ rfl (Below.refl _ _))
    · simp at ho
      subst ho
      simp [Region.binds] at hdep
      obtain ⟨v, hv, hp⟩ := h.slots 19 (by omega) (gd hdep)
      have hp : v = .pointer (some ⟨w.heap.size, 3, none⟩) := hp
      subst hp
      exact op_load rfl (eval_tmp hv) (load_int0 ((h.blk.cell 3).trans rfl)) (h.put 20 33 (by omega) rfl _ rfl (Below.refl _ _))
    · simp at ho
      subst ho
      simp [Region.binds] at hdep
      obtain ⟨v, hv, hp⟩ := h.slots 20 (by omega) (gd hdep.1)
      have hp : v = .int .i64 0 := hp
      subst hp
      exact op_dig rfl hv fun s w' hb => h.put 21 34 (by omega) rfl _ ⟨s, rfl⟩ hb
    · simp at ho
      subst ho
      simp [Region.binds] at hdep
      obtain ⟨v, hv, s, hp⟩ := h.slots 21 (by omega) (gd hdep)
      subst hp
      have hr := run_bytes_of_string (P := Tryd.prog) W 9 27 5 s Tryd.underlying9 Tryd.underlying27 Tryd.underlying5
      exact op_conv rfl (eval_tmp hv) hr (h.put 22 35 (by omega) rfl _ ⟨_, _, _, rfl⟩ (Below.al0 (below_drewN (Below.refl _ W) 1) _))
    · simp at ho
      subst ho
      simp [Region.binds] at hdep
      obtain ⟨v, hv, A, n, c, hp⟩ := h.slots 22 (by omega) (gd hdep)
      subst hp
      exact op_build2 rfl (eval_tmp hv) (build_row (keyB 3) A n c W) (h.put 23 36 (by omega) rfl _ ⟨_, _, _, rfl⟩ (Below.refl _ _))
    · simp at ho
      subst ho
      simp [Region.binds] at hdep
      obtain ⟨v0, e0, A00, n0, c00, hp0⟩ := h.slots 4 (by omega) (gd hdep.1)
      subst hp0
      have e0 := eval_tmp e0
      obtain ⟨v1, e1, A10, n1, c10, hp1⟩ := h.slots 9 (by omega) (gd hdep.2.1)
      subst hp1
      have e1 := eval_tmp e1
      obtain ⟨v2, e2, A20, n2, c20, hp2⟩ := h.slots 14 (by omega) (gd hdep.2.2.1)
      subst hp2
      have e2 := eval_tmp e2
      obtain ⟨v3, e3, A30, n3, c30, hp3⟩ := h.slots 16 (by omega) (gd hdep.2.2.2.1)
      subst hp3
      have e3 := eval_tmp e3
      obtain ⟨v4, e4, A40, n4, c40, hp4⟩ := h.slots 18 (by omega) (gd hdep.2.2.2.2.1)
      subst hp4
      have e4 := eval_tmp e4
      obtain ⟨v5, e5, A50, n5, c50, hp5⟩ := h.slots 23 (by omega) (gd hdep.2.2.2.2.2)
      subst hp5
      have e5 := eval_tmp e5
      exact op_six rfl e0 e1 e2 e3 e4 e5 (build_six _ _ _ _ _ _ _ _ _ _ _ _ _ _ _ _ _ _ _ _ _ _ _ _ W) (h.six _ (Below.al0 (Below.refl _ W) _) ⟨_, _, _, _, _, _, _, _, heap_alloc_new W _⟩ h.bel.size)
    · simp at ho
      subst ho
      simp [Region.binds] at hdep
      obtain ⟨g, h1, h2, h3⟩ := h.s24 (gd hdep.1)
      exact op_assign rfl (eval_tmp h1) (h.last g h2 h3)
end Go.Proofs.YteaagngikiaokaaDoor
