/- Joined texts: DeedO, NumL. -/
import Derived.Test.YtcpceaflnnkhnaaGreatDoorJ2
import Derived.Test.YtcpceaflnnkhnaaGreatDoorJ1
import Derived.Test.YtcpceaflnnkhnaaGreatDoorRows
import Derived.ProofKit
import Derived.Stop.LaidErr

/- The contract of the program's 'of': a capability by its kind. -/
namespace Go.Proofs.YtcpceaflnnkhnaaGreatDoor
open Go.RowKit

/-- What 'of' answers. -/
def ofV (c : CP) (v : Value) : Value :=
  if c.kind = 1 ∧ c.vf = RV.zero ∧ c.lit = [] then .iface 90 (.agg c.rd.cells.toArray) else if c.kind = 2 ∧ c.rd = RV.zero ∧ c.lit = [] then .iface 93 (.agg c.vf.cells.toArray) else if c.kind = 3 ∧ c.rd = RV.zero ∧ c.vf = RV.zero then .iface 135 (.agg #[v]) else .nilIface
theorem Capy.rdAt {w : World} {cs : Array Value} {c : CP} {v : Value} (h : Capy w cs c v) {W : World} {g : Nat} {t : TypeId} (hb : Blk W g t cs) : W.rangeAt g 2 c.rd.cells := fun j u hu => by
  have hj : j < c.rd.cells.length := (List.getElem?_eq_some_iff.1 hu).1
  rw [RV.cells_length h.wf.1] at hj
  rw [hb.cell, h.rd j hj, hu]
theorem Capy.vfAt {w : World} {cs : Array Value} {c : CP} {v : Value} (h : Capy w cs c v) {W : World} {g : Nat} {t : TypeId} (hb : Blk W g t cs) : W.rangeAt g 54 c.vf.cells := fun j u hu => by
  have hj : j < c.vf.cells.length := (List.getElem?_eq_some_iff.1 hu).1
  rw [RV.cells_length h.wf.2.1] at hj
  rw [hb.cell, h.vf j hj, hu]
theorem list4 {α : Type} {l : List α} (h : l.length = 4) : ∃ a0 a1 a2 a3 : α, l = [a0, a1, a2, a3] := by
  match l, h with
  | [a0, a1, a2, a3], _ => exact ⟨_, _, _, _, rfl⟩
theorem list52 {α : Type} {l : List α} (h : l.length = 52) : ∃ a b c d : List α, l = a ++ (b ++ (c ++ d)) ∧ a.length = 16 ∧ b.length = 16 ∧ c.length = 16 ∧ d.length = 4 :=
  ⟨l.take 16, (l.drop 16).take 16, (l.drop 32).take 16, l.drop 48, by rw [show 48 = 32 + 16 from rfl, ← List.drop_drop, List.take_append_drop, show 32 = 16 + 16 from rfl, ← List.drop_drop, List.take_append_drop, List.take_append_drop], by simp [h], by simp [h], by simp [h], by simp [h]⟩
theorem build_reading {l : List Value} (h : l.length = 52) (w : World) : (Instr.build 90 #[(0, .agg l.toArray)]).run Tryz.prog w = .ok (.agg l.toArray) w := by
  obtain ⟨a, b, c, d, rfl, ha, hb, hc, hd⟩ := list52 h
  obtain ⟨a0, a1, a2, a3, a4, a5, a6, a7, a8, a9, a10, a11, a12, a13, a14, a15, rfl⟩ := list16 ha
  obtain ⟨b0, b1, b2, b3, b4, b5, b6, b7, b8, b9, b10, b11, b12, b13, b14, b15, rfl⟩ := list16 hb
  obtain ⟨c0, c1, c2, c3, c4, c5, c6, c7, c8, c9, c10, c11, c12, c13, c14, c15, rfl⟩ := list16 hc
  obtain ⟨d0, d1, d2, d3, rfl⟩ := list4 hd
  kernel_rfl
theorem build_verifying {l : List Value} (h : l.length = 52) (w : World) : (Instr.build 93 #[(0, .agg l.toArray)]).run Tryz.prog w = .ok (.agg l.toArray) w := by
  obtain ⟨a, b, c, d, rfl, ha, hb, hc, hd⟩ := list52 h
  obtain ⟨a0, a1, a2, a3, a4, a5, a6, a7, a8, a9, a10, a11, a12, a13, a14, a15, rfl⟩ := list16 ha
  obtain ⟨b0, b1, b2, b3, b4, b5, b6, b7, b8, b9, b10, b11, b12, b13, b14, b15, rfl⟩ := list16 hb
  obtain ⟨c0, c1, c2, c3, c4, c5, c6, c7, c8, c9, c10, c11, c12, c13, c14, c15, rfl⟩ := list16 hc
  obtain ⟨d0, d1, d2, d3, rfl⟩ := list4 hd
  kernel_rfl
theorem kind_four (k : Nat) : ((k = 1 ∧ ((k : Int) == 1) = true ∧ ((k : Int) == 2) = false ∧ ((k : Int) == 3) = false) ∨ (k = 2 ∧ ((k : Int) == 1) = false ∧ ((k : Int) == 2) = true ∧ ((k : Int) == 3) = false)) ∨ ((k = 3 ∧ ((k : Int) == 1) = false ∧ ((k : Int) == 2) = false ∧ ((k : Int) == 3) = true) ∨ ((k ≠ 1 ∧ k ≠ 2 ∧ k ≠ 3) ∧ ((k : Int) == 1) = false ∧ ((k : Int) == 2) = false ∧ ((k : Int) == 3) = false)) := by
  simp only [beq_iff_eq, beq_eq_false_iff_ne]
  omega
def ofW (K : Nat) (r0 v0 l0 : Bool) (R F : List Value) (v : Value) : Value := if K = 1 then (if v0 = true then (if l0 = true then .iface 90 (.agg R.toArray) else .nilIface) else .nilIface) else if K = 2 then (if r0 = true then (if l0 = true then .iface 93 (.agg F.toArray) else .nilIface) else .nilIface) else if K = 3 then (if r0 = true then (if v0 = true then .iface 135 (.agg #[v]) else .nilIface) else .nilIface) else .nilIface
theorem ofV_eq (c : CP) (v : Value) : ofV c v = ofW c.kind (decide (c.rd = RV.zero)) (decide (c.vf = RV.zero)) (decide (c.lit = [])) c.rd.cells c.vf.cells v := by
  unfold ofW
  unfold ofV
  by_cases h1 : c.kind = 1
  · simp only [h1, true_and, if_true, decide_eq_true_eq]
    by_cases h2 : c.vf = RV.zero <;> by_cases h3 : c.lit = [] <;> simp [h2, h3]
  by_cases h2 : c.kind = 2
  · simp only [h2, true_and, if_true, decide_eq_true_eq]
    by_cases h3 : c.rd = RV.zero <;> by_cases h4 : c.lit = [] <;> simp [h3, h4]
  by_cases h3 : c.kind = 3
  · simp only [h3, true_and, if_true, decide_eq_true_eq]
    by_cases h4 : c.rd = RV.zero <;> by_cases h5 : c.vf = RV.zero <;> simp [h4, h5]
  simp [h1, h2, h3]
set_option maxRecDepth 100000 in
set_option maxHeartbeats 8000000 in
theorem of_any (cs : Array Value) (c : CP) (v : Value) (w : World) (h : Capy w cs c v) :
    Calls Tryz.prog 43 #[.agg cs] w fun e w' => e = .returned (ofV c v) ∧ Below w.heap.size w w' := by
  obtain ⟨A, k, rfl, -, -, -⟩ := h.by_.form
  have hb := Blk.new w 34 cs
  have hbel := (Below.refl w.heap.size w).alloc (Nat.le_refl _) (.cells cs 34)
  have f0 := h.c0
  have f4 := h.lit
  have k4 := kind_four c.kind
  obtain ⟨K, hK⟩ : ∃ K, K = c.kind := ⟨_, rfl⟩
  rw [← hK] at f0 k4
  obtain ⟨R, hR⟩ : ∃ R, R = c.rd.cells := ⟨_, rfl⟩
  obtain ⟨F, hF⟩ : ∃ F, F = c.vf.cells := ⟨_, rfl⟩
  obtain ⟨Z, hZ⟩ : ∃ Z, Z = RV.zero.cells.toArray := ⟨_, rfl⟩
  obtain ⟨n, hn⟩ : ∃ n, n = c.lit.length := ⟨_, rfl⟩
  obtain ⟨r0, hr0⟩ : ∃ r, r = decide (c.rd = RV.zero) := ⟨_, rfl⟩
  obtain ⟨v0, hv0⟩ : ∃ r, r = decide (c.vf = RV.zero) := ⟨_, rfl⟩
  obtain ⟨l0, hl0⟩ : ∃ r, ((n : Int) == 0) = r := ⟨_, rfl⟩
  have hl1 : l0 = decide (c.lit = []) := by
    rw [← hl0, Bool.eq_iff_iff]
    simp only [beq_iff_eq, decide_eq_true_eq]
    rw [← List.length_eq_zero_iff, ← hn]
    omega
  have HR := hide (show (w.alloc (.cells cs 34)).rangeAt w.heap.size 2 R ∧ (w.alloc (.cells cs 34)).rangeAt w.heap.size 54 F ∧ R.length = 52 ∧ F.length = 52 from ⟨by rw [hR]; exact h.rdAt hb, by rw [hF]; exact h.vfAt hb, by rw [hR]; exact RV.cells_length h.wf.1, by rw [hF]; exact RV.cells_length h.wf.2.1⟩)
  have HE := hide (show ∀ W, (binOp .eql 28 (.agg R.toArray) (.agg Z)).run Tryz.prog W = .ok (.bool r0) W from fun W => by rw [hR, hZ, hr0]; exact read_eql _ _ h.wf.1 RV.zero_wf W)
  have HG := hide (show ∀ W, (binOp .eql 31 (.agg F.toArray) (.agg Z)).run Tryz.prog W = .ok (.bool v0) W from fun W => by rw [hF, hZ, hv0]; exact verify_eql _ _ h.wf.2.1 RV.zero_wf W)
  have HZ := hide (show ∀ W, (Instr.build 28 #[]).run Tryz.prog W = .ok (.agg Z) W ∧ (Instr.build 31 #[]).run Tryz.prog W = .ok (.agg Z) W from fun W => by rw [hZ]; exact ⟨build_read0 W, build_verify0 W⟩)
  have HB := hide hbel
  rw [← hn] at f4 ⊢
  have HO := hide (ofV_eq c (.slice A n k))
  rw [← hK, ← hr0, ← hv0, ← hl1, ← hR, ← hF] at HO
  clear hbel h hn hb hR hF hZ hr0 hv0 hl1 hK
  rw [HO.out]
  clear HO
  go_enter Tryz.func43, Tryz.ntmps43
  go_wp2_with fail
  refine wp_region_quiet_lit (by kernel_rfl) (by kernel_rfl) ?_
  repeat (first
    | ((with_reducible change wpQuiet _ _ _ _ (⟨some 7, _, _, _, _, _⟩ :: _) _); refine wpQuiet_yields (by kernel_rfl) (.agg R.toArray) (fun W hW => by obtain ⟨q, rfl⟩ := hW; exact ex_load 28 _ rfl w.heap.size 2 (by kernel_rfl) _ _ HR.out.1 Tryz.underlying28 rfl (by rw [HR.out.2.2.1]; kernel_rfl)) ?_)
    | ((with_reducible change wpQuiet _ _ _ _ (⟨some 8, _, _, _, _, _⟩ :: _) _); refine wpQuiet_yields (by kernel_rfl) (.agg Z) (fun W hW => ex_build 28 _ rfl #[] (by kernel_rfl) _ (HZ.out W).1) ?_)
    | ((with_reducible change wpQuiet _ _ _ _ (⟨some 9, _, _, _, _, _⟩ :: _) _); refine wpQuiet_yields (by kernel_rfl) (.bool r0) (fun W hW => ex_eql 28 _ _ rfl R.toArray Z (by kernel_rfl) (by kernel_rfl) (by kernel_rfl) _ (HE.out W)) ?_)
    | ((with_reducible change wpQuiet _ _ _ _ (⟨some 11, _, _, _, _, _⟩ :: _) _); refine wpQuiet_yields (by kernel_rfl) (.agg F.toArray) (fun W hW => by obtain ⟨q, rfl⟩ := hW; exact ex_load 31 _ rfl w.heap.size 54 (by kernel_rfl) _ _ HR.out.2.1 Tryz.underlying31 rfl (by rw [HR.out.2.2.2]; kernel_rfl)) ?_)
    | ((with_reducible change wpQuiet _ _ _ _ (⟨some 12, _, _, _, _, _⟩ :: _) _); refine wpQuiet_yields (by kernel_rfl) (.agg Z) (fun W hW => ex_build 31 _ rfl #[] (by kernel_rfl) _ (HZ.out W).2) ?_)
    | ((with_reducible change wpQuiet _ _ _ _ (⟨some 13, _, _, _, _, _⟩ :: _) _); refine wpQuiet_yields (by kernel_rfl) (.bool v0) (fun W hW => ex_eql 31 _ _ rfl F.toArray Z (by kernel_rfl) (by kernel_rfl) (by kernel_rfl) _ (HG.out W)) ?_)
    | quiet_step (fail))
  refine wpQuiet_nil ?_
  rintro _ ⟨nq, rfl⟩
  have HW := hide (And.intro HR.out (below_drewN HB.out nq))
  clear HR HB HE HG HZ hl0
  rcases k4 with (⟨hk, q1, q2, q3⟩ | ⟨hk, q1, q2, q3⟩) | (⟨hk, q1, q2, q3⟩ | ⟨hk, q1, q2, q3⟩)
  · subst hk
    cases v0 <;> cases l0
    all_goals
      go_wp2_with first
        | ((with_reducible change wpList _ _ _ (⟨some 29, _, _, _, _, _⟩ :: _) _ _); refine wpList_yields (by kernel_rfl) (.agg R.toArray) (ex_load 28 _ rfl w.heap.size 2 (by kernel_rfl) _ _ HW.out.1.1 Tryz.underlying28 rfl (by rw [HW.out.1.2.2.1]; kernel_rfl)) ?_)
        | ((with_reducible change wpList _ _ _ (⟨some 30, _, _, _, _, _⟩ :: _) _ _); refine wpList_yields (by kernel_rfl) (.agg R.toArray) (ex_build 90 _ rfl #[(0, .agg R.toArray)] (by kernel_rfl) _ (build_reading HW.out.1.2.2.1 _)) ?_)
      go_ret
      exact ⟨rfl, HW.out.2⟩
  · subst hk
    cases r0 <;> cases l0
    all_goals
      go_wp2_with first
        | ((with_reducible change wpList _ _ _ (⟨some 43, _, _, _, _, _⟩ :: _) _ _); refine wpList_yields (by kernel_rfl) (.agg F.toArray) (ex_load 31 _ rfl w.heap.size 54 (by kernel_rfl) _ _ HW.out.1.2.1 Tryz.underlying31 rfl (by rw [HW.out.1.2.2.2]; kernel_rfl)) ?_)
        | ((with_reducible change wpList _ _ _ (⟨some 44, _, _, _, _, _⟩ :: _) _ _); refine wpList_yields (by kernel_rfl) (.agg F.toArray) (ex_build 93 _ rfl #[(0, .agg F.toArray)] (by kernel_rfl) _ (build_verifying HW.out.1.2.2.2 _)) ?_)
      go_ret
      exact ⟨rfl, HW.out.2⟩
  · subst hk
    cases r0 <;> cases v0
    all_goals
      go_wp2
      go_ret
      exact ⟨rfl, HW.out.2⟩
  · have HK := hide hk
    clear hk
    go_wp2
    go_ret
    exact ⟨by unfold ofW; rw [if_neg HK.out.1, if_neg HK.out.2.1, if_neg HK.out.2.2]; rfl, HW.out.2⟩
end Go.Proofs.YtcpceaflnnkhnaaGreatDoor

/- BaseNumber: of every number, and every text and bound: the program's answers are the document's; and what the listed variables give. -/
namespace Go.Proofs.YtcpceaflnnkhnaaGreatDoor
open Go.RowKit

theorem var_below {w w' : World} {n : String} {cs : Array Value} (h : w.var? Tryz.prog n = some cs) (hb : Below w.heap.size w w') : w'.var? Tryz.prog n = some cs := by
  unfold World.var? at *
  cases hg : Tryz.prog.globalNamed n with
  | none => simp [hg] at h
  | some g =>
    simp only [hg, Option.bind_some] at h ⊢
    have hlt : g < w.heap.size := by
      rcases Nat.lt_or_ge g w.heap.size with h' | h'
      · exact h'
      · simp [Array.getElem?_eq_none h'] at h
    rw [hb.block g hlt]
    exact h
theorem Err.below {w w' : World} (h : Err w) (hb : Below w.heap.size w w') : Err w' := by
  obtain ⟨⟨t1, p1, h1⟩, t2, p2, h2⟩ := h
  exact ⟨⟨t1, p1, var_below h1 hb⟩, t2, p2, var_below h2 hb⟩


theorem gES : Tryz.prog.globalNamed "strconv.ErrSyntax" = some 2 := by kernel_rfl
theorem gESType : (Tryz.prog.globals[2]?).map (·.type) = some 63 := by kernel_rfl
theorem gER : Tryz.prog.globalNamed "strconv.ErrRange" = some 3 := by kernel_rfl
theorem gERType : (Tryz.prog.globals[3]?).map (·.type) = some 63 := by kernel_rfl
theorem gTab : Tryz.prog.globalNamed "internal/strconv.uint64pow10" = some 6 := by kernel_rfl
theorem gTabType : (Tryz.prog.globals[6]?).map (·.type) = some 250 := by kernel_rfl
theorem star : "*" ++ "errors.errorString" = "*errors.errorString" := by decide
theorem rowES (u : TypeId) (h : Tryz.prog.typeName? 3 u = some "*errors.errorString") : u = 246 :=
  typeName_ptr_named (nm := "errors.errorString") (by rw [star]; kernel_rfl) (by kernel_rfl) (by decide) u (by rw [star]; exact h)
theorem of_laid {W : World} {r : List (String × DataW Unit)}
    (h0 : laidMet Tryz.prog (("internal/strconv.uint64pow10", Rows.laid_internal_strconv_uint64pow10) :: ("strconv.ErrRange", Rows.laid_strconv_ErrRange) :: ("strconv.ErrSyntax", Rows.laid_strconv_ErrSyntax) :: r) W) : Tab W ∧ Err W := by
  have e : (Rows.laid_internal_strconv_uint64pow10 : DataW Unit) = Lib.tabData .u64 Lib.pow10Tab := by kernel_rfl
  have h2 := h0.tail
  have h3 := h2.tail
  rw [e] at h0
  obtain ⟨a0, s0, hv0, -, -, -⟩ := laid_sentinel h2 gER gERType Tryz.underlying63 rowES Tryz.underlying246 Tryz.underlying248 rfl rfl Tryz.underlying9 (by kernel_rfl) (by kernel_rfl)
  obtain ⟨a1, s1, hv1, -, -, -⟩ := laid_sentinel h3 gES gESType Tryz.underlying63 rowES Tryz.underlying246 Tryz.underlying248 rfl rfl Tryz.underlying9 (by kernel_rfl) (by kernel_rfl)
  exact ⟨Lib.tabIs_of_head gTab gTabType Tryz.underlying250 Tryz.underlying146 (by kernel_rfl) (by kernel_rfl) h0, ⟨_, _, hv1⟩, _, _, hv0⟩
end Go.Proofs.YtcpceaflnnkhnaaGreatDoor
