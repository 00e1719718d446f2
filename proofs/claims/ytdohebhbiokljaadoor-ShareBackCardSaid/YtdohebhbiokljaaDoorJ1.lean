/- Joined texts: LayM, Mem, Kit, Mem2, Mem3, Lst, ConB, Cat. -/
import Derived.Orders
import Derived.Test.YtdohebhbiokljaaDoorProg
import Derived.WalkKit
import Derived.Maps.OwnSet
import Derived.StringKeys
import Derived.Deep.AppendLies
import Derived.Deep.Draws
import Derived.Maps.AppendAt
import Derived.WalkSpells
import Derived.Deep.MidRow
import Derived.Lib.BufferRead
import Derived.Test.YtdohebhbiokljaaDoorRows
import Derived.BigQuiet
import Derived.Deep.QuietTactic
import Derived.Lib.SlBytesConst
import Derived.Laws.IdiomStrings

/- Joined texts: Inv, LayA, LayB, LayC, LayD. -/

/- A law for a region that draws its order: by what stands while some of its operations are done. -/
namespace Go.Proofs.YtdohebhbiokljaaDoor
open Go

/-- In any order: I holds at the start; each operation that may come up leads on from I; where none may come up any more, what is asked behind the region follows. -/
theorem wpAny_inv {P : Program} {ops : Array Oper} {Q : Exit → Act → World → Prop} {md : Region.Mode} (I : Array Bool → Act → World → Prop)
    (hsz : ∀ listed a w, I listed a w → listed.size = ops.size)
    (hstep : ∀ listed a w i, I listed a w → i ∈ Region.ready md ops listed → wpOp P ops Q i (I (listed.setIfInBounds i true)) a w)
    (hfin : ∀ listed a w, I listed a w → Region.ready md ops listed = [] → Q .normal a w) :
    ∀ fuel listed a w, listed.toList.count false ≤ fuel → I listed a w → wpAny P md ops Q fuel listed a w := by
  intro fuel
  induction fuel with
  | zero =>
    intro listed a w hc hI
    have hr : Region.ready md ops listed = [] := by
      unfold Region.ready
      rw [List.filter_eq_nil_iff]
      intro i hi
      have hlt : i < listed.size := by rw [hsz _ _ _ hI]; exact List.mem_range.1 hi
      have h0 : false ∉ listed.toList := List.count_eq_zero.1 (Nat.le_zero.1 hc)
      have ht : listed.getD i true = true := by
        rw [Array.getD, dif_pos hlt]
        rcases hb : listed[i] with _ | _
        · exact absurd (by rw [← hb]; exact Array.getElem_mem_toList hlt) h0
        · exact hb
      simp [ht]
    exact ⟨hr, hfin _ _ _ hI hr⟩
  | succ fuel ih =>
    intro listed a w hc hI
    refine ⟨hfin _ _ _ hI, fun i hi => wpOp_mono (fun a w h => ih _ a w ?_ h) (hstep _ _ _ i hI hi)⟩
    have hlt : i < listed.size := by
      rw [hsz _ _ _ hI]
      unfold Region.ready at hi
      exact List.mem_range.1 (List.mem_filter.1 hi).1
    have hf : listed.getD i true = false := by
      unfold Region.ready at hi
      have := (List.mem_filter.1 hi).2
      simp only [Bool.and_eq_true, Bool.not_eq_true'] at this
      exact this.1
    rw [Array.getD, dif_pos hlt] at hf
    rw [Array.toList_setIfInBounds]
    have hlt' : i < listed.toList.length := by simpa using hlt
    have hg : listed.toList[i] = false := by simpa using hf
    have h1 : listed.toList = listed.toList.take i ++ false :: listed.toList.drop (i + 1) := by
      rw [← hg, List.getElem_cons_drop, List.take_append_drop]
    rw [List.set_eq_take_append_cons_drop, if_pos hlt']
    rw [h1, List.count_append, List.count_cons] at hc
    rw [List.count_append, List.count_cons]
    simp at hc ⊢
    omega

/-- What may come up is not done, and all that it waits for is. -/
theorem ready_at {md : Region.Mode} {ops : Array Oper} {listed : Array Bool} {i : Nat} (h : i ∈ Region.ready md ops listed) : i < ops.size ∧ listed.getD i true = false ∧ ∃ o, ops[i]? = some o ∧ (o.after.all fun e => !Region.binds md e || listed.getD e.on false) = true := by
  unfold Region.ready at h
  obtain ⟨h1, h2⟩ := List.mem_filter.1 h
  simp only [Bool.and_eq_true, Bool.not_eq_true'] at h2
  refine ⟨List.mem_range.1 h1, h2.1, ?_⟩
  rcases ho : ops[i]? with _ | o
  · rw [ho] at h2; simp at h2
  · refine ⟨o, rfl, ?_⟩
    rw [ho] at h2
    simpa using h2.2
/-- Where nothing may come up any more, all is done: if each operation waits for earlier ones alone. -/
theorem all_ready {md : Region.Mode} {ops : Array Oper} {listed : Array Bool} (hs : listed.size = ops.size)
    (hd : ((List.range ops.size).all fun i => ((ops[i]?).map fun o => o.after.all fun e => decide (e.on < i)).getD true) = true)
    (hr : Region.ready md ops listed = []) : ∀ i, i < ops.size → listed.getD i false = true := by
  intro i
  induction i using Nat.strongRecOn with
  | ind i ih =>
    intro hi
    rcases hb : listed.getD i false with _ | _
    · exfalso
      have hmem : i ∈ Region.ready md ops listed := by
        unfold Region.ready
        refine List.mem_filter.2 ⟨List.mem_range.2 hi, ?_⟩
        have hl : i < listed.size := by omega
        have hbt : listed.getD i true = false := by
          simp [Array.getD, hl] at hb ⊢
          exact hb
        obtain ⟨o, ho⟩ : ∃ o, ops[i]? = some o := ⟨_, Array.getElem?_eq_getElem hi⟩
        have hdi := List.all_eq_true.1 hd i (List.mem_range.2 hi)
        rw [ho] at hdi
        simp only [Option.map_some, Option.getD_some] at hdi
        rw [ho, hbt]
        simp only [Bool.not_false, Option.map_some, Option.getD_some, Bool.true_and]
        rw [Array.all_eq_true_iff_forall_mem] at hdi ⊢
        intro e he
        have := of_decide_eq_true (hdi e he)
        rw [ih e.on this (by omega)]
        simp
      rw [hr] at hmem
      cases hmem
    · rfl
end Go.Proofs.YtdohebhbiokljaaDoor

/- The ways to lay a Ueb's rows: a map, made in whatever order. -/
namespace Go.Proofs.YtdohebhbiokljaaDoor
open Go.RowKit

set_option maxRecDepth 100000 in
set_option maxHeartbeats 400000 in
theorem num1_any (p : Option Addr) (w : World) : Calls Tryd.prog 82 #[.pointer p] w fun e w' => e = .returned (.func (.func 83) #[] #[.pointer (some ⟨w.heap.size, 0, none⟩)]) ∧ w' = w.alloc (.cells #[.pointer p] 122) := by
  go_enter Tryd.func82, Tryd.ntmps82
  go_wp2
  go_ret
  exact ⟨rfl, rfl⟩
set_option maxRecDepth 100000 in
set_option maxHeartbeats 400000 in
theorem dig1_any (p : Option Addr) (w : World) : Calls Tryd.prog 85 #[.pointer p] w fun e w' => e = .returned (.func (.func 86) #[] #[.pointer (some ⟨w.heap.size, 0, none⟩)]) ∧ w' = w.alloc (.cells #[.pointer p] 125) := by
  go_enter Tryd.func85, Tryd.ntmps85
  go_wp2
  go_ret
  exact ⟨rfl, rfl⟩

section
variable {P : Program} {ops : Array Oper} {Q : Exit → Act → World → Prop} {K : Act → World → Prop} {i : Nat} {a : Act} {w : World}
theorem op_value {o : Oper} {v : Value} {w' : World} (hi : ops[i]? = some o) (hg : o.guard = none) (hr : (execOp a.eval o).run P w = .ok (.value v) w') (h : K (a.put o.dst v) w') : wpOp P ops Q i K a w := by
  unfold wpOp
  simp only [hi]
  rw [if_pos (by simp [Region.wanted, hg])]
  refine .inl ?_
  unfold Oper.wp
  rw [hr]
  exact h
theorem op_move {d s : Tmp} {t : TypeId} {p : String} {af : Array Edge} {v : Value} (hi : ops[i]? = some ⟨some d, .move (.tmp s), t, p, af, none⟩) (hs : a.eval (.tmp s) = v) (h : K (a.put (some d) v) w) : wpOp P ops Q i K a w :=
  op_value hi rfl (by simp [execOp, hs]) h
end

end Go.Proofs.YtdohebhbiokljaaDoor

/- What stands while the map is made. -/
namespace Go.Proofs.YtdohebhbiokljaaDoor
open Go.RowKit

def keyB : Nat → ByteArray
  | 0 => ⟨#[107]⟩
  | 1 => ⟨#[110]⟩
  | 2 => ⟨#[115, 101, 103]⟩
  | 3 => ⟨#[115, 105, 122, 101]⟩
  | 4 => ⟨#[115, 101, 103, 109, 101, 110, 116, 115]⟩
  | _ => ⟨#[115, 104, 97, 114, 101, 115]⟩
def keyL (k : Nat) : Lit := .string (keyB k).data.toList
def tgt (g : Nat) : Nat → Addr
  | 0 => ⟨g, 0, none⟩
  | 1 => ⟨g, 1, none⟩
  | 2 => ⟨g, 2, none⟩
  | 3 => ⟨g, 3, none⟩
  | 4 => ⟨g, 36, none⟩
  | _ => ⟨g, 4, none⟩
def cloF (k : Nat) : Nat := if k < 4 then 83 else 86
def cloV (k b : Nat) : Value := .func (.func (cloF k)) #[] #[.pointer (some ⟨b, 0, none⟩)]
theorem cloV_inj {k k' b b' : Nat} (h : cloV k b = cloV k' b') : cloF k = cloF k' ∧ b = b' := by
  unfold cloV at h
  simpa using h
open Classical in
/-- How a way to lay reads: which closure, over which box. -/
noncomputable def rFun (v : Value) : Option (DataW Unit × List MemPlace) :=
  if h : ∃ b : Nat, v = cloV 0 b then some (.lit (.int .i64 ((Classical.choose h : Nat) : Int)), [])
  else if h : ∃ b : Nat, v = cloV 4 b then some (.lit (.int .i64 (-1 - ((Classical.choose h : Nat) : Int))), []) else some (.nil, [])
def cloD (k b : Nat) : DataW Unit := if k < 4 then .lit (.int .i64 (b : Int)) else .lit (.int .i64 (-1 - (b : Int)))
theorem cloF_lt {k : Nat} (h : k < 4) : cloV k = cloV 0 := by unfold cloV cloF; simp [h]
theorem cloF_ge {k : Nat} (h : ¬ k < 4) : cloV k = cloV 4 := by unfold cloV cloF; simp [h]
theorem clo_ne (b b' : Nat) : cloV 4 b ≠ cloV 0 b' := fun h => by
  have := (cloV_inj h).1
  exact absurd this (by unfold cloF; decide)
theorem rFun_clo (k b : Nat) : rFun (cloV k b) = some (cloD k b, []) := by
  unfold rFun cloD
  by_cases h : k < 4
  · have hx : ∃ b' : Nat, cloV k b = cloV 0 b' := ⟨b, by rw [cloF_lt h]⟩
    rw [dif_pos hx, if_pos h]
    have := (cloV_inj (Classical.choose_spec hx)).2
    rw [← this]
  · have h0 : ¬ ∃ b' : Nat, cloV k b = cloV 0 b' := fun ⟨b', hb⟩ => by rw [cloF_ge h] at hb; exact clo_ne _ _ hb
    have hx : ∃ b' : Nat, cloV k b = cloV 4 b' := ⟨b, by rw [cloF_ge h]⟩
    rw [dif_neg h0, dif_pos hx, if_neg h]
    have := (cloV_inj (Classical.choose_spec hx)).2
    rw [← this]
theorem rFun_back {v : Value} {k b : Nat} {ps : List MemPlace} (h : rFun v = some (cloD k b, ps)) : v = cloV k b := by
  unfold rFun cloD at h
  split at h
  · rename_i hx
    have hs := Classical.choose_spec hx
    split at h
    · rename_i hk
      simp at h
      have he : Classical.choose hx = b := Int.ofNat.inj h.1
      rw [cloF_lt hk, ← he]
      exact hs
    · simp at h; omega
  · split at h
    · rename_i h0 hx
      have hs := Classical.choose_spec hx
      split at h
      · simp at h; omega
      · rename_i hk
        simp at h
        have he : Classical.choose hx = b := by omega
        rw [cloF_ge hk, ← he]
        exact hs
    · split at h <;> simp at h

def dstOf (i : Nat) : Option Nat := if i = 0 then some 5 else if i = 37 then some 36 else if i = 38 then some 2 else if i < 37 then (if (i - 1) % 6 = 5 then none else some (6 + 5 * ((i - 1) / 6) + (i - 1) % 6)) else none
def valOf (g m : Nat) (B : Nat → Nat) (i : Nat) : Value :=
  if i = 0 then .map (some m) else if i = 37 then .map (some m) else if i = 38 then .map (some m) else
  if (i - 1) % 6 = 0 then .func (.func (if (i - 1) / 6 < 4 then 82 else 85)) #[] #[] else
  if (i - 1) % 6 = 1 then .pointer (some ⟨g, 0, none⟩) else
  if (i - 1) % 6 = 2 then .pointer (some ⟨g, 0, none⟩) else
  if (i - 1) % 6 = 3 then .pointer (some (tgt g ((i - 1) / 6))) else cloV ((i - 1) / 6) (B ((i - 1) / 6))
theorem dst_inj : ∀ i j d, dstOf i = some d → dstOf j = some d → i = j := by
  intro i j d hi hj
  unfold dstOf at hi hj
  repeat' split at hi
  all_goals repeat' split at hj
  all_goals simp at hi hj
  all_goals omega
theorem dst_lt : ∀ i d, dstOf i = some d → d < 37 ∧ d ≠ 0 ∧ d ≠ 3 ∧ d ≠ 4 := by
  intro i d hi
  unfold dstOf at hi
  repeat' split at hi
  all_goals simp at hi
  all_goals omega

/-- What stands while some of the operations are done. -/
structure LI (w0 : World) (g : Nat) (listed : Array Bool) (a : Act) (w : World) (m : Nat) (B : Nat → Nat) (D : DataW Unit) (n : Nat) : Prop where
  size : listed.size = 39
  tsz : a.tmps.size = 37
  df : a.defers = []
  t0 : a.tmps[0]? = some (.pointer (some ⟨g, 0, none⟩))
  t3 : a.tmps[3]? = some (.func (.func 82) #[] #[])
  t4 : a.tmps[4]? = some (.func (.func 85) #[] #[])
  slots : ∀ i d, dstOf i = some d → listed.getD i false = true → a.tmps[d]? = some (valOf g m B i)
  bel : Below w0.heap.size w0 w
  dep37 : listed.getD 37 false = true → listed.getD 0 false = true
  dep38 : listed.getD 38 false = true → listed.getD 0 false = true
  depk : ∀ k, k < 6 → listed.getD (6 + 6 * k) false = true → listed.getD 0 false = true
  depc : ∀ k, k < 6 → listed.getD (6 + 6 * k) false = true → listed.getD (5 + 6 * k) false = true
  cells : ∀ k, k < 6 → listed.getD (5 + 6 * k) false = true → w.cell? ⟨B k, 0, none⟩ = some (.pointer (some (tgt g k))) ∧ w0.heap.size ≤ B k
  map : listed.getD 0 false = true → w0.heap.size ≤ m ∧ w.ownsMap Tryd.prog 9 rFun m n D ∧ n ≤ 100 ∧
    (∀ k, k < 6 → Maps.has D (keyL k) = listed.getD (6 + 6 * k) false) ∧ (∀ k, k < 6 → listed.getD (6 + 6 * k) false = true → ∀ z, D.atKey (keyL k) z = cloD k (B k)) ∧
    (∀ s : List UInt8, (∀ k, k < 6 → s ≠ (keyB k).data.toList) → Maps.has D (.string s) = false) ∧
    Maps.size D = ((List.range 6).filter fun k => listed.getD (6 + 6 * k) false).length ∧ n = Maps.size D

theorem getD_set {listed : Array Bool} {i j : Nat} (h : i < listed.size) : (listed.setIfInBounds i true).getD j false = if j = i then true else listed.getD j false := by
  by_cases hj : j = i
  · subst hj
    simp [Array.getD, h]
  · rw [if_neg hj]
    by_cases hjs : j < listed.size
    · simp [Array.getD, hjs, Array.getElem_setIfInBounds, Ne.symm hj]
    · simp [Array.getD, hjs]

/-- An operation that lays its own value and does nothing else. -/
theorem LI.put {w0 : World} {g : Nat} {listed : Array Bool} {a : Act} {w : World} {m : Nat} {B : Nat → Nat} {D : DataW Unit} {n : Nat} (h : LI w0 g listed a w m B D n) (i d : Nat) (hi : i < 39) (hd : dstOf i = some d)
    (hk : i ≠ 0 ∧ ∀ k, k < 6 → i ≠ 5 + 6 * k) (h37 : (i = 37 ∨ i = 38) → listed.getD 0 false = true) : LI w0 g (listed.setIfInBounds i true) (a.put (some d) (valOf g m B i)) w m B D n := by
  have hs : i < listed.size := by rw [h.size]; exact hi
  have hins : ∀ k, k < 6 → i ≠ 6 + 6 * k := fun k hk he => by
    subst he
    unfold dstOf at hd
    rw [if_neg (by omega), if_neg (by omega), if_neg (by omega), if_pos (by omega), if_pos (by omega)] at hd
    cases hd
  have hdl := dst_lt i d hd
  have hg : ∀ j, j ≠ i → (listed.setIfInBounds i true).getD j false = listed.getD j false := fun j hj => by rw [getD_set hs, if_neg hj]
  have hp : ∀ e, e ≠ d → (a.put (some d) (valOf g m B i)).tmps[e]? = a.tmps[e]? := fun e he => by simp [Act.put, Array.getElem?_setIfInBounds, Ne.symm he]
  refine ⟨by simpa using h.size, by simpa [Act.put] using h.tsz, h.df, ?_, ?_, ?_, fun j e he hl => ?_, h.bel, fun hl => ?_, fun hl => ?_, fun k hk6 hl => ?_, fun k hk6 hl => ?_, fun k hk6 hl => ?_, fun hl => ?_⟩
  · rw [hp 0 (Ne.symm hdl.2.1)]; exact h.t0
  · rw [hp 3 (Ne.symm hdl.2.2.1)]; exact h.t3
  · rw [hp 4 (Ne.symm hdl.2.2.2)]; exact h.t4
  · by_cases hj : j = i
    · subst hj
      rw [hd] at he
      cases he
      simp [Act.put, h.tsz, hdl.1]
    · rw [hg j hj] at hl
      have hne : e ≠ d := fun h' => hj (dst_inj j i d (by rw [he, h']) hd)
      rw [hp e hne]
      exact h.slots j e he hl
  · rw [hg 0 (Ne.symm hk.1)]
    by_cases h' : i = 37
    · exact h37 (.inl h')
    · rw [hg 37 (Ne.symm h')] at hl; exact h.dep37 hl
  · rw [hg 0 (Ne.symm hk.1)]
    by_cases h' : i = 38
    · exact h37 (.inr h')
    · rw [hg 38 (Ne.symm h')] at hl; exact h.dep38 hl
  · rw [hg 0 (Ne.symm hk.1)]
    rw [hg _ (Ne.symm (hins k hk6))] at hl
    exact h.depk k hk6 hl
  · rw [hg _ (Ne.symm (hins k hk6))] at hl
    rw [hg _ (Ne.symm (hk.2 k hk6))]
    exact h.depc k hk6 hl
  · rw [hg _ (Ne.symm (hk.2 k hk6))] at hl
    exact h.cells k hk6 hl
  · rw [hg 0 (Ne.symm hk.1)] at hl
    obtain ⟨h1, h2, h3, h4, h5, h6, h7, h8⟩ := h.map hl
    refine ⟨h1, h2, h3, fun k hk6 => ?_, fun k hk6 hl => ?_, h6, ?_, h8⟩
    · rw [hg _ (Ne.symm (hins k hk6))]; exact h4 k hk6
    · rw [hg _ (Ne.symm (hins k hk6))] at hl; exact h5 k hk6 hl
    · rw [h7]
      congr 1
      refine List.filter_congr fun k hk6 => ?_
      rw [hg _ (Ne.symm (hins k (List.mem_range.1 hk6)))]
end Go.Proofs.YtdohebhbiokljaaDoor

/- The map of ways to lay: the steps that turn the world. -/
namespace Go.Proofs.YtdohebhbiokljaaDoor
open Go.RowKit

theorem val_same {g m m' : Nat} {B B' : Nat → Nat} {j d : Nat} (hd : dstOf j = some d) (hm : (j = 0 ∨ j = 37 ∨ j = 38) → m = m') (hB : ∀ k, j = 5 + 6 * k → B k = B' k) : valOf g m B j = valOf g m' B' j := by
  have h5 : (j - 1) % 6 = 4 → j ≠ 0 → B ((j - 1) / 6) = B' ((j - 1) / 6) := fun h h0 => hB _ (by omega)
  have hne : ¬ (j = 0 ∨ j = 37 ∨ j = 38) → (j - 1) % 6 ≠ 5 := fun h0 h6 => by
    unfold dstOf at hd
    rw [if_neg (by omega), if_neg (by omega), if_neg (by omega)] at hd
    split at hd
    · first
        | cases hd
        | (rw [if_pos h6] at hd; cases hd)
    · cases hd
  unfold valOf
  by_cases h0 : j = 0
  · rw [if_pos h0, if_pos h0, hm (.inl h0)]
  · rw [if_neg h0, if_neg h0]
    by_cases h1 : j = 37
    · rw [if_pos h1, if_pos h1, hm (.inr (.inl h1))]
    · rw [if_neg h1, if_neg h1]
      by_cases h2 : j = 38
      · rw [if_pos h2, if_pos h2, hm (.inr (.inr h2))]
      · rw [if_neg h2, if_neg h2]
        have := hne (by omega)
        by_cases h3 : (j - 1) % 6 = 0
        · rw [if_pos h3, if_pos h3]
        · rw [if_neg h3, if_neg h3]
          by_cases h4 : (j - 1) % 6 = 1
          · rw [if_pos h4, if_pos h4]
          · rw [if_neg h4, if_neg h4]
            by_cases h6 : (j - 1) % 6 = 2
            · rw [if_pos h6, if_pos h6]
            · rw [if_neg h6, if_neg h6]
              by_cases h7 : (j - 1) % 6 = 3
              · rw [if_pos h7, if_pos h7]
              · rw [if_neg h7, if_neg h7, h5 (by omega) h0]

theorem Blk_new (w : World) (ty : TypeId) (v : Value) : (w.alloc (.cells #[v] ty)).cell? ⟨w.heap.size, 0, none⟩ = some v := by
  rw [cell_of_row _ w.heap.size 0 #[v] ty (0, 0) (heap_alloc_new w _)]
  rfl
theorem put_other {a : Act} {d e : Nat} {v : Value} (h : e ≠ d) : (a.put (some d) v).tmps[e]? = a.tmps[e]? := by simp [Act.put, Array.getElem?_setIfInBounds, Ne.symm h]
theorem put_same {a : Act} {d : Nat} {v : Value} (h : d < a.tmps.size) : (a.put (some d) v).tmps[d]? = some v := by simp [Act.put, h]

theorem LI.make {w0 : World} {g : Nat} {listed : Array Bool} {a : Act} {w : World} {m : Nat} {B : Nat → Nat} {D : DataW Unit} {n : Nat} (h : LI w0 g listed a w m B D n) (h0 : listed.getD 0 false = false) :
    LI w0 g (listed.setIfInBounds 0 true) (a.put (some 5) (.map (some w.heap.size))) (w.alloc (.map #[] 0)) w.heap.size B (.map []) 0 := by
  have hs : 0 < listed.size := by rw [h.size]; omega
  have hg : ∀ j, j ≠ 0 → (listed.setIfInBounds 0 true).getD j false = listed.getD j false := fun j hj => by rw [getD_set hs, if_neg hj]
  have hg0 : (listed.setIfInBounds 0 true).getD 0 false = true := by rw [getD_set hs, if_pos rfl]
  have hbel := h.bel.alloc h.bel.size (.map #[] 0)
  have hnk : ∀ k, k < 6 → listed.getD (6 + 6 * k) false = false := fun k hk => by
    rcases hb : listed.getD (6 + 6 * k) false with _ | _
    · rfl
    · rw [h.depk k hk hb] at h0; cases h0
  refine ⟨by simpa using h.size, by simpa [Act.put] using h.tsz, h.df, (put_other (by omega)).trans h.t0, (put_other (by omega)).trans h.t3, (put_other (by omega)).trans h.t4, fun j e he hl => ?_, hbel, fun _ => hg0, fun _ => hg0, fun _ _ _ => hg0, fun k hk6 hl => ?_, fun k hk6 hl => ?_, fun _ => ?_⟩
  · by_cases hj : j = 0
    · subst hj
      have : e = 5 := by simpa [dstOf] using he.symm
      subst this
      rw [put_same (by rw [h.tsz]; omega)]
      rfl
    · rw [hg j hj] at hl
      have hne : e ≠ 5 := fun h' => hj (dst_inj j 0 5 (by rw [he, h']) rfl)
      rw [put_other hne, h.slots j e he hl]
      refine congrArg some (val_same he (fun h' => ?_) fun _ _ => rfl)
      rcases h' with h' | h' | h'
      · exact absurd h' hj
      · subst h'; rw [h.dep37 hl] at h0; cases h0
      · subst h'; rw [h.dep38 hl] at h0; cases h0
  · rw [hg _ (by omega)] at hl ⊢
    exact h.depc k hk6 hl
  · rw [hg _ (by omega)] at hl
    obtain ⟨h1, h2⟩ := h.cells k hk6 hl
    exact ⟨((Below.refl _ w).alloc (Nat.le_refl _) (.map #[] 0)).cell (p := ⟨B k, 0, none⟩) (World.block_lt_of_cell? _ _ h1) |>.trans h1, h2⟩
  · refine ⟨h.bel.size, World.ownsMap_made w _ _ _, by omega, fun k hk6 => ?_, fun k hk6 hl => ?_, fun s _ => rfl, ?_, rfl⟩
    · rw [hg _ (by omega), hnk k hk6]; rfl
    · rw [hg _ (by omega), hnk k hk6] at hl; cases hl
    · rw [List.filter_eq_nil_iff.2]
      · rfl
      · intro k hk
        rw [hg _ (by omega), hnk k (List.mem_range.1 hk)]
        simp

theorem LI.call {w0 : World} {g : Nat} {listed : Array Bool} {a : Act} {w : World} {m : Nat} {B : Nat → Nat} {D : DataW Unit} {n : Nat} (h : LI w0 g listed a w m B D n) (k d : Nat) (ty : TypeId) (hk : k < 6) (hl0 : listed.getD (5 + 6 * k) false = false) (hd : dstOf (5 + 6 * k) = some d) :
    LI w0 g (listed.setIfInBounds (5 + 6 * k) true) (a.put (some d) (cloV k w.heap.size)) (w.alloc (.cells #[.pointer (some (tgt g k))] ty)) m (fun j => if j = k then w.heap.size else B j) D n := by
  have hs : 5 + 6 * k < listed.size := by rw [h.size]; omega
  have hg : ∀ j, j ≠ 5 + 6 * k → (listed.setIfInBounds (5 + 6 * k) true).getD j false = listed.getD j false := fun j hj => by rw [getD_set hs, if_neg hj]
  have hbel := h.bel.alloc h.bel.size (.cells #[.pointer (some (tgt g k))] ty)
  have hdl := dst_lt _ d hd
  refine ⟨by simpa using h.size, by simpa [Act.put] using h.tsz, h.df, (put_other (Ne.symm hdl.2.1)).trans h.t0, (put_other (Ne.symm hdl.2.2.1)).trans h.t3, (put_other (Ne.symm hdl.2.2.2)).trans h.t4, fun j e he hl => ?_, hbel, fun hl => ?_, fun hl => ?_, fun k' hk6 hl => ?_, fun k' hk6 hl => ?_, fun k' hk6 hl => ?_, fun hl => ?_⟩
  · by_cases hj : j = 5 + 6 * k
    · subst hj
      rw [hd] at he
      cases he
      rw [put_same (by rw [h.tsz]; exact hdl.1)]
      unfold valOf
      rw [if_neg (by omega), if_neg (by omega), if_neg (by omega), if_neg (by omega), if_neg (by omega), if_neg (by omega), if_neg (by omega), show (5 + 6 * k - 1) / 6 = k by omega]
      simp
    · rw [hg j hj] at hl
      have hne : e ≠ d := fun h' => hj (dst_inj j _ d (by rw [he, h']) hd)
      rw [put_other hne, h.slots j e he hl]
      exact congrArg some (val_same he (fun _ => rfl) fun k' hk' => by rw [if_neg (fun e' => hj (by omega))])
  · rw [hg _ (by omega)] at hl ⊢; exact h.dep37 hl
  · rw [hg _ (by omega)] at hl ⊢; exact h.dep38 hl
  · rw [hg _ (by omega)] at hl ⊢; exact h.depk k' hk6 hl
  · rw [hg _ (by omega)] at hl
    by_cases hkk : k' = k
    · subst hkk; rw [getD_set hs, if_pos rfl]
    · rw [hg _ (by omega)]; exact h.depc k' hk6 hl
  · by_cases hkk : k' = k
    · subst hkk
      simp only [if_pos]
      exact ⟨(Blk_new w ty _).trans rfl, h.bel.size⟩
    · rw [hg _ (by omega)] at hl
      simp only [if_neg hkk]
      obtain ⟨h1, h2⟩ := h.cells k' hk6 hl
      exact ⟨((Below.refl _ w).alloc (Nat.le_refl _) _).cell (p := ⟨B k', 0, none⟩) (World.block_lt_of_cell? _ _ h1) |>.trans h1, h2⟩
  · rw [hg _ (by omega)] at hl
    obtain ⟨h1, h2, h3, h4, h5, h6, h7, h8⟩ := h.map hl
    refine ⟨h1, h2.alloc _, h3, fun k' hk6 => ?_, fun k' hk6 hl => ?_, h6, ?_, h8⟩
    · rw [hg _ (by omega)]; exact h4 k' hk6
    · rw [hg _ (by omega)] at hl
      have hc := h.depc k' hk6 hl
      have hkk : k' ≠ k := fun e' => by subst e'; rw [hl0] at hc; cases hc
      simp only [if_neg hkk]
      exact h5 k' hk6 hl
    · rw [h7]
      congr 1
      refine List.filter_congr fun k' hk6 => ?_
      rw [hg _ (by omega)]
theorem key_len (k : Nat) : (keyB k).size ≤ maxLen := by
  unfold maxLen keyB
  split <;> decide
theorem key_ne {k k' : Nat} (hk : k < 6) (hk' : k' < 6) (h : k' ≠ k) : keyL k' ≠ keyL k := by
  have : ∀ a, a < 6 → ∀ b, b < 6 → b ≠ a → (keyB b).data.toList ≠ (keyB a).data.toList := by decide
  intro e
  unfold keyL at e
  injection e with e
  exact this k hk k' hk' h e
theorem count_ins (f : Nat → Bool) (k : Nat) (hk : k < 6) (hf : f k = false) : ((List.range 6).filter fun j => if j = k then true else f j).length = ((List.range 6).filter f).length + 1 := by
  have e : List.range 6 = [0, 1, 2, 3, 4, 5] := rfl
  rw [e]
  have hc : k = 0 ∨ k = 1 ∨ k = 2 ∨ k = 3 ∨ k = 4 ∨ k = 5 := by omega
  rcases hc with rfl | rfl | rfl | rfl | rfl | rfl
  all_goals
    simp only [List.filter_cons, List.filter_nil, hf]
    cases f 0 <;> cases f 1 <;> cases f 2 <;> cases f 3 <;> cases f 4 <;> cases f 5 <;> simp_all
theorem keyed_str : Maps.Keyed Tryd.prog 9 := Maps.string_keyed Tryd.underlying9

theorem LI.ins {w0 : World} {g : Nat} {listed : Array Bool} {a : Act} {w : World} {m : Nat} {B : Nat → Nat} {D : DataW Unit} {n : Nat} (h : LI w0 g listed a w m B D n) (k : Nat) (hk : k < 6) (hl0 : listed.getD (6 + 6 * k) false = false) (h0 : listed.getD 0 false = true) (hc : listed.getD (5 + 6 * k) false = true) :
    ∃ w', (Instr.mapUpdate 89 (.map (some m)) (.string (keyB k)) (cloV k (B k))).run Tryd.prog w = .ok () w' ∧ LI w0 g (listed.setIfInBounds (6 + 6 * k) true) a w' m B (D.put (keyL k) (cloD k (B k))) (n + 1) := by
  obtain ⟨h1, h2, h3, h4, h5, h6, h7, h8⟩ := h.map h0
  have hkl : WideAt.IsKeyLit (keyL k) := trivial
  obtain ⟨w', hrun, ho, hgr⟩ := h2.update keyed_str Tryd.underlying89 (by unfold maxLen; omega) (WideMaps.keyOf_string_mk Tryd.underlying9 (key_len k)) (rFun_clo k (B k))
  have hs : 6 + 6 * k < listed.size := by rw [h.size]; omega
  have hg : ∀ j, j ≠ 6 + 6 * k → (listed.setIfInBounds (6 + 6 * k) true).getD j false = listed.getD j false := fun j hj => by rw [getD_set hs, if_neg hj]
  have hgk : (listed.setIfInBounds (6 + 6 * k) true).getD (6 + 6 * k) false = true := by rw [getD_set hs, if_pos rfl]
  have hlt := h2.lt
  have hhas : Maps.has D (keyL k) = false := by rw [h4 k hk, hl0]
  have hfun : (fun j => (listed.setIfInBounds (6 + 6 * k) true).getD (6 + 6 * j) false) = fun j => if j = k then true else listed.getD (6 + 6 * j) false := by
    funext j
    by_cases hj : j = k
    · subst hj; rw [hgk, if_pos rfl]
    · rw [hg _ (by omega), if_neg hj]
  have hcnt : ((List.range 6).filter fun j => listed.getD (6 + 6 * j) false).length ≤ 6 := Nat.le_trans (List.length_filter_le _ _) (by simp)
  refine ⟨w', hrun, by simpa using h.size, h.tsz, h.df, h.t0, h.t3, h.t4, fun j e he hl => ?_, h.bel.grown hgr h.bel.size (fun j hj => by cases hj; exact h1), fun hl => ?_, fun hl => ?_, fun k' hk6 hl => ?_, fun k' hk6 hl => ?_, fun k' hk6 hl => ?_, fun hl => ?_⟩
  · have hj : j ≠ 6 + 6 * k := fun e' => by
      subst e'
      unfold dstOf at he
      rw [if_neg (by omega), if_neg (by omega), if_neg (by omega), if_pos (by omega), if_pos (by omega)] at he
      cases he
    rw [hg j hj] at hl
    exact h.slots j e he hl
  · rw [hg _ (by omega)] at hl ⊢; exact h.dep37 hl
  · rw [hg _ (by omega)] at hl ⊢; exact h.dep38 hl
  · rw [hg _ (by omega)]; exact h0
  · rw [hg _ (by omega)]
    by_cases hkk : k' = k
    · subst hkk; exact hc
    · rw [hg _ (by omega)] at hl; exact h.depc k' hk6 hl
  · rw [hg _ (by omega)] at hl
    obtain ⟨c1, c2⟩ := h.cells k' hk6 hl
    refine ⟨?_, c2⟩
    have hb := World.block_lt_of_cell? _ _ c1
    have hne : B k' ≠ m := fun e' => by
      obtain ⟨es, clock, hh, _⟩ := h2
      rw [e'] at c1
      simp [World.cell?, hh] at c1
    have : w'.heap[B k']? = w.heap[B k']? := hgr.block (B k') hb (fun e' => hne (Option.some.inj e'))
    unfold World.cell? at c1 ⊢
    simp only at c1 ⊢
    rw [this]
    exact c1
  · refine ⟨h1, ho, by rw [h8, h7]; omega, fun k' hk6 => ?_, fun k' hk6 hl z => ?_, fun s hs' => ?_, ?_, ?_⟩
    · by_cases hkk : k' = k
      · subst hkk; rw [hgk, Maps.has_put_same h2.isMap hkl]
      · rw [hg _ (by omega), Maps.has_put_other (key_ne hk hk6 hkk)]; exact h4 k' hk6
    · by_cases hkk : k' = k
      · subst hkk; exact Maps.atKey_put_same h2.isMap hkl _ z
      · rw [hg _ (by omega)] at hl
        rw [Maps.atKey_put_other (key_ne hk hk6 hkk)]; exact h5 k' hk6 hl z
    · rw [Maps.has_put_other (fun e' => by unfold keyL at e'; injection e' with e'; exact hs' k hk e')]
      exact h6 s hs'
    · rw [Maps.size_put (h2.tidy keyed_str), if_neg (by rw [hhas]; decide), hfun, count_ins _ k hk hl0, h7]
    · rw [Maps.size_put (h2.tidy keyed_str), if_neg (by rw [hhas]; decide), h8]
end Go.Proofs.YtdohebhbiokljaaDoor

/- The contract of layers: a map of six ways to lay, in whatever order it is made. -/
namespace Go.Proofs.YtdohebhbiokljaaDoor
open Go.RowKit

section
variable {P : Program} {ops : Array Oper} {Q : Exit → Act → World → Prop} {K : Act → World → Prop} {i : Nat} {a : Act} {w : World}
set_option maxRecDepth 100000 in
theorem op_callnum1 {ops : Array Oper} {Q : Exit → Act → World → Prop} {K : Act → World → Prop} {i : Nat} {a : Act} {w : World} {d s x : Tmp} {t at_ : TypeId} {p : String} {af : Array Edge} {q : Option Addr} (hi : ops[i]? = some ⟨some d, .call { callee := .value (.tmp s), args := #[.tmp x], argTypes := #[at_] }, t, p, af, none⟩)
    (hs : a.tmps[s]? = some (.func (.func 82) #[] #[])) (hx : a.tmps[x]? = some (.pointer q)) (h : K (a.put (some d) (.func (.func 83) #[] #[.pointer (some ⟨w.heap.size, 0, none⟩)])) (w.alloc (.cells #[.pointer q] 122))) : wpOp Tryd.prog ops Q i K a w := by
  unfold wpOp
  simp only [hi]
  rw [if_pos (by simp [Region.wanted])]
  refine .inl ?_
  unfold Oper.wp
  go_simp
  go_at_call 82
  refine (num1_any q w).mono ?_
  rintro e w2 ⟨rfl, rfl⟩
  exact h
set_option maxRecDepth 100000 in
theorem op_calldig1 {ops : Array Oper} {Q : Exit → Act → World → Prop} {K : Act → World → Prop} {i : Nat} {a : Act} {w : World} {d s x : Tmp} {t at_ : TypeId} {p : String} {af : Array Edge} {q : Option Addr} (hi : ops[i]? = some ⟨some d, .call { callee := .value (.tmp s), args := #[.tmp x], argTypes := #[at_] }, t, p, af, none⟩)
    (hs : a.tmps[s]? = some (.func (.func 85) #[] #[])) (hx : a.tmps[x]? = some (.pointer q)) (h : K (a.put (some d) (.func (.func 86) #[] #[.pointer (some ⟨w.heap.size, 0, none⟩)])) (w.alloc (.cells #[.pointer q] 125))) : wpOp Tryd.prog ops Q i K a w := by
  unfold wpOp
  simp only [hi]
  rw [if_pos (by simp [Region.wanted])]
  refine .inl ?_
  unfold Oper.wp
  go_simp
  go_at_call 85
  refine (dig1_any q w).mono ?_
  rintro e w2 ⟨rfl, rfl⟩
  exact h
theorem op_ins {m x : Tmp} {t ty : TypeId} {key : Value} {p : String} {af : Array Edge} {mv xv : Value} {w' : World} (hi : ops[i]? = some ⟨none, .insert ty (.tmp m) (.const key) (.tmp x), t, p, af, none⟩)
    (hm : a.eval (.tmp m) = mv) (hx : a.eval (.tmp x) = xv) (hr : (Instr.mapUpdate ty mv key xv).run P w = .ok () w') (h : K a w') : wpOp P ops Q i K a w := by
  unfold wpOp
  simp only [hi]
  rw [if_pos (by simp [Region.wanted])]
  refine .inl ?_
  unfold Oper.wp
  have hk : a.eval (.const key) = key := rfl
  simp [execOp, hm, hx, hk, hr, Result.andThen, Oper.upon]
  exact h
theorem gd {l : Array Bool} {i : Nat} (h : l[i]?.getD false = true) : l.getD i false = true := by simpa using h
theorem eval_tmp {s : Tmp} {v : Value} (h : a.tmps[s]? = some v) : a.eval (.tmp s) = v := by simp [Act.eval, h]
end

theorem fa0 (g : Nat) (W : World) : (Instr.fieldAt 37 (.pointer (some ⟨g, 0, none⟩)) 0).run Tryd.prog W = .ok (.pointer (some (tgt g 0))) W := by kernel_rfl
theorem fa1 (g : Nat) (W : World) : (Instr.fieldAt 37 (.pointer (some ⟨g, 0, none⟩)) 1).run Tryd.prog W = .ok (.pointer (some (tgt g 1))) W := by kernel_rfl
theorem fa2 (g : Nat) (W : World) : (Instr.fieldAt 37 (.pointer (some ⟨g, 0, none⟩)) 2).run Tryd.prog W = .ok (.pointer (some (tgt g 2))) W := by kernel_rfl
theorem fa3 (g : Nat) (W : World) : (Instr.fieldAt 37 (.pointer (some ⟨g, 0, none⟩)) 3).run Tryd.prog W = .ok (.pointer (some (tgt g 3))) W := by kernel_rfl
theorem fa4 (g : Nat) (W : World) : (Instr.fieldAt 37 (.pointer (some ⟨g, 0, none⟩)) 5).run Tryd.prog W = .ok (.pointer (some (tgt g 4))) W := by kernel_rfl
theorem fa5 (g : Nat) (W : World) : (Instr.fieldAt 37 (.pointer (some ⟨g, 0, none⟩)) 4).run Tryd.prog W = .ok (.pointer (some (tgt g 5))) W := by kernel_rfl

set_option maxRecDepth 100000 in
set_option maxHeartbeats 4000000 in
theorem layers_any (g : Nat) (w : World) : Calls Tryd.prog 51 #[.pointer (some ⟨g, 0, none⟩)] w fun e w' => ∃ (m : Nat) (B : Nat → Nat) (D : DataW Unit) (n : Nat), e = .returned (.map (some m)) ∧ Below w.heap.size w w' ∧
    w.heap.size ≤ m ∧ w'.ownsMap Tryd.prog 9 rFun m n D ∧ n ≤ 100 ∧ Maps.size D = 6 ∧ (∀ k, k < 6 → Maps.has D (keyL k) = true) ∧ (∀ k, k < 6 → ∀ z, D.atKey (keyL k) z = cloD k (B k)) ∧
    (∀ s : List UInt8, (∀ k, k < 6 → s ≠ (keyB k).data.toList) → Maps.has D (.string s) = false) ∧ (∀ k, k < 6 → w'.cell? ⟨B k, 0, none⟩ = some (.pointer (some (tgt g k))) ∧ w.heap.size ≤ B k) := by
  go_enter Tryd.func51, Tryd.ntmps51
  go_wp2
  refine wp_region_any rfl ?_
  refine wpAny_inv (fun listed a W => ∃ m B D n, LI w g listed a W m B D n) (fun listed a W ⟨_, _, _, _, h⟩ => h.size.trans rfl) ?step ?fin _ _ _ _ (by simp) ?start
  case start =>
    refine ⟨0, fun _ => 0, .map [], 0, by simp, by simp, rfl, rfl, rfl, rfl, fun i d hd hl => ?_, (Below.refl w.heap.size w).drew, fun hl => ?_, fun hl => ?_, fun k _ hl => ?_, fun k _ hl => ?_, fun k _ hl => ?_, fun hl => ?_⟩
    all_goals
      simp [Array.getD] at hl
  case fin =>
    rintro listed a W ⟨m, B, D, n, h⟩ hr
    have hall : ∀ i, i < 39 → listed.getD i false = true := fun i hi => all_ready (h.size.trans rfl) (by kernel_rfl) hr i hi
    obtain ⟨h1, h2, h3, h4, h5, h6, h7, h8⟩ := h.map (hall 0 (by omega))
    have ht2 : a.tmps[2]? = some (.map (some m)) := h.slots 38 2 rfl (hall 38 (by omega))
    have hdf := h.df
    have hcell := fun k hk => h.cells k hk (hall (5 + 6 * k) (by omega))
    have hhas : ∀ k, k < 6 → Maps.has D (keyL k) = true := fun k hk => by rw [h4 k hk]; exact hall _ (by omega)
    have hat : ∀ k, k < 6 → ∀ z, D.atKey (keyL k) z = cloD k (B k) := fun k hk => h5 k hk (hall _ (by omega))
    have hsz : Maps.size D = 6 := by
      rw [h7, List.filter_eq_self.2 (fun k hk => hall _ (by have := List.mem_range.1 hk; omega))]
      rfl
    have hbel := h.bel
    clear h hr hall h4 h5 h7 h8
    go_wp2
    exact bodyPost_ret (results_tmp rfl _ _ _) hdf ⟨m, B, D, n, by rw [Array.getD_eq_getD_getElem?, ht2]; rfl, hbel, h1, h2, h3, hsz, hhas, hat, h6, hcell⟩
  case step =>
    rintro listed a W i ⟨m, B, D, n, h⟩ hi
    obtain ⟨hlt, hf, o, ho, hdep⟩ := ready_at hi
    have hi39 : i < 39 := hlt
    have hff : listed.getD i false = false := by
      have : i < listed.size := by rw [h.size]; exact hi39
      simpa [Array.getD, this] using hf
    clear hi hlt hf
    have hc : i = 0 ∨ i = 1 ∨ i = 2 ∨ i = 3 ∨ i = 4 ∨ i = 5 ∨ i = 6 ∨ i = 7 ∨ i = 8 ∨ i = 9 ∨ i = 10 ∨ i = 11 ∨ i = 12 ∨ i = 13 ∨ i = 14 ∨ i = 15 ∨ i = 16 ∨ i = 17 ∨ i = 18 ∨ i = 19 ∨ i = 20 ∨ i = 21 ∨ i = 22 ∨ i = 23 ∨ i = 24 ∨ i = 25 ∨ i = 26 ∨ i = 27 ∨ i = 28 ∨ i = 29 ∨ i = 30 ∨ i = 31 ∨ i = 32 ∨ i = 33 ∨ i = 34 ∨ i = 35 ∨ i = 36 ∨ i = 37 ∨ i = 38 := by omega
    rcases hc with rfl | rfl | rfl | rfl | rfl | rfl | rfl | rfl | rfl | rfl | rfl | rfl | rfl | rfl | rfl | rfl | rfl | rfl | rfl | rfl | rfl | rfl | rfl | rfl | rfl | rfl | rfl | rfl | rfl | rfl | rfl | rfl | rfl | rfl | rfl | rfl | rfl | rfl | rfl
    · clear ho hdep
      exact op_value rfl rfl (by simp [execOp, run_makeMap, Result.andThen]) ⟨_, _, _, _, h.make hff⟩
    · clear ho hdep
      exact op_move rfl (eval_tmp h.t3) ⟨_, _, _, _, h.put 1 6 (by omega) rfl ⟨by omega, fun k hk => by omega⟩ (fun h => by omega)⟩
    · clear ho hdep
      exact op_move rfl (eval_tmp h.t0) ⟨_, _, _, _, h.put 2 7 (by omega) rfl ⟨by omega, fun k hk => by omega⟩ (fun h => by omega)⟩
    · simp at ho
      subst ho
      simp [Region.binds] at hdep
      have hv : a.eval (.tmp 7) = .pointer (some ⟨g, 0, none⟩) := eval_tmp (h.slots 2 7 rfl (gd hdep))
      exact op_value (v := .pointer (some ⟨g, 0, none⟩)) rfl rfl (by simp [execOp, hv]) ⟨_, _, _, _, h.put 3 8 (by omega) rfl ⟨by omega, fun k hk => by omega⟩ (fun h => by omega)⟩
    · simp at ho
      subst ho
      simp [Region.binds] at hdep
      have hv : a.eval (.tmp 8) = .pointer (some ⟨g, 0, none⟩) := eval_tmp (h.slots 3 8 rfl (gd hdep))
      exact op_value (v := .pointer (some (tgt g 0))) rfl rfl (by simp [execOp, hv, fa0, Result.andThen]) ⟨_, _, _, _, h.put 4 9 (by omega) rfl ⟨by omega, fun k hk => by omega⟩ (fun h => by omega)⟩
    · simp at ho
      subst ho
      simp [Region.binds] at hdep
      have hs : a.tmps[6]? = some (.func (.func 82) #[] #[]) := h.slots 1 6 rfl (gd hdep.1)
      have hx : a.tmps[9]? = some (.pointer (some (tgt g 0))) := h.slots 4 9 rfl (gd hdep.2)
      exact op_callnum1 rfl hs hx ⟨_, _, _, _, h.call 0 10 _ (by omega) hff rfl⟩
    · simp at ho
      subst ho
      simp [Region.binds] at hdep
      obtain ⟨w2, hr2, hl2⟩ := h.ins 0 (by omega) hff (gd hdep.1) (gd hdep.2)
      have hm : a.eval (.tmp 5) = .map (some m) := eval_tmp (h.slots 0 5 rfl (gd hdep.1))
      have hx : a.eval (.tmp 10) = cloV 0 (B 0) := eval_tmp (h.slots 5 10 rfl (gd hdep.2))
      exact op_ins rfl hm hx hr2 ⟨_, _, _, _, hl2⟩
    · clear ho hdep
      exact op_move rfl (eval_tmp h.t3) ⟨_, _, _, _, h.put 7 11 (by omega) rfl ⟨by omega, fun k hk => by omega⟩ (fun h => by omega)⟩
    · clear ho hdep
      exact op_move rfl (eval_tmp h.t0) ⟨_, _, _, _, h.put 8 12 (by omega) rfl ⟨by omega, fun k hk => by omega⟩ (fun h => by omega)⟩
    · simp at ho
      subst ho
      simp [Region.binds] at hdep
      have hv : a.eval (.tmp 12) = .pointer (some ⟨g, 0, none⟩) := eval_tmp (h.slots 8 12 rfl (gd hdep))
      exact op_value (v := .pointer (some ⟨g, 0, none⟩)) rfl rfl (by simp [execOp, hv]) ⟨_, _, _, _, h.put 9 13 (by omega) rfl ⟨by omega, fun k hk => by omega⟩ (fun h => by omega)⟩
    · simp at ho
      subst ho
      simp [Region.binds] at hdep
      have hv : a.eval (.tmp 13) = .pointer (some ⟨g, 0, none⟩) := eval_tmp (h.slots 9 13 rfl (gd hdep))
      exact op_value (v := .pointer (some (tgt g 1))) rfl rfl (by simp [execOp, hv, fa1, Result.andThen]) ⟨_, _, _, _, h.put 10 14 (by omega) rfl ⟨by omega, fun k hk => by omega⟩ (fun h => by omega)⟩
    · simp at ho
      subst ho
      simp [Region.binds] at hdep
      have hs : a.tmps[11]? = some (.func (.func 82) #[] #[]) := h.slots 7 11 rfl (gd hdep.1)
      have hx : a.tmps[14]? = some (.pointer (some (tgt g 1))) := h.slots 10 14 rfl (gd hdep.2.1)
      exact op_callnum1 rfl hs hx ⟨_, _, _, _, h.call 1 15 _ (by omega) hff rfl⟩
    · simp at ho
      subst ho
      simp [Region.binds] at hdep
      obtain ⟨w2, hr2, hl2⟩ := h.ins 1 (by omega) hff (gd hdep.1) (gd hdep.2)
      have hm : a.eval (.tmp 5) = .map (some m) := eval_tmp (h.slots 0 5 rfl (gd hdep.1))
      have hx : a.eval (.tmp 15) = cloV 1 (B 1) := eval_tmp (h.slots 11 15 rfl (gd hdep.2))
      exact op_ins rfl hm hx hr2 ⟨_, _, _, _, hl2⟩
    · clear ho hdep
      exact op_move rfl (eval_tmp h.t3) ⟨_, _, _, _, h.put 13 16 (by omega) rfl ⟨by omega, fun k hk => by omega⟩ (fun h => by omega)⟩
    · clear ho hdep
      exact op_move rfl (eval_tmp h.t0) ⟨_, _, _, _, h.put 14 17 (by omega) rfl ⟨by omega, fun k hk => by omega⟩ (fun h => by omega)⟩
    · simp at ho
      subst ho
      simp [Region.binds] at hdep
      have hv : a.eval (.tmp 17) = .pointer (some ⟨g, 0, none⟩) := eval_tmp (h.slots 14 17 rfl (gd hdep))
      exact op_value (v := .pointer (some ⟨g, 0, none⟩)) rfl rfl (by simp [execOp, hv]) ⟨_, _, _, _, h.put 15 18 (by omega) rfl ⟨by omega, fun k hk => by omega⟩ (fun h => by omega)⟩
    · simp at ho
      subst ho
      simp [Region.binds] at hdep
      have hv : a.eval (.tmp 18) = .pointer (some ⟨g, 0, none⟩) := eval_tmp (h.slots 15 18 rfl (gd hdep))
      exact op_value (v := .pointer (some (tgt g 2))) rfl rfl (by simp [execOp, hv, fa2, Result.andThen]) ⟨_, _, _, _, h.put 16 19 (by omega) rfl ⟨by omega, fun k hk => by omega⟩ (fun h => by omega)⟩
    · simp at ho
      subst ho
      simp [Region.binds] at hdep
      have hs : a.tmps[16]? = some (.func (.func 82) #[] #[]) := h.slots 13 16 rfl (gd hdep.1)
      have hx : a.tmps[19]? = some (.pointer (some (tgt g 2))) := h.slots 16 19 rfl (gd hdep.2.1)
      exact op_callnum1 rfl hs hx ⟨_, _, _, _, h.call 2 20 _ (by omega) hff rfl⟩
    · simp at ho
      subst ho
      simp [Region.binds] at hdep
      obtain ⟨w2, hr2, hl2⟩ := h.ins 2 (by omega) hff (gd hdep.1) (gd hdep.2)
      have hm : a.eval (.tmp 5) = .map (some m) := eval_tmp (h.slots 0 5 rfl (gd hdep.1))
      have hx : a.eval (.tmp 20) = cloV 2 (B 2) := eval_tmp (h.slots 17 20 rfl (gd hdep.2))
      exact op_ins rfl hm hx hr2 ⟨_, _, _, _, hl2⟩
    · clear ho hdep
      exact op_move rfl (eval_tmp h.t3) ⟨_, _, _, _, h.put 19 21 (by omega) rfl ⟨by omega, fun k hk => by omega⟩ (fun h => by omega)⟩
    · clear ho hdep
      exact op_move rfl (eval_tmp h.t0) ⟨_, _, _, _, h.put 20 22 (by omega) rfl ⟨by omega, fun k hk => by omega⟩ (fun h => by omega)⟩
    · simp at ho
      subst ho
      simp [Region.binds] at hdep
      have hv : a.eval (.tmp 22) = .pointer (some ⟨g, 0, none⟩) := eval_tmp (h.slots 20 22 rfl (gd hdep))
      exact op_value (v := .pointer (some ⟨g, 0, none⟩)) rfl rfl (by simp [execOp, hv]) ⟨_, _, _, _, h.put 21 23 (by omega) rfl ⟨by omega, fun k hk => by omega⟩ (fun h => by omega)⟩
    · simp at ho
      subst ho
      simp [Region.binds] at hdep
      have hv : a.eval (.tmp 23) = .pointer (some ⟨g, 0, none⟩) := eval_tmp (h.slots 21 23 rfl (gd hdep))
      exact op_value (v := .pointer (some (tgt g 3))) rfl rfl (by simp [execOp, hv, fa3, Result.andThen]) ⟨_, _, _, _, h.put 22 24 (by omega) rfl ⟨by omega, fun k hk => by omega⟩ (fun h => by omega)⟩
    · simp at ho
      subst ho
      simp [Region.binds] at hdep
      have hs : a.tmps[21]? = some (.func (.func 82) #[] #[]) := h.slots 19 21 rfl (gd hdep.1)
      have hx : a.tmps[24]? = some (.pointer (some (tgt g 3))) := h.slots 22 24 rfl (gd hdep.2.1)
      exact op_callnum1 rfl hs hx ⟨_, _, _, _, h.call 3 25 _ (by omega) hff rfl⟩
    · simp at ho
      subst ho
      simp [Region.binds] at hdep
      obtain ⟨w2, hr2, hl2⟩ := h.ins 3 (by omega) hff (gd hdep.1) (gd hdep.2)
      have hm : a.eval (.tmp 5) = .map (some m) := eval_tmp (h.slots 0 5 rfl (gd hdep.1))
      have hx : a.eval (.tmp 25) = cloV 3 (B 3) := eval_tmp (h.slots 23 25 rfl (gd hdep.2))
      exact op_ins rfl hm hx hr2 ⟨_, _, _, _, hl2⟩
    · clear ho hdep
      exact op_move rfl (eval_tmp h.t4) ⟨_, _, _, _, h.put 25 26 (by omega) rfl ⟨by omega, fun k hk => by omega⟩ (fun h => by omega)⟩
    · clear ho hdep
      exact op_move rfl (eval_tmp h.t0) ⟨_, _, _, _, h.put 26 27 (by omega) rfl ⟨by omega, fun k hk => by omega⟩ (fun h => by omega)⟩
    · simp at ho
      subst ho
      simp [Region.binds] at hdep
      have hv : a.eval (.tmp 27) = .pointer (some ⟨g, 0, none⟩) := eval_tmp (h.slots 26 27 rfl (gd hdep))
      exact op_value (v := .pointer (some ⟨g, 0, none⟩)) rfl rfl (by simp [execOp, hv]) ⟨_, _, _, _, h.put 27 28 (by omega) rfl ⟨by omega, fun k hk => by omega⟩ (fun h => by omega)⟩
    · simp at ho
      subst ho
      simp [Region.binds] at hdep
      have hv : a.eval (.tmp 28) = .pointer (some ⟨g, 0, none⟩) := eval_tmp (h.slots 27 28 rfl (gd hdep))
      exact op_value (v := .pointer (some (tgt g 4))) rfl rfl (by simp [execOp, hv, fa4, Result.andThen]) ⟨_, _, _, _, h.put 28 29 (by omega) rfl ⟨by omega, fun k hk => by omega⟩ (fun h => by omega)⟩
    · simp at ho
      subst ho
      simp [Region.binds] at hdep
      have hs : a.tmps[26]? = some (.func (.func 85) #[] #[]) := h.slots 25 26 rfl (gd hdep.1)
      have hx : a.tmps[29]? = some (.pointer (some (tgt g 4))) := h.slots 28 29 rfl (gd hdep.2.1)
      exact op_calldig1 rfl hs hx ⟨_, _, _, _, h.call 4 30 _ (by omega) hff rfl⟩
    · simp at ho
      subst ho
      simp [Region.binds] at hdep
      obtain ⟨w2, hr2, hl2⟩ := h.ins 4 (by omega) hff (gd hdep.1) (gd hdep.2)
      have hm : a.eval (.tmp 5) = .map (some m) := eval_tmp (h.slots 0 5 rfl (gd hdep.1))
      have hx : a.eval (.tmp 30) = cloV 4 (B 4) := eval_tmp (h.slots 29 30 rfl (gd hdep.2))
      exact op_ins rfl hm hx hr2 ⟨_, _, _, _, hl2⟩
    · clear ho hdep
      exact op_move rfl (eval_tmp h.t4) ⟨_, _, _, _, h.put 31 31 (by omega) rfl ⟨by omega, fun k hk => by omega⟩ (fun h => by omega)⟩
    · clear ho hdep
      exact op_move rfl (eval_tmp h.t0) ⟨_, _, _, _, h.put 32 32 (by omega) rfl ⟨by omega, fun k hk => by omega⟩ (fun h => by omega)⟩
    · simp at ho
      subst ho
      simp [Region.binds] at hdep
      have hv : a.eval (.tmp 32) = .pointer (some ⟨g, 0, none⟩) := eval_tmp (h.slots 32 32 rfl (gd hdep))
      exact op_value (v := .pointer (some ⟨g, 0, none⟩)) rfl rfl (by simp [execOp, hv]) ⟨_, _, _, _, h.put 33 33 (by omega) rfl ⟨by omega, fun k hk => by omega⟩ (fun h => by omega)⟩
    · simp at ho
      subst ho
      simp [Region.binds] at hdep
      have hv : a.eval (.tmp 33) = .pointer (some ⟨g, 0, none⟩) := eval_tmp (h.slots 33 33 rfl (gd hdep))
      exact op_value (v := .pointer (some (tgt g 5))) rfl rfl (by simp [execOp, hv, fa5, Result.andThen]) ⟨_, _, _, _, h.put 34 34 (by omega) rfl ⟨by omega, fun k hk => by omega⟩ (fun h => by omega)⟩
    · simp at ho
      subst ho
      simp [Region.binds] at hdep
      have hs : a.tmps[31]? = some (.func (.func 85) #[] #[]) := h.slots 31 31 rfl (gd hdep.1)
      have hx : a.tmps[34]? = some (.pointer (some (tgt g 5))) := h.slots 34 34 rfl (gd hdep.2.1)
      exact op_calldig1 rfl hs hx ⟨_, _, _, _, h.call 5 35 _ (by omega) hff rfl⟩
    · simp at ho
      subst ho
      simp [Region.binds] at hdep
      obtain ⟨w2, hr2, hl2⟩ := h.ins 5 (by omega) hff (gd hdep.1) (gd hdep.2)
      have hm : a.eval (.tmp 5) = .map (some m) := eval_tmp (h.slots 0 5 rfl (gd hdep.1))
      have hx : a.eval (.tmp 35) = cloV 5 (B 5) := eval_tmp (h.slots 35 35 rfl (gd hdep.2))
      exact op_ins rfl hm hx hr2 ⟨_, _, _, _, hl2⟩
    · simp at ho
      subst ho
      simp [Region.binds] at hdep
      have h0 : listed.getD 0 false = true := gd hdep.1
      have hv : a.eval (.tmp 5) = .map (some m) := eval_tmp (h.slots 0 5 rfl h0)
      exact op_move rfl hv ⟨_, _, _, _, h.put 37 36 (by omega) rfl ⟨by omega, fun k hk => by omega⟩ (fun _ => h0)⟩
    · simp at ho
      subst ho
      simp [Region.binds] at hdep
      have h37 : listed.getD 37 false = true := gd hdep.1
      have hv : a.eval (.tmp 36) = .map (some m) := eval_tmp (h.slots 37 36 rfl h37)
      exact op_value (v := .map (some m)) rfl rfl (by simp [execOp, hv]) ⟨_, _, _, _, h.put 38 2 (by omega) rfl ⟨by omega, fun k hk => by omega⟩ (fun _ => h.dep37 h37)⟩
end Go.Proofs.YtdohebhbiokljaaDoor

/- Lemmas on memory that the walks of this claim use: slices that read as lists, rows that a call made itself, what stays as it was. They hold of every program. -/
namespace Go.Proofs.YtdohebhbiokljaaDoor
open Go.RowKit

theorem ret_int {k : IntKind} {a b : Int} (h : a = b) : Ending.returned (.int k a) = .returned (.int k b) := by rw [h]
theorem ret_bool {a b : Bool} (h : a = b) : Ending.returned (.bool a) = .returned (.bool b) := by rw [h]

theorem hide {p : Prop} (h : p) : Hid p := h

/-- A slice value of n elements of sz cells whose cells are xs. -/
def Sl (w : World) (sz : Nat) (v : Value) (n : Nat) (xs : List Value) : Prop :=
  xs.length = n * sz ∧ ∃ A c, v = .slice A n c ∧ n ≤ c ∧ c ≤ maxLen ∧
    (0 < n → ∃ b o, A = some ⟨b, o, none⟩ ∧ b < w.heap.size ∧ ∀ j, j < n * sz → w.cell? ⟨b, o + j, none⟩ = xs[j]?)

theorem Sl.keep {w w' : World} {sz : Nat} {v : Value} {n : Nat} {xs : List Value} (h : Sl w sz v n xs) (hs : w.heap.size ≤ w'.heap.size)
    (hb : ∀ b, b < w.heap.size → w'.heap[b]? = w.heap[b]?) : Sl w' sz v n xs := by
  obtain ⟨h1, A, c, hv, hn, hc, h2⟩ := h
  refine ⟨h1, A, c, hv, hn, hc, fun h0 => ?_⟩
  obtain ⟨b, o, hA, hlt, hcell⟩ := h2 h0
  exact ⟨b, o, hA, by omega, fun j hj => (World.cell?_of_block (w := w) (hb b hlt)).trans (hcell j hj)⟩

theorem Sl.below {w w' : World} {sz : Nat} {v : Value} {n : Nat} {xs : List Value} (h : Sl w sz v n xs) (hb : Below w.heap.size w w') : Sl w' sz v n xs :=
  h.keep hb.size hb.block

theorem below_drewN {B : Nat} {a w : World} (h : Below B a w) (n : Nat) : Below B a (w.drewN n) := ⟨h.os, h.tape, h.output, h.size, h.block⟩

/-- What is owned stays owned where no old block has turned. -/
theorem own_below {w w' : World} {base : Nat} {e : TypeId} {sz : Nat} {v : Value} {n : Nat} {xs : List Value} (h : w.ownsRow base e sz v n xs)
    {B : Nat} (hb : Below B w w') (hB : ∀ g, v.ownBlock = some g → g < B) : w'.ownsRow base e sz v n xs := by
  obtain ⟨h1, h2 | ⟨g, cap, cur, hv, hg, hh, r⟩⟩ := h
  · exact ⟨h1, .inl h2⟩
  · subst hv
    exact ⟨h1, .inr ⟨g, cap, cur, rfl, hg, (hb.block g (hB g rfl)).trans hh, r⟩⟩

theorem own_lt {w : World} {base : Nat} {e : TypeId} {sz : Nat} {v : Value} {n : Nat} {xs : List Value} (h : w.ownsRow base e sz v n xs) :
    ∀ g, v.ownBlock = some g → g < w.heap.size := fun g hg => (h.lt g hg).2

theorem own_below' {w w' : World} {base : Nat} {e : TypeId} {sz : Nat} {v : Value} {n : Nat} {xs : List Value} (h : w.ownsRow base e sz v n xs)
    (hb : Below w.heap.size w w') : w'.ownsRow base e sz v n xs := own_below h hb (own_lt h)

/-- An owned row reads as a slice. -/
theorem Sl.of_own {w : World} {base : Nat} {e : TypeId} {sz : Nat} {v : Value} {n : Nat} {xs : List Value} (h : w.ownsRow base e sz v n xs) : Sl w sz v n xs := by
  have hl := own_lt h
  obtain ⟨h1, ⟨hv, hn⟩ | ⟨g, cap, cur, hv, hg, hh, hn, hc, hs, ht⟩⟩ := h
  · subst hv hn
    exact ⟨h1, none, 0, rfl, Nat.le_refl _, by simp [maxLen], fun h => absurd h (by omega)⟩
  · subst hv
    refine ⟨h1, _, cap, rfl, hn, hc, fun h0 => ⟨g, 0, rfl, hl g rfl, fun j hj => ?_⟩⟩
    rw [Nat.zero_add, cell_of_row w g j cur e (0, 0) hh, ← ht, List.getElem?_take_of_lt hj]
    simp

theorem Sl.nil (w : World) (sz : Nat) : Sl w sz (.slice none 0 0) 0 [] := ⟨by simp, none, 0, rfl, Nat.le_refl _, by simp [maxLen], fun h => absurd h (by omega)⟩

/-- The value, its address where there is an element, and that element's cells. -/
theorem Sl.form {w : World} {sz : Nat} {v : Value} {n : Nat} {xs : List Value} (h : Sl w sz v n xs) :
    ∃ A c, v = .slice A n c ∧ n ≤ c ∧ c ≤ maxLen ∧ (0 < n → ∃ b o, A = some ⟨b, o, none⟩ ∧ b < w.heap.size ∧ ∀ j, j < n * sz → w.cell? ⟨b, o + j, none⟩ = xs[j]?) := h.2

/-! ### Bytes -/
def bcells (l : List UInt8) : List Value := l.map fun x => .int .u8 (x.toNat : Int)

@[simp] theorem bcells_length (l : List UInt8) : (bcells l).length = l.length := by simp [bcells]
theorem bcells_append (l r : List UInt8) : bcells (l ++ r) = bcells l ++ bcells r := by simp [bcells]
theorem bcells_one (x : UInt8) : bcells [x] = [.int .u8 (x.toNat : Int)] := rfl
theorem bcells_get (l : List UInt8) (k : Nat) : (bcells l)[k]? = (l[k]?).map fun x => .int .u8 (x.toNat : Int) := by simp [bcells]

/-- A slice of bytes that reads as l. -/
def By (w : World) (v : Value) (l : List UInt8) : Prop := Sl w 1 v l.length (bcells l)
theorem By.below {w w' : World} {v : Value} {l : List UInt8} (h : By w v l) (hb : Below w.heap.size w w') : By w' v l := Sl.below h hb
theorem By.keep {w w' : World} {v : Value} {l : List UInt8} (h : By w v l) (hs : w.heap.size ≤ w'.heap.size)
    (hb : ∀ b, b < w.heap.size → w'.heap[b]? = w.heap[b]?) : By w' v l := Sl.keep h hs hb
theorem By.nil (w : World) : By w (.slice none 0 0) [] := Sl.nil w 1
theorem By.form {w : World} {v : Value} {l : List UInt8} (h : By w v l) :
    ∃ A c, v = .slice A l.length c ∧ l.length ≤ c ∧ c ≤ maxLen ∧
      (∀ k x, l[k]? = some x → ∃ b o, A = some ⟨b, o, none⟩ ∧ b < w.heap.size ∧ w.cell? ⟨b, o + k, none⟩ = some (.int .u8 (x.toNat : Int))) := by
  obtain ⟨A, c, hv, hn, hc, h2⟩ := Sl.form h
  refine ⟨A, c, hv, hn, hc, fun k x hx => ?_⟩
  have hk : k < l.length := (List.getElem?_eq_some_iff.1 hx).1
  obtain ⟨b, o, hA, hlt, hcell⟩ := h2 (by omega)
  refine ⟨b, o, hA, hlt, ?_⟩
  rw [hcell k (by omega), bcells_get, hx]; rfl

/-- A row of bytes of the call's own (e: the byte's type number). -/
def Own (w : World) (base : Nat) (e : TypeId) (v : Value) (l : List UInt8) : Prop := w.ownsRow base e 1 v l.length (bcells l)
theorem Own.by_ {w : World} {base : Nat} {e : TypeId} {v : Value} {l : List UInt8} (h : Own w base e v l) : By w v l := Sl.of_own h
theorem Own.below {w w' : World} {base : Nat} {e : TypeId} {v : Value} {l : List UInt8} (h : Own w base e v l) (hb : Below w.heap.size w w') : Own w' base e v l := own_below' h hb
theorem Own.nil (w : World) (base : Nat) (e : TypeId) : Own w base e (.slice none 0 0) [] := World.ownsRow_nil w base e 1

/-- The slice type t over the element type e of one cell. -/
structure Elem1 (P : Program) (t e : TypeId) (z : Value) (bytes : Nat) : Prop where
  ht : P.underlying t = some (.slice e)
  hi : (P.info? e).map (fun i => (i.zero, i.size, i.bytes)) = some (some z, 1, bytes)
  hz : z.cells.size = 1

/-- 'append(out, x)' of one element of one cell, out nil or the call's own: the new value owns one more, the old one owns what it owned; what else may have turned: the row itself alone. -/
theorem run_push1 {P : Program} {t e : TypeId} {z : Value} {bytes : Nat} (T : Elem1 P t e z bytes) (ty : TypeId) {w : World} {base : Nat} {v : Value} {n : Nat} {xs : List Value} (hown : w.ownsRow base e 1 v n xs)
    (hbase : base ≤ w.heap.size) (hn : n + 1 ≤ maxLen) (hbytes : (n + 1) * bytes ≤ 140737488355328) (u : Value) (hu : u.oneCell' = true) :
    ∃ v' w', (Builtin.append_ #[t, t] ty #[v, .slice (some ⟨w.heap.size, 0, none⟩) 1 1]).run P (w.alloc (.cells #[u] e)) = .ok v' w' ∧ w'.ownsRow base e 1 v' (n + 1) (xs ++ [u]) ∧ w'.ownsRow base e 1 v n xs ∧
      w.grownBy w' v.ownBlock ∧ (v'.ownBlock = v.ownBlock ∨ ∀ g, v'.ownBlock = some g → w.heap.size ≤ g) := by
  obtain ⟨i, hi, hz, h1, h2⟩ := info_parts T.hi
  have hn1 : ∀ j y, [u][j]? = some y → (w.alloc (.cells #[u] e)).cell? ((⟨w.heap.size, 0, none⟩ : Addr).add j) = some y := fun j y hj => by
    have := World.news_of_block (w := w.alloc (.cells #[u] e)) (B := w.heap.size) (cs := #[u]) (t := e) (fr := (0, 0)) (heap_alloc_new w _) j y (by simpa using hj)
    exact this
  have ho1 := hown.alloc (.cells #[u] e)
  have hnl : ([u] : List Value).length = 1 * i.size := by simp [h1]
  have hbig : n + 1 ≤ 9223372036854775807 := by simp only [maxLen] at hn; omega
  have gb : ∀ {w' : World} {row : Option Nat}, (w.alloc (.cells #[u] e)).grownBy w' row → w.grownBy w' row := fun hg =>
    ⟨hg.os, hg.tape, hg.output, Nat.le_trans (by simp) hg.size, fun k hk hne => (hg.block k (by simp; omega) hne).trans (Below.heap_alloc w _ k hk)⟩
  obtain ⟨v', w', hrun, h3, h4, _, h6⟩ := run_append_own_at (P := P) (w.alloc (.cells #[u] e)) base t ty e i z 1 bytes T.ht hi hz h1 h2 T.hz (by omega) v n xs ho1 ⟨w.heap.size, 0, none⟩ 1 1 [u] rfl hn1 (by simpa using hu) hn hbytes (by simp; omega)
  refine ⟨v', w', hrun, h3, ?_, gb h4, ?_⟩
  · rcases ho1.2 with ⟨rfl, rfl⟩ | ⟨g, cap, cur, rfl, hbg, hg, hnc, hcm, hcs, htake⟩
    · have hx : xs = [] := List.eq_nil_of_length_eq_zero (by simpa using hown.1)
      subst hx
      exact World.ownsRow_nil w' base e 1
    · by_cases hroom : n + 1 ≤ cap
      · have hfit : n * i.size + [u].length ≤ cur.size := by rw [hcs, h1]; simp; omega
        have hr := run_append_room (P := P) (w.alloc (.cells #[u] e)) t ty e i T.ht hi g n cap cur hg ⟨w.heap.size, 0, none⟩ 1 1 [u] hnl hn1 (by simpa using hu) hroom hfit
        rw [hr] at hrun
        injection hrun with _ hw
        subst hw
        refine ⟨hown.1, .inr ⟨g, cap, _, rfl, hbg, setRow_heap _ g cur _ e _ hg, hnc, hcm, ?_, ?_⟩⟩
        · simp only [List.size_toArray, List.length_append, List.length_take, List.length_drop, Array.length_toList]
          have := hfit
          simp only [List.length_cons, List.length_nil] at *
          omega
        · have hl : (cur.toList.take (n * 1)).length = n := by rw [htake]; simpa using hown.1
          rw [h1, List.append_assoc, List.take_append_of_le_length (by omega), List.take_take, Nat.min_self, htake]
      · have holds : ∀ j y, xs[j]? = some y → (w.alloc (.cells #[u] e)).cell? ((⟨g, 0, none⟩ : Addr).add j) = some y := ho1.cells (g := g) rfl
        have hr := run_append_grow (P := P) (w.alloc (.cells #[u] e)) t ty e i z T.ht hi hz ⟨g, 0, none⟩ n cap xs (by rw [h1]; exact hown.1) holds ⟨w.heap.size, 0, none⟩ 1 1 [u] hnl hn1 (by omega) (by omega) (growslice_fits (by omega) (by rw [h2]; exact hbytes))
        rw [hr] at hrun
        injection hrun with _ hw
        subst hw
        exact World.ownsRow.alloc (w := (w.alloc (.cells #[u] e)).drew) ho1 _
  · rcases h6 with h6 | h6
    · exact .inl h6
    · refine .inr fun g hg => ?_
      rw [h6] at hg
      injection hg with hg
      simp at hg
      omega

theorem Own.push {w' : World} {base : Nat} {e : TypeId} {v' : Value} {l : List UInt8} {n : Nat} {x : UInt8} {xs : List Value}
    (h : w'.ownsRow base e 1 v' (n + 1) (xs ++ [.int .u8 (x.toNat : Int)])) (hn : n = l.length) (hx : xs = bcells l) : Own w' base e v' (l ++ [x]) := by
  subst hn hx
  unfold Own
  rw [bcells_append, bcells_one]
  simpa using h

/-- 'append(out, x)', out a row of the call's own with elements of one cell. -/
theorem wpList_push1 {P : Program} {t e : TypeId} {z : Value} {bytes : Nat} (T : Elem1 P t e z bytes) {w : World} {base : Nat} {v : Value} {n : Nat} {xs : List Value} (hown : w.ownsRow base e 1 v n xs)
    {w0 : World} (hb : Below base w0 w) (hbase : base ≤ w.heap.size) (hn : n + 1 ≤ maxLen) (hbytes : (n + 1) * bytes ≤ 140737488355328) (u : Value) (hu : u.oneCell' = true)
    {ops : Array Oper} {rest : List Oper} {o : Oper} {a : Act} {Q : Exit → Act → World → Prop} (hgd : o.guard = none) (s y : Operand)
    (ho : o.op = .call { callee := .builtin .append, args := #[s, y], argTypes := #[t, t] }) (hs : a.eval s = v) (hx : a.eval y = .slice (some ⟨w.heap.size, 0, none⟩) 1 1)
    (h : ∀ v' w', w'.ownsRow base e 1 v' (n + 1) (xs ++ [u]) → Below base w0 w' → w'.ownsRow base e 1 v n xs → w.grownBy w' v.ownBlock → (v'.ownBlock = v.ownBlock ∨ ∀ g, v'.ownBlock = some g → w.heap.size ≤ g) → wpList P ops Q rest (a.put o.dst v') w') :
    wpList P ops Q (o :: rest) a (w.alloc (.cells #[u] e)) := by
  refine wpList_plain hgd fun K hK => ?_
  obtain ⟨v', w', hrun, h2, h3, h4, h5⟩ := run_push1 T o.type hown hbase hn hbytes u hu
  unfold Oper.wp execOp
  simp only [ho, resolve, invoke, builtin, Sem.run_bind, Sem.run_pure, Result.andThen_ok, List.map_toArray, List.map_cons, List.map_nil, hs, hx, hrun]
  exact hK _ _ (h v' w' h2 (hb.grown h4 hbase fun k hk => (hown.lt k hk).1) h3 h4 h5)

/-- 'append(out, x)', out a row of bytes of the call's own. -/
theorem wpList_pushB {P : Program} {t e : TypeId} (T : Elem1 P t e (.int .u8 0) 1) {w : World} {base : Nat} {v : Value} {l : List UInt8} (hown : Own w base e v l)
    {w0 : World} (hb : Below base w0 w) (hbase : base ≤ w.heap.size) (hlen : l.length + 1 ≤ 140737488355328) (x : UInt8)
    {ops : Array Oper} {rest : List Oper} {o : Oper} {a : Act} {Q : Exit → Act → World → Prop} (hgd : o.guard = none) (s y : Operand)
    (ho : o.op = .call { callee := .builtin .append, args := #[s, y], argTypes := #[t, t] }) (hs : a.eval s = v) (hx : a.eval y = .slice (some ⟨w.heap.size, 0, none⟩) 1 1)
    (h : ∀ v' w', Own w' base e v' (l ++ [x]) → Below base w0 w' → w.grownBy w' v.ownBlock → (v'.ownBlock = v.ownBlock ∨ ∀ g, v'.ownBlock = some g → w.heap.size ≤ g) → wpList P ops Q rest (a.put o.dst v') w') :
    wpList P ops Q (o :: rest) a (w.alloc (.cells #[.int .u8 (x.toNat : Int)] e)) := by
  refine wpList_push1 T hown hb hbase (by unfold maxLen; omega) (by omega) _ rfl hgd s y ho hs hx fun v' w' h1 h2 _ h3 h4 => h v' w' (Own.push h1 rfl rfl) h2 h3 h4

theorem str_toList (s : ByteArray) : s.toList = s.data.toList := ByteArray.toList_eq s

/-! ### A block that is known whole -/
def Blk (w : World) (g : Nat) (t : TypeId) (cs : Array Value) : Prop := w.heap[g]? = some (.cells cs t (0, 0))
section
variable {w w' : World} {g : Nat} {t : TypeId} {cs : Array Value}
theorem Blk.lt (h : Blk w g t cs) : g < w.heap.size := by
  rcases Nat.lt_or_ge g w.heap.size with h1 | h1
  · exact h1
  · unfold Blk at h; rw [Array.getElem?_eq_none h1] at h; cases h
theorem Blk.cell (h : Blk w g t cs) (i : Nat) : w.cell? ⟨g, i, none⟩ = cs[i]? := cell_of_row w g i cs t (0, 0) h
theorem Blk.frozen (h : Blk w g t cs) (i : Nat) : w.frozen? ⟨g, i, none⟩ = false := by unfold Blk at h; simp [World.frozen?, h]
theorem Blk.new (w : World) (t : TypeId) (cs : Array Value) : Blk (w.alloc (.cells cs t)) w.heap.size t cs := heap_alloc_new w _
theorem Blk.alloc (h : Blk w g t cs) (o : Obj) : Blk (w.alloc o) g t cs := (Below.heap_alloc w o g h.lt).trans h
theorem Blk.drew (h : Blk w g t cs) : Blk w.drew g t cs := h
theorem Blk.drewN (h : Blk w g t cs) (n : Nat) : Blk (w.drewN n) g t cs := h
theorem Blk.set_ (h : Blk w g t cs) (i : Nat) (u : Value) : Blk (w.setCell ⟨g, i, none⟩ u) g t (cs.setIfInBounds i u) := by
  unfold Blk at h ⊢
  simp [World.setCell, Array.getElem?_modify, h]
theorem Blk.far (h : Blk w g t cs) {p : Addr} (hp : g ≠ p.block) (u : Value) : Blk (w.setCell p u) g t cs := (Below.heap_setCell w p u g hp).trans h
theorem Blk.below {B : Nat} (h : Blk w g t cs) (hb : Below B w w') (hg : g < B) : Blk w' g t cs := (hb.block g hg).trans h
theorem Blk.below' (h : Blk w g t cs) (hb : Below w.heap.size w w') : Blk w' g t cs := h.below hb h.lt
theorem Blk.grown {row : Option Nat} (h : Blk w g t cs) (hb : w.grownBy w' row) (hg : some g ≠ row) : Blk w' g t cs := (hb.block g h.lt hg).trans h
theorem Blk.own (h : Blk w g t cs) {base n cap : Nat} {e : TypeId} {sz : Nat} (he : e = t) (hb : base ≤ g) (hc : cs.size = cap * sz) (hn : n ≤ cap) (hm : cap ≤ maxLen) :
    w.ownsRow base e sz (.slice (some ⟨g, 0, none⟩) n cap) n (cs.toList.take (n * sz)) := by
  subst he
  refine ⟨?_, .inr ⟨g, cap, cs, rfl, hb, h, hn, hm, hc, rfl⟩⟩
  rw [List.length_take, Array.length_toList, hc, Nat.min_eq_left (Nat.mul_le_mul_right _ hn)]
theorem own_blk_ne {base : Nat} {e : TypeId} {sz n : Nat} {v : Value} {xs : List Value} (h : w.ownsRow base e sz v n xs) (hg : Blk w g t cs) (hne : e ≠ t) : v.ownBlock = none ∨ v.ownBlock ≠ some g := by
  rcases h.2 with ⟨rfl, _⟩ | ⟨g', cap, cur, rfl, _, hh, _⟩
  · exact .inl rfl
  · refine .inr ?_
    intro he
    have : g' = g := by simpa [Value.ownBlock] using he
    subst this
    unfold Blk at hg
    rw [hh] at hg
    injection hg with hg
    injection hg with _ ht
    exact hne ht
end

theorem grown_drew {w w' : World} {row : Option Nat} (h : w.grownBy w' row) : w.grownBy w'.drew row := ⟨h.os, h.tape, h.output, h.size, h.block⟩
theorem grown_drewN {w w' : World} {row : Option Nat} (h : w.grownBy w' row) (n : Nat) : w.grownBy (w'.drewN n) row := ⟨h.os, h.tape, h.output, h.size, h.block⟩
theorem _root_.Go.World.grownBy.trans_ {a b c : World} {row : Option Nat} (h : a.grownBy b row) (k : b.grownBy c row) : a.grownBy c row :=
  ⟨k.os.trans h.os, k.tape.trans h.tape, k.output.trans h.output, Nat.le_trans h.size k.size, fun i hi hne => (k.block i (Nat.lt_of_lt_of_le hi h.size) hne).trans (h.block i hi hne)⟩
theorem store_grown (w : World) (g i : Nat) (u : Value) : w.grownBy (w.setCell ⟨g, i, none⟩ u) (some g) :=
  ⟨rfl, rfl, rfl, by simp [World.setCell], fun k hk hne => Below.heap_setCell w _ u k (fun e => hne (by rw [e]))⟩
theorem stores_grown (g : Nat) (cs : List Value) : ∀ (w : World) (o : Nat), w.grownBy (w.setCells g o cs) (some g) := by
  induction cs with
  | nil => exact fun w o => World.grownBy.refl w _
  | cons c cs ih => exact fun w o => (store_grown w g o c).trans_ (ih _ _)

theorem blk_setCells {g : Nat} {t : TypeId} (cs : List Value) : ∀ (w : World) (o : Nat) (old : Array Value), Blk w g t old → o + cs.length ≤ old.size →
    Blk (w.setCells g o cs) g t (old.toList.take o ++ cs ++ old.toList.drop (o + cs.length)).toArray := by
  induction cs with
  | nil => intro w o old h _; simpa [World.setCells] using h
  | cons c cs ih =>
    intro w o old h hl
    simp only [List.length_cons] at hl
    have := ih (w.setCell ⟨g, o, none⟩ c) (o + 1) (old.setIfInBounds o c) (h.set_ o c) (by simp; omega)
    simp only [World.setCells]
    have e : (old.setIfInBounds o c).toList.take (o + 1) ++ cs ++ (old.setIfInBounds o c).toList.drop (o + 1 + cs.length) = old.toList.take o ++ c :: cs ++ old.toList.drop (o + (c :: cs).length) := by
      rw [Array.toList_setIfInBounds, List.drop_set_of_lt (by omega), List.length_cons, show o + 1 + cs.length = o + (cs.length + 1) by omega]
      congr 1
      rw [List.take_add_one, List.take_set_of_le (Nat.le_refl _), List.getElem?_set_self (by simp; omega)]
      simp
    rw [e] at this
    exact this

/-- A whole array or struct is stored into a block that is known whole. -/
theorem wpList_store_row {P : Program} {ops : Array Oper} {rest : List Oper} {o : Oper} {a : Act} {w : World} {Q : Exit → Act → World → Prop} {g : Nat} {t : TypeId} {old : Array Value} (hb : Blk w g t old) (cells : Array Value)
    (hs : cells.size = old.size) (h1 : cells.all (·.oneCell') = true) (hgd : o.guard = none) (ty : TypeId) (x y : Operand) (ho : o.op = .store ty x y)
    (hi : (P.info? ty).map (·.size) = some cells.size) (hx : a.eval x = .pointer (some ⟨g, 0, none⟩)) (hy : a.eval y = .agg cells)
    (h : ∀ w', Blk w' g t cells → w.grownBy w' (some g) → wpList P ops Q rest (a.put o.dst undef) w') : wpList P ops Q (o :: rest) a w := by
  refine wpList_store_mid hgd ty x y ho g 0 cells hx hy (fun j hj => ⟨?_, ?_⟩) hi h1 (h _ ?_ (stores_grown g _ _ _))
  · rw [Nat.zero_add, hb.cell]; simp; omega
  · rw [Nat.zero_add]; exact hb.frozen j
  · have := blk_setCells cells.toList w 0 old hb (by simp; omega)
    simp only [List.take_zero, List.nil_append, Nat.zero_add, Array.length_toList] at this
    rw [List.drop_of_length_le (by simp; omega), List.append_nil] at this
    simpa using this

/-- 'string(b)' of a slice of bytes. -/
theorem run_str {P : Program} {w : World} {v : Value} {l : List UInt8} (h : By w v l) (src dst e : TypeId) (hs : P.underlying src = some (.slice e)) (he : P.underlying e = some (.int .u8)) (hd : P.underlying dst = some .string) :
    ∃ s : ByteArray, s.data.toList = l ∧ (convert src dst v).run P w = .ok (.string s) w := by
  obtain ⟨A, c, rfl, hlc, hc, hcell⟩ := h.form
  rcases A with _ | ad
  · have hl : l = [] := by
      rcases l with _ | ⟨x, l⟩
      · rfl
      · obtain ⟨b, o, h0, _⟩ := hcell 0 x rfl
        cases h0
    subst hl
    exact ⟨⟨#[]⟩, rfl, Lib.run_convert_nil_bytes w src dst e c hs he hd⟩
  · refine ⟨⟨l.toArray⟩, by simp, run_convert_bytes_back w src dst e ad c l hs he hd fun j hj => ?_⟩
    obtain ⟨b, o, h0, _, h2⟩ := hcell j _ (List.getElem?_eq_getElem hj)
    injection h0 with h0
    subst h0
    rw [Go.Addr.add_mid]
    exact h2

end Go.Proofs.YtdohebhbiokljaaDoor

/- Contracts of the statements' helpers for lists of bytes: marks, sameness, lists that are lent with marks behind them. -/
namespace Go.Proofs.YtdohebhbiokljaaDoor
open Go.RowKit

theorem elem8 : Elem1 Tryd.prog 38 5 (.int .u8 0) 1 := ⟨Tryd.underlying38, by kernel_rfl, rfl⟩
theorem Tryd.info8 : (Tryd.prog.info? 5).map (fun i => (i.zero, i.size, i.bytes)) = some (some (.int .u8 0), 1, 1) := by kernel_rfl

def mark (k i : Int) : UInt8 := UInt8.ofNat ((151 * k + 7 * i + 1) % 256).toNat
theorem mark_toNat (k i : Int) : ((mark k i).toNat : Int) = (151 * k + 7 * i + 1) % 256 := by
  unfold mark
  simp only [UInt8.toNat_ofNat']
  omega


set_option maxHeartbeats 400000 in
theorem mark_any (k i : Int) (w : World) :
    Calls Tryd.prog 50 #[.int .i64 k, .int .i64 i] w fun e w' => e = .returned (.int .u8 ((mark k i).toNat : Int)) ∧ w = w' := by
  go_enter Tryd.func50, Tryd.ntmps50
  go_wp2
  go_ret
  refine ⟨ret_int ?_, rfl⟩
  rw [mark_toNat]
  simp only [wrap64]
  omega

/-- What two lists have in common from the first k places on. -/
theorem same_step (l m : List UInt8) (k : Nat) (x y : UInt8) (hx : l[k]? = some x) (hy : m[k]? = some y) (h : l.take k = m.take k) :
    (l.take (k + 1) = m.take (k + 1)) ↔ x = y := by
  rw [List.take_add_one, List.take_add_one, hx, hy, h]
  simp

theorem u8_int {x y : UInt8} : ((x.toNat : Int) = (y.toNat : Int)) ↔ x = y := by
  constructor
  · intro h
    exact UInt8.toNat_inj.1 (by omega)
  · rintro rfl; rfl

set_option maxHeartbeats 400000 in
theorem same_any (va vb : Value) (l m : List UInt8) (w : World) (ha : By w va l) (hb : By w vb m) :
    Calls Tryd.prog 21 #[va, vb] w fun e w' => e = .returned (.bool (decide (l = m))) ∧ Below w.heap.size w w' := by
  obtain ⟨A, c, rfl, hc, hm, hca⟩ := ha.form
  obtain ⟨B, d, rfl, hd, hmd, hcb⟩ := hb.form
  unfold maxLen at hm hmd
  by_cases hl : l.length = m.length
  · have hne : ((l.length : Int) != (m.length : Int)) = false := by simp [hl]
    have HL : Hid (l.length = m.length) := hl
    clear hl
    go_enter Tryd.func21, Tryd.ntmps21
    go_wp2
    go_loopw [5] (fun i wr => ∃ k : Nat, k ≤ l.length ∧ i = .int .i64 k ∧ l.take k = m.take k ∧ Below w.heap.size w wr) (fun i _ => l.length - (intOf i).toNat)
    case atStart => exact ⟨0, by omega, rfl, by simp, Below.refl _ _⟩
    case round =>
      obtain ⟨k, hk, rfl, hq, hbel⟩ := hrel
      have HQ := hide hq
      clear hq
      by_cases hlt : k < l.length
      · have hlt2 : k < m.length := by have := HL.out; omega
        obtain ⟨x, hx⟩ : ∃ x, l[k]? = some x := ⟨_, List.getElem?_eq_getElem hlt⟩
        obtain ⟨y, hy⟩ : ∃ y, m[k]? = some y := ⟨_, List.getElem?_eq_getElem hlt2⟩
        obtain ⟨b, o, rfl, hbl, hcell⟩ := hca k x hx
        obtain ⟨b2, o2, rfl, hbl2, hcell2⟩ := hcb k y hy
        have hcx : wr.cell? ⟨b, o + k, none⟩ = some (.int .u8 (x.toNat : Int)) := (hbel.cell (p := ⟨b, o + k, none⟩) hbl).trans hcell
        have hcy : wr.cell? ⟨b2, o2 + k, none⟩ = some (.int .u8 (y.toNat : Int)) := (hbel.cell (p := ⟨b2, o2 + k, none⟩) hbl2).trans hcell2
        have HX := hide hx
        have HY := hide hy
        clear hx hy hcell hcell2 hca hcb
        have i1 : (k : Int) < (l.length : Int) := by omega
        have i2 : (k : Int) < (m.length : Int) := by omega
        have i3 : (0 : Int) ≤ (k : Int) := by omega
        by_cases hxy : x = y
        · have hd : ((x.toNat : Int) != (y.toNat : Int)) = false := by simp [hxy]
          go_wp2
          go_quiet (fail)
          go_wp2
          go_roundw
          case rel => exact ⟨k + 1, by omega, by go_num, (same_step l m k x y HX.out HY.out HQ.out).2 hxy, below_drewN hbel _⟩
          case measure => simp [intOf]; omega
        · have hd : ((x.toNat : Int) != (y.toNat : Int)) = true := by
            rw [bne_iff_ne]; intro h; exact hxy (u8_int.1 h)
          go_wp2
          go_quiet (fail)
          go_wp2
          go_ret
          refine ⟨ret_bool ?_, below_drewN hbel _⟩
          refine (decide_eq_false fun h => hxy ((same_step l m k x y HX.out HY.out HQ.out).1 (by rw [h]))).symm
      · have hge : ¬ ((k : Int) < (l.length : Int)) := by omega
        go_wp2
        go_ret
        refine ⟨ret_bool ?_, hbel⟩
        refine (decide_eq_true ?_).symm
        have := HQ.out
        rwa [List.take_of_length_le (by omega), List.take_of_length_le (by have := HL.out; omega)] at this
  · have hne : ((l.length : Int) != (m.length : Int)) = true := by rw [bne_iff_ne]; omega
    go_enter Tryd.func21, Tryd.ntmps21
    go_wp2
    go_ret
    exact ⟨ret_bool (decide_eq_false fun h => hl (by rw [h])).symm, Below.refl _ _⟩

/-- The first n marks behind a list of length len. -/
def marks (k len n : Nat) : List UInt8 := (List.range n).map fun i => mark k ((len + i : Nat) : Int)
theorem marks_succ (k len n : Nat) : marks k len (n + 1) = marks k len n ++ [mark k ((len + n : Nat) : Int)] := by
  simp [marks, List.range_succ]
@[simp] theorem marks_length (k len n : Nat) : (marks k len n).length = n := by simp [marks]

theorem take_snoc {α : Type} (l : List α) (k : Nat) (x : α) (h : l[k]? = some x) : l.take (k + 1) = l.take k ++ [x] := by
  rw [List.take_add_one, h]; rfl


set_option maxHeartbeats 800000 in
theorem lent_any (va : Value) (l : List UInt8) (w : World) (ha : By w va l) (hl : l.length ≤ 140737488355000) :
    Calls Tryd.prog 23 #[va] w fun e w' => ∃ v, e = .returned v ∧ Own w' w.heap.size 5 v (l ++ marks 0 l.length 70) ∧ Below w.heap.size w w' := by
  obtain ⟨A, c, rfl, hc, hm, hca⟩ := ha.form
  unfold maxLen at hm
  go_enter Tryd.func23, Tryd.ntmps23
  go_wp2
  go_loopw [3, 4] (fun v i wr => ∃ k : Nat, k ≤ l.length ∧ i = .int .i64 k ∧ Own wr w.heap.size 5 v (l.take k) ∧ Below w.heap.size w wr) (fun _ i _ => l.length - (intOf i).toNat)
  case atStart => exact ⟨0, by omega, rfl, Own.nil _ _ _, Below.refl _ _⟩
  case round =>
    obtain ⟨k, hk, rfl, hown, hbel⟩ := hrel
    have HO := hide hown
    clear hown
    by_cases hlt : k < l.length
    · obtain ⟨x, hx⟩ : ∃ x, l[k]? = some x := ⟨_, List.getElem?_eq_getElem hlt⟩
      obtain ⟨b, o, rfl, hbl, hcell⟩ := hca k x hx
      have hcx : wr.cell? ⟨b, o + k, none⟩ = some (.int .u8 (x.toNat : Int)) := (hbel.cell (p := ⟨b, o + k, none⟩) hbl).trans hcell
      have HX := hide hx
      clear hx hcell hca
      have hlk : (l.take k).length = k := by rw [List.length_take]; omega
      have HLK := hide hlk
      clear hlk
      go_wp2_with (at_builtin; go_loud (refine wpList_pushB elem8 HO.out hbel hbel.size (by rw [List.length_take]; omega) x rfl _ _ rfl rfl rfl ?_); intro v1 w1 hown1 hbel1 _ _)
      go_roundw
      case rel => exact ⟨k + 1, by omega, by go_num, by rw [take_snoc l k x HX.out]; exact hown1, hbel1⟩
      case measure => simp [intOf]; omega
    · have hkl : k = l.length := by omega
      subst hkl
      have hO2 := HO.out
      rw [List.take_of_length_le (Nat.le_refl _)] at hO2
      clear HO
      have HO := hide hO2
      clear hO2
      go_wp2
      go_loopw [3, 5] (fun v i wr => ∃ k : Nat, k ≤ 70 ∧ i = .int .i64 k ∧ Own wr w.heap.size 5 v (l ++ marks 0 l.length k) ∧ Below w.heap.size w wr) (fun _ i _ => 70 - (intOf i).toNat)
      case atStart => exact ⟨0, by omega, rfl, by simpa [marks] using HO.out, hbel⟩
      case round =>
        clear HO hbel
        obtain ⟨k, hk, rfl, hown, hbel⟩ := hrel
        have HO := hide hown
        clear hown
        by_cases hlt : k < 70
        · have hmk := mark_any 0 ((l.length + k : Nat) : Int)
          rw [Int.natCast_add] at hmk
          go_wp2_with (first
            | (go_at_call 50; refine (hmk _).mono ?_; rintro e w' ⟨rfl, rfl⟩)
            | (at_builtin; go_loud (refine wpList_pushB elem8 HO.out hbel hbel.size (by rw [List.length_append, marks_length]; omega) (mark 0 ((l.length + k : Nat) : Int)) rfl _ _ rfl rfl rfl ?_); intro v1 w1 hown1 hbel1 _ _))
          go_roundw
          case rel => exact ⟨k + 1, by omega, by go_num, by rw [marks_succ, ← List.append_assoc]; exact hown1, hbel1⟩
          case measure => simp [intOf]; omega
        · have hkl : k = 70 := by omega
          subst hkl
          go_wp2
          go_ret
          exact ⟨_, rfl, HO.out, hbel⟩


set_option maxHeartbeats 400000 in
theorem kept_any (vf va : Value) (f l : List UInt8) (w : World) (hf : By w vf f) (ha : By w va l) (hl : l.length ≤ 140737488355000) :
    Calls Tryd.prog 26 #[vf, va] w fun e w' => e = .returned (.bool (decide (f = l ++ marks 0 l.length 70))) ∧ Below w.heap.size w w' := by
  go_enter Tryd.func26, Tryd.ntmps26
  go_wp2_with fail
  refine (lent_any va l w ha hl).mono ?_
  rintro e w1 ⟨v, rfl, hown, hbel⟩
  go_wp2_with fail
  refine (same_any vf v f _ w1 (hf.below hbel) hown.by_).mono ?_
  rintro e w2 ⟨rfl, hbel2⟩
  go_wp2_with fail
  go_ret
  exact ⟨rfl, hbel.trans (hbel2.mono hbel.size)⟩

/-- What a list holds when i places are written over. -/
def overed (_n i : Nat) (l : List UInt8) : List UInt8 := ((List.range i).map fun j => mark 7 ((j + 3 : Nat) : Int)) ++ l.drop i
theorem overed_set (l : List UInt8) (i : Nat) (h : i < l.length) : (overed l.length i l).set i (mark 7 ((i : Int) + 3)) = overed l.length (i + 1) l := by
  unfold overed
  rw [List.set_append_right _ _ (by simp), List.drop_eq_getElem_cons h]
  simp only [List.length_map, List.length_range, Nat.sub_self, List.set_cons_zero, List.range_succ, List.map_append, List.map_cons, List.map_nil, List.append_assoc, List.cons_append, List.nil_append]
  rfl
theorem overed_length (l : List UInt8) (n i : Nat) (h : i ≤ l.length) : (overed n i l).length = l.length := by simp [overed]; omega

theorem Own.store {w : World} {base : Nat} {e : TypeId} {g n cap : Nat} {l : List UInt8} (h : Own w base e (.slice (some ⟨g, 0, none⟩) n cap) l) (k : Nat) (x : UInt8) :
    Own (w.setCell ⟨g, k, none⟩ (.int .u8 (x.toNat : Int))) base e (.slice (some ⟨g, 0, none⟩) n cap) (l.set k x) := by
  have hn : n = l.length := by
    rcases h.2 with ⟨h0, _⟩ | ⟨g', cap', cur, hv, _⟩
    · cases h0
    · injection hv
  unfold Own at *
  subst hn
  have := (h.stored k (.int .u8 (x.toNat : Int))).1
  have e : (bcells l).set k (.int .u8 (x.toNat : Int)) = bcells (l.set k x) := by simp [bcells, List.map_set]
  rw [e] at this
  simpa using this

theorem Own.form {w : World} {base : Nat} {e : TypeId} {v : Value} {l : List UInt8} (h : Own w base e v l) (hn : 0 < l.length) : ∃ g cap, v = .slice (some ⟨g, 0, none⟩) l.length cap ∧ base ≤ g ∧ g < w.heap.size :=
  World.ownsRow.form h hn

/-- The beginning of a row, as 'full[:n]' gives it. -/
theorem Own.front {w : World} {base : Nat} {e : TypeId} {g n cap : Nat} {l r : List UInt8} (h : Own w base e (.slice (some ⟨g, 0, none⟩) n cap) (l ++ r)) : By w (.slice (some ⟨g, 0, none⟩) l.length cap) l := by
  rcases h.2 with ⟨h0, _⟩ | ⟨g', cap', cur, hv, hg, hh, hnc, hcm, hcs, ht⟩
  · cases h0
  · injection hv with hA hn hc
    injection hA with hA
    injection hA with hA
    subst hA hc
    have hlt := (Blk.lt (w := w) (g := g) (t := e) (cs := cur) hh)
    have hlen : (l ++ r).length = l.length + r.length := List.length_append
    refine ⟨by simp, some ⟨g, 0, none⟩, cap, rfl, by omega, hcm, fun h0 => ⟨g, 0, rfl, hlt, fun j hj => ?_⟩⟩
    rw [Nat.zero_add, cell_of_row w g j cur e (0, 0) hh]
    have e1 : cur[j]? = (bcells (l ++ r))[j]? := by
      rw [← ht, List.getElem?_take_of_lt (by omega)]; simp
    rw [e1, bcells_append, List.getElem?_append_left (by simp; omega)]

end Go.Proofs.YtdohebhbiokljaaDoor

/- More lemmas on memory: several elements appended at once. They hold of every program. -/
namespace Go.Proofs.YtdohebhbiokljaaDoor
open Go.RowKit

/-- 'append(out, x, y, ..)', out a row of the call's own with elements of one cell. -/
theorem wpList_pushL {P : Program} {t e : TypeId} {z : Value} {bytes : Nat} (T : Elem1 P t e z bytes) {w : World} {base : Nat} {v : Value} {n : Nat} {xs : List Value} (hown : w.ownsRow base e 1 v n xs)
    {w0 : World} (hb : Below base w0 w) (hbase : base ≤ w.heap.size) (news : Array Value) (hn : n + news.size ≤ maxLen) (hbytes : (n + news.size) * bytes ≤ 140737488355328) (hu : ∀ u ∈ news.toList, u.oneCell' = true)
    {ops : Array Oper} {rest : List Oper} {o : Oper} {a : Act} {Q : Exit → Act → World → Prop} (hgd : o.guard = none) (s y : Operand)
    (ho : o.op = .call { callee := .builtin .append, args := #[s, y], argTypes := #[t, t] }) (hs : a.eval s = v) (hx : a.eval y = .slice (some ⟨w.heap.size, 0, none⟩) news.size news.size)
    (h : ∀ v' w', w'.ownsRow base e 1 v' (n + news.size) (xs ++ news.toList) → Below base w0 w' → w.grownBy w' v.ownBlock → (v'.ownBlock = v.ownBlock ∨ ∀ g, v'.ownBlock = some g → w.heap.size ≤ g) → wpList P ops Q rest (a.put o.dst v') w') :
    wpList P ops Q (o :: rest) a (w.alloc (.cells news e)) := by
  refine wpList_plain hgd fun K hK => ?_
  obtain ⟨i, hi, hz, h1, h2⟩ := info_parts T.hi
  have hn1 : ∀ j u, news.toList[j]? = some u → (w.alloc (.cells news e)).cell? ((⟨w.heap.size, 0, none⟩ : Addr).add j) = some u :=
    World.news_of_block (w := w.alloc (.cells news e)) (B := w.heap.size) (cs := news) (t := e) (fr := (0, 0)) (heap_alloc_new w _)
  obtain ⟨v', w', hrun, h3, h4, _, h6⟩ := run_append_own_at (P := P) (w.alloc (.cells news e)) base t o.type e i z 1 bytes T.ht hi hz h1 h2 T.hz (by omega) v n xs (hown.alloc _) ⟨w.heap.size, 0, none⟩ news.size news.size news.toList (by simp) hn1 hu hn hbytes (by simp; omega)
  have gb : w.grownBy w' v.ownBlock := ⟨h4.os, h4.tape, h4.output, Nat.le_trans (by simp) h4.size, fun k hk hne => (h4.block k (by simp; omega) hne).trans (Below.heap_alloc w _ k hk)⟩
  unfold Oper.wp execOp
  simp only [ho, resolve, invoke, builtin, Sem.run_bind, Sem.run_pure, Result.andThen_ok, List.map_toArray, List.map_cons, List.map_nil, hs, hx, hrun]
  refine hK _ _ (h v' w' h3 (hb.grown gb hbase fun k hk => (hown.lt k hk).1) gb ?_)
  rcases h6 with h6 | h6
  · exact .inl h6
  · refine .inr fun g hg => ?_
    rw [h6] at hg
    injection hg with hg
    simp at hg
    omega

/-- The same, of bytes. -/
theorem wpList_pushBs {P : Program} {t e : TypeId} (T : Elem1 P t e (.int .u8 0) 1) {w : World} {base : Nat} {v : Value} {l : List UInt8} (hown : Own w base e v l)
    {w0 : World} (hb : Below base w0 w) (hbase : base ≤ w.heap.size) (m : List UInt8) (hlen : l.length + m.length ≤ 140737488355328) (news : Array Value) (hnews : news.toList = bcells m) (hsz : news.size = m.length)
    {ops : Array Oper} {rest : List Oper} {o : Oper} {a : Act} {Q : Exit → Act → World → Prop} (hgd : o.guard = none) (s y : Operand)
    (ho : o.op = .call { callee := .builtin .append, args := #[s, y], argTypes := #[t, t] }) (hs : a.eval s = v) (hx : a.eval y = .slice (some ⟨w.heap.size, 0, none⟩) news.size news.size)
    (h : ∀ v' w', Own w' base e v' (l ++ m) → Below base w0 w' → w.grownBy w' v.ownBlock → (v'.ownBlock = v.ownBlock ∨ ∀ g, v'.ownBlock = some g → w.heap.size ≤ g) → wpList P ops Q rest (a.put o.dst v') w') :
    wpList P ops Q (o :: rest) a (w.alloc (.cells news e)) := by
  refine wpList_pushL T hown hb hbase news (by rw [hsz]; unfold maxLen; omega) (by rw [hsz]; omega) (fun u hu => ?_) hgd s y ho hs hx fun v' w' h1 h2 h3 h4 => h v' w' ?_ h2 h3 h4
  · rw [hnews] at hu
    obtain ⟨x, _, rfl⟩ := List.mem_map.1 hu
    rfl
  · unfold Own
    rw [bcells_append, List.length_append]
    rw [hnews, hsz] at h1
    exact h1

theorem Own.alloc {w : World} {base : Nat} {e : TypeId} {v : Value} {l : List UInt8} (h : Own w base e v l) (o : Obj) : Own (w.alloc o) base e v l := World.ownsRow.alloc h o

/-- 'append(out, x, y, ..)' of bytes at a step of a region that draws its order; what is appended lies in block g. -/
theorem step_pushBs {P : Program} {t e : TypeId} (T : Elem1 P t e (.int .u8 0) 1) {w : World} {base : Nat} {v : Value} {l : List UInt8} (hown : Own w base e v l)
    {w0 : World} (hb : Below base w0 w) (hbase : base ≤ w.heap.size) (m : List UInt8) (hlen : l.length + m.length ≤ 140737488355328) {g : Nat} {news : Array Value} (hg : Blk w g e news) (hnews : news.toList = bcells m) (hsz : news.size = m.length)
    {ops : Array Oper} {o : Oper} {a : Act} {K : Act → World → Prop} {Q : Exit → Act → World → Prop} {E : Prop} (hgd : o.guard = none) (s y : Operand)
    (ho : o.op = .call { callee := .builtin .append, args := #[s, y], argTypes := #[t, t] }) (hs : a.eval s = v) (hx : a.eval y = .slice (some ⟨g, 0, none⟩) m.length m.length)
    (h : ∀ v' w', Own w' base e v' (l ++ m) → Below base w0 w' → w.grownBy w' v.ownBlock → K (a.put o.dst v') w') :
    if Region.wanted o (yielded ops a.tmps) = true then Oper.wp P o a w K Q else E := by
  have hw : Region.wanted o (yielded ops a.tmps) = true := by simp [Region.wanted, hgd]
  rw [if_pos hw]
  obtain ⟨i, hi, hz, h1, h2⟩ := info_parts T.hi
  have hn1 : ∀ j u, (bcells m)[j]? = some u → w.cell? ((⟨g, 0, none⟩ : Addr).add j) = some u := by
    rw [← hnews]
    exact World.news_of_block (w := w) (B := g) (cs := news) (t := e) (fr := (0, 0)) hg
  obtain ⟨v', w', hrun, h3, h4, _, _⟩ := run_append_own_at (P := P) w base t o.type e i _ 1 1 T.ht hi hz h1 h2 T.hz (by omega) v l.length (bcells l) hown ⟨g, 0, none⟩ m.length m.length (bcells m) (by simp) hn1 (fun u hu => by
    obtain ⟨x, _, rfl⟩ := List.mem_map.1 hu
    rfl) (by unfold maxLen; omega) (by omega) hbase
  unfold Oper.wp execOp
  simp only [ho, resolve, invoke, builtin, Sem.run_bind, Sem.run_pure, Result.andThen_ok, List.map_toArray, List.map_cons, List.map_nil, hs, hx, hrun]
  refine h v' w' ?_ (hb.grown h4 hbase fun k hk => (hown.lt k hk).1) h4
  unfold Own
  rw [bcells_append, List.length_append]
  exact h3

end Go.Proofs.YtdohebhbiokljaaDoor

/- More lemmas on memory: what lies in a slice is appended to a row of the call's own. -/
namespace Go.Proofs.YtdohebhbiokljaaDoor
open Go.RowKit

theorem run_append_none {P : Program} (w : World) (t ty e : TypeId) (i : TypeInfo) (ht : P.underlying t = some (.slice e)) (hi : P.info? e = some i) (A : Option Addr) (n c d : Nat) (hn : n ≤ c) :
    (Builtin.append_ #[t, t] ty #[.slice A n c, .slice none 0 d]).run P w = .ok (.slice A n c) w := by
  cases A with
  | none => simp [Builtin.append_, run_underlying ht, sizeOf, typeInfo, hi, Builtin.lenOf, Builtin.firstCells, loadCells, loadCellsFrom, storeCells, hn]
  | some a => simp [Builtin.append_, run_underlying ht, sizeOf, typeInfo, hi, Builtin.lenOf, Builtin.firstCells, loadCells, loadCellsFrom, storeCells, hn]

theorem run_pushS {P : Program} {t e : TypeId} {z : Value} {bytes : Nat} (T : Elem1 P t e z bytes) (ty : TypeId) {w : World} {base : Nat} {v : Value} {n : Nat} {xs : List Value} (hown : w.ownsRow base e 1 v n xs)
    {u : Value} {m : Nat} {ys : List Value} (hu : Sl w 1 u m ys) (h63 : n + m ≤ maxLen) (hbytes : (n + m) * bytes ≤ 140737488355328) (hbase : base ≤ w.heap.size) (h1 : ∀ y ∈ ys, y.oneCell' = true) :
    ∃ v' w', (Builtin.append_ #[t, t] ty #[v, u]).run P w = .ok v' w' ∧ w'.ownsRow base e 1 v' (n + m) (xs ++ ys) ∧ w.grownBy w' v.ownBlock ∧ (v'.ownBlock = v.ownBlock ∨ v'.ownBlock = some w.heap.size) := by
  obtain ⟨i, hi, hz, hs, hb⟩ := info_parts T.hi
  obtain ⟨hl, A, c, rfl, hc, hm, hcell⟩ := hu
  have hpos : (∃ ad, A = some ad ∧ ∀ (j : Nat) (x : Value), ys[j]? = some x → w.cell? (ad.add j) = some x) ∨ (A = none ∧ m = 0) := by
    rcases Nat.eq_zero_or_pos m with h0 | h0
    · subst h0
      cases A with
      | none => exact .inr ⟨rfl, rfl⟩
      | some ad =>
        have : ys = [] := List.eq_nil_of_length_eq_zero (by simpa using hl)
        subst this
        exact .inl ⟨ad, rfl, fun j x hx => by simp at hx⟩
    · obtain ⟨b, o, rfl, _, hcs⟩ := hcell h0
      refine .inl ⟨_, rfl, fun j x hx => ?_⟩
      have hj := (List.getElem?_eq_some_iff.1 hx).1
      have ea : (⟨b, o, none⟩ : Addr).add j = ⟨b, o + j, none⟩ := by simp [Addr.add]
      rw [ea, hcs j (by omega), hx]
  rcases hpos with ⟨ad, rfl, hcs⟩ | ⟨rfl, rfl⟩
  · obtain ⟨v', w', h2, h3, h4, -, h5⟩ := run_append_own_at (P := P) w base t ty e i z 1 bytes T.ht hi hz hs hb T.hz (by omega) v n xs hown ad m c ys hl hcs h1 h63 hbytes hbase
    exact ⟨v', w', h2, h3, h4, h5⟩
  · have : ys = [] := List.eq_nil_of_length_eq_zero (by simpa using hl)
    subst this
    obtain ⟨_, A', c', rfl, hn, -⟩ := Sl.of_own hown
    exact ⟨_, w, run_append_none w t ty e i T.ht hi A' n c' c hn, by simpa using hown, ⟨rfl, rfl, rfl, Nat.le_refl _, fun _ _ _ => rfl⟩, .inl rfl⟩

/-- 'append(out, s...)', out a row of bytes of the call's own. -/
theorem wpList_pushV {P : Program} {t e : TypeId} (T : Elem1 P t e (.int .u8 0) 1) {w : World} {base : Nat} {v : Value} {l : List UInt8} (hown : Own w base e v l)
    {w0 : World} (hb : Below base w0 w) (hbase : base ≤ w.heap.size) {u : Value} {m : List UInt8} (hu : By w u m) (hlen : l.length + m.length ≤ 140737488355328)
    {ops : Array Oper} {rest : List Oper} {o : Oper} {a : Act} {Q : Exit → Act → World → Prop} (hgd : o.guard = none) (s y : Operand)
    (ho : o.op = .call { callee := .builtin .append, args := #[s, y], argTypes := #[t, t] }) (hs : a.eval s = v) (hx : a.eval y = u)
    (h : ∀ v' w', Own w' base e v' (l ++ m) → Below base w0 w' → w.grownBy w' v.ownBlock → (v'.ownBlock = v.ownBlock ∨ v'.ownBlock = some w.heap.size) → wpList P ops Q rest (a.put o.dst v') w') :
    wpList P ops Q (o :: rest) a w := by
  refine wpList_plain hgd fun K hK => ?_
  obtain ⟨v', w', hrun, h3, h4, h6⟩ := run_pushS (P := P) T o.type hown hu (by unfold maxLen; omega) (by omega) hbase fun x hx => by
    obtain ⟨x, _, rfl⟩ := List.mem_map.1 hx
    rfl
  unfold Oper.wp execOp
  simp only [ho, resolve, invoke, builtin, Sem.run_bind, Sem.run_pure, Result.andThen_ok, List.map_toArray, List.map_cons, List.map_nil, hs, hx, hrun]
  refine hK _ _ (h v' w' ?_ (hb.grown h4 hbase fun k hk => (hown.lt k hk).1) h4 h6)
  unfold Own
  rw [bcells_append, List.length_append]
  exact h3
end Go.Proofs.YtdohebhbiokljaaDoor

/- A text's bytes. It holds of every program. -/
namespace Go.Proofs.YtdohebhbiokljaaDoor
open Go.RowKit
abbrev lst (s : ByteArray) : List UInt8 := s.data.toList
theorem lst_get (s : ByteArray) (k : Nat) (h : k < s.size) : (lst s)[k]? = some s[k] := by
  rw [List.getElem?_eq_getElem (by simpa using h)]; rfl
theorem lst_len (s : ByteArray) : (lst s).length = s.size := by simp [lst]
end Go.Proofs.YtdohebhbiokljaaDoor

/- Bytes of a constant text, and of a text: a marked row of the call's own. -/
namespace Go.Proofs.YtdohebhbiokljaaDoor
open Go.RowKit

theorem by_row {w : World} {g : Nat} {cs : Array Value} {e : TypeId} {f : Nat × Nat} {l : List UInt8} {c : Nat} (hh : w.heap[g]? = some (.cells cs e f)) (hc : l.length ≤ c) (hm : c ≤ maxLen)
    (hcs : ∀ j, j < l.length → cs[j]? = (bcells l)[j]?) : By w (.slice (some ⟨g, 0, none⟩) l.length c) l := by
  refine ⟨by simp, _, c, rfl, hc, hm, fun _ => ⟨g, 0, rfl, ?_, fun j hj => ?_⟩⟩
  · rcases Nat.lt_or_ge g w.heap.size with h | h
    · exact h
    · simp [Array.getElem?_eq_none h] at hh
  · rw [Nat.zero_add, cell_of_row w g j cs e f hh]
    exact hcs j (by omega)
theorem by_marked (w : World) (e : TypeId) (f : Nat × Nat) (l : List UInt8) (h : l.length ≤ 1000) : By (w.alloc (.cells (bcells l).toArray e f)) (.slice (some ⟨w.heap.size, 0, none⟩) l.length l.length) l :=
  by_row (heap_alloc_new w _) (Nat.le_refl _) (by unfold maxLen; omega) fun j hj => by simp
theorem by_ofstr (w : World) (e : TypeId) (s : ByteArray) (f : Nat × Nat) (h : s.size ≤ maxLen) : By (w.drew.alloc (.cells (bytesRow s (grownCap w s.size 0 e)) e f)) (.slice (some ⟨w.heap.size, 0, none⟩) s.size (grownCap w s.size 0 e)) (lst s) := by
  have := by_row (w := w.drew.alloc (.cells (bytesRow s (grownCap w s.size 0 e)) e f)) (g := w.heap.size) (l := lst s) (c := grownCap w s.size 0 e) (heap_alloc_new w.drew _) (by rw [lst_len]; exact grownCap_ge ..) (grownCap_le_maxLen _ _ _ _ h) fun j hj => by
    rw [lst_len] at hj
    unfold bytesRow bcells lst
    rw [Array.getElem?_append_left (by simp; omega)]
    simp
  rwa [lst_len] at this
/-- '[]byte(s)': bytes in memory that is new. -/
theorem run_bytes_str {P : Program} (src dst e : TypeId) (s : ByteArray) (w : World) (hs : P.underlying src = some .string) (hd : P.underlying dst = some (.slice e)) (he : P.underlying e = some (.int .u8)) (h : s.size ≤ maxLen) :
    ∃ g c w', (convert src dst (.string s)).run P w = .ok (.slice (some ⟨g, 0, none⟩) s.size c) w' ∧ By w' (.slice (some ⟨g, 0, none⟩) s.size c) (lst s) ∧ Below w.heap.size w w' ∧ g = w.heap.size ∧ w'.heap.size = w.heap.size + 1 ∧ s.size ≤ c ∧ c ≤ maxLen :=
  ⟨_, _, _, run_bytes_of_string w src dst e s hs hd he, by_ofstr w e s _ h, (Below.refl _ w).drew.alloc (Nat.le_refl _) _, rfl, by simp, grownCap_ge .., grownCap_le_maxLen _ _ _ _ h⟩
end Go.Proofs.YtdohebhbiokljaaDoor

/- Contracts of the library's Grow and Concat, of Clone and IndexByte, at lists of bytes. -/
namespace Go.Proofs.YtdohebhbiokljaaDoor
open Go.RowKit

theorem own_zero (w : World) (n c : Nat) (h1 : n ≤ c) (h2 : c ≤ maxLen) :
    Own (w.alloc (.cells (Builtin.zeroCells #[.int .u8 0] n ++ Builtin.zeroCells #[.int .u8 0] (c - n)) 5)).drew w.heap.size 5 (.slice (some ⟨w.heap.size, 0, none⟩) 0 c) [] := by
  have := (Blk.new w 5 (Builtin.zeroCells #[.int .u8 0] n ++ Builtin.zeroCells #[.int .u8 0] (c - n))).drew.own (base := w.heap.size) (e := 5) (n := 0) (cap := c) (sz := 1) rfl (Nat.le_refl _) (by simp [size_zeroCells]; omega) (Nat.zero_le _) h2
  simpa [Own, bcells] using this

set_option maxRecDepth 100000 in
set_option maxHeartbeats 1000000 in
theorem grow_any (n : Nat) (w : World) (hn : n ≤ 1099511627776) :
    Calls Tryd.prog 89 #[.slice none 0 0, .int .i64 (n : Int)] w fun e w' => ∃ v, e = .returned v ∧ Own w' w.heap.size 5 v [] ∧ Below w.heap.size w w' := by
  by_cases h0 : n = 0
  · have g1 : (n : Int) = 0 := by omega
    rw [g1]
    go_enter Tryd.func89, Tryd.ntmps89
    go_wp2
    go_ret
    exact ⟨_, rfl, Own.nil _ _ _, Below.refl _ _⟩
  · have g1 : ¬ (n : Int) < 0 := by omega
    have g2 : (0 : Int) < (n : Int) := by omega
    have g3 : ¬ (281474976710656 : Int) < (n : Int) * ((Tryd.t5).bytes : Int) := by
      have : ((Tryd.t5).bytes : Int) = 1 := by kernel_rfl
      rw [this]; omega
    have g4 : ¬ 281474976710656 < Builtin.nextslicecap n 0 * (Tryd.t5).bytes := by
      have h1 : (Tryd.t5).bytes = 1 := by kernel_rfl
      have h2 : Builtin.nextslicecap n 0 = n := by unfold Builtin.nextslicecap; simp; omega
      rw [h1, h2]; omega
    go_enter Tryd.func89, Tryd.ntmps89
    go_wp2
    go_ret
    refine ⟨_, rfl, ?_, ?_⟩
    · exact own_zero w n _ (grownCap_ge w n 0 5) (grownCap_le_maxLen w n 0 5 (by unfold maxLen; omega))
    · exact ((Below.refl _ w).alloc (Nat.le_refl _) _).drew

/-- A list of lists of bytes, by their values. -/
def Lsts (w : World) (v : Value) (L : List (Value × List UInt8)) : Prop := Sl w 1 v L.length (L.map (·.1)) ∧ ∀ x ∈ L, By w x.1 x.2
theorem Lsts.below {w w' : World} {v : Value} {L : List (Value × List UInt8)} (h : Lsts w v L) (hb : Below w.heap.size w w') : Lsts w' v L := ⟨h.1.below hb, fun x hx => (h.2 x hx).below hb⟩
def total (L : List (Value × List UInt8)) : Nat := (L.map (·.2.length)).sum
def cat (L : List (Value × List UInt8)) : List UInt8 := L.flatMap (·.2)
theorem total_snoc (L : List (Value × List UInt8)) (x : Value × List UInt8) : total (L ++ [x]) = total L + x.2.length := by simp [total]
theorem cat_snoc (L : List (Value × List UInt8)) (x : Value × List UInt8) : cat (L ++ [x]) = cat L ++ x.2 := by simp [cat]
theorem cat_length (L : List (Value × List UInt8)) : (cat L).length = total L := by
  induction L with
  | nil => rfl
  | cons x L ih => simp only [cat, total, List.flatMap_cons, List.length_append, List.map_cons, List.sum_cons] at ih ⊢; omega
theorem total_take (L : List (Value × List UInt8)) (k : Nat) : total (L.take k) ≤ total L := by
  have : total L = total (L.take k) + total (L.drop k) := by
    unfold total
    conv => lhs; rw [← List.take_append_drop k L, List.map_append, List.sum_append]
  omega

set_option maxRecDepth 100000 in
set_option maxHeartbeats 1000000 in
theorem concat_any (v : Value) (L : List (Value × List UInt8)) (w : World) (h : Lsts w v L) (ht : total L ≤ 1099511627776) :
    Calls Tryd.prog 56 #[v] w fun e w' => ∃ v', e = .returned v' ∧ Own w' w.heap.size 5 v' (cat L) ∧ Below w.heap.size w w' := by
  have HL := hide h
  obtain ⟨A, c, rfl, hc, hm, hcell⟩ := h.1.form
  have HC := hide hcell
  have HT := hide ht
  unfold maxLen at hm
  clear h hcell ht
  go_enter Tryd.func56, Tryd.ntmps56
  go_wp2
  go_loopw [3, 11] (fun u3 u11 wr => ∃ k t : Nat, k ≤ L.length ∧ u11 = .int .i64 k ∧ u3 = .int .i64 (t : Int) ∧ t = total (L.take k) ∧ w = wr) (fun _ i _ => L.length - (intOf i).toNat)
  case atStart => exact ⟨0, 0, by omega, rfl, rfl, by simp [total], rfl⟩
  case round =>
    obtain ⟨k, t, hk, rfl, rfl, ht, rfl⟩ := hrel
    have hle := total_take L k
    rw [← ht] at hle
    have HT2 := hide ht
    have hle2 : t ≤ 1099511627776 := Nat.le_trans hle HT.out
    clear ht hle
    by_cases hlt : k < L.length
    · obtain ⟨x, hx⟩ : ∃ x, L[k]? = some x := ⟨_, List.getElem?_eq_getElem hlt⟩
      obtain ⟨b, o, rfl, hbl, hcs⟩ := HC.out (by omega)
      have hcx : w.cell? ⟨b, o + k, none⟩ = some x.1 := by rw [hcs k (by omega)]; simp [hx]
      have hby := HL.out.2 x (List.mem_of_getElem? hx)
      have hsum : total (L.take (k + 1)) = t + x.2.length := by rw [take_snoc L k x hx, total_snoc, HT2.out]
      have hle3 := total_take L (k + 1)
      rw [hsum] at hle3
      have hle4 : t + x.2.length ≤ 1099511627776 := Nat.le_trans hle3 HT.out
      obtain ⟨A2, c2, hv2, _⟩ := hby.form
      rw [hv2] at hcx
      have HS := hide hsum
      clear hby hcs hx hv2 hsum hle3
      obtain ⟨y, hy⟩ : ∃ y : Nat, y = x.2.length := ⟨_, rfl⟩
      rw [← hy] at hcx hle4
      have HY := hide hy
      have i1 : (k : Int) < (L.length : Int) := by omega
      have i2 : (0 : Int) ≤ (k : Int) := by omega
      clear hy
      go_wp2
      go_roundw
      case rel => exact ⟨k + 1, t + y, by omega, by go_num, by go_num, by rw [HS.out, HY.out], trivial⟩
      case measure => simp [intOf]; omega
    · have hge : ¬ (k : Int) < (L.length : Int) := by omega
      have hks : k = L.length := by omega
      have htl : t = total L := by rw [HT2.out, hks, List.take_length]
      have HQ := hide (grow_any t w (by omega))
      have HK := hide htl
      clear hks htl HT2
      go_wp2_with fail
      refine HQ.out.mono ?_
      rintro e w1 ⟨v0, rfl, o1, b1⟩
      have HO1 := hide o1
      clear HQ o1 hge hlt hk
      go_wp2_with fail
      go_loopw [6, 27] (fun u6 u27 wr => ∃ k : Nat, k ≤ L.length ∧ u27 = .int .i64 k ∧ Own wr w.heap.size 5 u6 (cat (L.take k)) ∧ Below w.heap.size w wr) (fun _ i _ => L.length - (intOf i).toNat)
      case atStart => exact ⟨0, by omega, rfl, HO1.out, b1⟩
      case round =>
        obtain ⟨k, hk, rfl, ho, hb⟩ := hrel
        have HO := hide ho
        clear ho
        by_cases hlt : k < L.length
        · obtain ⟨x, hx⟩ : ∃ x, L[k]? = some x := ⟨_, List.getElem?_eq_getElem hlt⟩
          obtain ⟨b, o, rfl, hbl, hcs⟩ := HC.out (by omega)
          have hcx : wr.cell? ⟨b, o + k, none⟩ = some x.1 := by rw [hb.cell (p := ⟨b, o + k, none⟩) hbl, hcs k (by omega)]; simp [hx]
          have hby := (HL.out.2 x (List.mem_of_getElem? hx)).below hb
          have hsum : total (L.take (k + 1)) = total (L.take k) + x.2.length := by rw [take_snoc L k x hx, total_snoc]
          have hle3 := total_take L (k + 1)
          have hlen : (cat (L.take k)).length + x.2.length ≤ 140737488355328 := by
            rw [cat_length, ← hsum]
            have := HT.out
            omega
          have hcat : cat (L.take (k + 1)) = cat (L.take k) ++ x.2 := by rw [take_snoc L k x hx, cat_snoc]
          have HCAT := hide hcat
          have HY := hide hby
          obtain ⟨A2, c2, hv2, _⟩ := hby.form
          rw [hv2] at hcx
          have HV := hide hv2
          have HLEN := hide hlen
          clear hby hcs hx hv2 hsum hle3 hcat hlen
          obtain ⟨y, hy⟩ : ∃ y : Nat, y = x.2.length := ⟨_, rfl⟩
          rw [← hy] at hcx
          have HY2 := hide hy
          have i1 : (k : Int) < (L.length : Int) := by omega
          have i2 : (0 : Int) ≤ (k : Int) := by omega
          clear hy
          go_wp2_with (at_builtin; go_loud (refine wpList_pushV elem8 HO.out hb hb.size HY.out HLEN.out rfl _ _ rfl rfl (by rw [HV.out, ← HY2.out]; rfl) ?_); intro v1 w1 hown1 hbel1 hgr1 _)
          go_roundw
          case rel => exact ⟨k + 1, by omega, by go_num, by rw [HCAT.out]; exact hown1, hbel1⟩
          case measure => simp [intOf]; omega
        · have hge : ¬ (k : Int) < (L.length : Int) := by omega
          have hks : k = L.length := by omega
          have hend := HO.out
          rw [hks, List.take_length] at hend
          have HE := hide hend
          clear hks hend HO
          go_wp2
          go_ret
          exact ⟨_, rfl, HE.out, hb⟩
end Go.Proofs.YtdohebhbiokljaaDoor
