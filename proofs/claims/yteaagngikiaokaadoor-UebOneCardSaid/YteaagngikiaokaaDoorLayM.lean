/- Joined texts: Inv, LayA, LayB, LayC, LayD. -/
import Derived.Orders
import Derived.Test.YteaagngikiaokaaDoorProg
import Derived.WalkKit
import Derived.Maps.OwnSet
import Derived.StringKeys

/- A law for a region that draws its order: by what stands while some of its operations are done. -/
namespace Go.Proofs.YteaagngikiaokaaDoor
open Go

/-- In any order: I holds at the start; each operation that may come up leads on from I; where none may come up any more, what is asked behind the region follows. -/
theorem wpAny_inv {P : Program} {ops : Array Oper} {Q : Exit → Act → World → Prop} {md : Region.Mode} (I : Array Bool → Act → World → Prop)
    (hsz : ∀ listed a w, I listed a w → listed.size = ops.size)
    (hstep : ∀ listed a w i, I listed a w → i ∈ Region.ready md ops listed → wpOp P ops Q i (I (listed.setIfInBounds i true)) a w)
    (hfin : ∀ listed a w, I listed a w → Region.ready md ops listed = [] → Q .normal a w) :
    ∀ fuel listed a w, listed.toList.count false ≤ fuel → I listed a w → wpAny P md ops Q fuel listed a w := by
  intro fuel
  induction fuel with
  | zero =>
    intro listed a w hc hI
    have hr : Region.ready md ops listed = [] := by
      unfold Region.ready
      rw [List.filter_eq_nil_iff]
      intro i hi
      have hlt : i < listed.size := by rw [hsz _ _ _ hI]; exact List.mem_range.1 hi
      have h0 : false ∉ listed.toList := List.count_eq_zero.1 (Nat.le_zero.1 hc)
      have ht : listed.getD i true = true := by
        rw [Array.getD, dif_pos hlt]
        rcases hb : listed[i] with _ | _
        · exact absurd (by rw [← hb]; exact Array.getElem_mem_toList hlt) h0
        · exact hb
      simp [ht]
    exact ⟨hr, hfin _ _ _ hI hr⟩
  | succ fuel ih =>
    intro listed a w hc hI
    refine ⟨hfin _ _ _ hI, fun i hi => wpOp_mono (fun a w h => ih _ a w ?_ h) (hstep _ _ _ i hI hi)⟩
    have hlt : i < listed.size := by
      rw [hsz _ _ _ hI]
      unfold Region.ready at hi
      exact List.mem_range.1 (List.mem_filter.1 hi).1
    have hf : listed.getD i true = false := by
      unfold Region.ready at hi
      have := (List.mem_filter.1 hi).2
      simp only [Bool.and_eq_true, Bool.not_eq_true'] at this
      exact this.1
    rw [Array.getD, dif_pos hlt] at hf
    rw [Array.toList_setIfInBounds]
    have hlt' : i < listed.toList.length := by simpa using hlt
    have hg : listed.toList[i] = false := by simpa using hf
    have h1 : listed.toList = listed.toList.take i ++ false :: listed.toList.drop (i + 1) := by
      rw [← hg, List.getElem_cons_drop, List.take_append_drop]
    rw [List.set_eq_take_append_cons_drop, if_pos hlt']
    rw [h1, List.count_append, List.count_cons] at hc
    rw [List.count_append, List.count_cons]
    simp at hc ⊢
    omega

/-- What may come up is not done, and all that it waits for is. -/
theorem ready_at {md : Region.Mode} {ops : Array Oper} {listed : Array Bool} {i : Nat} (h : i ∈ Region.ready md ops listed) : i < ops.size ∧ listed.getD i true = false ∧ ∃ o, ops[i]? = some o ∧ (o.after.all fun e => !Region.binds md e || listed.getD e.on false) = true := by
  unfold Region.ready at h
  obtain ⟨h1, h2⟩ := List.mem_filter.1 h
  simp only [Bool.and_eq_true, Bool.not_eq_true'] at h2
  refine ⟨List.mem_range.1 h1, h2.1, ?_⟩
  rcases ho : ops[i]? with _ | o
  · rw [ho] at h2; simp at h2
  · refine ⟨o, rfl, ?_⟩
    rw [ho] at h2
    simpa using h2.2
/-- Where nothing may come up any more, all is done: if each operation waits for earlier ones alone. -/
theorem all_ready {md : Region.Mode} {ops : Array Oper} {listed : Array Bool} (hs : listed.size = ops.size)
    (hd : ((List.range ops.size).all fun i => ((ops[i]?).map fun o => o.after.all fun e => decide (e.on < i)).getD true) = true)
    (hr : Region.ready md ops listed = []) : ∀ i, i < ops.size → listed.getD i false = true := by
  intro i
  induction i using Nat.strongRecOn with
  | ind i ih =>
    intro hi
    rcases hb : listed.getD i false with _ | _
    · exfalso
      have hmem : i ∈ Region.ready md ops listed := by
        unfold Region.ready
        refine List.mem_filter.2 ⟨List.mem_range.2 hi, ?_⟩
        have hl : i < listed.size := by omega
        have hbt : listed.getD i true = false := by
          simp [Array.getD, hl] at hb ⊢
          exact hb
        obtain ⟨o, ho⟩ : ∃ o, ops[i]? = some o := ⟨_, Array.getElem?_eq_getElem hi⟩
        have hdi := List.all_eq_true.1 hd i (List.mem_range.2 hi)
        rw [ho] at hdi
        simp only [Option.map_some, Option.getD_some] at hdi
        rw [ho, hbt]
        simp only [Bool.not_false, Option.map_some, Option.getD_some, Bool.true_and]
        rw [Array.all_eq_true_iff_forall_mem] at hdi ⊢
        intro e he
        have := of_decide_eq_true (hdi e he)
        rw [ih e.on this (by omega)]
        simp
      rw [hr] at hmem
      cases hmem
    · rfl
end Go.Proofs.YteaagngikiaokaaDoor

/- The ways to lay a Ueb's rows: a map, made in whatever order. -/
namespace Go.Proofs.YteaagngikiaokaaDoor
open Go.RowKit

set_option maxRecDepth 100000 in
set_option maxHeartbeats 400000 in
theorem num1_any (p : Option Addr) (w : World) : Calls Tryd.prog 66 #[.pointer p] w fun e w' => e = .returned (.func (.func 67) #[] #[.pointer (some ⟨w.heap.size, 0, none⟩)]) ∧ w' = w.alloc (.cells #[.pointer p] 98) := by
  go_enter Tryd.func66, Tryd.ntmps66
  go_wp2
  go_ret
  exact ⟨rfl, rfl⟩
set_option maxRecDepth 100000 in
set_option maxHeartbeats 400000 in
theorem dig1_any (p : Option Addr) (w : World) : Calls Tryd.prog 68 #[.pointer p] w fun e w' => e = .returned (.func (.func 69) #[] #[.pointer (some ⟨w.heap.size, 0, none⟩)]) ∧ w' = w.alloc (.cells #[.pointer p] 100) := by
  go_enter Tryd.func68, Tryd.ntmps68
  go_wp2
  go_ret
  exact ⟨rfl, rfl⟩

section
variable {P : Program} {ops : Array Oper} {Q : Exit → Act → World → Prop} {K : Act → World → Prop} {i : Nat} {a : Act} {w : World}
theorem op_value {o : Oper} {v : Value} {w' : World} (hi : ops[i]? = some o) (hg : o.guard = none) (hr : (execOp a.eval o).run P w = .ok (.value v) w') (h : K (a.put o.dst v) w') : wpOp P ops Q i K a w := by
  unfold wpOp
  simp only [hi]
  rw [if_pos (by simp [Region.wanted, hg])]
  refine .inl ?_
  unfold Oper.wp
  rw [hr]
  exact h
theorem op_move {d s : Tmp} {t : TypeId} {p : String} {af : Array Edge} {v : Value} (hi : ops[i]? = some ⟨some d, .move (.tmp s), t, p, af, none⟩) (hs : a.eval (.tmp s) = v) (h : K (a.put (some d) v) w) : wpOp P ops Q i K a w :=
  op_value hi rfl (by simp [execOp, hs]) h
end

end Go.Proofs.YteaagngikiaokaaDoor

/- What stands while the map is made. -/
namespace Go.Proofs.YteaagngikiaokaaDoor
open Go.RowKit

def keyB : Nat → ByteArray
  | 0 => ⟨#[107]⟩
  | 1 => ⟨#[110]⟩
  | 2 => ⟨#[115, 101, 103]⟩
  | 3 => ⟨#[115, 105, 122, 101]⟩
  | 4 => ⟨#[115, 101, 103, 109, 101, 110, 116, 115]⟩
  | _ => ⟨#[115, 104, 97, 114, 101, 115]⟩
def keyL (k : Nat) : Lit := .string (keyB k).data.toList
def tgt (g : Nat) : Nat → Addr
  | 0 => ⟨g, 0, none⟩
  | 1 => ⟨g, 1, none⟩
  | 2 => ⟨g, 2, none⟩
  | 3 => ⟨g, 3, none⟩
  | 4 => ⟨g, 36, none⟩
  | _ => ⟨g, 4, none⟩
def cloF (k : Nat) : Nat := if k < 4 then 67 else 69
def cloV (k b : Nat) : Value := .func (.func (cloF k)) #[] #[.pointer (some ⟨b, 0, none⟩)]
theorem cloV_inj {k k' b b' : Nat} (h : cloV k b = cloV k' b') : cloF k = cloF k' ∧ b = b' := by
  unfold cloV at h
  simpa using h
open Classical in
/-- How a way to lay reads: which closure, over which box. -/
noncomputable def rFun (v : Value) : Option (DataW Unit × List MemPlace) :=
  if h : ∃ b : Nat, v = cloV 0 b then some (.lit (.int .i64 ((Classical.choose h : Nat) : Int)), [])
  else if h : ∃ b : Nat, v = cloV 4 b then some (.lit (.int .i64 (-1 - ((Classical.choose h : Nat) : Int))), []) else some (.nil, [])
def cloD (k b : Nat) : DataW Unit := if k < 4 then .lit (.int .i64 (b : Int)) else .lit (.int .i64 (-1 - (b : Int)))
theorem cloF_lt {k : Nat} (h : k < 4) : cloV k = cloV 0 := by unfold cloV cloF; simp [h]
theorem cloF_ge {k : Nat} (h : ¬ k < 4) : cloV k = cloV 4 := by unfold cloV cloF; simp [h]
theorem clo_ne (b b' : Nat) : cloV 4 b ≠ cloV 0 b' := fun h => by
  have := (cloV_inj h).1
  exact absurd this (by unfold cloF; decide)
theorem rFun_clo (k b : Nat) : rFun (cloV k b) = some (cloD k b, []) := by
  unfold rFun cloD
  by_cases h : k < 4
  · have hx : ∃ b' : Nat, cloV k b = cloV 0 b' := ⟨b, by rw [cloF_lt h]⟩
    rw [dif_pos hx, if_pos h]
    have := (cloV_inj (Classical.choose_spec hx)).2
    rw [← this]
  · have h0 : ¬ ∃ b' : Nat, cloV k b = cloV 0 b' := fun ⟨b', hb⟩ => by rw [cloF_ge h] at hb; exact clo_ne _ _ hb
    have hx : ∃ b' : Nat, cloV k b = cloV 4 b' := ⟨b, by rw [cloF_ge h]⟩
    rw [dif_neg h0, dif_pos hx, if_neg h]
    have := (cloV_inj (Classical.choose_spec hx)).2
    rw [← this]
theorem rFun_back {v : Value} {k b : Nat} {ps : List MemPlace} (h : rFun v = some (cloD k b, ps)) : v = cloV k b := by
  unfold rFun cloD at h
  split at h
  · rename_i hx
    have hs := Classical.choose_spec hx
    split at h
    · rename_i hk
      simp at h
      have he : Classical.choose hx = b := Int.ofNat.inj h.1
      rw [cloF_lt hk, ← he]
      exact hs
    · simp at h; omega
  · split at h
    · rename_i h0 hx
      have hs := Classical.choose_spec hx
      split at h
      · simp at h; omega
      · rename_i hk
        simp at h
        have he : Classical.choose hx = b := by omega
        rw [cloF_ge hk, ← he]
        exact hs
    · split at h <;> simp at h

def dstOf (i : Nat) : Option Nat := if i = 0 then some 5 else if i = 37 then some 36 else if i = 38 then some 2 else if i < 37 then (if (i - 1) % 6 = 5 then none else some (6 + 5 * ((i - 1) / 6) + (i - 1) % 6)) else none
def valOf (g m : Nat) (B : Nat → Nat) (i : Nat) : Value :=
  if i = 0 then .map (some m) else if i = 37 then .map (some m) else if i = 38 then .map (some m) else
  if (i - 1) % 6 = 0 then .func (.func (if (i - 1) / 6 < 4 then 66 else 68)) #[] #[] else
  if (i - 1) % 6 = 1 then .pointer (some ⟨g, 0, none⟩) else
  if (i - 1) % 6 = 2 then .pointer (some ⟨g, 0, none⟩) else
  if (i - 1) % 6 = 3 then .pointer (some (tgt g ((i - 1) / 6))) else cloV ((i - 1) / 6) (B ((i - 1) / 6))
theorem dst_inj : ∀ i j d, dstOf i = some d → dstOf j = some d → i = j := by
  intro i j d hi hj
  unfold dstOf at hi hj
  repeat' split at hi
  all_goals repeat' split at hj
  all_goals simp at hi hj
  all_goals omega
theorem dst_lt : ∀ i d, dstOf i = some d → d < 37 ∧ d ≠ 0 ∧ d ≠ 3 ∧ d ≠ 4 := by
  intro i d hi
  unfold dstOf at hi
  repeat' split at hi
  all_goals simp at hi
  all_goals omega

/-- What stands while some of the operations are done. -/
structure LI (w0 : World) (g : Nat) (listed : Array Bool) (a : Act) (w : World) (m : Nat) (B : Nat → Nat) (D : DataW Unit) (n : Nat) : Prop where
  size : listed.size = 39
  tsz : a.tmps.size = 37
  df : a.defers = []
  t0 : a.tmps[0]? = some (.pointer (some ⟨g, 0, none⟩))
  t3 : a.tmps[3]? = some (.func (.func 66) #[] #[])
  t4 : a.tmps[4]? = some (.func (.func 68) #[] #[])
  slots : ∀ i d, dstOf i = some d → listed.getD i false = true → a.tmps[d]? = some (valOf g m B i)
  bel : Below w0.heap.size w0 w
  dep37 : listed.getD 37 false = true → listed.getD 0 false = true
  dep38 : listed.getD 38 false = true → listed.getD 0 false = true
  depk : ∀ k, k < 6 → listed.getD (6 + 6 * k) false = true → listed.getD 0 false = true
  depc : ∀ k, k < 6 → listed.getD (6 + 6 * k) false = true → listed.getD (5 + 6 * k) false = true
  cells : ∀ k, k < 6 → listed.getD (5 + 6 * k) false = true → w.cell? ⟨B k, 0, none⟩ = some (.pointer (some (tgt g k))) ∧ w0.heap.size ≤ B k
  map : listed.getD 0 false = true → w0.heap.size ≤ m ∧ w.ownsMap Tryd.prog 9 rFun m n D ∧ n ≤ 100 ∧
    (∀ k, k < 6 → Maps.has D (keyL k) = listed.getD (6 + 6 * k) false) ∧ (∀ k, k < 6 → listed.getD (6 + 6 * k) false = true → ∀ z, D.atKey (keyL k) z = cloD k (B k)) ∧
    (∀ s : List UInt8, (∀ k, k < 6 → s ≠ (keyB k).data.toList) → Maps.has D (.string s) = false) ∧
    Maps.size D = ((List.range 6).filter fun k => listed.getD (6 + 6 * k) false).length ∧ n = Maps.size D

theorem getD_set {listed : Array Bool} {i j : Nat} (h : i < listed.size) : (listed.setIfInBounds i true).getD j false = if j = i then true else listed.getD j false := by
  by_cases hj : j = i
  · subst hj
    simp [Array.getD, h]
  · rw [if_neg hj]
    by_cases hjs : j < listed.size
    · simp [Array.getD, hjs, Array.getElem_setIfInBounds, Ne.symm hj]
    · simp [Array.getD, hjs]

/-- An operation that lays its own value and does nothing else. -/
theorem LI.put {w0 : World} {g : Nat} {listed : Array Bool} {a : Act} {w : World} {m : Nat} {B : Nat → Nat} {D : DataW Unit} {n : Nat} (h : LI w0 g listed a w m B D n) (i d : Nat) (hi : i < 39) (hd : dstOf i = some d)
    (hk : i ≠ 0 ∧ ∀ k, k < 6 → i ≠ 5 + 6 * k) (h37 : (i = 37 ∨ i = 38) → listed.getD 0 false = true) : LI w0 g (listed.setIfInBounds i true) (a.put (some d) (valOf g m B i)) w m B D n := by
  have hs : i < listed.size := by rw [h.size]; exact hi
  have hins : ∀ k, k < 6 → i ≠ 6 + 6 * k := fun k hk he => by
    subst he
    unfold dstOf at hd
    rw [if_neg (by omega), if_neg (by omega), if_neg (by omega), if_pos (by omega), if_pos (by omega)] at hd
    cases hd
  have hdl := dst_lt i d hd
  have hg : ∀ j, j ≠ i → (listed.setIfInBounds i true).getD j false = listed.getD j false := fun j hj => by rw [getD_set hs, if_neg hj]
  have hp : ∀ e, e ≠ d → (a.put (some d) (valOf g m B i)).tmps[e]? = a.tmps[e]? := fun e he => by simp [Act.put, Array.getElem?_setIfInBounds, Ne.symm he]
  refine ⟨by simpa using h.size, by simpa [Act.put] using h.tsz, h.df, ?_, ?_, ?_, fun j e he hl => ?_, h.bel, fun hl => ?_, fun hl => ?_, fun k hk6 hl => ?_, fun k hk6 hl => ?_, fun k hk6 hl => ?_, fun hl => ?_⟩
  · rw [hp 0 (Ne.symm hdl.2.1)]; exact h.t0
  · rw [hp 3 (Ne.symm hdl.2.2.1)]; exact h.t3
  · rw [hp 4 (Ne.symm hdl.2.2.2)]; exact h.t4
  · by_cases hj : j = i
    · subst hj
      rw [hd] at he
      cases he
      simp [Act.put, h.tsz, hdl.1]
    · rw [hg j hj] at hl
      have hne : e ≠ d := fun h' => hj (dst_inj j i d (by rw [he, h']) hd)
      rw [hp e hne]
      exact h.slots j e he hl
  · rw [hg 0 (Ne.symm hk.1)]
    by_cases h' : i = 37
    · exact h37 (.inl h')
    · rw [hg 37 (Ne.symm h')] at hl; exact h.dep37 hl
  · rw [hg 0 (Ne.symm hk.1)]
    by_cases h' : i = 38
    · exact h37 (.inr h')
    · rw [hg 38 (Ne.symm h')] at hl; exact h.dep38 hl
  · rw [hg 0 (Ne.symm hk.1)]
    rw [hg _ (Ne.symm (hins k hk6))] at hl
    exact h.depk k hk6 hl
  · rw [hg _ (Ne.symm (hins k hk6))] at hl
    rw [hg _ (Ne.symm (hk.2 k hk6))]
    exact h.depc k hk6 hl
  · rw [hg _ (Ne.symm (hk.2 k hk6))] at hl
    exact h.cells k hk6 hl
  · rw [hg 0 (Ne.symm hk.1)] at hl
    obtain ⟨h1, h2, h3, h4, h5, h6, h7, h8⟩ := h.map hl
    refine ⟨h1, h2, h3, fun k hk6 => ?_, fun k hk6 hl => ?_, h6, ?_, h8⟩
    · rw [hg _ (Ne.symm (hins k hk6))]; exact h4 k hk6
    · rw [hg _ (Ne.symm (hins k hk6))] at hl; exact h5 k hk6 hl
    · rw [h7]
      congr 1
      refine List.filter_congr fun k hk6 => ?_
      rw [hg _ (Ne.symm (hins k (List.mem_range.1 hk6)))]
end Go.Proofs.YteaagngikiaokaaDoor

/- The map of ways to lay: the steps that turn the world. -/
namespace Go.Proofs.YteaagngikiaokaaDoor
open Go.RowKit

theorem val_same {g m m' : Nat} {B B' : Nat → Nat} {j d : Nat} (hd : dstOf j = some d) (hm : (j = 0 ∨ j = 37 ∨ j = 38) → m = m') (hB : ∀ k, j = 5 + 6 * k → B k = B' k) : valOf g m B j = valOf g m' B' j := by
  have h5 : (j - 1) % 6 = 4 → j ≠ 0 → B ((j - 1) / 6) = B' ((j - 1) / 6) := fun h h0 => hB _ (by omega)
  have hne : ¬ (j = 0 ∨ j = 37 ∨ j = 38) → (j - 1) % 6 ≠ 5 := fun h0 h6 => by
    unfold dstOf at hd
    rw [if_neg (by omega), if_neg (by omega), if_neg (by omega)] at hd
    split at hd
    · first
        | cases hd
        | (rw [if_pos h6] at hd; cases hd)
    · cases hd
  unfold valOf
  by_cases h0 : j = 0
  · rw [if_pos h0, if_pos h0, hm (.inl h0)]
  · rw [if_neg h0, if_neg h0]
    by_cases h1 : j = 37
    · rw [if_pos h1, if_pos h1, hm (.inr (.inl h1))]
    · rw [if_neg h1, if_neg h1]
      by_cases h2 : j = 38
      · rw [if_pos h2, if_pos h2, hm (.inr (.inr h2))]
      · rw [if_neg h2, if_neg h2]
        have := hne (by omega)
        by_cases h3 : (j - 1) % 6 = 0
        · rw [if_pos h3, if_pos h3]
        · rw [if_neg h3, if_neg h3]
          by_cases h4 : (j - 1) % 6 = 1
          · rw [if_pos h4, if_pos h4]
          · rw [if_neg h4, if_neg h4]
            by_cases h6 : (j - 1) % 6 = 2
            · rw [if_pos h6, if_pos h6]
            · rw [if_neg h6, if_neg h6]
              by_cases h7 : (j - 1) % 6 = 3
              · rw [if_pos h7, if_pos h7]
              · rw [if_neg h7, if_neg h7, h5 (by omega) h0]

theorem Blk_new (w : World) (ty : TypeId) (v : Value) : (w.alloc (.cells #[v] ty)).cell? ⟨w.heap.size, 0, none⟩ = some v := by
  rw [cell_of_row _ w.heap.size 0 #[v] ty (0, 0) (heap_alloc_new w _)]
  rfl
theorem put_other {a : Act} {d e : Nat} {v : Value} (h : e ≠ d) : (a.put (some d) v).tmps[e]? = a.tmps[e]? := by simp [Act.put, Array.getElem?_setIfInBounds, Ne.symm h]
theorem put_same {a : Act} {d : Nat} {v : Value} (h : d < a.tmps.size) : (a.put (some d) v).tmps[d]? = some v := by simp [Act.put, h]

theorem LI.make {w0 : World} {g : Nat} {listed : Array Bool} {a : Act} {w : World} {m : Nat} {B : Nat → Nat} {D : DataW Unit} {n : Nat} (h : LI w0 g listed a w m B D n) (h0 : listed.getD 0 false = false) :
    LI w0 g (listed.setIfInBounds 0 true) (a.put (some 5) (.map (some w.heap.size))) (w.alloc (.map #[] 0)) w.heap.size B (.map []) 0 := by
  have hs : 0 < listed.size := by rw [h.size]; omega
  have hg : ∀ j, j ≠ 0 → (listed.setIfInBounds 0 true).getD j false = listed.getD j false := fun j hj => by rw [getD_set hs, if_neg hj]
  have hg0 : (listed.setIfInBounds 0 true).getD 0 false = true := by rw [getD_set hs, if_pos rfl]
  have hbel := h.bel.alloc h.bel.size (.map #[] 0)
  have hnk : ∀ k, k < 6 → listed.getD (6 + 6 * k) false = false := fun k hk => by
    rcases hb : listed.getD (6 + 6 * k) false with _ | _
    · rfl
    · rw [h.depk k hk hb] at h0; cases h0
  refine ⟨by simpa using h.size, by simpa [Act.put] using h.tsz, h.df, (put_other (by omega)).trans h.t0, (put_other (by omega)).trans h.t3, (put_other (by omega)).trans h.t4, fun j e he hl => ?_, hbel, fun _ => hg0, fun _ => hg0, fun _ _ _ => hg0, fun k hk6 hl => ?_, fun k hk6 hl => ?_, fun _ => ?_⟩
  · by_cases hj : j = 0
    · subst hj
      have : e = 5 := by simpa [dstOf] using he.symm
      subst this
      rw [put_same (by rw [h.tsz]; omega)]
      rfl
    · rw [hg j hj] at hl
      have hne : e ≠ 5 := fun h' => hj (dst_inj j 0 5 (by rw [he, h']) rfl)
      rw [put_other hne, h.slots j e he hl]
      refine congrArg some (val_same he (fun h' => ?_) fun _ _ => rfl)
      rcases h' with h' | h' | h'
      · exact absurd h' hj
      · subst h'; rw [h.dep37 hl] at h0; cases h0
      · subst h'; rw [h.dep38 hl] at h0; cases h0
  · rw [hg _ (by omega)] at hl ⊢
    exact h.depc k hk6 hl
  · rw [hg _ (by omega)] at hl
    obtain ⟨h1, h2⟩ := h.cells k hk6 hl
    exact ⟨((Below.refl _ w).alloc (Nat.le_refl _) (.map #[] 0)).cell (p := ⟨B k, 0, none⟩) (World.block_lt_of_cell? _ _ h1) |>.trans h1, h2⟩
  · refine ⟨h.bel.size, World.ownsMap_made w _ _ _, by omega, fun k hk6 => ?_, fun k hk6 hl => ?_, fun s _ => rfl, ?_, rfl⟩
    · rw [hg _ (by omega), hnk k hk6]; rfl
    · rw [hg _ (by omega), hnk k hk6] at hl; cases hl
    · rw [List.filter_eq_nil_iff.2]
      · rfl
      · intro k hk
        rw [hg _ (by omega), hnk k (List.mem_range.1 hk)]
        simp

theorem LI.call {w0 : World} {g : Nat} {listed : Array Bool} {a : Act} {w : World} {m : Nat} {B : Nat → Nat} {D : DataW Unit} {n : Nat} (h : LI w0 g listed a w m B D n) (k d : Nat) (ty : TypeId) (hk : k < 6) (hl0 : listed.getD (5 + 6 * k) false = false) (hd : dstOf (5 + 6 * k) = some d) :
    LI w0 g (listed.setIfInBounds (5 + 6 * k) true) (a.put (some d) (cloV k w.heap.size)) (w.alloc (.cells #[.pointer (some (tgt g k))] ty)) m (fun j => if j = k then w.heap.size else B j) D n := by
  have hs : 5 + 6 * k < listed.size := by rw [h.size]; omega
  have hg : ∀ j, j ≠ 5 + 6 * k → (listed.setIfInBounds (5 + 6 * k) true).getD j false = listed.getD j false := fun j hj => by rw [getD_set hs, if_neg hj]
  have hbel := h.bel.alloc h.bel.size (.cells #[.pointer (some (tgt g k))] ty)
  have hdl := dst_lt _ d hd
  refine ⟨by simpa using h.size, by simpa [Act.put] using h.tsz, h.df, (put_other (Ne.symm hdl.2.1)).trans h.t0, (put_other (Ne.symm hdl.2.2.1)).trans h.t3, (put_other (Ne.symm hdl.2.2.2)).trans h.t4, fun j e he hl => ?_, hbel, fun hl => ?_, fun hl => ?_, fun k' hk6 hl => ?_, fun k' hk6 hl => ?_, fun k' hk6 hl => ?_, fun hl => ?_⟩
  · by_cases hj : j = 5 + 6 * k
    · subst hj
      rw [hd] at he
      cases he
      rw [put_same (by rw [h.tsz]; exact hdl.1)]
      unfold valOf
      rw [if_neg (by omega), if_neg (by omega), if_neg (by omega), if_neg (by omega), if_neg (by omega), if_neg (by omega), if_neg (by omega), show (5 + 6 * k - 1) / 6 = k by omega]
      simp
    · rw [hg j hj] at hl
      have hne : e ≠ d := fun h' => hj (dst_inj j _ d (by rw [he, h']) hd)
      rw [put_other hne, h.slots j e he hl]
      exact congrArg some (val_same he (fun _ => rfl) fun k' hk' => by rw [if_neg (fun e' => hj (by omega))])
  · rw [hg _ (by omega)] at hl ⊢; exact h.dep37 hl
  · rw [hg _ (by omega)] at hl ⊢; exact h.dep38 hl
  · rw [hg _ (by omega)] at hl ⊢; exact h.depk k' hk6 hl
  · rw [hg _ (by omega)] at hl
    by_cases hkk : k' = k
    · subst hkk; rw [getD_set hs, if_pos rfl]
    · rw [hg _ (by omega)]; exact h.depc k' hk6 hl
  · by_cases hkk : k' = k
    · subst hkk
      simp only [if_pos]
      exact ⟨(Blk_new w ty _).trans rfl, h.bel.size⟩
    · rw [hg _ (by omega)] at hl
      simp only [if_neg hkk]
      obtain ⟨h1, h2⟩ := h.cells k' hk6 hl
      exact ⟨((Below.refl _ w).alloc (Nat.le_refl _) _).cell (p := ⟨B k', 0, none⟩) (World.block_lt_of_cell? _ _ h1) |>.trans h1, h2⟩
  · rw [hg _ (by omega)] at hl
    obtain ⟨h1, h2, h3, h4, h5, h6, h7, h8⟩ := h.map hl
    refine ⟨h1, h2.alloc _, h3, fun k' hk6 => ?_, fun k' hk6 hl => ?_, h6, ?_, h8⟩
    · rw [hg _ (by omega)]; exact h4 k' hk6
    · rw [hg _ (by omega)] at hl
      have hc := h.depc k' hk6 hl
      have hkk : k' ≠ k := fun e' => by subst e'; rw [hl0] at hc; cases hc
      simp only [if_neg hkk]
      exact h5 k' hk6 hl
    · rw [h7]
      congr 1
      refine List.filter_congr fun k' hk6 => ?_
      rw [hg _ (by omega)]
theorem key_len (k : Nat) : (keyB k).size ≤ maxLen := by
  unfold maxLen keyB
  split <;> decide
theorem key_ne {k k' : Nat} (hk : k < 6) (hk' : k' < 6) (h : k' ≠ k) : keyL k' ≠ keyL k := by
  have : ∀ a, a < 6 → ∀ b, b < 6 → b ≠ a → (keyB b).data.toList ≠ (keyB a).data.toList := by decide
  intro e
  unfold keyL at e
  injection e with e
  exact this k hk k' hk' h e
theorem count_ins (f : Nat → Bool) (k : Nat) (hk : k < 6) (hf : f k = false) : ((List.range 6).filter fun j => if j = k then true else f j).length = ((List.range 6).filter f).length + 1 := by
  have e : List.range 6 = [0, 1, 2, 3, 4, 5] := rfl
  rw [e]
  have hc : k = 0 ∨ k = 1 ∨ k = 2 ∨ k = 3 ∨ k = 4 ∨ k = 5 := by omega
  rcases hc with rfl | rfl | rfl | rfl | rfl | rfl
  all_goals
    simp only [List.filter_cons, List.filter_nil, hf]
    cases f 0 <;> cases f 1 <;> cases f 2 <;> cases f 3 <;> cases f 4 <;> cases f 5 <;> simp_all
theorem keyed_str : Maps.Keyed Tryd.prog 9 := Maps.string_keyed Tryd.underlying9

theorem LI.ins {w0 : World} {g : Nat} {listed : Array Bool} {a : Act} {w : World} {m : Nat} {B : Nat → Nat} {D : DataW Unit} {n : Nat} (h : LI w0 g listed a w m B D n) (k : Nat) (hk : k < 6) (hl0 : listed.getD (6 + 6 * k) false = false) (h0 : listed.getD 0 false = true) (hc : listed.getD (5 + 6 * k) false = true) :
    ∃ w', (Instr.mapUpdate 76 (.map (some m)) (.string (keyB k)) (cloV k (B k))).run Tryd.prog w = .ok () w' ∧ LI w0 g (listed.setIfInBounds (6 + 6 * k) true) a w' m B (D.put (keyL k) (cloD k (B k))) (n + 1) := by
  obtain ⟨h1, h2, h3, h4, h5, h6, h7, h8⟩ := h.map h0
  have hkl : WideAt.IsKeyLit (keyL k) := trivial
  obtain ⟨w', hrun, ho, hgr⟩ := h2.update keyed_str Tryd.underlying76 (by unfold maxLen; omega) (WideMaps.keyOf_string_mk Tryd.underlying9 (key_len k)) (rFun_clo k (B k))
  have hs : 6 + 6 * k < listed.size := by rw [h.size]; omega
  have hg : ∀ j, j ≠ 6 + 6 * k → (listed.setIfInBounds (6 + 6 * k) true).getD j false = listed.getD j false := fun j hj => by rw [getD_set hs, if_neg hj]
  have hgk : (listed.setIfInBounds (6 + 6 * k) true).getD (6 + 6 * k) false = true := by rw [getD_set hs, if_pos rfl]
  have hlt := h2.lt
  have hhas : Maps.has D (keyL k) = false := by rw [h4 k hk, hl0]
  have hfun : (fun j => (listed.setIfInBounds (6 + 6 * k) true).getD (6 + 6 * j) false) = fun j => if j = k then true else listed.getD (6 + 6 * j) false := by
    funext j
    by_cases hj : j = k
    · subst hj; rw [hgk, if_pos rfl]
    · rw [hg _ (by omega), if_neg hj]
  have hcnt : ((List.range 6).filter fun j => listed.getD (6 + 6 * j) false).length ≤ 6 := Nat.le_trans (List.length_filter_le _ _) (by simp)
  refine ⟨w', hrun, by simpa using h.size, h.tsz, h.df, h.t0, h.t3, h.t4, fun j e he hl => ?_, h.bel.grown hgr h.bel.size (fun j hj => by cases hj; exact h1), fun hl => ?_, fun hl => ?_, fun k' hk6 hl => ?_, fun k' hk6 hl => ?_, fun k' hk6 hl => ?_, fun hl => ?_⟩
  · have hj : j ≠ 6 + 6 * k := fun e' => by
      subst e'
      unfold dstOf at he
      rw [if_neg (by omega), if_neg (by omega), if_neg (by omega), if_pos (by omega), if_pos (by omega)] at he
      cases he
    rw [hg j hj] at hl
    exact h.slots j e he hl
  · rw [hg _ (by omega)] at hl ⊢; exact h.dep37 hl
  · rw [hg _ (by omega)] at hl ⊢; exact h.dep38 hl
  · rw [hg _ (by omega)]; exact h0
  · rw [hg _ (by omega)]
    by_cases hkk : k' = k
    · subst hkk; exact hc
    · rw [hg _ (by omega)] at hl; exact h.depc k' hk6 hl
  · rw [hg _ (by omega)] at hl
    obtain ⟨c1, c2⟩ := h.cells k' hk6 hl
    refine ⟨?_, c2⟩
    have hb := World.block_lt_of_cell? _ _ c1
    have hne : B k' ≠ m := fun e' => by
      obtain ⟨es, clock, hh, _⟩ := h2
      rw [e'] at c1
      simp [World.cell?, hh] at c1
    have : w'.heap[B k']? = w.heap[B k']? := hgr.block (B k') hb (fun e' => hne (Option.some.inj e'))
    unfold World.cell? at c1 ⊢
    simp only at c1 ⊢
    rw [this]
    exact c1
  · refine ⟨h1, ho, by rw [h8, h7]; omega, fun k' hk6 => ?_, fun k' hk6 hl z => ?_, fun s hs' => ?_, ?_, ?_⟩
    · by_cases hkk : k' = k
      · subst hkk; rw [hgk, Maps.has_put_same h2.isMap hkl]
      · rw [hg _ (by omega), Maps.has_put_other (key_ne hk hk6 hkk)]; exact h4 k' hk6
    · by_cases hkk : k' = k
      · subst hkk; exact Maps.atKey_put_same h2.isMap hkl _ z
      · rw [hg _ (by omega)] at hl
        rw [Maps.atKey_put_other (key_ne hk hk6 hkk)]; exact h5 k' hk6 hl z
    · rw [Maps.has_put_other (fun e' => by unfold keyL at e'; injection e' with e'; exact hs' k hk e')]
      exact h6 s hs'
    · rw [Maps.size_put (h2.tidy keyed_str), if_neg (by rw [hhas]; decide), hfun, count_ins _ k hk hl0, h7]
    · rw [Maps.size_put (h2.tidy keyed_str), if_neg (by rw [hhas]; decide), h8]
end Go.Proofs.YteaagngikiaokaaDoor

/- The contract of layers: a map of six ways to lay, in whatever order it is made. -/
namespace Go.Proofs.YteaagngikiaokaaDoor
open Go.RowKit

section
variable {P : Program} {ops : Array Oper} {Q : Exit → Act → World → Prop} {K : Act → World → Prop} {i : Nat} {a : Act} {w : World}
set_option maxRecDepth 100000 in
theorem op_callnum1 {ops : Array Oper} {Q : Exit → Act → World → Prop} {K : Act → World → Prop} {i : Nat} {a : Act} {w : World} {d s x : Tmp} {t at_ : TypeId} {p : String} {af : Array Edge} {q : Option Addr} (hi : ops[i]? = some ⟨some d, .call { callee := .value (.tmp s), args := #[.tmp x], argTypes := #[at_] }, t, p, af, none⟩)
    (hs : a.tmps[s]? = some (.func (.func 66) #[] #[])) (hx : a.tmps[x]? = some (.pointer q)) (h : K (a.put (some d) (.func (.func 67) #[] #[.pointer (some ⟨w.heap.size, 0, none⟩)])) (w.alloc (.cells #[.pointer q] 98))) : wpOp Tryd.prog ops Q i K a w := by
  unfold wpOp
  simp only [hi]
  rw [if_pos (by simp [Region.wanted])]
  refine .inl ?_
  unfold Oper.wp
  go_simp
  go_at_call 66
  refine (num1_any q w).mono ?_
  rintro e w2 ⟨rfl, rfl⟩
  exact h
set_option maxRecDepth 100000 in
theorem op_calldig1 {ops : Array Oper} {Q : Exit → Act → World → Prop} {K : Act → World → Prop} {i : Nat} {a : Act} {w : World} {d s x : Tmp} {t at_ : TypeId} {p : String} {af : Array Edge} {q : Option Addr} (hi : ops[i]? = some ⟨some d, .call { callee := .value (.tmp s), args := #[.tmp x], argTypes := #[at_] }, t, p, af, none⟩)
    (hs : a.tmps[s]? = some (.func (.func 68) #[] #[])) (hx : a.tmps[x]? = some (.pointer q)) (h : K (a.put (some d) (.func (.func 69) #[] #[.pointer (some ⟨w.heap.size, 0, none⟩)])) (w.alloc (.cells #[.pointer q] 100))) : wpOp Tryd.prog ops Q i K a w := by
  unfold wpOp
  simp only [hi]
  rw [if_pos (by simp [Region.wanted])]
  refine .inl ?_
  unfold Oper.wp
  go_simp
  go_at_call 68
  refine (dig1_any q w).mono ?_
  rintro e w2 ⟨rfl, rfl⟩
  exact h
theorem op_ins {m x : Tmp} {t ty : TypeId} {key : Value} {p : String} {af : Array Edge} {mv xv : Value} {w' : World} (hi : ops[i]? = some ⟨none, .insert ty (.tmp m) (.const key) (.tmp x), t, p, af, none⟩)
    (hm : a.eval (.tmp m) = mv) (hx : a.eval (.tmp x) = xv) (hr : (Instr.mapUpdate ty mv key xv).run P w = .ok () w') (h : K a w') : wpOp P ops Q i K a w := by
  unfold wpOp
  simp only [hi]
  rw [if_pos (by simp [Region.wanted])]
  refine .inl ?_
  unfold Oper.wp
  have hk : a.eval (.const key) = key := rfl
  simp [execOp, hm, hx, hk, hr, Result.andThen, Oper.upon]
  exact h
theorem gd {l : Array Bool} {i : Nat} (h : l[i]?.getD false = true) : l.getD i false = true := by simpa using h
theorem eval_tmp {s : Tmp} {v : Value} (h : a.tmps[s]? = some v) : a.eval (.tmp s) = v := by simp [Act.eval, h]
end

theorem fa0 (g : Nat) (W : World) : (Instr.fieldAt 44 (.pointer (some ⟨g, 0, none⟩)) 0).run Tryd.prog W = .ok (.pointer (some (tgt g 0))) W := by kernel_rfl
theorem fa1 (g : Nat) (W : World) : (Instr.fieldAt 44 (.pointer (some ⟨g, 0, none⟩)) 1).run Tryd.prog W = .ok (.pointer (some (tgt g 1))) W := by kernel_rfl
theorem fa2 (g : Nat) (W : World) : (Instr.fieldAt 44 (.pointer (some ⟨g, 0, none⟩)) 2).run Tryd.prog W = .ok (.pointer (some (tgt g 2))) W := by kernel_rfl
theorem fa3 (g : Nat) (W : World) : (Instr.fieldAt 44 (.pointer (some ⟨g, 0, none⟩)) 3).run Tryd.prog W = .ok (.pointer (some (tgt g 3))) W := by kernel_rfl
theorem fa4 (g : Nat) (W : World) : (Instr.fieldAt 44 (.pointer (some ⟨g, 0, none⟩)) 5).run Tryd.prog W = .ok (.pointer (some (tgt g 4))) W := by kernel_rfl
theorem fa5 (g : Nat) (W : World) : (Instr.fieldAt 44 (.pointer (some ⟨g, 0, none⟩)) 4).run Tryd.prog W = .ok (.pointer (some (tgt g 5))) W := by kernel_rfl

set_option maxRecDepth 100000 in
set_option maxHeartbeats 4000000 in
theorem layers_any (g : Nat) (w : World) : Calls Tryd.prog 47 #[.pointer (some ⟨g, 0, none⟩)] w fun e w' => ∃ (m : Nat) (B : Nat → Nat) (D : DataW Unit) (n : Nat), e = .returned (.map (some m)) ∧ Below w.heap.size w w' ∧
    w.heap.size ≤ m ∧ w'.ownsMap Tryd.prog 9 rFun m n D ∧ n ≤ 100 ∧ Maps.size D = 6 ∧ (∀ k, k < 6 → Maps.has D (keyL k) = true) ∧ (∀ k, k < 6 → ∀ z, D.atKey (keyL k) z = cloD k (B k)) ∧
    (∀ s : List UInt8, (∀ k, k < 6 → s ≠ (keyB k).data.toList) → Maps.has D (.string s) = false) ∧ (∀ k, k < 6 → w'.cell? ⟨B k, 0, none⟩ = some (.pointer (some (tgt g k))) ∧ w.heap.size ≤ B k) := by
  go_enter Tryd.func47, Tryd.ntmps47
  go_wp2
  refine wp_region_any rfl ?_
  refine wpAny_inv (fun listed a W => ∃ m B D n, LI w g listed a W m B D n) (fun listed a W ⟨_, _, _, _, h⟩ => h.size.trans rfl) ?step ?fin _ _ _ _ (by simp) ?start
  case start =>
    refine ⟨0, fun _ => 0, .map [], 0, by simp, by simp, rfl, rfl, rfl, rfl, fun i d hd hl => ?_, (Below.refl w.heap.size w).drew, fun hl => ?_, fun hl => ?_, fun k _ hl => ?_, fun k _ hl => ?_, fun k _ hl => ?_, fun hl => ?_⟩
    all_goals
      simp [Array.getD] at hl
  case fin =>
    rintro listed a W ⟨m, B, D, n, h⟩ hr
    have hall : ∀ i, i < 39 → listed.getD i false = true := fun i hi => all_ready (h.size.trans rfl) (by kernel_rfl) hr i hi
    obtain ⟨h1, h2, h3, h4, h5, h6, h7, h8⟩ := h.map (hall 0 (by omega))
    have ht2 : a.tmps[2]? = some (.map (some m)) := h.slots 38 2 rfl (hall 38 (by omega))
    have hdf := h.df
    have hcell := fun k hk => h.cells k hk (hall (5 + 6 * k) (by omega))
    have hhas : ∀ k, k < 6 → Maps.has D (keyL k) = true := fun k hk => by rw [h4 k hk]; exact hall _ (by omega)
    have hat : ∀ k, k < 6 → ∀ z, D.atKey (keyL k) z = cloD k (B k) := fun k hk => h5 k hk (hall _ (by omega))
    have hsz : Maps.size D = 6 := by
      rw [h7, List.filter_eq_self.2 (fun k hk => hall _ (by have := List.mem_range.1 hk; omega))]
      rfl
    have hbel := h.bel
    clear h hr hall h4 h5 h7 h8
    go_wp2
    exact bodyPost_ret (results_tmp rfl _ _ _) hdf ⟨m, B, D, n, by rw [Array.getD_eq_getD_getElem?, ht2]; rfl, hbel, h1, h2, h3, hsz, hhas, hat, h6, hcell⟩
  case step =>
    rintro listed a W i ⟨m, B, D, n, h⟩ hi
    obtain ⟨hlt, hf, o, ho, hdep⟩ := ready_at hi
    have hi39 : i < 39 := hlt
    have hff : listed.getD i false = false := by
      have : i < listed.size := by rw [h.size]; exact hi39
      simpa [Array.getD, this] using hf
    clear hi hlt hf
    have hc : i = 0 ∨ i = 1 ∨ i = 2 ∨ i = 3 ∨ i = 4 ∨ i = 5 ∨ i = 6 ∨ i = 7 ∨ i = 8 ∨ i = 9 ∨ i = 10 ∨ i = 11 ∨ i = 12 ∨ i = 13 ∨ i = 14 ∨ i = 15 ∨ i = 16 ∨ i = 17 ∨ i = 18 ∨ i = 19 ∨ i = 20 ∨ i = 21 ∨ i = 22 ∨ i = 23 ∨ i = 24 ∨ i = 25 ∨ i = 26 ∨ i = 27 ∨ i = 28 ∨ i = 29 ∨ i = 30 ∨ i = 31 ∨ i = 32 ∨ i = 33 ∨ i = 34 ∨ i = 35 ∨ i = 36 ∨ i = 37 ∨ i = 38 := by omega
    rcases hc with rfl | rfl | rfl | rfl | rfl | rfl | rfl | rfl | rfl | rfl | rfl | rfl | rfl | rfl | rfl | rfl | rfl | rfl | rfl | rfl | rfl | rfl | rfl | rfl | rfl | rfl | rfl | rfl | rfl | rfl | rfl | rfl | rfl | rfl | rfl | rfl | rfl | rfl | rfl
    · clear ho hdep
      exact op_value rfl rfl (by simp [execOp, run_makeMap, Result.andThen]) ⟨_, _, _, _, h.make hff⟩
    · clear ho hdep
      exact op_move rfl (eval_tmp h.t3) ⟨_, _, _, _, h.put 1 6 (by omega) rfl ⟨by omega, fun k hk => by omega⟩ (fun h => by omega)⟩
    · clear ho hdep
      exact op_move rfl (eval_tmp h.t0) ⟨_, _, _, _, h.put 2 7 (by omega) rfl ⟨by omega, fun k hk => by omega⟩ (fun h => by omega)⟩
    · simp at ho
      subst ho
      simp [Region.binds] at hdep
      have hv : a.eval (.tmp 7) = .pointer (some ⟨g, 0, none⟩) := eval_tmp (h.slots 2 7 rfl (gd hdep))
      exact op_value (v := .pointer (some ⟨g, 0, none⟩)) rfl rfl (by simp [execOp, hv]) ⟨_, _, _, _, h.put 3 8 (by omega) rfl ⟨by omega, fun k hk => by omega⟩ (fun h => by omega)⟩
    · simp at ho
      subst ho
      simp [Region.binds] at hdep
      have hv : a.eval (.tmp 8) = .pointer (some ⟨g, 0, none⟩) := eval_tmp (h.slots 3 8 rfl (gd hdep))
      exact op_value (v := .pointer (some (tgt g 0))) rfl rfl (by simp [execOp, hv, fa0, Result.andThen]) ⟨_, _, _, _, h.put 4 9 (by omega) rfl ⟨by omega, fun k hk => by omega⟩ (fun h => by omega)⟩
    · simp at ho
      subst ho
      simp [Region.binds] at hdep
      have hs : a.tmps[6]? = some (.func (.func 66) #[] #[]) := h.slots 1 6 rfl (gd hdep.1)
      have hx : a.tmps[9]? = some (.pointer (some (tgt g 0))) := h.slots 4 9 rfl (gd hdep.2)
      exact op_callnum1 rfl hs hx ⟨_, _, _, _, h.call 0 10 _ (by omega) hff rfl⟩
    · simp at ho
      subst ho
      simp [Region.binds] at hdep
      obtain ⟨w2, hr2, hl2⟩ := h.ins 0 (by omega) hff (gd hdep.1) (gd hdep.2)
      have hm : a.eval (.tmp 5) = .map (some m) := eval_tmp (h.slots 0 5 rfl (gd hdep.1))
      have hx : a.eval (.tmp 10) = cloV 0 (B 0) := eval_tmp (h.slots 5 10 rfl (gd hdep.2))
      exact op_ins rfl hm hx hr2 ⟨_, _, _, _, hl2⟩
    · clear ho hdep
      exact op_move rfl (eval_tmp h.t3) ⟨_, _, _, _, h.put 7 11 (by omega) rfl ⟨by omega, fun k hk => by omega⟩ (fun h => by omega)⟩
    · clear ho hdep
      exact op_move rfl (eval_tmp h.t0) ⟨_, _, _, _, h.put 8 12 (by omega) rfl ⟨by omega, fun k hk => by omega⟩ (fun h => by omega)⟩
    · simp at ho
      subst ho
      simp [Region.binds] at hdep
      have hv : a.eval (.tmp 12) = .pointer (some ⟨g, 0, none⟩) := eval_tmp (h.slots 8 12 rfl (gd hdep))
      exact op_value (v := .pointer (some ⟨g, 0, none⟩)) rfl rfl (by simp [execOp, hv]) ⟨_, _, _, _, h.put 9 13 (by omega) rfl ⟨by omega, fun k hk => by omega⟩ (fun h => by omega)⟩
    · simp at ho
      subst ho
      simp [Region.binds] at hdep
      have hv : a.eval (.tmp 13) = .pointer (some ⟨g, 0, none⟩) := eval_tmp (h.slots 9 13 rfl (gd hdep))
      exact op_value (v := .pointer (some (tgt g 1))) rfl rfl (by simp [execOp, hv, fa1, Result.andThen]) ⟨_, _, _, _, h.put 10 14 (by omega) rfl ⟨by omega, fun k hk => by omega⟩ (fun h => by omega)⟩
    · simp at ho
      subst ho
      simp [Region.binds] at hdep
      have hs : a.tmps[11]? = some (.func (.func 66) #[] #[]) := h.slots 7 11 rfl (gd hdep.1)
      have hx : a.tmps[14]? = some (.pointer (some (tgt g 1))) := h.slots 10 14 rfl (gd hdep.2.1)
      exact op_callnum1 rfl hs hx ⟨_, _, _, _, h.call 1 15 _ (by omega) hff rfl⟩
    · simp at ho
      subst ho
      simp [Region.binds] at hdep
      obtain ⟨w2, hr2, hl2⟩ := h.ins 1 (by omega) hff (gd hdep.1) (gd hdep.2)
      have hm : a.eval (.tmp 5) = .map (some m) := eval_tmp (h.slots 0 5 rfl (gd hdep.1))
      have hx : a.eval (.tmp 15) = cloV 1 (B 1) := eval_tmp (h.slots 11 15 rfl (gd hdep.2))
      exact op_ins rfl hm hx hr2 ⟨_, _, _, _, hl2⟩
    · clear ho hdep
      exact op_move rfl (eval_tmp h.t3) ⟨_, _, _, _, h.put 13 16 (by omega) rfl ⟨by omega, fun k hk => by omega⟩ (fun h => by omega)⟩
    · clear ho hdep
      exact op_move rfl (eval_tmp h.t0) ⟨_, _, _, _, h.put 14 17 (by omega) rfl ⟨by omega, fun k hk => by omega⟩ (fun h => by omega)⟩
    · simp at ho
      subst ho
      simp [Region.binds] at hdep
      have hv : a.eval (.tmp 17) = .pointer (some ⟨g, 0, none⟩) := eval_tmp (h.slots 14 17 rfl (gd hdep))
      exact op_value (v := .pointer (some ⟨g, 0, none⟩)) rfl rfl (by simp [execOp, hv]) ⟨_, _, _, _, h.put 15 18 (by omega) rfl ⟨by omega, fun k hk => by omega⟩ (fun h => by omega)⟩
    · simp at ho
      subst ho
      simp [Region.binds] at hdep
      have hv : a.eval (.tmp 18) = .pointer (some ⟨g, 0, none⟩) := eval_tmp (h.slots 15 18 rfl (gd hdep))
      exact op_value (v := .pointer (some (tgt g 2))) rfl rfl (by simp [execOp, hv, fa2, Result.andThen]) ⟨_, _, _, _, h.put 16 19 (by omega) rfl ⟨by omega, fun k hk => by omega⟩ (fun h => by omega)⟩
    · simp at ho
      subst ho
      simp [Region.binds] at hdep
      have hs : a.tmps[16]? = some (.func (.func 66) #[] #[]) := h.slots 13 16 rfl (gd hdep.1)
      have hx : a.tmps[19]? = some (.pointer (some (tgt g 2))) := h.slots 16 19 rfl (gd hdep.2.1)
      exact op_callnum1 rfl hs hx ⟨_, _, _, _, h.call 2 20 _ (by omega) hff rfl⟩
    · simp at ho
      subst ho
      simp [Region.binds] at hdep
      obtain ⟨w2, hr2, hl2⟩ := h.ins 2 (by omega) hff (gd hdep.1) (gd hdep.2)
      have hm : a.eval (.tmp 5) = .map (some m) := eval_tmp (h.slots 0 5 rfl (gd hdep.1))
      have hx : a.eval (.tmp 20) = cloV 2 (B 2) := eval_tmp (h.slots 17 20 rfl (gd hdep.2))
      exact op_ins rfl hm hx hr2 ⟨_, _, _, _, hl2⟩
    · clear ho hdep
      exact op_move rfl (eval_tmp h.t3) ⟨_, _, _, _, h.put 19 21 (by omega) rfl ⟨by omega, fun k hk => by omega⟩ (fun h => by omega)⟩
    · clear ho hdep
      exact op_move rfl (eval_tmp h.t0) ⟨_, _, _, _, h.put 20 22 (by omega) rfl ⟨by omega, fun k hk => by omega⟩ (fun h => by omega)⟩
    · simp at ho
      subst ho
      simp [Region.binds] at hdep
      have hv : a.eval (.tmp 22) = .pointer (some ⟨g, 0, none⟩) := eval_tmp (h.slots 20 22 rfl (gd hdep))
      exact op_value (v := .pointer (some ⟨g, 0, none⟩)) rfl rfl (by simp [execOp, hv]) ⟨_, _, _, _, h.put 21 23 (by omega) rfl ⟨by omega, fun k hk => by omega⟩ (fun h => by omega)⟩
    · simp at ho
      subst ho
      simp [Region.binds] at hdep
      have hv : a.eval (.tmp 23) = .pointer (some ⟨g, 0, none⟩) := eval_tmp (h.slots 21 23 rfl (gd hdep))
      exact op_value (v := .pointer (some (tgt g 3))) rfl rfl (by simp [execOp, hv, fa3, Result.andThen]) ⟨_, _, _, _, h.put 22 24 (by omega) rfl ⟨by omega, fun k hk => by omega⟩ (fun h => by omega)⟩
    · simp at ho
      subst ho
      simp [Region.binds] at hdep
      have hs : a.tmps[21]? = some (.func (.func 66) #[] #[]) := h.slots 19 21 rfl (gd hdep.1)
      have hx : a.tmps[24]? = some (.pointer (some (tgt g 3))) := h.slots 22 24 rfl (gd hdep.2.1)
      exact op_callnum1 rfl hs hx ⟨_, _, _, _, h.call 3 25 _ (by omega) hff rfl⟩
    · simp at ho
      subst ho
      simp [Region.binds] at hdep
      obtain ⟨w2, hr2, hl2⟩ := h.ins 3 (by omega) hff (gd hdep.1) (gd hdep.2)
      have hm : a.eval (.tmp 5) = .map (some m) := eval_tmp (h.slots 0 5 rfl (gd hdep.1))
      have hx : a.eval (.tmp 25) = cloV 3 (B 3) := eval_tmp (h.slots 23 25 rfl (gd hdep.2))
      exact op_ins rfl hm hx hr2 ⟨_, _, _, _, hl2⟩
    · clear ho hdep
      exact op_move rfl (eval_tmp h.t4) ⟨_, _, _, _, h.put 25 26 (by omega) rfl ⟨by omega, fun k hk => by omega⟩ (fun h => by omega)⟩
    · clear ho hdep
      exact op_move rfl (eval_tmp h.t0) ⟨_, _, _, _, h.put 26 27 (by omega) rfl ⟨by omega, fun k hk => by omega⟩ (fun h => by omega)⟩
    · simp at ho
      subst ho
      simp [Region.binds] at hdep
      have hv : a.eval (.tmp 27) = .pointer (some ⟨g, 0, none⟩) := eval_tmp (h.slots 26 27 rfl (gd hdep))
      exact op_value (v := .pointer (some ⟨g, 0, none⟩)) rfl rfl (by simp [execOp, hv]) ⟨_, _, _, _, h.put 27 28 (by omega) rfl ⟨by omega, fun k hk => by omega⟩ (fun h => by omega)⟩
    · simp at ho
      subst ho
      simp [Region.binds] at hdep
      have hv : a.eval (.tmp 28) = .pointer (some ⟨g, 0, none⟩) := eval_tmp (h.slots 27 28 rfl (gd hdep))
      exact op_value (v := .pointer (some (tgt g 4))) rfl rfl (by simp [execOp, hv, fa4, Result.andThen]) ⟨_, _, _, _, h.put 28 29 (by omega) rfl ⟨by omega, fun k hk => by omega⟩ (fun h => by omega)⟩
    · simp at ho
      subst ho
      simp [Region.binds] at hdep
      have hs : a.tmps[26]? = some (.func (.func 68) #[] #[]) := h.slots 25 26 rfl (gd hdep.1)
      have hx : a.tmps[29]? = some (.pointer (some (tgt g 4))) := h.slots 28 29 rfl (gd hdep.2.1)
      exact op_calldig1 rfl hs hx ⟨_, _, _, _, h.call 4 30 _ (by omega) hff rfl⟩
    · simp at ho
      subst ho
      simp [Region.binds] at hdep
      obtain ⟨w2, hr2, hl2⟩ := h.ins 4 (by omega) hff (gd hdep.1) (gd hdep.2)
      have hm : a.eval (.tmp 5) = .map (some m) := eval_tmp (h.slots 0 5 rfl (gd hdep.1))
      have hx : a.eval (.tmp 30) = cloV 4 (B 4) := eval_tmp (h.slots 29 30 rfl (gd hdep.2))
      exact op_ins rfl hm hx hr2 ⟨_, _, _, _, hl2⟩
    · clear ho hdep
      exact op_move rfl (eval_tmp h.t4) ⟨_, _, _, _, h.put 31 31 (by omega) rfl ⟨by omega, fun k hk => by omega⟩ (fun h => by omega)⟩
    · clear ho hdep
      exact op_move rfl (eval_tmp h.t0) ⟨_, _, _, _, h.put 32 32 (by omega) rfl ⟨by omega, fun k hk => by omega⟩ (fun h => by omega)⟩
    · simp at ho
      subst ho
      simp [Region.binds] at hdep
      have hv : a.eval (.tmp 32) = .pointer (some ⟨g, 0, none⟩) := eval_tmp (h.slots 32 32 rfl (gd hdep))
      exact op_value (v := .pointer (some ⟨g, 0, none⟩)) rfl rfl (by simp [execOp, hv]) ⟨_, _, _, _, h.put 33 33 (by omega) rfl ⟨by omega, fun k hk => by omega⟩ (fun h => by omega)⟩
    · simp at ho
      subst ho
      simp [Region.binds] at hdep
      have hv : a.eval (.tmp 33) = .pointer (some ⟨g, 0, none⟩) := eval_tmp (h.slots 33 33 rfl (gd hdep))
      exact op_value (v := .pointer (some (tgt g 5))) rfl rfl (by simp [execOp, hv, fa5, Result.andThen]) ⟨_, _, _, _, h.put 34 34 (by omega) rfl ⟨by omega, fun k hk => by omega⟩ (fun h => by omega)⟩
    · simp at ho
      subst ho
      simp [Region.binds] at hdep
      have hs : a.tmps[31]? = some (.func (.func 68) #[] #[]) := h.slots 31 31 rfl (gd hdep.1)
      have hx : a.tmps[34]? = some (.pointer (some (tgt g 5))) := h.slots 34 34 rfl (gd hdep.2.1)
      exact op_calldig1 rfl hs hx ⟨_, _, _, _, h.call 5 35 _ (by omega) hff rfl⟩
    · simp at ho
      subst ho
      simp [Region.binds] at hdep
      obtain ⟨w2, hr2, hl2⟩ := h.ins 5 (by omega) hff (gd hdep.1) (gd hdep.2)
      have hm : a.eval (.tmp 5) = .map (some m) := eval_tmp (h.slots 0 5 rfl (gd hdep.1))
      have hx : a.eval (.tmp 35) = cloV 5 (B 5) := eval_tmp (h.slots 35 35 rfl (gd hdep.2))
      exact op_ins rfl hm hx hr2 ⟨_, _, _, _, hl2⟩
    · simp at ho
      subst ho
      simp [Region.binds] at hdep
      have h0 : listed.getD 0 false = true := gd hdep.1
      have hv : a.eval (.tmp 5) = .map (some m) := eval_tmp (h.slots 0 5 rfl h0)
      exact op_move rfl hv ⟨_, _, _, _, h.put 37 36 (by omega) rfl ⟨by omega, fun k hk => by omega⟩ (fun _ => h0)⟩
    · simp at ho
      subst ho
      simp [Region.binds] at hdep
      have h37 : listed.getD 37 false = true := gd hdep.1
      have hv : a.eval (.tmp 36) = .map (some m) := eval_tmp (h.slots 37 36 rfl h37)
      exact op_value (v := .map (some m)) rfl rfl (by simp [execOp, hv]) ⟨_, _, _, _, h.put 38 2 (by omega) rfl ⟨by omega, fun k hk => by omega⟩ (fun _ => h.dep37 h37)⟩
end Go.Proofs.YteaagngikiaokaaDoor
