/- A region that draws its order, whose last operation waits for all the others: these in any order, then that one. It holds of every program. -/
import Derived.OrdersHeld
import Derived.StillTail
import Derived.Deep.RegionHeld
namespace Go.Proofs.Ytoaaplngdomdcaa
open Go

section
variable {P : Program} {Q : Exit → Act → World → Prop} {md : Region.Mode} {ops hd : Array Oper} {o : Oper}

/-- What is asked behind the others: the last one's step. -/
def Behind (P : Program) (o : Oper) (Q : Exit → Act → World → Prop) : Exit → Act → World → Prop
  | .normal, a, w => o.wp P a w (Q .normal) Q
  | e, a, w => Q e a w
theorem push_getD (l : Array Bool) (k : Nat) : (l.push false).getD k false = l.getD k false := by
  rcases Nat.lt_trichotomy k l.size with h | h | h
  · simp [Array.getD, h, Nat.lt_succ_of_lt h, Array.getElem_push_lt h]
  · subst h; simp [Array.getD]
  · simp [Array.getD, Nat.not_lt.2 (Nat.le_of_lt h), show ¬ k < l.size + 1 by omega]
theorem push_getD' (l : Array Bool) (k : Nat) (h : k < l.size) : (l.push false).getD k true = l.getD k true := by
  simp [Array.getD, h, Nat.lt_succ_of_lt h, Array.getElem_push_lt h]
theorem push_set (l : Array Bool) (k : Nat) (h : k < l.size) : (l.push false).setIfInBounds k true = (l.setIfInBounds k true).push false := by
  apply Array.ext_getElem?
  intro i
  rw [Array.getElem?_setIfInBounds, Array.getElem?_push, Array.getElem?_push, Array.getElem?_setIfInBounds, Array.size_push, Array.size_setIfInBounds]
  by_cases e : k = i
  · subst e
    rw [if_pos rfl, if_pos (by omega), if_neg (by omega), if_pos rfl, if_pos h]
  · rw [if_neg e, if_neg e]
theorem hd_at (hops : ops = hd.push o) {i : Nat} (hi : i < hd.size) : ops[i]? = hd[i]? := by
  rw [hops, Array.getElem?_push, if_neg (by omega)]
theorem ready_hd (hops : ops = hd.push o) {l : Array Bool} (hl : l.size = hd.size) {i : Nat} (hi : i < hd.size) : i ∈ Region.ready md ops (l.push false) ↔ i ∈ Region.ready md hd l := by
  rw [mem_ready, mem_ready, push_getD' l i (by omega), hd_at hops hi]
  simp only [push_getD]
theorem wpOp_hd (hops : ops = hd.push o) (hg : (ops.all fun x => x.guard.isNone) = true) {i : Nat} (hi : i < hd.size) {K : Act → World → Prop} {a : Act} {w : World} (h : wpOp P hd (Behind P o Q) i K a w) : wpOp P ops Q i K a w := by
  unfold wpOp at *
  rw [hd_at hops hi]
  obtain ⟨x, hx⟩ : ∃ x, hd[i]? = some x := ⟨_, Array.getElem?_eq_getElem hi⟩
  rw [hx] at h ⊢
  have hgx : x.guard = none := by
    rw [Array.all_eq_true_iff_forall_mem] at hg
    have hm : x ∈ ops := by rw [hops]; exact Array.mem_push_of_mem o (Array.mem_of_getElem? hx)
    simpa using hg x hm
  have hw : ∀ y, Region.wanted x y = true := fun y => by simp [Region.wanted, hgx]
  simp only [hw, if_true] at h ⊢
  exact h.imp (fun h => h) (fun ⟨h1, h2⟩ => ⟨h1, h2⟩)
/-- Each operation waits for earlier ones alone. -/
def lowB (ops : Array Oper) : Bool := (List.range ops.size).all fun i => ((ops[i]?).map fun o => o.after.all fun e => decide (e.on < i)).getD true
theorem lowB_spec (h : lowB ops = true) {i : Nat} {x : Oper} (hx : ops[i]? = some x) : ∀ e ∈ x.after, e.on < i := fun e he => by
  have h1 := List.all_eq_true.1 h i (List.mem_range.2 (Array.getElem?_eq_some_iff.1 hx).1)
  rw [hx] at h1
  simp only [Option.map_some, Option.getD_some] at h1
  rw [Array.all_eq_true_iff_forall_mem] at h1
  simpa using h1 e he
theorem wpAny_last (hops : ops = hd.push o) (hg : (ops.all fun x => x.guard.isNone) = true) (hs : Region.sinkB md ops hd.size = true) (hlow : lowB ops = true) :
    ∀ (f : Nat) (l : Array Bool) (a : Act) (w : World), HeadInv md ops hd.size (l.push false) → l.size = hd.size → wpAny P md hd (Behind P o Q) f l a w → wpAny P md ops Q (f + 1) (l.push false) a w := by
  have hn : hd.size < ops.size := by rw [hops]; simp
  have hc : Region.chainB md ops hd.size = true := by
    unfold Region.chainB
    rw [List.all_eq_true]
    intro t ht
    have := List.mem_range.1 ht
    rw [hops, Array.size_push] at this
    simp only [Bool.or_eq_true, decide_eq_true_eq]
    exact .inl (by omega)
  have hon : ops[hd.size]? = some o := by rw [hops]; simp
  have hgo : ∀ y, Region.wanted o y = true := fun y => by
    rw [Array.all_eq_true_iff_forall_mem] at hg
    have := hg o (by rw [hops]; simp)
    simp [Region.wanted, show o.guard = none by simpa using this]
  -- nothing of the others may come up any more: the last one does
  have fin : ∀ (g : Nat) (l : Array Bool) (a : Act) (w : World), l.size = hd.size → Region.ready md hd l = [] → Behind P o Q .normal a w → wpAny P md ops Q (g + 1) (l.push false) a w := by
    intro g l a w hl hr hb
    have all : ∀ i, i < hd.size → l.getD i false = true := by
      intro i
      induction i using Nat.strongRecOn with
      | ind i ih =>
        intro hi
        rcases hbl : l.getD i false with _ | _
        · exfalso
          have hmem : i ∈ Region.ready md hd l := by
            obtain ⟨x, hx⟩ : ∃ x, hd[i]? = some x := ⟨_, Array.getElem?_eq_getElem hi⟩
            refine mem_ready.2 ⟨getD_in (by omega) hbl, x, hx, fun e he _ => ?_⟩
            have := lowB_spec hlow ((hd_at hops hi).trans hx) e he
            exact ih e.on this (by omega)
          rw [hr] at hmem
          cases hmem
        · rfl
    have none_ : ∀ i, i < hd.size → (l.push false).getD i true = true := fun i hi => by
      rw [push_getD' l i (by omega)]
      have := all i hi
      simp [Array.getD, show i < l.size by omega] at this ⊢
      exact this
    have hmem : hd.size ∈ Region.ready md ops (l.push false) := by
      refine mem_ready.2 ⟨by rw [← hl]; simp [Array.getD], o, hon, fun e he _ => ?_⟩
      rw [push_getD]
      exact all e.on (lowB_spec hlow hon e he)
    refine ⟨fun h0 => (by rw [h0] at hmem; cases hmem), fun i hi => ?_⟩
    have hie : i = hd.size := by
      obtain ⟨h1, x, hx, _⟩ := mem_ready.1 hi
      have := (Array.getElem?_eq_some_iff.1 hx).1
      rw [hops, Array.size_push] at this
      rcases Nat.lt_or_ge i hd.size with h | h
      · rw [none_ i h] at h1; cases h1
      · omega
    subst hie
    have hfull : Region.ready md ops ((l.push false).setIfInBounds hd.size true) = [] := by
      rw [List.eq_nil_iff_forall_not_mem]
      intro i hi
      obtain ⟨h1, x, hx, _⟩ := mem_ready.1 hi
      have := (Array.getElem?_eq_some_iff.1 hx).1
      rw [hops, Array.size_push] at this
      rcases Nat.lt_or_ge i hd.size with h | h
      · rw [getD_set_ne true (by omega), none_ i h] at h1; cases h1
      · have : i = hd.size := by omega
        subst this
        simp [Array.getD, hl] at h1
    unfold wpOp
    simp only [hon, hgo, if_true]
    refine .inl (Oper.wp_mono (fun a w hq => ?_) hb)
    cases g with
    | zero => exact ⟨hfull, hq⟩
    | succ g => exact ⟨fun _ => hq, fun i hi => by rw [hfull] at hi; cases hi⟩
  intro f
  induction f with
  | zero => intro l a w inv hl h; exact fin 0 l a w hl h.1 h.2
  | succ f ih =>
    intro l a w inv hl h
    by_cases hr : Region.ready md hd l = []
    · exact fin (f + 1) l a w hl hr (h.1 hr)
    · obtain ⟨i, hi⟩ := List.exists_mem_of_ne_nil _ hr
      have hi2 : i < hd.size := by
        obtain ⟨_, x, hx, _⟩ := mem_ready.1 hi
        exact (Array.getElem?_eq_some_iff.1 hx).1
      have hun : (l.push false).getD i true = false := by
        rw [push_getD' l i (by omega)]
        exact (mem_ready.1 hi).1
      have hi' := (ready_hd hops hl hi2).2 hi
      refine ⟨fun h0 => (by rw [h0] at hi'; cases hi'), fun j hj => ?_⟩
      have hjn : j < hd.size := by
        rcases Nat.lt_or_ge j hd.size with h | h
        · exact h
        · exact absurd hj (tail_waits hs hc hn inv _ i rfl hi2 hun j h)
      refine wpOp_mono (fun a' w' h' => ?_) (wpOp_hd hops hg hjn (h.2 j ((ready_hd hops hl hjn).1 hj)))
      rw [push_set l j (by omega)]
      exact ih _ a' w' (by rw [← push_set l j (by omega)]; exact inv.set hj hjn) (by simpa using hl) h'

/-- A region whose last operation waits for all the others. -/
theorem region_last {S : World → Prop} {id : Nat} {a : Act} {w : World} (hm : P.follows .mixedOrders = true) (hops : ops = hd.push o) (hg : (ops.all fun x => x.guard.isNone) = true) (hs : Region.sinkB .any ops hd.size = true) (hlow : lowB ops = true)
    (hS : S w.drew) (h : S w.drew → wpAnyH P .any hd (Behind P o Q) S hd.size (Array.replicate hd.size false) a w.drew) : (Code.region id ops true).wp P Q a w := by
  refine wp_region_any hm ?_
  have e : Array.replicate ops.size false = (Array.replicate hd.size false).push false := by rw [hops, Array.size_push, Array.replicate_succ]
  rw [e, show ops.size = hd.size + 1 by rw [hops, Array.size_push]]
  refine wpAny_last hops hg hs hlow _ _ _ _ ?_ (by simp) (wpAny_of_held _ _ _ _ (h hS))
  refine ⟨by rw [hops]; simp, fun j oj _ hl => ?_, fun t ht ht' => ?_⟩
  · rw [push_getD, getD_replicate_false] at hl; cases hl
  · rw [hops, Array.size_push] at ht'
    have : t = hd.size := by omega
    subst this
    have hx : (Array.replicate hd.size false).size = hd.size := by simp
    generalize Array.replicate hd.size false = z at hx
    rw [← hx]
    simp [Array.getD]
/-- The same, the last one by its number. -/
theorem region_last_at {S : World → Prop} {id : Nat} {a : Act} {w : World} (n : Nat) (ho : ops[n]? = some o) (hn : ops.size = n + 1) (hm : P.follows .mixedOrders = true) (hg : (ops.all fun x => x.guard.isNone) = true) (hs : Region.sinkB .any ops n = true) (hlow : lowB ops = true)
    (hS : S w.drew) (h : S w.drew → wpAnyH P .any (ops.toList.take n).toArray (Behind P o Q) S n (Array.replicate n false) a w.drew) : (Code.region id ops true).wp P Q a w := by
  have hsz : (ops.toList.take n).toArray.size = n := by simp; omega
  have hops : ops = (ops.toList.take n).toArray.push o := by
    apply Array.ext_getElem?
    intro i
    rw [Array.getElem?_push, hsz]
    by_cases e : i = n
    · rw [if_pos e, e, ho]
    · rw [if_neg e, ← Array.getElem?_toList, ← Array.getElem?_toList, List.toList_toArray]
      rcases Nat.lt_or_ge i n with h | h
      · rw [List.getElem?_take_of_lt h]
      · rw [List.getElem?_eq_none (by simp; omega), List.getElem?_eq_none (by simp; omega)]
  refine region_last hm hops hg (by rw [hsz]; exact hs) hlow hS ?_
  rw [hsz]
  exact h
theorem Behind.run {a : Act} {w : World} (h : o.wp P a w (Q .normal) Q) : Behind P o Q .normal a w := h
end
end Go.Proofs.Ytoaaplngdomdcaa
