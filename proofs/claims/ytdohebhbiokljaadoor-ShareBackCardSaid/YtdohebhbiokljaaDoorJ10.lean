/- Joined texts: Lists, Last, SbN. -/
import Derived.Test.YtdohebhbiokljaaDoorJ1
import Derived.OwnWalk
import Derived.OrdersHeld
import Derived.StillTail
import Derived.Deep.RegionHeld
import Derived.Test.YtdohebhbiokljaaDoorJ9

/- Lists of lists of bytes of the call's own. They hold of every program. -/
namespace Go.Proofs.YtdohebhbiokljaaDoor
open Go.RowKit

theorem own_ne' {w : World} {b1 b2 : Nat} {e1 e2 : TypeId} {s1 s2 : Nat} {v1 v2 : Value} {n1 n2 : Nat} {x1 x2 : List Value} (h1 : w.ownsRow b1 e1 s1 v1 n1 x1) (h2 : w.ownsRow b2 e2 s2 v2 n2 x2) (he : e1 ≠ e2) :
    v1.ownBlock = none ∨ v1.ownBlock ≠ v2.ownBlock := by
  rcases h1.2 with ⟨rfl, _⟩ | ⟨g, cap, cur, rfl, _, hh, _⟩
  · exact .inl rfl
  · refine .inr ?_
    rcases h2.2 with ⟨rfl, _⟩ | ⟨g', cap', cur', rfl, _, hh', _⟩
    · simp [Value.ownBlock]
    · intro hg
      have : g = g' := by simpa [Value.ownBlock] using hg
      subst this
      rw [hh] at hh'
      injection hh' with hh'
      injection hh' with _ ht
      exact he ht

theorem Own.mono_ {w : World} {b b' : Nat} {e : TypeId} {v : Value} {l : List UInt8} (h : Own w b e v l) (hb : b' ≤ b) : Own w b' e v l := by
  refine ⟨h.1, h.2.imp id ?_⟩
  rintro ⟨g, cap, cur, hv, hg, r⟩
  exact ⟨g, cap, cur, hv, by omega, r⟩

/-- A list of lists of bytes of the call's own (e: the byte's type, E: the list's). -/
def OwnL (w : World) (base : Nat) (e E : TypeId) (v : Value) (L : List (List UInt8)) : Prop :=
  ∃ xs, w.ownsRow base E 1 v L.length xs ∧ ∀ (i : Nat) (l : List UInt8), L[i]? = some l → ∃ x, xs[i]? = some x ∧ Own w base e x l
theorem OwnL.nil (w : World) (base : Nat) (e E : TypeId) : OwnL w base e E (.slice none 0 0) [] := ⟨[], World.ownsRow_nil w base E 1, fun i l h => by simp at h⟩
theorem OwnL.below {w w' : World} {base : Nat} {e E : TypeId} {v : Value} {L : List (List UInt8)} (h : OwnL w base e E v L) (hb : Below w.heap.size w w') : OwnL w' base e E v L := by
  obtain ⟨xs, h1, h2⟩ := h
  refine ⟨xs, own_below' h1 hb, fun i l hl => ?_⟩
  obtain ⟨x, hx, ho⟩ := h2 i l hl
  exact ⟨x, hx, ho.below hb⟩
theorem OwnL.kept {w w' : World} {base : Nat} {e E : TypeId} {v : Value} {L : List (List UInt8)} (h : OwnL w base e E v L) {g : Nat} {t : TypeId} {cs : Array Value} (hb : Blk w g t cs) (he : e ≠ t) (hE : E ≠ t)
    (hg : w.grownBy w' (some g)) : OwnL w' base e E v L := by
  obtain ⟨xs, h1, h2⟩ := h
  refine ⟨xs, h1.kept hg (own_blk_ne h1 hb hE), fun i l hl => ?_⟩
  obtain ⟨x, hx, ho⟩ := h2 i l hl
  exact ⟨x, hx, World.ownsRow.kept ho hg (own_blk_ne ho hb he)⟩
/-- One list more, as 'wpList_push1' gives it. -/
theorem OwnL.pushed {w w' : World} {base : Nat} {e E : TypeId} (he : e ≠ E) {v v' u : Value} {L : List (List UInt8)} {l : List UInt8} {xs : List Value} (h1 : w.ownsRow base E 1 v L.length xs)
    (h2 : ∀ (i : Nat) (l : List UInt8), L[i]? = some l → ∃ x, xs[i]? = some x ∧ Own w base e x l) (hu : Own w base e u l) (h' : w'.ownsRow base E 1 v' (L.length + 1) (xs ++ [u])) (hg : w.grownBy w' v.ownBlock) : OwnL w' base e E v' (L ++ [l]) := by
  have hl := h1.1
  refine ⟨xs ++ [u], by simpa using h', fun i m hm => ?_⟩
  by_cases hi : i < L.length
  · rw [List.getElem?_append_left hi] at hm
    obtain ⟨x, hx, ho⟩ := h2 i m hm
    exact ⟨x, by rw [List.getElem?_append_left (by omega)]; exact hx, World.ownsRow.kept ho hg (own_ne' ho h1 he)⟩
  · rw [List.getElem?_append_right (by omega)] at hm
    have hi2 : i = L.length := by
      rcases Nat.lt_or_ge L.length i with h | h
      · rw [List.getElem?_eq_none (by simp; omega)] at hm; cases hm
      · omega
    subst hi2
    rw [Nat.sub_self] at hm
    injection hm with hm
    subst hm
    exact ⟨u, by rw [List.getElem?_append_right (by omega), show L.length - xs.length = 0 by omega]; rfl, World.ownsRow.kept hu hg (own_ne' hu h1 he)⟩

/-- 'append(out, x)' at a step of a region that draws its order; what is appended lies in block g. -/
theorem step_push1 {P : Program} {t e : TypeId} {z : Value} {bytes : Nat} (T : Elem1 P t e z bytes) {w : World} {base : Nat} {v : Value} {n : Nat} {xs : List Value} (hown : w.ownsRow base e 1 v n xs)
    {w0 : World} (hb : Below base w0 w) (hbase : base ≤ w.heap.size) (hn : n + 1 ≤ maxLen) (hbytes : (n + 1) * bytes ≤ 140737488355328) {g : Nat} {u : Value} (hu : u.oneCell' = true) (hg : Blk w g e #[u])
    {ops : Array Oper} {o : Oper} {a : Act} {K : Act → World → Prop} {Q : Exit → Act → World → Prop} {E : Prop} (hgd : o.guard = none) (s y : Operand)
    (ho : o.op = .call { callee := .builtin .append, args := #[s, y], argTypes := #[t, t] }) (hs : a.eval s = v) (hx : a.eval y = .slice (some ⟨g, 0, none⟩) 1 1)
    (h : ∀ v' w', w'.ownsRow base e 1 v' (n + 1) (xs ++ [u]) → Below base w0 w' → w.grownBy w' v.ownBlock → K (a.put o.dst v') w') :
    if Region.wanted o (yielded ops a.tmps) = true then Oper.wp P o a w K Q else E := by
  have hw : Region.wanted o (yielded ops a.tmps) = true := by simp [Region.wanted, hgd]
  rw [if_pos hw]
  obtain ⟨i, hi, hz, h1, h2⟩ := info_parts T.hi
  have hn1 : ∀ j y, [u][j]? = some y → w.cell? ((⟨g, 0, none⟩ : Addr).add j) = some y := fun j y hj =>
    World.news_of_block (w := w) (B := g) (cs := #[u]) (t := e) (fr := (0, 0)) hg j y (by simpa using hj)
  obtain ⟨v', w', hrun, h3, h4, _, _⟩ := run_append_own_at (P := P) w base t o.type e i z 1 bytes T.ht hi hz h1 h2 T.hz (by omega) v n xs hown ⟨g, 0, none⟩ 1 1 [u] (by simp) hn1 (by simpa using hu) hn hbytes hbase
  unfold Oper.wp execOp
  simp only [ho, resolve, invoke, builtin, Sem.run_bind, Sem.run_pure, Result.andThen_ok, List.map_toArray, List.map_cons, List.map_nil, hs, hx, hrun]
  exact h v' w' h3 (hb.grown h4 hbase fun k hk => (hown.lt k hk).1) h4

/-- A list of lists of bytes that reads as L. -/
def Ls (w : World) (v : Value) (L : List (List UInt8)) : Prop :=
  ∃ xs, Sl w 1 v L.length xs ∧ ∀ (i : Nat) (l : List UInt8), L[i]? = some l → ∃ x, xs[i]? = some x ∧ By w x l
theorem Ls.below {w w' : World} {v : Value} {L : List (List UInt8)} (h : Ls w v L) (hb : Below w.heap.size w w') : Ls w' v L := by
  obtain ⟨xs, h1, h2⟩ := h
  refine ⟨xs, h1.below hb, fun i l hl => ?_⟩
  obtain ⟨x, hx, ho⟩ := h2 i l hl
  exact ⟨x, hx, ho.below hb⟩
theorem OwnL.ls {w : World} {base : Nat} {e E : TypeId} {v : Value} {L : List (List UInt8)} (h : OwnL w base e E v L) : Ls w v L := by
  obtain ⟨xs, h1, h2⟩ := h
  refine ⟨xs, Sl.of_own h1, fun i l hl => ?_⟩
  obtain ⟨x, hx, ho⟩ := h2 i l hl
  exact ⟨x, hx, ho.by_⟩
theorem Ls.form {w : World} {v : Value} {L : List (List UInt8)} (h : Ls w v L) :
    ∃ A c, v = .slice A L.length c ∧ L.length ≤ c ∧ c ≤ maxLen ∧
      (∀ k l, L[k]? = some l → ∃ b o x, A = some ⟨b, o, none⟩ ∧ b < w.heap.size ∧ w.cell? ⟨b, o + k, none⟩ = some x ∧ By w x l) := by
  obtain ⟨xs, h1, h2⟩ := h
  obtain ⟨A, c, hv, hn, hc, h3⟩ := Sl.form h1
  refine ⟨A, c, hv, hn, hc, fun k l hl => ?_⟩
  have hk : k < L.length := (List.getElem?_eq_some_iff.1 hl).1
  obtain ⟨b, o, hA, hlt, hcell⟩ := h3 (by omega)
  obtain ⟨x, hx, hb⟩ := h2 k l hl
  exact ⟨b, o, x, hA, hlt, by rw [hcell k (by omega), hx], hb⟩

/-- A row of cols bytes of which the first j are reckoned. -/
def fillr (cols j : Nat) (f : Nat → UInt8) : List UInt8 := (List.range j).map f ++ List.replicate (cols - j) 0
theorem fillr_zero (cols : Nat) (f : Nat → UInt8) : fillr cols 0 f = List.replicate cols 0 := by simp [fillr]
theorem fillr_full (cols : Nat) (f : Nat → UInt8) : fillr cols cols f = (List.range cols).map f := by simp [fillr]
theorem fillr_length {cols j : Nat} (f : Nat → UInt8) (h : j ≤ cols) : (fillr cols j f).length = cols := by simp [fillr]; omega
theorem fillr_set {cols j : Nat} (f : Nat → UInt8) (h : j < cols) : (fillr cols j f).set j (f j) = fillr cols (j + 1) f := by
  unfold fillr
  rw [List.set_append_right _ _ (by simp), List.length_map, List.length_range, Nat.sub_self, show cols - j = (cols - (j + 1)) + 1 by omega, List.replicate_succ, List.set_cons_zero, List.range_succ, List.map_append, List.append_assoc]
  rfl
theorem made_bytes1 (n : Nat) : (madeCells (Value.int .u8 0).cells (n * 1)).toList = bcells (List.replicate n 0) := by
  unfold bcells
  rw [List.map_replicate]
  have h1 : (madeCells (Value.int .u8 0).cells (n * 1)).toList = List.replicate n (.int .u8 0) := by
    apply List.ext_getElem?
    intro i
    have hm : ∀ x : Nat, x % 1 = 0 := fun x => Nat.mod_one x
    simp only [madeCells, Value.cells, Nat.mul_one, Array.toList_map, Array.toList_range, List.getElem?_map, List.getElem?_replicate]
    by_cases h : i < n
    · rw [List.getElem?_range h, if_pos h]; simp [Nat.mod_one]
    · rw [List.getElem?_eq_none (by simp; omega), if_neg h]; rfl
  rw [h1]
  rfl
end Go.Proofs.YtdohebhbiokljaaDoor

/- A region that draws its order, whose last operation waits for all the others: these in any order, then that one. It holds of every program. -/
namespace Go.Proofs.YtdohebhbiokljaaDoor
open Go

section
variable {P : Program} {Q : Exit → Act → World → Prop} {md : Region.Mode} {ops hd : Array Oper} {o : Oper}

/-- What is asked behind the others: the last one's step. -/
def Behind (P : Program) (o : Oper) (Q : Exit → Act → World → Prop) : Exit → Act → World → Prop
  | .normal, a, w => o.wp P a w (Q .normal) Q
  | e, a, w => Q e a w
theorem push_getD (l : Array Bool) (k : Nat) : (l.push false).getD k false = l.getD k false := by
  rcases Nat.lt_trichotomy k l.size with h | h | h
  · simp [Array.getD, h, Nat.lt_succ_of_lt h, Array.getElem_push_lt h]
  · subst h; simp [Array.getD]
  · simp [Array.getD, Nat.not_lt.2 (Nat.le_of_lt h), show ¬ k < l.size + 1 by omega]
theorem push_getD' (l : Array Bool) (k : Nat) (h : k < l.size) : (l.push false).getD k true = l.getD k true := by
  simp [Array.getD, h, Nat.lt_succ_of_lt h, Array.getElem_push_lt h]
theorem push_set (l : Array Bool) (k : Nat) (h : k < l.size) : (l.push false).setIfInBounds k true = (l.setIfInBounds k true).push false := by
  apply Array.ext_getElem?
  intro i
  rw [Array.getElem?_setIfInBounds, Array.getElem?_push, Array.getElem?_push, Array.getElem?_setIfInBounds, Array.size_push, Array.size_setIfInBounds]
  by_cases e : k = i
  · subst e
    rw [if_pos rfl, if_pos (by omega), if_neg (by omega), if_pos rfl, if_pos h]
  · rw [if_neg e, if_neg e]
theorem hd_at (hops : ops = hd.push o) {i : Nat} (hi : i < hd.size) : ops[i]? = hd[i]? := by
  rw [hops, Array.getElem?_push, if_neg (by omega)]
theorem ready_hd (hops : ops = hd.push o) {l : Array Bool} (hl : l.size = hd.size) {i : Nat} (hi : i < hd.size) : i ∈ Region.ready md ops (l.push false) ↔ i ∈ Region.ready md hd l := by
  rw [mem_ready, mem_ready, push_getD' l i (by omega), hd_at hops hi]
  simp only [push_getD]
theorem wpOp_hd (hops : ops = hd.push o) (hg : (ops.all fun x => x.guard.isNone) = true) {i : Nat} (hi : i < hd.size) {K : Act → World → Prop} {a : Act} {w : World} (h : wpOp P hd (Behind P o Q) i K a w) : wpOp P ops Q i K a w := by
  unfold wpOp at *
  rw [hd_at hops hi]
  obtain ⟨x, hx⟩ : ∃ x, hd[i]? = some x := ⟨_, Array.getElem?_eq_getElem hi⟩
  rw [hx] at h ⊢
  have hgx : x.guard = none := by
    rw [Array.all_eq_true_iff_forall_mem] at hg
    have hm : x ∈ ops := by rw [hops]; exact Array.mem_push_of_mem o (Array.mem_of_getElem? hx)
    simpa using hg x hm
  have hw : ∀ y, Region.wanted x y = true := fun y => by simp [Region.wanted, hgx]
  simp only [hw, if_true] at h ⊢
  exact h.imp (fun h => h) (fun ⟨h1, h2⟩ => ⟨h1, h2⟩)
/-- Each operation waits for earlier ones alone. -/
def lowB (ops : Array Oper) : Bool := (List.range ops.size).all fun i => ((ops[i]?).map fun o => o.after.all fun e => decide (e.on < i)).getD true
theorem lowB_spec (h : lowB ops = true) {i : Nat} {x : Oper} (hx : ops[i]? = some x) : ∀ e ∈ x.after, e.on < i := fun e he => by
  have h1 := List.all_eq_true.1 h i (List.mem_range.2 (Array.getElem?_eq_some_iff.1 hx).1)
  rw [hx] at h1
  simp only [Option.map_some, Option.getD_some] at h1
  rw [Array.all_eq_true_iff_forall_mem] at h1
  simpa using h1 e he
theorem wpAny_last (hops : ops = hd.push o) (hg : (ops.all fun x => x.guard.isNone) = true) (hs : Region.sinkB md ops hd.size = true) (hlow : lowB ops = true) :
    ∀ (f : Nat) (l : Array Bool) (a : Act) (w : World), HeadInv md ops hd.size (l.push false) → l.size = hd.size → wpAny P md hd (Behind P o Q) f l a w → wpAny P md ops Q (f + 1) (l.push false) a w := by
  have hn : hd.size < ops.size := by rw [hops]; simp
  have hc : Region.chainB md ops hd.size = true := by
    unfold Region.chainB
    rw [List.all_eq_true]
    intro t ht
    have := List.mem_range.1 ht
    rw [hops, Array.size_push] at this
    simp only [Bool.or_eq_true, decide_eq_true_eq]
    exact .inl (by omega)
  have hon : ops[hd.size]? = some o := by rw [hops]; simp
  have hgo : ∀ y, Region.wanted o y = true := fun y => by
    rw [Array.all_eq_true_iff_forall_mem] at hg
    have := hg o (by rw [hops]; simp)
    simp [Region.wanted, show o.guard = none by simpa using this]
  -- nothing of the others may come up any more: the last one does
  have fin : ∀ (g : Nat) (l : Array Bool) (a : Act) (w : World), l.size = hd.size → Region.ready md hd l = [] → Behind P o Q .normal a w → wpAny P md ops Q (g + 1) (l.push false) a w := by
    intro g l a w hl hr hb
    have all : ∀ i, i < hd.size → l.getD i false = true := by
      intro i
      induction i using Nat.strongRecOn with
      | ind i ih =>
        intro hi
        rcases hbl : l.getD i false with _ | _
        · exfalso
          have hmem : i ∈ Region.ready md hd l := by
            obtain ⟨x, hx⟩ : ∃ x, hd[i]? = some x := ⟨_, Array.getElem?_eq_getElem hi⟩
            refine mem_ready.2 ⟨getD_in (by omega) hbl, x, hx, fun e he _ => ?_⟩
            have := lowB_spec hlow ((hd_at hops hi).trans hx) e he
            exact ih e.on this (by omega)
          rw [hr] at hmem
          cases hmem
        · rfl
    have none_ : ∀ i, i < hd.size → (l.push false).getD i true = true := fun i hi => by
      rw [push_getD' l i (by omega)]
      have := all i hi
      simp [Array.getD, show i < l.size by omega] at this ⊢
      exact this
    have hmem : hd.size ∈ Region.ready md ops (l.push false) := by
      refine mem_ready.2 ⟨by rw [← hl]; simp [Array.getD], o, hon, fun e he _ => ?_⟩
      rw [push_getD]
      exact all e.on (lowB_spec hlow hon e he)
    refine ⟨fun h0 => (by rw [h0] at hmem; cases hmem), fun i hi => ?_⟩
    have hie : i = hd.size := by
      obtain ⟨h1, x, hx, _⟩ := mem_ready.1 hi
      have := (Array.getElem?_eq_some_iff.1 hx).1
      rw [hops, Array.size_push] at this
      rcases Nat.lt_or_ge i hd.size with h | h
      · rw [none_ i h] at h1; cases h1
      · omega
    subst hie
    have hfull : Region.ready md ops ((l.push false).setIfInBounds hd.size true) = [] := by
      rw [List.eq_nil_iff_forall_not_mem]
      intro i hi
      obtain ⟨h1, x, hx, _⟩ := mem_ready.1 hi
      have := (Array.getElem?_eq_some_iff.1 hx).1
      rw [hops, Array.size_push] at this
      rcases Nat.lt_or_ge i hd.size with h | h
      · rw [getD_set_ne true (by omega), none_ i h] at h1; cases h1
      · have : i = hd.size := by omega
        subst this
        simp [Array.getD, hl] at h1
    unfold wpOp
    simp only [hon, hgo, if_true]
    refine .inl (Oper.wp_mono (fun a w hq => ?_) hb)
    cases g with
    | zero => exact ⟨hfull, hq⟩
    | succ g => exact ⟨fun _ => hq, fun i hi => by rw [hfull] at hi; cases hi⟩
  intro f
  induction f with
  | zero => intro l a w inv hl h; exact fin 0 l a w hl h.1 h.2
  | succ f ih =>
    intro l a w inv hl h
    by_cases hr : Region.ready md hd l = []
    · exact fin (f + 1) l a w hl hr (h.1 hr)
    · obtain ⟨i, hi⟩ := List.exists_mem_of_ne_nil _ hr
      have hi2 : i < hd.size := by
        obtain ⟨_, x, hx, _⟩ := mem_ready.1 hi
        exact (Array.getElem?_eq_some_iff.1 hx).1
      have hun : (l.push false).getD i true = false := by
        rw [push_getD' l i (by omega)]
        exact (mem_ready.1 hi).1
      have hi' := (ready_hd hops hl hi2).2 hi
      refine ⟨fun h0 => (by rw [h0] at hi'; cases hi'), fun j hj => ?_⟩
      have hjn : j < hd.size := by
        rcases Nat.lt_or_ge j hd.size with h | h
        · exact h
        · exact absurd hj (tail_waits hs hc hn inv _ i rfl hi2 hun j h)
      refine wpOp_mono (fun a' w' h' => ?_) (wpOp_hd hops hg hjn (h.2 j ((ready_hd hops hl hjn).1 hj)))
      rw [push_set l j (by omega)]
      exact ih _ a' w' (by rw [← push_set l j (by omega)]; exact inv.set hj hjn) (by simpa using hl) h'

/-- A region whose last operation waits for all the others. -/
theorem region_last {S : World → Prop} {id : Nat} {a : Act} {w : World} (hm : P.follows .mixedOrders = true) (hops : ops = hd.push o) (hg : (ops.all fun x => x.guard.isNone) = true) (hs : Region.sinkB .any ops hd.size = true) (hlow : lowB ops = true)
    (hS : S w.drew) (h : S w.drew → wpAnyH P .any hd (Behind P o Q) S hd.size (Array.replicate hd.size false) a w.drew) : (Code.region id ops true).wp P Q a w := by
  refine wp_region_any hm ?_
  have e : Array.replicate ops.size false = (Array.replicate hd.size false).push false := by rw [hops, Array.size_push, Array.replicate_succ]
  rw [e, show ops.size = hd.size + 1 by rw [hops, Array.size_push]]
  refine wpAny_last hops hg hs hlow _ _ _ _ ?_ (by simp) (wpAny_of_held _ _ _ _ (h hS))
  refine ⟨by rw [hops]; simp, fun j oj _ hl => ?_, fun t ht ht' => ?_⟩
  · rw [push_getD, getD_replicate_false] at hl; cases hl
  · rw [hops, Array.size_push] at ht'
    have : t = hd.size := by omega
    subst this
    have hx : (Array.replicate hd.size false).size = hd.size := by simp
    generalize Array.replicate hd.size false = z at hx
    rw [← hx]
    simp [Array.getD]
/-- The same, the last one by its number. -/
theorem region_last_at {S : World → Prop} {id : Nat} {a : Act} {w : World} (n : Nat) (ho : ops[n]? = some o) (hn : ops.size = n + 1) (hm : P.follows .mixedOrders = true) (hg : (ops.all fun x => x.guard.isNone) = true) (hs : Region.sinkB .any ops n = true) (hlow : lowB ops = true)
    (hS : S w.drew) (h : S w.drew → wpAnyH P .any (ops.toList.take n).toArray (Behind P o Q) S n (Array.replicate n false) a w.drew) : (Code.region id ops true).wp P Q a w := by
  have hsz : (ops.toList.take n).toArray.size = n := by simp; omega
  have hops : ops = (ops.toList.take n).toArray.push o := by
    apply Array.ext_getElem?
    intro i
    rw [Array.getElem?_push, hsz]
    by_cases e : i = n
    · rw [if_pos e, e, ho]
    · rw [if_neg e, ← Array.getElem?_toList, ← Array.getElem?_toList, List.toList_toArray]
      rcases Nat.lt_or_ge i n with h | h
      · rw [List.getElem?_take_of_lt h]
      · rw [List.getElem?_eq_none (by simp; omega), List.getElem?_eq_none (by simp; omega)]
  refine region_last hm hops hg (by rw [hsz]; exact hs) hlow hS ?_
  rw [hsz]
  exact h
theorem Behind.run {a : Act} {w : World} (h : o.wp P a w (Q .normal) Q) : Behind P o Q .normal a w := h
end
end Go.Proofs.YtdohebhbiokljaaDoor

/- The program's OpenFront and Open. Printed by wip/sbn.py. -/
namespace Go.Proofs.YtdohebhbiokljaaDoor
open Go.RowKit

theorem results_three {P : Program} {fn : Func} {p u v : Tmp} {ty : TypeId} (h : fn.results = #[.cell p ty, .tmp u, .tmp v]) (tmps : Array Value) (w : World) (g : Nat) (t : TypeId) (cs : Array Value) (fr : Nat × Nat) (d : TypeDesc)
    (hp : tmps.getD p undef = .pointer (some ⟨g, 0, none⟩)) (hg : w.heap[g]? = some (.cells cs t fr))
    (hu : P.underlying ty = some d) (hd : (match d with | .struct _ | .array _ _ => true | _ => false) = true) (hi : (P.info? ty).map (·.size) = some cs.size) {x y : Value} (hx : tmps.getD u undef = x) (hy : tmps.getD v undef = y) :
    (results fn tmps).run P w = .ok (.tuple #[.agg cs, x, y]) w := by
  subst hx hy
  have hp' : tmps[p]?.getD undef = .pointer (some ⟨g, 0, none⟩) := by simpa using hp
  simp only [results, h]
  simp [Sem.run_bind, Result.andThen, hp', asAddr, run_loadVar_row w g t ty cs fr d hg hu hd hi]
def OpenFPost (l : List UInt8) (w : World) (e : Ending) (w' : World) : Prop := Below w.heap.size w w' ∧
  ((∃ at_, openF 4 l = (none, at_) ∧ e = .returned (.tuple #[.agg ZF, .int .i64 (at_ : Int), .int .i64 140])) ∨
   (∃ f va vb vc, openF 4 l = (some f, 0) ∧ e = .returned (.tuple #[.agg (frC f.num f.u va vb vc), .int .i64 0, .int .i64 0]) ∧ DsO w' w.heap.size va f.ch ∧ DsO w' w.heap.size vb f.bs ∧ DsO w' w.heap.size vc f.sg))
theorem plA_one (u : US) (L : Nat) : (plA u L).all (·.oneCell') = true := by simp [plA, Value.oneCell']
set_option maxRecDepth 100000 in
set_option maxHeartbeats 4000000 in
theorem openFront_any (v : Value) (l : List UInt8) (w : World) (h : By w v l) (ht : Tab w) (he : Err w) :
    Calls Tryd.prog 35 #[v] w (OpenFPost l w) := by
  obtain ⟨A, c, rfl, hlc, hcm, hca⟩ := h.form
  have n2 := Blk.new w 61 ZF
  have b2 := (Below.refl w.heap.size w).alloc (Nat.le_refl _) (.cells ZF 61)
  have Q1 : Hid (Calls Tryd.prog 61 #[.slice A l.length c, .int .i64 4] (w.alloc (.cells ZF 61)) (OpenPost 4 l (w.alloc (.cells ZF 61)))) := hide (opened_any _ l 4 (.inl rfl) _ (h.below b2) (ht.below b2) (he.below b2))
  have hz := ZF_zero
  obtain ⟨zf, hzf, hzf1, hzf2⟩ : ∃ Z, Z = ZF ∧ Z.size = 72 ∧ Z.all (·.oneCell') = true := ⟨_, rfl, ZF_size, ZF_one⟩
  rw [← hzf] at n2 b2 Q1 hz
  have HZ := hide (And.intro hzf1 (And.intro hzf2 hzf))
  have HBK := hide (fun W (hW : Below (w.alloc (.cells zf 61)).heap.size (w.alloc (.cells zf 61)) W) => n2.below' hW)
  have HB := hide b2
  have HLE := hide (show w.heap.size < (w.alloc (.cells zf 61)).heap.size from by simp)
  generalize hW0 : w.alloc (.cells zf 61) = W0 at *
  clear hzf hzf1 hzf2 n2 b2 ht he h hca
  go_enter Tryd.func35, Tryd.ntmps35
  go_wp2_with fail
  refine Q1.out.mono ?_
  rintro e w1 ⟨b1, hcase⟩
  obtain ⟨FC, PL, e1, e2, rfl, hF1, hF2, hP1, hP2, HC⟩ : ∃ (FC PL : Array Value) (e1 e2 : Int), e = .returned (.tuple #[.agg FC, .agg PL, .int .i64 e1, .int .i64 e2]) ∧ FC.size = 72 ∧ FC.all (·.oneCell') = true ∧ PL.size = 6 ∧ PL.all (·.oneCell') = true ∧
      Hid (∀ w2 w', Below w.heap.size w w' → Below w1.heap.size w1 w2 → w2.grownBy w' (some w.heap.size) → OpenFPost l w (.returned (.tuple #[.agg FC, .int .i64 e1, .int .i64 e2])) w') := by
    rcases hcase with ⟨at_, hop, rfl⟩ | ⟨f, va, vb, vc, hop, rfl, d1, d2, d3⟩
    · exact ⟨ZF, ZP, _, _, rfl, ZF_size, ZF_one, rfl, ZP_one, hide fun w2 w' hb _ _ => ⟨hb, .inl ⟨at_, hop, rfl⟩⟩⟩
    · have hop2 := (openF_ok hop).1
      have huw := (readU_one hop2.ueb).2.1
      obtain ⟨A1, c1, rfl, _, _, _⟩ := d1.ds.1.form
      obtain ⟨A2, c2, rfl, _, _, _⟩ := d2.ds.1.form
      obtain ⟨A3, c3, rfl, _, _, _⟩ := d3.ds.1.form
      exact ⟨_, _, 0, 0, rfl, frC_size huw, frC_one huw rfl rfl rfl, rfl, plA_one _ _, hide fun w2 w' hb h1 hg => ⟨hb, .inr ⟨f, _, _, _, hop, rfl, ((d1.below h1).keep hg HLE.out).mono (Nat.le_of_lt HLE.out), ((d2.below h1).keep hg HLE.out).mono (Nat.le_of_lt HLE.out), ((d3.below h1).keep hg HLE.out).mono (Nat.le_of_lt HLE.out)⟩⟩⟩
  have HF := hide (And.intro hF1 (And.intro hF2 (And.intro hP1 hP2)))
  have HB1 := hide b1
  clear hF1 hF2 hP1 hP2 b1 hcase Q1
  go_wp2_with (first
    | ((with_reducible change wpList _ _ _ (⟨none, .store _ (.tmp 5) _, _, _, _, _⟩ :: _) _ _); go_loud (refine wpList_store_row (o := ⟨none, .store _ (.tmp 5) _, _, _, _, _⟩) ((Blk.new w1 61 zf).alloc _) FC (by rw [HF.out.1, HZ.out.1]) (HF.out.2.1) rfl 61 _ _ rfl (by rw [HF.out.1]; kernel_rfl) rfl rfl ?_; intro w2 hb2 hg2; have p6 := (Blk.new (w1.alloc (.cells zf 61)) 78 #[.int .i64 0, .int .i64 0, .int .i64 0, .int .i64 0, .int .i64 0, .int .i64 0]).grown hg2 (by simp); simp only [World.size_alloc] at p6; have H2 := hide (And.intro hb2 (And.intro p6 ((((Below.refl w1.heap.size w1).alloc (Nat.le_refl _) (.cells zf 61)).alloc (by simp) _).grown hg2 (by simp; omega) (fun k hk => by cases hk; exact Nat.le_refl _)))); clear hb2 hg2 p6))
    | ((with_reducible change wpList _ _ _ (⟨none, .store _ (.tmp 6) _, _, _, _, _⟩ :: _) _ _); go_loud (refine wpList_store_row (o := ⟨none, .store _ (.tmp 6) _, _, _, _, _⟩) (H2.out.2.1) PL (by rw [HF.out.2.2.1]; rfl) (HF.out.2.2.2) rfl 78 _ _ rfl (by rw [HF.out.2.2.1]; kernel_rfl) rfl rfl ?_; intro w3 hb3 hg3; have H3 := hide (And.intro (H2.out.1.grown hg3 (by intro e; injection e with e; omega)) (H2.out.2.2.grown hg3 H2.out.2.2.size (fun k hk => by injection hk with hk; omega))); clear hb3 hg3))
    | ((with_reducible change wpList _ _ _ (⟨some 16, _, _, _, _, _⟩ :: _) _ _); refine wpList_load_row (o := ⟨some 16, .load _ _, _, _, _, _⟩) rfl 61 _ rfl w1.heap.size rfl 61 FC (0, 0) _ H3.out.1 Tryd.underlying61 rfl (by rw [HF.out.1]; kernel_rfl) ?_)
    | ((with_reducible change wpList _ _ _ (⟨none, .store _ (.tmp 2) _, _, _, _, _⟩ :: _) _ _); go_loud (refine wpList_store_row (o := ⟨none, .store _ (.tmp 2) _, _, _, _, _⟩) (HBK.out _ (Below.step HB1.out H3.out.2)) FC (by rw [HF.out.1, HZ.out.1]) (HF.out.2.1) rfl 61 _ _ rfl (by rw [HF.out.1]; kernel_rfl) rfl rfl ?_; intro w4 hb4 hg4; have H4 := hide (And.intro hb4 hg4); clear hb4 hg4)))
  have hb := Below.step HB.out (Below.step HB1.out H3.out.2)
  have hbel := hb.grown H4.out.2 hb.size (fun k hk => by injection hk with hk; omega)
  refine bodyPost_ret (results_three (x := .int .i64 e1) (y := .int .i64 e2) rfl _ _ w.heap.size 61 FC (0, 0) _ rfl H4.out.1 Tryd.underlying61 rfl (by rw [HF.out.1]; kernel_rfl) rfl rfl) rfl (HC.out _ _ hbel H3.out.2 H4.out.2)
end Go.Proofs.YtdohebhbiokljaaDoor
