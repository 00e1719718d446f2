/- A table that is lent, with marks behind it: what it is. -/
import Derived.Test.YteaagngikiaokaaDoorAwkA
import Derived.Test.YteaagngikiaokaaDoorUnpA
import Derived.Test.YteaagngikiaokaaDoorUebC
import Derived.Test.YteaagngikiaokaaDoorRefP
import Derived.Deep.RegionHeldLaw
namespace Go.Proofs.YteaagngikiaokaaDoor
open Go.RowKit

/-- 'append(rows, row)' at a step of a region that draws its order; the row lies in block g. -/
theorem step_push2 {P : Program} {t e : TypeId} {i : TypeInfo} {z : Value} {bytes : Nat} (ht : P.underlying t = some (.slice e)) (hi : P.info? e = some i) (hz : i.zero = some z) (hs : i.size = 2) (hby : i.bytes = bytes) (hzs : z.cells.size = 2)
    {w : World} {base : Nat} {v : Value} {n : Nat} {xs : List Value} (hown : w.ownsRow base e 2 v n xs)
    {w0 : World} (hb : Below base w0 w) (hbase : base ≤ w.heap.size) (c1 c2 : Value) {g : Nat} (hg : Blk w g e #[c1, c2]) (h1 : c1.oneCell' = true) (h2 : c2.oneCell' = true) (hn : n + 1 ≤ maxLen) (hbytes : (n + 1) * bytes ≤ 140737488355328)
    {ops : Array Oper} {o : Oper} {a : Act} {K : Act → World → Prop} {Q : Exit → Act → World → Prop} {E : Prop} (hgd : o.guard = none) (s y : Operand)
    (ho : o.op = .call { callee := .builtin .append, args := #[s, y], argTypes := #[t, t] }) (hs' : a.eval s = v) (hx : a.eval y = .slice (some ⟨g, 0, none⟩) 1 1)
    (h : ∀ v' w', w'.ownsRow base e 2 v' (n + 1) (xs ++ [c1, c2]) → Below base w0 w' → w.grownBy w' v.ownBlock → K (a.put o.dst v') w') :
    if Region.wanted o (yielded ops a.tmps) = true then Oper.wp P o a w K Q else E := by
  have hw : Region.wanted o (yielded ops a.tmps) = true := by simp [Region.wanted, hgd]
  rw [if_pos hw]
  have hn1 : ∀ j u, [c1, c2][j]? = some u → w.cell? ((⟨g, 0, none⟩ : Addr).add j) = some u :=
    World.news_of_block (w := w) (B := g) (cs := #[c1, c2]) (t := e) (fr := (0, 0)) hg
  obtain ⟨v', w', hrun, h3, h4, _, h6⟩ := run_append_own_at (P := P) w base t o.type e i z 2 bytes ht hi hz hs hby hzs (by omega) v n xs hown ⟨g, 0, none⟩ 1 1 [c1, c2] (by simp) hn1 (fun u hu => by
    simp only [List.mem_cons, List.mem_nil_iff, or_false] at hu
    rcases hu with rfl | rfl
    · exact h1
    · exact h2) hn hbytes hbase
  unfold Oper.wp execOp
  simp only [ho, resolve, invoke, builtin, Sem.run_bind, Sem.run_pure, Result.andThen_ok, List.map_toArray, List.map_cons, List.map_nil, hs', hx, hrun]
  exact h v' w' h3 (hb.grown h4 hbase fun k hk => (hown.lt k hk).1) h4

/-- What hangs on one block alone. -/
theorem own_same {w w' : World} {base : Nat} {e : TypeId} {sz n : Nat} {v : Value} {xs : List Value} (h : w.ownsRow base e sz v n xs) (hb : ∀ g, v.ownBlock = some g → w'.heap[g]? = w.heap[g]?) : w'.ownsRow base e sz v n xs := by
  refine ⟨h.1, ?_⟩
  rcases h.2 with h0 | ⟨g, cap, cur, hv, h1, h2, h3⟩
  · exact .inl h0
  · exact .inr ⟨g, cap, cur, hv, h1, (hb g (by rw [hv]; rfl)).trans h2, h3⟩
theorem Own.same {w w' : World} {base : Nat} {e : TypeId} {v : Value} {l : List UInt8} (h : Own w base e v l) (hb : ∀ g, v.ownBlock = some g → w'.heap[g]? = w.heap[g]?) : Own w' base e v l := own_same h hb
/-- A beginning of what is owned is owned. -/
theorem Own.front_ {w : World} {base : Nat} {e : TypeId} {g : Option Addr} {n cap : Nat} {l r : List UInt8} (h : Own w base e (.slice g n cap) (l ++ r)) (hr : 0 < r.length) : Own w base e (.slice g l.length cap) l := by
  unfold Own at *
  refine ⟨by simp, ?_⟩
  rcases h.2 with ⟨h0, h1⟩ | ⟨g', cap', cur, hv, h1, h2, h3, h4, h5, h6⟩
  · rw [List.length_append] at h1; omega
  · injection hv with e1 e2 e3
    subst e1 e3
    simp only [List.length_append, Nat.mul_one, bcells_append] at h3 h5 h6
    refine .inr ⟨g', cap, cur, rfl, h1, h2, by omega, h4, by omega, ?_⟩
    have := congrArg (List.take l.length) h6
    rw [List.take_take, Nat.min_eq_left (by omega), List.take_append_of_le_length (by simp)] at this
    rw [Nat.mul_one, this, List.take_of_length_le (by simp)]

def tMark : List UInt8 := [109, 97, 114, 107]
def mks70 (n : Nat) : List Rw := (List.range n).map fun i => (tMark, [UInt8.ofNat i])
theorem mks70_succ (n : Nat) : mks70 (n + 1) = mks70 n ++ [(tMark, [UInt8.ofNat n])] := by simp [mks70, List.range_succ]
@[simp] theorem mks70_length (n : Nat) : (mks70 n).length = n := by simp [mks70]

/-- The lists that are lent: pairs of a value and its bytes. -/
abbrev Ent := Value × List UInt8
def apts (E : List Ent) : Prop := E.Pairwise fun a b => a.1.ownBlock = none ∨ a.1.ownBlock ≠ b.1.ownBlock
def lentOf (L : List RowV) : List (List UInt8) := L.map fun x => x.2.2 ++ marks 0 x.2.2.length 70

/-- A table's rows in memory of the call's own, with their values, each in a block of its own. -/
structure Lnt (w : World) (base : Nat) (va ve : Value) (LA : List RowV) (E : List Ent) : Prop where
  rows : OwnR w base va LA
  each : w.ownsRow base 27 1 ve E.length (E.map (·.1))
  own : ∀ x ∈ E, Own w base 5 x.1 x.2
  apt : apts E

theorem Lnt.nil (w : World) (base : Nat) : Lnt w base (.slice none 0 0) (.slice none 0 0) [] [] :=
  ⟨OwnR.nil w base, World.ownsRow_nil w base _ 1, (fun x hx => by cases hx), List.Pairwise.nil⟩
theorem Lnt.below {w w' : World} {base : Nat} {va ve : Value} {LA : List RowV} {E : List Ent} (h : Lnt w base va ve LA E) (hb : Below w.heap.size w w') : Lnt w' base va ve LA E :=
  ⟨h.rows.below hb, own_below' h.each hb, fun x hx => (h.own x hx).below hb, h.apt⟩
theorem Lnt.same {w w' : World} {base : Nat} {va ve : Value} {LA : List RowV} {E : List Ent} (h : Lnt w base va ve LA E) (hi : Nat)
    (hb : ∀ g, base ≤ g → g < w.heap.size → g ≠ hi → w'.heap[g]? = w.heap[g]?) (h1 : va.ownBlock ≠ some hi) (h2 : ve.ownBlock ≠ some hi) (h3 : ∀ x ∈ E, x.1.ownBlock ≠ some hi) (h4 : ∀ x ∈ LA, x.2.1.ownBlock ≠ some hi) : Lnt w' base va ve LA E := by
  refine ⟨⟨own_same h.rows.1 fun g hg => ?_, fun x hx => (h.rows.2 x hx).same fun g hg => ?_⟩, own_same h.each fun g hg => ?_, fun x hx => (h.own x hx).same fun g hg => ?_, h.apt⟩
  · exact hb g (h.rows.1.lt g hg).1 (h.rows.1.lt g hg).2 (fun e => h1 (by rw [hg, e]))
  · exact hb g (World.ownsRow.lt (h.rows.2 x hx) g hg).1 (World.ownsRow.lt (h.rows.2 x hx) g hg).2 (fun e => h4 x hx (by rw [hg, e]))
  · exact hb g (h.each.lt g hg).1 (h.each.lt g hg).2 (fun e => h2 (by rw [hg, e]))
  · exact hb g (World.ownsRow.lt (h.own x hx) g hg).1 (World.ownsRow.lt (h.own x hx) g hg).2 (fun e => h3 x hx (by rw [hg, e]))

theorem own_far {w : World} {base g i : Nat} {e t : TypeId} {sz n : Nat} {v u : Value} {xs : List Value} {cs : Array Value} (h : w.ownsRow base e sz v n xs) (hb : Blk w g t cs) (hne : e ≠ t) : (w.setCell ⟨g, i, none⟩ u).ownsRow base e sz v n xs :=
  own_same h fun k hk => Below.heap_setCell w ⟨g, i, none⟩ u k (fun e' => by
    rcases own_blk_ne h hb hne with h0 | h0
    · rw [h0] at hk; cases hk
    · exact h0 (by rw [hk, e']))
theorem Lnt.setBox {w : World} {base g i : Nat} {va ve u : Value} {LA : List RowV} {E : List Ent} {cs : Array Value} (h : Lnt w base va ve LA E) (hb : Blk w g 25 cs) : Lnt (w.setCell ⟨g, i, none⟩ u) base va ve LA E :=
  ⟨⟨own_far h.rows.1 hb (by decide), fun x hx => own_far (h.rows.2 x hx) hb (by decide)⟩, own_far h.each hb (by decide), fun x hx => own_far (h.own x hx) hb (by decide), h.apt⟩
theorem Lnt.pushEach {w w' : World} {base : Nat} {va ve ve' v : Value} {l : List UInt8} {LA : List RowV} {E : List Ent} (h : Lnt w base va ve LA E) (hg : w.grownBy w' ve.ownBlock)
    (hn : w'.ownsRow base 27 1 ve' (E.length + 1) (E.map (·.1) ++ [v])) (ho : Own w base 5 v l) (hf : ∀ x ∈ E, x.1.ownBlock = none ∨ x.1.ownBlock ≠ v.ownBlock) : Lnt w' base va ve' LA (E ++ [(v, l)]) := by
  refine ⟨⟨own_grown h.rows.1 hg fun g hg he => own_ne h.rows.1 h.each (by decide) g hg he, fun x hx => own_grown (h.rows.2 x hx) hg fun g hg he => own_ne (h.rows.2 x hx) h.each (by decide) g hg he⟩, ?_, fun x hx => ?_, ?_⟩
  · rw [List.length_append, List.map_append]; exact hn
  · rcases List.mem_append.1 hx with hx | hx
    · exact own_grown (h.own x hx) hg fun g hg he => own_ne (h.own x hx) h.each (by decide) g hg he
    · simp only [List.mem_singleton] at hx
      subst hx
      exact own_grown ho hg fun g hg he => own_ne ho h.each (by decide) g hg he
  · refine List.pairwise_append.2 ⟨h.apt, List.pairwise_singleton _ _, fun a ha b hb => ?_⟩
    simp only [List.mem_singleton] at hb
    subst hb
    exact hf a ha
theorem Lnt.pushRow {w w' : World} {base : Nat} {va va' ve v : Value} {s : ByteArray} {l : List UInt8} {LA : List RowV} {E : List Ent} (h : Lnt w base va ve LA E) (hg : w.grownBy w' va.ownBlock)
    (hn : w'.ownsRow base 55 2 va' (LA.length + 1) (rcells LA ++ [.string s, v])) (ho : Own w base 5 v l) : Lnt w' base va' ve (LA ++ [(s, v, l)]) E := by
  refine ⟨⟨?_, fun x hx => ?_⟩, own_grown h.each hg fun g hg he => own_ne h.each h.rows.1 (by decide) g hg he, fun x hx => own_grown (h.own x hx) hg fun g hg he => own_ne (h.own x hx) h.rows.1 (by decide) g hg he, h.apt⟩
  · rw [List.length_append, rcells_append]; exact hn
  · rcases List.mem_append.1 hx with hx | hx
    · exact own_grown (h.rows.2 x hx) hg fun g hg he => own_ne (h.rows.2 x hx) h.rows.1 (by decide) g hg he
    · simp only [List.mem_singleton] at hx
      subst hx
      exact own_grown ho hg fun g hg he => own_ne ho h.rows.1 (by decide) g hg he
end Go.Proofs.YteaagngikiaokaaDoor
