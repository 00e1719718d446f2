/- More lemmas on memory: what lies in a slice is appended to a row of the call's own. -/
import Derived.Test.YtoaaplngdomdcaaMem2
import Derived.Test.YtoaaplngdomdcaaKit
namespace Go.Proofs.Ytoaaplngdomdcaa
open Go.RowKit

theorem run_append_none {P : Program} (w : World) (t ty e : TypeId) (i : TypeInfo) (ht : P.underlying t = some (.slice e)) (hi : P.info? e = some i) (A : Option Addr) (n c d : Nat) (hn : n ≤ c) :
    (Builtin.append_ #[t, t] ty #[.slice A n c, .slice none 0 d]).run P w = .ok (.slice A n c) w := by
  cases A with
  | none => simp [Builtin.append_, run_underlying ht, sizeOf, typeInfo, hi, Builtin.lenOf, Builtin.firstCells, loadCells, loadCellsFrom, storeCells, hn]
  | some a => simp [Builtin.append_, run_underlying ht, sizeOf, typeInfo, hi, Builtin.lenOf, Builtin.firstCells, loadCells, loadCellsFrom, storeCells, hn]

theorem run_pushS {P : Program} {t e : TypeId} {z : Value} {bytes : Nat} (T : Elem1 P t e z bytes) (ty : TypeId) {w : World} {base : Nat} {v : Value} {n : Nat} {xs : List Value} (hown : w.ownsRow base e 1 v n xs)
    {u : Value} {m : Nat} {ys : List Value} (hu : Sl w 1 u m ys) (h63 : n + m ≤ maxLen) (hbytes : (n + m) * bytes ≤ 140737488355328) (hbase : base ≤ w.heap.size) (h1 : ∀ y ∈ ys, y.oneCell' = true) :
    ∃ v' w', (Builtin.append_ #[t, t] ty #[v, u]).run P w = .ok v' w' ∧ w'.ownsRow base e 1 v' (n + m) (xs ++ ys) ∧ w.grownBy w' v.ownBlock ∧ (v'.ownBlock = v.ownBlock ∨ v'.ownBlock = some w.heap.size) := by
  obtain ⟨i, hi, hz, hs, hb⟩ := info_parts T.hi
  obtain ⟨hl, A, c, rfl, hc, hm, hcell⟩ := hu
  have hpos : (∃ ad, A = some ad ∧ ∀ (j : Nat) (x : Value), ys[j]? = some x → w.cell? (ad.add j) = some x) ∨ (A = none ∧ m = 0) := by
    rcases Nat.eq_zero_or_pos m with h0 | h0
    · subst h0
      cases A with
      | none => exact .inr ⟨rfl, rfl⟩
      | some ad =>
        have : ys = [] := List.eq_nil_of_length_eq_zero (by simpa using hl)
        subst this
        exact .inl ⟨ad, rfl, fun j x hx => by simp at hx⟩
    · obtain ⟨b, o, rfl, _, hcs⟩ := hcell h0
      refine .inl ⟨_, rfl, fun j x hx => ?_⟩
      have hj := (List.getElem?_eq_some_iff.1 hx).1
      have ea : (⟨b, o, none⟩ : Addr).add j = ⟨b, o + j, none⟩ := by simp [Addr.add]
      rw [ea, hcs j (by omega), hx]
  rcases hpos with ⟨ad, rfl, hcs⟩ | ⟨rfl, rfl⟩
  · obtain ⟨v', w', h2, h3, h4, -, h5⟩ := run_append_own_at (P := P) w base t ty e i z 1 bytes T.ht hi hz hs hb T.hz (by omega) v n xs hown ad m c ys hl hcs h1 h63 hbytes hbase
    exact ⟨v', w', h2, h3, h4, h5⟩
  · have : ys = [] := List.eq_nil_of_length_eq_zero (by simpa using hl)
    subst this
    obtain ⟨_, A', c', rfl, hn, -⟩ := Sl.of_own hown
    exact ⟨_, w, run_append_none w t ty e i T.ht hi A' n c' c hn, by simpa using hown, ⟨rfl, rfl, rfl, Nat.le_refl _, fun _ _ _ => rfl⟩, .inl rfl⟩

/-- 'append(out, s...)', out a row of bytes of the call's own. -/
theorem wpList_pushV {P : Program} {t e : TypeId} (T : Elem1 P t e (.int .u8 0) 1) {w : World} {base : Nat} {v : Value} {l : List UInt8} (hown : Own w base e v l)
    {w0 : World} (hb : Below base w0 w) (hbase : base ≤ w.heap.size) {u : Value} {m : List UInt8} (hu : By w u m) (hlen : l.length + m.length ≤ 140737488355328)
    {ops : Array Oper} {rest : List Oper} {o : Oper} {a : Act} {Q : Exit → Act → World → Prop} (hgd : o.guard = none) (s y : Operand)
    (ho : o.op = .call { callee := .builtin .append, args := #[s, y], argTypes := #[t, t] }) (hs : a.eval s = v) (hx : a.eval y = u)
    (h : ∀ v' w', Own w' base e v' (l ++ m) → Below base w0 w' → w.grownBy w' v.ownBlock → (v'.ownBlock = v.ownBlock ∨ v'.ownBlock = some w.heap.size) → wpList P ops Q rest (a.put o.dst v') w') :
    wpList P ops Q (o :: rest) a w := by
  refine wpList_plain hgd fun K hK => ?_
  obtain ⟨v', w', hrun, h3, h4, h6⟩ := run_pushS (P := P) T o.type hown hu (by unfold maxLen; omega) (by omega) hbase fun x hx => by
    obtain ⟨x, _, rfl⟩ := List.mem_map.1 hx
    rfl
  unfold Oper.wp execOp
  simp only [ho, resolve, invoke, builtin, Sem.run_bind, Sem.run_pure, Result.andThen_ok, List.map_toArray, List.map_cons, List.map_nil, hs, hx, hrun]
  refine hK _ _ (h v' w' ?_ (hb.grown h4 hbase fun k hk => (hown.lt k hk).1) h4 h6)
  unfold Own
  rw [bcells_append, List.length_append]
  exact h3
end Go.Proofs.Ytoaaplngdomdcaa
