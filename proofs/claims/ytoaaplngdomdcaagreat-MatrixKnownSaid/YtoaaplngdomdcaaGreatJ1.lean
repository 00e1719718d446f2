/- Joined texts: Mem, Kit, Lists, Nls, MwF, MatA, MatB, MatC, MatD, MatE, MwG, Mem2, Mem3. -/
import Derived.WalkKit
import Derived.Deep.AppendLies
import Derived.Deep.Draws
import Derived.Maps.AppendAt
import Derived.WalkSpells
import Derived.Deep.MidRow
import Derived.Lib.BufferRead
import Derived.Test.YtoaaplngdomdcaaGreatRows
import Derived.BigQuiet
import Derived.Deep.QuietTactic
import Derived.OwnWalk
import Derived.Shelf.Abstract

/- Lemmas on memory that the walks of this claim use: slices that read as lists, rows that a call made itself, what stays as it was. They hold of every program. -/
namespace Go.Proofs.YtoaaplngdomdcaaGreat
open Go.RowKit

theorem ret_int {k : IntKind} {a b : Int} (h : a = b) : Ending.returned (.int k a) = .returned (.int k b) := by rw [h]
theorem ret_bool {a b : Bool} (h : a = b) : Ending.returned (.bool a) = .returned (.bool b) := by rw [h]

theorem hide {p : Prop} (h : p) : Hid p := h

/-- A slice value of n elements of sz cells whose cells are xs. -/
def Sl (w : World) (sz : Nat) (v : Value) (n : Nat) (xs : List Value) : Prop :=
  xs.length = n * sz ∧ ∃ A c, v = .slice A n c ∧ n ≤ c ∧ c ≤ maxLen ∧
    (0 < n → ∃ b o, A = some ⟨b, o, none⟩ ∧ b < w.heap.size ∧ ∀ j, j < n * sz → w.cell? ⟨b, o + j, none⟩ = xs[j]?)

theorem Sl.keep {w w' : World} {sz : Nat} {v : Value} {n : Nat} {xs : List Value} (h : Sl w sz v n xs) (hs : w.heap.size ≤ w'.heap.size)
    (hb : ∀ b, b < w.heap.size → w'.heap[b]? = w.heap[b]?) : Sl w' sz v n xs := by
  obtain ⟨h1, A, c, hv, hn, hc, h2⟩ := h
  refine ⟨h1, A, c, hv, hn, hc, fun h0 => ?_⟩
  obtain ⟨b, o, hA, hlt, hcell⟩ := h2 h0
  exact ⟨b, o, hA, by omega, fun j hj => (World.cell?_of_block (w := w) (hb b hlt)).trans (hcell j hj)⟩

theorem Sl.below {w w' : World} {sz : Nat} {v : Value} {n : Nat} {xs : List Value} (h : Sl w sz v n xs) (hb : Below w.heap.size w w') : Sl w' sz v n xs :=
  h.keep hb.size hb.block

theorem below_drewN {B : Nat} {a w : World} (h : Below B a w) (n : Nat) : Below B a (w.drewN n) := ⟨h.os, h.tape, h.output, h.size, h.block⟩

/-- What is owned stays owned where no old block has turned. -/
theorem own_below {w w' : World} {base : Nat} {e : TypeId} {sz : Nat} {v : Value} {n : Nat} {xs : List Value} (h : w.ownsRow base e sz v n xs)
    {B : Nat} (hb : Below B w w') (hB : ∀ g, v.ownBlock = some g → g < B) : w'.ownsRow base e sz v n xs := by
  obtain ⟨h1, h2 | ⟨g, cap, cur, hv, hg, hh, r⟩⟩ := h
  · exact ⟨h1, .inl h2⟩
  · subst hv
    exact ⟨h1, .inr ⟨g, cap, cur, rfl, hg, (hb.block g (hB g rfl)).trans hh, r⟩⟩

theorem own_lt {w : World} {base : Nat} {e : TypeId} {sz : Nat} {v : Value} {n : Nat} {xs : List Value} (h : w.ownsRow base e sz v n xs) :
    ∀ g, v.ownBlock = some g → g < w.heap.size := fun g hg => (h.lt g hg).2

theorem own_below' {w w' : World} {base : Nat} {e : TypeId} {sz : Nat} {v : Value} {n : Nat} {xs : List Value} (h : w.ownsRow base e sz v n xs)
    (hb : Below w.heap.size w w') : w'.ownsRow base e sz v n xs := own_below h hb (own_lt h)

/-- An owned row reads as a slice. -/
theorem Sl.of_own {w : World} {base : Nat} {e : TypeId} {sz : Nat} {v : Value} {n : Nat} {xs : List Value} (h : w.ownsRow base e sz v n xs) : Sl w sz v n xs := by
  have hl := own_lt h
  obtain ⟨h1, ⟨hv, hn⟩ | ⟨g, cap, cur, hv, hg, hh, hn, hc, hs, ht⟩⟩ := h
  · subst hv hn
    exact ⟨h1, none, 0, rfl, Nat.le_refl _, by simp [maxLen], fun h => absurd h (by omega)⟩
  · subst hv
    refine ⟨h1, _, cap, rfl, hn, hc, fun h0 => ⟨g, 0, rfl, hl g rfl, fun j hj => ?_⟩⟩
    rw [Nat.zero_add, cell_of_row w g j cur e (0, 0) hh, ← ht, List.getElem?_take_of_lt hj]
    simp

theorem Sl.nil (w : World) (sz : Nat) : Sl w sz (.slice none 0 0) 0 [] := ⟨by simp, none, 0, rfl, Nat.le_refl _, by simp [maxLen], fun h => absurd h (by omega)⟩

/-- The value, its address where there is an element, and that element's cells. -/
theorem Sl.form {w : World} {sz : Nat} {v : Value} {n : Nat} {xs : List Value} (h : Sl w sz v n xs) :
    ∃ A c, v = .slice A n c ∧ n ≤ c ∧ c ≤ maxLen ∧ (0 < n → ∃ b o, A = some ⟨b, o, none⟩ ∧ b < w.heap.size ∧ ∀ j, j < n * sz → w.cell? ⟨b, o + j, none⟩ = xs[j]?) := h.2

/-! ### Bytes -/
def bcells (l : List UInt8) : List Value := l.map fun x => .int .u8 (x.toNat : Int)

@[simp] theorem bcells_length (l : List UInt8) : (bcells l).length = l.length := by simp [bcells]
theorem bcells_append (l r : List UInt8) : bcells (l ++ r) = bcells l ++ bcells r := by simp [bcells]
theorem bcells_one (x : UInt8) : bcells [x] = [.int .u8 (x.toNat : Int)] := rfl
theorem bcells_get (l : List UInt8) (k : Nat) : (bcells l)[k]? = (l[k]?).map fun x => .int .u8 (x.toNat : Int) := by simp [bcells]

/-- A slice of bytes that reads as l. -/
def By (w : World) (v : Value) (l : List UInt8) : Prop := Sl w 1 v l.length (bcells l)
theorem By.below {w w' : World} {v : Value} {l : List UInt8} (h : By w v l) (hb : Below w.heap.size w w') : By w' v l := Sl.below h hb
theorem By.keep {w w' : World} {v : Value} {l : List UInt8} (h : By w v l) (hs : w.heap.size ≤ w'.heap.size)
    (hb : ∀ b, b < w.heap.size → w'.heap[b]? = w.heap[b]?) : By w' v l := Sl.keep h hs hb
theorem By.nil (w : World) : By w (.slice none 0 0) [] := Sl.nil w 1
theorem By.form {w : World} {v : Value} {l : List UInt8} (h : By w v l) :
    ∃ A c, v = .slice A l.length c ∧ l.length ≤ c ∧ c ≤ maxLen ∧
      (∀ k x, l[k]? = some x → ∃ b o, A = some ⟨b, o, none⟩ ∧ b < w.heap.size ∧ w.cell? ⟨b, o + k, none⟩ = some (.int .u8 (x.toNat : Int))) := by
  obtain ⟨A, c, hv, hn, hc, h2⟩ := Sl.form h
  refine ⟨A, c, hv, hn, hc, fun k x hx => ?_⟩
  have hk : k < l.length := (List.getElem?_eq_some_iff.1 hx).1
  obtain ⟨b, o, hA, hlt, hcell⟩ := h2 (by omega)
  refine ⟨b, o, hA, hlt, ?_⟩
  rw [hcell k (by omega), bcells_get, hx]; rfl

/-- A row of bytes of the call's own (e: the byte's type number). -/
def Own (w : World) (base : Nat) (e : TypeId) (v : Value) (l : List UInt8) : Prop := w.ownsRow base e 1 v l.length (bcells l)
theorem Own.by_ {w : World} {base : Nat} {e : TypeId} {v : Value} {l : List UInt8} (h : Own w base e v l) : By w v l := Sl.of_own h
theorem Own.below {w w' : World} {base : Nat} {e : TypeId} {v : Value} {l : List UInt8} (h : Own w base e v l) (hb : Below w.heap.size w w') : Own w' base e v l := own_below' h hb
theorem Own.nil (w : World) (base : Nat) (e : TypeId) : Own w base e (.slice none 0 0) [] := World.ownsRow_nil w base e 1

/-- The slice type t over the element type e of one cell. -/
structure Elem1 (P : Program) (t e : TypeId) (z : Value) (bytes : Nat) : Prop where
  ht : P.underlying t = some (.slice e)
  hi : (P.info? e).map (fun i => (i.zero, i.size, i.bytes)) = some (some z, 1, bytes)
  hz : z.cells.size = 1

/-- 'append(out, x)' of one element of one cell, out nil or the call's own: the new value owns one more, the old one owns what it owned; what else may have turned: the row itself alone. -/
theorem run_push1 {P : Program} {t e : TypeId} {z : Value} {bytes : Nat} (T : Elem1 P t e z bytes) (ty : TypeId) {w : World} {base : Nat} {v : Value} {n : Nat} {xs : List Value} (hown : w.ownsRow base e 1 v n xs)
    (hbase : base ≤ w.heap.size) (hn : n + 1 ≤ maxLen) (hbytes : (n + 1) * bytes ≤ 140737488355328) (u : Value) (hu : u.oneCell' = true) :
    ∃ v' w', (Builtin.append_ #[t, t] ty #[v, .slice (some ⟨w.heap.size, 0, none⟩) 1 1]).run P (w.alloc (.cells #[u] e)) = .ok v' w' ∧ w'.ownsRow base e 1 v' (n + 1) (xs ++ [u]) ∧ w'.ownsRow base e 1 v n xs ∧
      w.grownBy w' v.ownBlock ∧ (v'.ownBlock = v.ownBlock ∨ ∀ g, v'.ownBlock = some g → w.heap.size ≤ g) := by
  obtain ⟨i, hi, hz, h1, h2⟩ := info_parts T.hi
  have hn1 : ∀ j y, [u][j]? = some y → (w.alloc (.cells #[u] e)).cell? ((⟨w.heap.size, 0, none⟩ : Addr).add j) = some y := fun j y hj => by
    have := World.news_of_block (w := w.alloc (.cells #[u] e)) (B := w.heap.size) (cs := #[u]) (t := e) (fr := (0, 0)) (heap_alloc_new w _) j y (by simpa using hj)
    exact this
  have ho1 := hown.alloc (.cells #[u] e)
  have hnl : ([u] : List Value).length = 1 * i.size := by simp [h1]
  have hbig : n + 1 ≤ 9223372036854775807 := by simp only [maxLen] at hn; omega
  have gb : ∀ {w' : World} {row : Option Nat}, (w.alloc (.cells #[u] e)).grownBy w' row → w.grownBy w' row := fun hg =>
    ⟨hg.os, hg.tape, hg.output, Nat.le_trans (by simp) hg.size, fun k hk hne => (hg.block k (by simp; omega) hne).trans (Below.heap_alloc w _ k hk)⟩
  obtain ⟨v', w', hrun, h3, h4, _, h6⟩ := run_append_own_at (P := P) (w.alloc (.cells #[u] e)) base t ty e i z 1 bytes T.ht hi hz h1 h2 T.hz (by omega) v n xs ho1 ⟨w.heap.size, 0, none⟩ 1 1 [u] rfl hn1 (by simpa using hu) hn hbytes (by simp; omega)
  refine ⟨v', w', hrun, h3, ?_, gb h4, ?_⟩
  · rcases ho1.2 with ⟨rfl, rfl⟩ | ⟨g, cap, cur, rfl, hbg, hg, hnc, hcm, hcs, htake⟩
    · have hx : xs = [] := List.eq_nil_of_length_eq_zero (by simpa using hown.1)
      subst hx
      exact World.ownsRow_nil w' base e 1
    · by_cases hroom : n + 1 ≤ cap
      · have hfit : n * i.size + [u].length ≤ cur.size := by rw [hcs, h1]; simp; omega
        have hr := run_append_room (P := P) (w.alloc (.cells #[u] e)) t ty e i T.ht hi g n cap cur hg ⟨w.heap.size, 0, none⟩ 1 1 [u] hnl hn1 (by simpa using hu) hroom hfit
        rw [hr] at hrun
        injection hrun with _ hw
        subst hw
        refine ⟨hown.1, .inr ⟨g, cap, _, rfl, hbg, setRow_heap _ g cur _ e _ hg, hnc, hcm, ?_, ?_⟩⟩
        · simp only [List.size_toArray, List.length_append, List.length_take, List.length_drop, Array.length_toList]
          have := hfit
          simp only [List.length_cons, List.length_nil] at *
          omega
        · have hl : (cur.toList.take (n * 1)).length = n := by rw [htake]; simpa using hown.1
          rw [h1, List.append_assoc, List.take_append_of_le_length (by omega), List.take_take, Nat.min_self, htake]
      · have holds : ∀ j y, xs[j]? = some y → (w.alloc (.cells #[u] e)).cell? ((⟨g, 0, none⟩ : Addr).add j) = some y := ho1.cells (g := g) rfl
        have hr := run_append_grow (P := P) (w.alloc (.cells #[u] e)) t ty e i z T.ht hi hz ⟨g, 0, none⟩ n cap xs (by rw [h1]; exact hown.1) holds ⟨w.heap.size, 0, none⟩ 1 1 [u] hnl hn1 (by omega) (by omega) (growslice_fits (by omega) (by rw [h2]; exact hbytes))
        rw [hr] at hrun
        injection hrun with _ hw
        subst hw
        exact World.ownsRow.alloc (w := (w.alloc (.cells #[u] e)).drew) ho1 _
  · rcases h6 with h6 | h6
    · exact .inl h6
    · refine .inr fun g hg => ?_
      rw [h6] at hg
      injection hg with hg
      simp at hg
      omega

theorem Own.push {w' : World} {base : Nat} {e : TypeId} {v' : Value} {l : List UInt8} {n : Nat} {x : UInt8} {xs : List Value}
    (h : w'.ownsRow base e 1 v' (n + 1) (xs ++ [.int .u8 (x.toNat : Int)])) (hn : n = l.length) (hx : xs = bcells l) : Own w' base e v' (l ++ [x]) := by
  subst hn hx
  unfold Own
  rw [bcells_append, bcells_one]
  simpa using h

/-- 'append(out, x)', out a row of the call's own with elements of one cell. -/
theorem wpList_push1 {P : Program} {t e : TypeId} {z : Value} {bytes : Nat} (T : Elem1 P t e z bytes) {w : World} {base : Nat} {v : Value} {n : Nat} {xs : List Value} (hown : w.ownsRow base e 1 v n xs)
    {w0 : World} (hb : Below base w0 w) (hbase : base ≤ w.heap.size) (hn : n + 1 ≤ maxLen) (hbytes : (n + 1) * bytes ≤ 140737488355328) (u : Value) (hu : u.oneCell' = true)
    {ops : Array Oper} {rest : List Oper} {o : Oper} {a : Act} {Q : Exit → Act → World → Prop} (hgd : o.guard = none) (s y : Operand)
    (ho : o.op = .call { callee := .builtin .append, args := #[s, y], argTypes := #[t, t] }) (hs : a.eval s = v) (hx : a.eval y = .slice (some ⟨w.heap.size, 0, none⟩) 1 1)
    (h : ∀ v' w', w'.ownsRow base e 1 v' (n + 1) (xs ++ [u]) → Below base w0 w' → w'.ownsRow base e 1 v n xs → w.grownBy w' v.ownBlock → (v'.ownBlock = v.ownBlock ∨ ∀ g, v'.ownBlock = some g → w.heap.size ≤ g) → wpList P ops Q rest (a.put o.dst v') w') :
    wpList P ops Q (o :: rest) a (w.alloc (.cells #[u] e)) := by
  refine wpList_plain hgd fun K hK => ?_
  obtain ⟨v', w', hrun, h2, h3, h4, h5⟩ := run_push1 T o.type hown hbase hn hbytes u hu
  unfold Oper.wp execOp
  simp only [ho, resolve, invoke, builtin, Sem.run_bind, Sem.run_pure, Result.andThen_ok, List.map_toArray, List.map_cons, List.map_nil, hs, hx, hrun]
  exact hK _ _ (h v' w' h2 (hb.grown h4 hbase fun k hk => (hown.lt k hk).1) h3 h4 h5)

/-- 'append(out, x)', out a row of bytes of the call's own. -/
theorem wpList_pushB {P : Program} {t e : TypeId} (T : Elem1 P t e (.int .u8 0) 1) {w : World} {base : Nat} {v : Value} {l : List UInt8} (hown : Own w base e v l)
    {w0 : World} (hb : Below base w0 w) (hbase : base ≤ w.heap.size) (hlen : l.length + 1 ≤ 140737488355328) (x : UInt8)
    {ops : Array Oper} {rest : List Oper} {o : Oper} {a : Act} {Q : Exit → Act → World → Prop} (hgd : o.guard = none) (s y : Operand)
    (ho : o.op = .call { callee := .builtin .append, args := #[s, y], argTypes := #[t, t] }) (hs : a.eval s = v) (hx : a.eval y = .slice (some ⟨w.heap.size, 0, none⟩) 1 1)
    (h : ∀ v' w', Own w' base e v' (l ++ [x]) → Below base w0 w' → w.grownBy w' v.ownBlock → (v'.ownBlock = v.ownBlock ∨ ∀ g, v'.ownBlock = some g → w.heap.size ≤ g) → wpList P ops Q rest (a.put o.dst v') w') :
    wpList P ops Q (o :: rest) a (w.alloc (.cells #[.int .u8 (x.toNat : Int)] e)) := by
  refine wpList_push1 T hown hb hbase (by unfold maxLen; omega) (by omega) _ rfl hgd s y ho hs hx fun v' w' h1 h2 _ h3 h4 => h v' w' (Own.push h1 rfl rfl) h2 h3 h4

theorem str_toList (s : ByteArray) : s.toList = s.data.toList := ByteArray.toList_eq s

/-! ### A block that is known whole -/
def Blk (w : World) (g : Nat) (t : TypeId) (cs : Array Value) : Prop := w.heap[g]? = some (.cells cs t (0, 0))
section
variable {w w' : World} {g : Nat} {t : TypeId} {cs : Array Value}
theorem Blk.lt (h : Blk w g t cs) : g < w.heap.size := by
  rcases Nat.lt_or_ge g w.heap.size with h1 | h1
  · exact h1
  · unfold Blk at h; rw [Array.getElem?_eq_none h1] at h; cases h
theorem Blk.cell (h : Blk w g t cs) (i : Nat) : w.cell? ⟨g, i, none⟩ = cs[i]? := cell_of_row w g i cs t (0, 0) h
theorem Blk.frozen (h : Blk w g t cs) (i : Nat) : w.frozen? ⟨g, i, none⟩ = false := by unfold Blk at h; simp [World.frozen?, h]
theorem Blk.new (w : World) (t : TypeId) (cs : Array Value) : Blk (w.alloc (.cells cs t)) w.heap.size t cs := heap_alloc_new w _
theorem Blk.alloc (h : Blk w g t cs) (o : Obj) : Blk (w.alloc o) g t cs := (Below.heap_alloc w o g h.lt).trans h
theorem Blk.drew (h : Blk w g t cs) : Blk w.drew g t cs := h
theorem Blk.drewN (h : Blk w g t cs) (n : Nat) : Blk (w.drewN n) g t cs := h
theorem Blk.set_ (h : Blk w g t cs) (i : Nat) (u : Value) : Blk (w.setCell ⟨g, i, none⟩ u) g t (cs.setIfInBounds i u) := by
  unfold Blk at h ⊢
  simp [World.setCell, Array.getElem?_modify, h]
theorem Blk.far (h : Blk w g t cs) {p : Addr} (hp : g ≠ p.block) (u : Value) : Blk (w.setCell p u) g t cs := (Below.heap_setCell w p u g hp).trans h
theorem Blk.below {B : Nat} (h : Blk w g t cs) (hb : Below B w w') (hg : g < B) : Blk w' g t cs := (hb.block g hg).trans h
theorem Blk.below' (h : Blk w g t cs) (hb : Below w.heap.size w w') : Blk w' g t cs := h.below hb h.lt
theorem Blk.grown {row : Option Nat} (h : Blk w g t cs) (hb : w.grownBy w' row) (hg : some g ≠ row) : Blk w' g t cs := (hb.block g h.lt hg).trans h
theorem Blk.own (h : Blk w g t cs) {base n cap : Nat} {e : TypeId} {sz : Nat} (he : e = t) (hb : base ≤ g) (hc : cs.size = cap * sz) (hn : n ≤ cap) (hm : cap ≤ maxLen) :
    w.ownsRow base e sz (.slice (some ⟨g, 0, none⟩) n cap) n (cs.toList.take (n * sz)) := by
  subst he
  refine ⟨?_, .inr ⟨g, cap, cs, rfl, hb, h, hn, hm, hc, rfl⟩⟩
  rw [List.length_take, Array.length_toList, hc, Nat.min_eq_left (Nat.mul_le_mul_right _ hn)]
theorem own_blk_ne {base : Nat} {e : TypeId} {sz n : Nat} {v : Value} {xs : List Value} (h : w.ownsRow base e sz v n xs) (hg : Blk w g t cs) (hne : e ≠ t) : v.ownBlock = none ∨ v.ownBlock ≠ some g := by
  rcases h.2 with ⟨rfl, _⟩ | ⟨g', cap, cur, rfl, _, hh, _⟩
  · exact .inl rfl
  · refine .inr ?_
    intro he
    have : g' = g := by simpa [Value.ownBlock] using he
    subst this
    unfold Blk at hg
    rw [hh] at hg
    injection hg with hg
    injection hg with _ ht
    exact hne ht
end

theorem grown_drew {w w' : World} {row : Option Nat} (h : w.grownBy w' row) : w.grownBy w'.drew row := ⟨h.os, h.tape, h.output, h.size, h.block⟩
theorem grown_drewN {w w' : World} {row : Option Nat} (h : w.grownBy w' row) (n : Nat) : w.grownBy (w'.drewN n) row := ⟨h.os, h.tape, h.output, h.size, h.block⟩
theorem _root_.Go.World.grownBy.trans_ {a b c : World} {row : Option Nat} (h : a.grownBy b row) (k : b.grownBy c row) : a.grownBy c row :=
  ⟨k.os.trans h.os, k.tape.trans h.tape, k.output.trans h.output, Nat.le_trans h.size k.size, fun i hi hne => (k.block i (Nat.lt_of_lt_of_le hi h.size) hne).trans (h.block i hi hne)⟩
theorem store_grown (w : World) (g i : Nat) (u : Value) : w.grownBy (w.setCell ⟨g, i, none⟩ u) (some g) :=
  ⟨rfl, rfl, rfl, by simp [World.setCell], fun k hk hne => Below.heap_setCell w _ u k (fun e => hne (by rw [e]))⟩
theorem stores_grown (g : Nat) (cs : List Value) : ∀ (w : World) (o : Nat), w.grownBy (w.setCells g o cs) (some g) := by
  induction cs with
  | nil => exact fun w o => World.grownBy.refl w _
  | cons c cs ih => exact fun w o => (store_grown w g o c).trans_ (ih _ _)

theorem blk_setCells {g : Nat} {t : TypeId} (cs : List Value) : ∀ (w : World) (o : Nat) (old : Array Value), Blk w g t old → o + cs.length ≤ old.size →
    Blk (w.setCells g o cs) g t (old.toList.take o ++ cs ++ old.toList.drop (o + cs.length)).toArray := by
  induction cs with
  | nil => intro w o old h _; simpa [World.setCells] using h
  | cons c cs ih =>
    intro w o old h hl
    simp only [List.length_cons] at hl
    have := ih (w.setCell ⟨g, o, none⟩ c) (o + 1) (old.setIfInBounds o c) (h.set_ o c) (by simp; omega)
    simp only [World.setCells]
    have e : (old.setIfInBounds o c).toList.take (o + 1) ++ cs ++ (old.setIfInBounds o c).toList.drop (o + 1 + cs.length) = old.toList.take o ++ c :: cs ++ old.toList.drop (o + (c :: cs).length) := by
      rw [Array.toList_setIfInBounds, List.drop_set_of_lt (by omega), List.length_cons, show o + 1 + cs.length = o + (cs.length + 1) by omega]
      congr 1
      rw [List.take_add_one, List.take_set_of_le (Nat.le_refl _), List.getElem?_set_self (by simp; omega)]
      simp
    rw [e] at this
    exact this

/-- A whole array or struct is stored into a block that is known whole. -/
theorem wpList_store_row {P : Program} {ops : Array Oper} {rest : List Oper} {o : Oper} {a : Act} {w : World} {Q : Exit → Act → World → Prop} {g : Nat} {t : TypeId} {old : Array Value} (hb : Blk w g t old) (cells : Array Value)
    (hs : cells.size = old.size) (h1 : cells.all (·.oneCell') = true) (hgd : o.guard = none) (ty : TypeId) (x y : Operand) (ho : o.op = .store ty x y)
    (hi : (P.info? ty).map (·.size) = some cells.size) (hx : a.eval x = .pointer (some ⟨g, 0, none⟩)) (hy : a.eval y = .agg cells)
    (h : ∀ w', Blk w' g t cells → w.grownBy w' (some g) → wpList P ops Q rest (a.put o.dst undef) w') : wpList P ops Q (o :: rest) a w := by
  refine wpList_store_mid hgd ty x y ho g 0 cells hx hy (fun j hj => ⟨?_, ?_⟩) hi h1 (h _ ?_ (stores_grown g _ _ _))
  · rw [Nat.zero_add, hb.cell]; simp; omega
  · rw [Nat.zero_add]; exact hb.frozen j
  · have := blk_setCells cells.toList w 0 old hb (by simp; omega)
    simp only [List.take_zero, List.nil_append, Nat.zero_add, Array.length_toList] at this
    rw [List.drop_of_length_le (by simp; omega), List.append_nil] at this
    simpa using this

/-- 'string(b)' of a slice of bytes. -/
theorem run_str {P : Program} {w : World} {v : Value} {l : List UInt8} (h : By w v l) (src dst e : TypeId) (hs : P.underlying src = some (.slice e)) (he : P.underlying e = some (.int .u8)) (hd : P.underlying dst = some .string) :
    ∃ s : ByteArray, s.data.toList = l ∧ (convert src dst v).run P w = .ok (.string s) w := by
  obtain ⟨A, c, rfl, hlc, hc, hcell⟩ := h.form
  rcases A with _ | ad
  · have hl : l = [] := by
      rcases l with _ | ⟨x, l⟩
      · rfl
      · obtain ⟨b, o, h0, _⟩ := hcell 0 x rfl
        cases h0
    subst hl
    exact ⟨⟨#[]⟩, rfl, Lib.run_convert_nil_bytes w src dst e c hs he hd⟩
  · refine ⟨⟨l.toArray⟩, by simp, run_convert_bytes_back w src dst e ad c l hs he hd fun j hj => ?_⟩
    obtain ⟨b, o, h0, _, h2⟩ := hcell j _ (List.getElem?_eq_getElem hj)
    injection h0 with h0
    subst h0
    rw [Go.Addr.add_mid]
    exact h2

end Go.Proofs.YtoaaplngdomdcaaGreat

/- Contracts of the statements' helpers for lists of bytes: marks, sameness, lists that are lent with marks behind them. -/
namespace Go.Proofs.YtoaaplngdomdcaaGreat
open Go.RowKit

theorem elem8 : Elem1 Tryz.prog 85 5 (.int .u8 0) 1 := ⟨Tryz.underlying85, by kernel_rfl, rfl⟩
theorem Tryz.info8 : (Tryz.prog.info? 5).map (fun i => (i.zero, i.size, i.bytes)) = some (some (.int .u8 0), 1, 1) := by kernel_rfl

def mark (k i : Int) : UInt8 := UInt8.ofNat ((151 * k + 7 * i + 1) % 256).toNat
theorem mark_toNat (k i : Int) : ((mark k i).toNat : Int) = (151 * k + 7 * i + 1) % 256 := by
  unfold mark
  simp only [UInt8.toNat_ofNat']
  omega


set_option maxHeartbeats 400000 in
theorem mark_any (k i : Int) (w : World) :
    Calls Tryz.prog 99 #[.int .i64 k, .int .i64 i] w fun e w' => e = .returned (.int .u8 ((mark k i).toNat : Int)) ∧ w = w' := by
  go_enter Tryz.func99, Tryz.ntmps99
  go_wp2
  go_ret
  refine ⟨ret_int ?_, rfl⟩
  rw [mark_toNat]
  simp only [wrap64]
  omega

/-- What two lists have in common from the first k places on. -/
theorem same_step (l m : List UInt8) (k : Nat) (x y : UInt8) (hx : l[k]? = some x) (hy : m[k]? = some y) (h : l.take k = m.take k) :
    (l.take (k + 1) = m.take (k + 1)) ↔ x = y := by
  rw [List.take_add_one, List.take_add_one, hx, hy, h]
  simp

theorem u8_int {x y : UInt8} : ((x.toNat : Int) = (y.toNat : Int)) ↔ x = y := by
  constructor
  · intro h
    exact UInt8.toNat_inj.1 (by omega)
  · rintro rfl; rfl

set_option maxHeartbeats 400000 in
theorem same_any (va vb : Value) (l m : List UInt8) (w : World) (ha : By w va l) (hb : By w vb m) :
    Calls Tryz.prog 49 #[va, vb] w fun e w' => e = .returned (.bool (decide (l = m))) ∧ Below w.heap.size w w' := by
  obtain ⟨A, c, rfl, hc, hm, hca⟩ := ha.form
  obtain ⟨B, d, rfl, hd, hmd, hcb⟩ := hb.form
  unfold maxLen at hm hmd
  by_cases hl : l.length = m.length
  · have hne : ((l.length : Int) != (m.length : Int)) = false := by simp [hl]
    have HL : Hid (l.length = m.length) := hl
    clear hl
    go_enter Tryz.func49, Tryz.ntmps49
    go_wp2
    go_loopw [5] (fun i wr => ∃ k : Nat, k ≤ l.length ∧ i = .int .i64 k ∧ l.take k = m.take k ∧ Below w.heap.size w wr) (fun i _ => l.length - (intOf i).toNat)
    case atStart => exact ⟨0, by omega, rfl, by simp, Below.refl _ _⟩
    case round =>
      obtain ⟨k, hk, rfl, hq, hbel⟩ := hrel
      have HQ := hide hq
      clear hq
      by_cases hlt : k < l.length
      · have hlt2 : k < m.length := by have := HL.out; omega
        obtain ⟨x, hx⟩ : ∃ x, l[k]? = some x := ⟨_, List.getElem?_eq_getElem hlt⟩
        obtain ⟨y, hy⟩ : ∃ y, m[k]? = some y := ⟨_, List.getElem?_eq_getElem hlt2⟩
        obtain ⟨b, o, rfl, hbl, hcell⟩ := hca k x hx
        obtain ⟨b2, o2, rfl, hbl2, hcell2⟩ := hcb k y hy
        have hcx : wr.cell? ⟨b, o + k, none⟩ = some (.int .u8 (x.toNat : Int)) := (hbel.cell (p := ⟨b, o + k, none⟩) hbl).trans hcell
        have hcy : wr.cell? ⟨b2, o2 + k, none⟩ = some (.int .u8 (y.toNat : Int)) := (hbel.cell (p := ⟨b2, o2 + k, none⟩) hbl2).trans hcell2
        have HX := hide hx
        have HY := hide hy
        clear hx hy hcell hcell2 hca hcb
        have i1 : (k : Int) < (l.length : Int) := by omega
        have i2 : (k : Int) < (m.length : Int) := by omega
        have i3 : (0 : Int) ≤ (k : Int) := by omega
        by_cases hxy : x = y
        · have hd : ((x.toNat : Int) != (y.toNat : Int)) = false := by simp [hxy]
          go_wp2
          go_quiet (fail)
          go_wp2
          go_roundw
          case rel => exact ⟨k + 1, by omega, by go_num, (same_step l m k x y HX.out HY.out HQ.out).2 hxy, below_drewN hbel _⟩
          case measure => simp [intOf]; omega
        · have hd : ((x.toNat : Int) != (y.toNat : Int)) = true := by
            rw [bne_iff_ne]; intro h; exact hxy (u8_int.1 h)
          go_wp2
          go_quiet (fail)
          go_wp2
          go_ret
          refine ⟨ret_bool ?_, below_drewN hbel _⟩
          refine (decide_eq_false fun h => hxy ((same_step l m k x y HX.out HY.out HQ.out).1 (by rw [h]))).symm
      · have hge : ¬ ((k : Int) < (l.length : Int)) := by omega
        go_wp2
        go_ret
        refine ⟨ret_bool ?_, hbel⟩
        refine (decide_eq_true ?_).symm
        have := HQ.out
        rwa [List.take_of_length_le (by omega), List.take_of_length_le (by have := HL.out; omega)] at this
  · have hne : ((l.length : Int) != (m.length : Int)) = true := by rw [bne_iff_ne]; omega
    go_enter Tryz.func49, Tryz.ntmps49
    go_wp2
    go_ret
    exact ⟨ret_bool (decide_eq_false fun h => hl (by rw [h])).symm, Below.refl _ _⟩

/-- The first n marks behind a list of length len. -/
def marks (k len n : Nat) : List UInt8 := (List.range n).map fun i => mark k ((len + i : Nat) : Int)
theorem marks_succ (k len n : Nat) : marks k len (n + 1) = marks k len n ++ [mark k ((len + n : Nat) : Int)] := by
  simp [marks, List.range_succ]
@[simp] theorem marks_length (k len n : Nat) : (marks k len n).length = n := by simp [marks]

theorem take_snoc {α : Type} (l : List α) (k : Nat) (x : α) (h : l[k]? = some x) : l.take (k + 1) = l.take k ++ [x] := by
  rw [List.take_add_one, h]; rfl


set_option maxHeartbeats 800000 in
theorem lent_any (va : Value) (l : List UInt8) (w : World) (ha : By w va l) (hl : l.length ≤ 140737488355000) :
    Calls Tryz.prog 45 #[va] w fun e w' => ∃ v, e = .returned v ∧ Own w' w.heap.size 5 v (l ++ marks 0 l.length 70) ∧ Below w.heap.size w w' := by
  obtain ⟨A, c, rfl, hc, hm, hca⟩ := ha.form
  unfold maxLen at hm
  go_enter Tryz.func45, Tryz.ntmps45
  go_wp2
  go_loopw [3, 4] (fun v i wr => ∃ k : Nat, k ≤ l.length ∧ i = .int .i64 k ∧ Own wr w.heap.size 5 v (l.take k) ∧ Below w.heap.size w wr) (fun _ i _ => l.length - (intOf i).toNat)
  case atStart => exact ⟨0, by omega, rfl, Own.nil _ _ _, Below.refl _ _⟩
  case round =>
    obtain ⟨k, hk, rfl, hown, hbel⟩ := hrel
    have HO := hide hown
    clear hown
    by_cases hlt : k < l.length
    · obtain ⟨x, hx⟩ : ∃ x, l[k]? = some x := ⟨_, List.getElem?_eq_getElem hlt⟩
      obtain ⟨b, o, rfl, hbl, hcell⟩ := hca k x hx
      have hcx : wr.cell? ⟨b, o + k, none⟩ = some (.int .u8 (x.toNat : Int)) := (hbel.cell (p := ⟨b, o + k, none⟩) hbl).trans hcell
      have HX := hide hx
      clear hx hcell hca
      have hlk : (l.take k).length = k := by rw [List.length_take]; omega
      have HLK := hide hlk
      clear hlk
      go_wp2_with (at_builtin; go_loud (refine wpList_pushB elem8 HO.out hbel hbel.size (by rw [List.length_take]; omega) x rfl _ _ rfl rfl rfl ?_); intro v1 w1 hown1 hbel1 _ _)
      go_roundw
      case rel => exact ⟨k + 1, by omega, by go_num, by rw [take_snoc l k x HX.out]; exact hown1, hbel1⟩
      case measure => simp [intOf]; omega
    · have hkl : k = l.length := by omega
      subst hkl
      have hO2 := HO.out
      rw [List.take_of_length_le (Nat.le_refl _)] at hO2
      clear HO
      have HO := hide hO2
      clear hO2
      go_wp2
      go_loopw [3, 5] (fun v i wr => ∃ k : Nat, k ≤ 70 ∧ i = .int .i64 k ∧ Own wr w.heap.size 5 v (l ++ marks 0 l.length k) ∧ Below w.heap.size w wr) (fun _ i _ => 70 - (intOf i).toNat)
      case atStart => exact ⟨0, by omega, rfl, by simpa [marks] using HO.out, hbel⟩
      case round =>
        clear HO hbel
        obtain ⟨k, hk, rfl, hown, hbel⟩ := hrel
        have HO := hide hown
        clear hown
        by_cases hlt : k < 70
        · have hmk := mark_any 0 ((l.length + k : Nat) : Int)
          rw [Int.natCast_add] at hmk
          go_wp2_with (first
            | (go_at_call 99; refine (hmk _).mono ?_; rintro e w' ⟨rfl, rfl⟩)
            | (at_builtin; go_loud (refine wpList_pushB elem8 HO.out hbel hbel.size (by rw [List.length_append, marks_length]; omega) (mark 0 ((l.length + k : Nat) : Int)) rfl _ _ rfl rfl rfl ?_); intro v1 w1 hown1 hbel1 _ _))
          go_roundw
          case rel => exact ⟨k + 1, by omega, by go_num, by rw [marks_succ, ← List.append_assoc]; exact hown1, hbel1⟩
          case measure => simp [intOf]; omega
        · have hkl : k = 70 := by omega
          subst hkl
          go_wp2
          go_ret
          exact ⟨_, rfl, HO.out, hbel⟩


set_option maxHeartbeats 400000 in
theorem kept_any (vf va : Value) (f l : List UInt8) (w : World) (hf : By w vf f) (ha : By w va l) (hl : l.length ≤ 140737488355000) :
    Calls Tryz.prog 48 #[vf, va] w fun e w' => e = .returned (.bool (decide (f = l ++ marks 0 l.length 70))) ∧ Below w.heap.size w w' := by
  go_enter Tryz.func48, Tryz.ntmps48
  go_wp2_with fail
  refine (lent_any va l w ha hl).mono ?_
  rintro e w1 ⟨v, rfl, hown, hbel⟩
  go_wp2_with fail
  refine (same_any vf v f _ w1 (hf.below hbel) hown.by_).mono ?_
  rintro e w2 ⟨rfl, hbel2⟩
  go_wp2_with fail
  go_ret
  exact ⟨rfl, hbel.trans (hbel2.mono hbel.size)⟩

/-- What a list holds when i places are written over. -/
def overed (_n i : Nat) (l : List UInt8) : List UInt8 := ((List.range i).map fun j => mark 7 ((j + 3 : Nat) : Int)) ++ l.drop i
theorem overed_set (l : List UInt8) (i : Nat) (h : i < l.length) : (overed l.length i l).set i (mark 7 ((i : Int) + 3)) = overed l.length (i + 1) l := by
  unfold overed
  rw [List.set_append_right _ _ (by simp), List.drop_eq_getElem_cons h]
  simp only [List.length_map, List.length_range, Nat.sub_self, List.set_cons_zero, List.range_succ, List.map_append, List.map_cons, List.map_nil, List.append_assoc, List.cons_append, List.nil_append]
  rfl
theorem overed_length (l : List UInt8) (n i : Nat) (h : i ≤ l.length) : (overed n i l).length = l.length := by simp [overed]; omega

theorem Own.store {w : World} {base : Nat} {e : TypeId} {g n cap : Nat} {l : List UInt8} (h : Own w base e (.slice (some ⟨g, 0, none⟩) n cap) l) (k : Nat) (x : UInt8) :
    Own (w.setCell ⟨g, k, none⟩ (.int .u8 (x.toNat : Int))) base e (.slice (some ⟨g, 0, none⟩) n cap) (l.set k x) := by
  have hn : n = l.length := by
    rcases h.2 with ⟨h0, _⟩ | ⟨g', cap', cur, hv, _⟩
    · cases h0
    · injection hv
  unfold Own at *
  subst hn
  have := (h.stored k (.int .u8 (x.toNat : Int))).1
  have e : (bcells l).set k (.int .u8 (x.toNat : Int)) = bcells (l.set k x) := by simp [bcells, List.map_set]
  rw [e] at this
  simpa using this

theorem Own.form {w : World} {base : Nat} {e : TypeId} {v : Value} {l : List UInt8} (h : Own w base e v l) (hn : 0 < l.length) : ∃ g cap, v = .slice (some ⟨g, 0, none⟩) l.length cap ∧ base ≤ g ∧ g < w.heap.size :=
  World.ownsRow.form h hn


set_option maxHeartbeats 400000 in
theorem over_any (base : Nat) (v : Value) (l : List UInt8) (w : World) (h : Own w base 5 v l) (hl : l.length ≤ 140737488355328) :
    Calls Tryz.prog 80 #[v] w fun e w' => e = .returned (.tuple #[]) ∧ Below base w w' ∧ w.grownBy w' v.ownBlock ∧ (∃ l', Own w' base 5 v l' ∧ l'.length = l.length) := by
  by_cases h0 : l.length = 0
  · have hl0 : l = [] := List.eq_nil_of_length_eq_zero h0
    subst hl0
    have HO := hide h
    obtain ⟨A, c, hv, _⟩ := h.by_.form
    subst hv
    clear h
    go_enter Tryz.func80, Tryz.ntmps80
    go_wp2
    go_loopw [2] (fun u2 wr => u2 = .int .i64 0 ∧ Below base w wr ∧ w.grownBy wr (Value.ownBlock (.slice A (List.length ([] : List UInt8)) c)) ∧ Own wr base 5 (.slice A (List.length ([] : List UInt8)) c) []) (fun _ _ => 0)
    case atStart => exact ⟨rfl, Below.refl _ _, World.grownBy.refl _ _, HO.out⟩
    case round =>
      obtain ⟨rfl, hb, hg, hw⟩ := hrel
      go_wp2
      go_end0
      exact ⟨rfl, hb, hg, [], hw, rfl⟩
  obtain ⟨g, cap, hv, hbg, _⟩ := h.form (by omega)
  subst hv
  have HO := hide h
  clear h
  go_enter Tryz.func80, Tryz.ntmps80
  go_wp2
  go_loopw [2] (fun u2 wr => ∃ i : Nat, i ≤ l.length ∧ u2 = .int .i64 (i : Int) ∧ Below base w wr ∧ w.grownBy wr (some g) ∧ Own wr base 5 (.slice (some ⟨g, 0, none⟩) l.length cap) (overed l.length i l)) (fun i _ => l.length - (intOf i).toNat)
  case atStart => exact ⟨0, by omega, rfl, Below.refl _ _, World.grownBy.refl _ _, by simpa [overed] using HO.out⟩
  case round =>
    obtain ⟨i, hi, rfl, hb, hg, ho⟩ := hrel
    clear HO
    have HO := hide ho
    by_cases hil : i < l.length
    · have hlen := overed_length l l.length i hi
      have hfz := World.ownsRow.frozenAt (n := l.length) (xs := bcells (overed l.length i l)) (by unfold Own at ho; rw [hlen] at ho; exact ho) i
      have hcc := World.ownsRow.cellAt (n := l.length) (xs := bcells (overed l.length i l)) (by unfold Own at ho; rw [hlen] at ho; exact ho) i (by omega)
      have hcv : ∃ y, wr.cell? ⟨g, i, none⟩ = some y := by rw [hcc]; exact ⟨_, List.getElem?_eq_getElem (by rw [bcells_length]; omega)⟩
      obtain ⟨y, hcy⟩ := hcv
      have hmk := mark_any 7 ((i : Int) + 3)
      have HG := hide hg
      clear hcc hlen ho hg
      go_wp2_with (go_at_call 99; ((with_reducible refine (hmk _).mono ?_)); rintro e w' ⟨rfl, rfl⟩)
      go_roundw
      case rel => exact ⟨i + 1, by omega, by go_num, hb.setCell hbg _, HG.out.trans_ (store_grown _ _ _ _), by rw [← overed_set l i hil]; exact HO.out.store i _⟩
      case measure => simp [intOf]; omega
    · have hieq : i = l.length := by omega
      clear HO
      go_wp2
      go_end0
      refine ⟨rfl, hb, hg, _, ho, ?_⟩
      rw [overed_length _ _ _ (by omega)]
/-- The beginning of a row, as 'full[:n]' gives it. -/
theorem Own.front {w : World} {base : Nat} {e : TypeId} {g n cap : Nat} {l r : List UInt8} (h : Own w base e (.slice (some ⟨g, 0, none⟩) n cap) (l ++ r)) : By w (.slice (some ⟨g, 0, none⟩) l.length cap) l := by
  rcases h.2 with ⟨h0, _⟩ | ⟨g', cap', cur, hv, hg, hh, hnc, hcm, hcs, ht⟩
  · cases h0
  · injection hv with hA hn hc
    injection hA with hA
    injection hA with hA
    subst hA hc
    have hlt := (Blk.lt (w := w) (g := g) (t := e) (cs := cur) hh)
    have hlen : (l ++ r).length = l.length + r.length := List.length_append
    refine ⟨by simp, some ⟨g, 0, none⟩, cap, rfl, by omega, hcm, fun h0 => ⟨g, 0, rfl, hlt, fun j hj => ?_⟩⟩
    rw [Nat.zero_add, cell_of_row w g j cur e (0, 0) hh]
    have e1 : cur[j]? = (bcells (l ++ r))[j]? := by
      rw [← ht, List.getElem?_take_of_lt (by omega)]; simp
    rw [e1, bcells_append, List.getElem?_append_left (by simp; omega)]

end Go.Proofs.YtoaaplngdomdcaaGreat

/- Lists of lists of bytes of the call's own. They hold of every program. -/
namespace Go.Proofs.YtoaaplngdomdcaaGreat
open Go.RowKit

theorem own_ne' {w : World} {b1 b2 : Nat} {e1 e2 : TypeId} {s1 s2 : Nat} {v1 v2 : Value} {n1 n2 : Nat} {x1 x2 : List Value} (h1 : w.ownsRow b1 e1 s1 v1 n1 x1) (h2 : w.ownsRow b2 e2 s2 v2 n2 x2) (he : e1 ≠ e2) :
    v1.ownBlock = none ∨ v1.ownBlock ≠ v2.ownBlock := by
  rcases h1.2 with ⟨rfl, _⟩ | ⟨g, cap, cur, rfl, _, hh, _⟩
  · exact .inl rfl
  · refine .inr ?_
    rcases h2.2 with ⟨rfl, _⟩ | ⟨g', cap', cur', rfl, _, hh', _⟩
    · simp [Value.ownBlock]
    · intro hg
      have : g = g' := by simpa [Value.ownBlock] using hg
      subst this
      rw [hh] at hh'
      injection hh' with hh'
      injection hh' with _ ht
      exact he ht

theorem Own.mono_ {w : World} {b b' : Nat} {e : TypeId} {v : Value} {l : List UInt8} (h : Own w b e v l) (hb : b' ≤ b) : Own w b' e v l := by
  refine ⟨h.1, h.2.imp id ?_⟩
  rintro ⟨g, cap, cur, hv, hg, r⟩
  exact ⟨g, cap, cur, hv, by omega, r⟩

/-- A list of lists of bytes of the call's own (e: the byte's type, E: the list's). -/
def OwnL (w : World) (base : Nat) (e E : TypeId) (v : Value) (L : List (List UInt8)) : Prop :=
  ∃ xs, w.ownsRow base E 1 v L.length xs ∧ ∀ (i : Nat) (l : List UInt8), L[i]? = some l → ∃ x, xs[i]? = some x ∧ Own w base e x l
theorem OwnL.nil (w : World) (base : Nat) (e E : TypeId) : OwnL w base e E (.slice none 0 0) [] := ⟨[], World.ownsRow_nil w base E 1, fun i l h => by simp at h⟩
theorem OwnL.below {w w' : World} {base : Nat} {e E : TypeId} {v : Value} {L : List (List UInt8)} (h : OwnL w base e E v L) (hb : Below w.heap.size w w') : OwnL w' base e E v L := by
  obtain ⟨xs, h1, h2⟩ := h
  refine ⟨xs, own_below' h1 hb, fun i l hl => ?_⟩
  obtain ⟨x, hx, ho⟩ := h2 i l hl
  exact ⟨x, hx, ho.below hb⟩
theorem OwnL.kept {w w' : World} {base : Nat} {e E : TypeId} {v : Value} {L : List (List UInt8)} (h : OwnL w base e E v L) {g : Nat} {t : TypeId} {cs : Array Value} (hb : Blk w g t cs) (he : e ≠ t) (hE : E ≠ t)
    (hg : w.grownBy w' (some g)) : OwnL w' base e E v L := by
  obtain ⟨xs, h1, h2⟩ := h
  refine ⟨xs, h1.kept hg (own_blk_ne h1 hb hE), fun i l hl => ?_⟩
  obtain ⟨x, hx, ho⟩ := h2 i l hl
  exact ⟨x, hx, World.ownsRow.kept ho hg (own_blk_ne ho hb he)⟩
/-- One list more, as 'wpList_push1' gives it. -/
theorem OwnL.pushed {w w' : World} {base : Nat} {e E : TypeId} (he : e ≠ E) {v v' u : Value} {L : List (List UInt8)} {l : List UInt8} {xs : List Value} (h1 : w.ownsRow base E 1 v L.length xs)
    (h2 : ∀ (i : Nat) (l : List UInt8), L[i]? = some l → ∃ x, xs[i]? = some x ∧ Own w base e x l) (hu : Own w base e u l) (h' : w'.ownsRow base E 1 v' (L.length + 1) (xs ++ [u])) (hg : w.grownBy w' v.ownBlock) : OwnL w' base e E v' (L ++ [l]) := by
  have hl := h1.1
  refine ⟨xs ++ [u], by simpa using h', fun i m hm => ?_⟩
  by_cases hi : i < L.length
  · rw [List.getElem?_append_left hi] at hm
    obtain ⟨x, hx, ho⟩ := h2 i m hm
    exact ⟨x, by rw [List.getElem?_append_left (by omega)]; exact hx, World.ownsRow.kept ho hg (own_ne' ho h1 he)⟩
  · rw [List.getElem?_append_right (by omega)] at hm
    have hi2 : i = L.length := by
      rcases Nat.lt_or_ge L.length i with h | h
      · rw [List.getElem?_eq_none (by simp; omega)] at hm; cases hm
      · omega
    subst hi2
    rw [Nat.sub_self] at hm
    injection hm with hm
    subst hm
    exact ⟨u, by rw [List.getElem?_append_right (by omega), show L.length - xs.length = 0 by omega]; rfl, World.ownsRow.kept hu hg (own_ne' hu h1 he)⟩

/-- 'append(out, x)' at a step of a region that draws its order; what is appended lies in block g. -/
theorem step_push1 {P : Program} {t e : TypeId} {z : Value} {bytes : Nat} (T : Elem1 P t e z bytes) {w : World} {base : Nat} {v : Value} {n : Nat} {xs : List Value} (hown : w.ownsRow base e 1 v n xs)
    {w0 : World} (hb : Below base w0 w) (hbase : base ≤ w.heap.size) (hn : n + 1 ≤ maxLen) (hbytes : (n + 1) * bytes ≤ 140737488355328) {g : Nat} {u : Value} (hu : u.oneCell' = true) (hg : Blk w g e #[u])
    {ops : Array Oper} {o : Oper} {a : Act} {K : Act → World → Prop} {Q : Exit → Act → World → Prop} {E : Prop} (hgd : o.guard = none) (s y : Operand)
    (ho : o.op = .call { callee := .builtin .append, args := #[s, y], argTypes := #[t, t] }) (hs : a.eval s = v) (hx : a.eval y = .slice (some ⟨g, 0, none⟩) 1 1)
    (h : ∀ v' w', w'.ownsRow base e 1 v' (n + 1) (xs ++ [u]) → Below base w0 w' → w.grownBy w' v.ownBlock → K (a.put o.dst v') w') :
    if Region.wanted o (yielded ops a.tmps) = true then Oper.wp P o a w K Q else E := by
  have hw : Region.wanted o (yielded ops a.tmps) = true := by simp [Region.wanted, hgd]
  rw [if_pos hw]
  obtain ⟨i, hi, hz, h1, h2⟩ := info_parts T.hi
  have hn1 : ∀ j y, [u][j]? = some y → w.cell? ((⟨g, 0, none⟩ : Addr).add j) = some y := fun j y hj =>
    World.news_of_block (w := w) (B := g) (cs := #[u]) (t := e) (fr := (0, 0)) hg j y (by simpa using hj)
  obtain ⟨v', w', hrun, h3, h4, _, _⟩ := run_append_own_at (P := P) w base t o.type e i z 1 bytes T.ht hi hz h1 h2 T.hz (by omega) v n xs hown ⟨g, 0, none⟩ 1 1 [u] (by simp) hn1 (by simpa using hu) hn hbytes hbase
  unfold Oper.wp execOp
  simp only [ho, resolve, invoke, builtin, Sem.run_bind, Sem.run_pure, Result.andThen_ok, List.map_toArray, List.map_cons, List.map_nil, hs, hx, hrun]
  exact h v' w' h3 (hb.grown h4 hbase fun k hk => (hown.lt k hk).1) h4

/-- A list of lists of bytes that reads as L. -/
def Ls (w : World) (v : Value) (L : List (List UInt8)) : Prop :=
  ∃ xs, Sl w 1 v L.length xs ∧ ∀ (i : Nat) (l : List UInt8), L[i]? = some l → ∃ x, xs[i]? = some x ∧ By w x l
theorem Ls.below {w w' : World} {v : Value} {L : List (List UInt8)} (h : Ls w v L) (hb : Below w.heap.size w w') : Ls w' v L := by
  obtain ⟨xs, h1, h2⟩ := h
  refine ⟨xs, h1.below hb, fun i l hl => ?_⟩
  obtain ⟨x, hx, ho⟩ := h2 i l hl
  exact ⟨x, hx, ho.below hb⟩
theorem OwnL.ls {w : World} {base : Nat} {e E : TypeId} {v : Value} {L : List (List UInt8)} (h : OwnL w base e E v L) : Ls w v L := by
  obtain ⟨xs, h1, h2⟩ := h
  refine ⟨xs, Sl.of_own h1, fun i l hl => ?_⟩
  obtain ⟨x, hx, ho⟩ := h2 i l hl
  exact ⟨x, hx, ho.by_⟩
theorem Ls.form {w : World} {v : Value} {L : List (List UInt8)} (h : Ls w v L) :
    ∃ A c, v = .slice A L.length c ∧ L.length ≤ c ∧ c ≤ maxLen ∧
      (∀ k l, L[k]? = some l → ∃ b o x, A = some ⟨b, o, none⟩ ∧ b < w.heap.size ∧ w.cell? ⟨b, o + k, none⟩ = some x ∧ By w x l) := by
  obtain ⟨xs, h1, h2⟩ := h
  obtain ⟨A, c, hv, hn, hc, h3⟩ := Sl.form h1
  refine ⟨A, c, hv, hn, hc, fun k l hl => ?_⟩
  have hk : k < L.length := (List.getElem?_eq_some_iff.1 hl).1
  obtain ⟨b, o, hA, hlt, hcell⟩ := h3 (by omega)
  obtain ⟨x, hx, hb⟩ := h2 k l hl
  exact ⟨b, o, x, hA, hlt, by rw [hcell k (by omega), hx], hb⟩

/-- A row of cols bytes of which the first j are reckoned. -/
def fillr (cols j : Nat) (f : Nat → UInt8) : List UInt8 := (List.range j).map f ++ List.replicate (cols - j) 0
theorem fillr_zero (cols : Nat) (f : Nat → UInt8) : fillr cols 0 f = List.replicate cols 0 := by simp [fillr]
theorem fillr_full (cols : Nat) (f : Nat → UInt8) : fillr cols cols f = (List.range cols).map f := by simp [fillr]
theorem fillr_length {cols j : Nat} (f : Nat → UInt8) (h : j ≤ cols) : (fillr cols j f).length = cols := by simp [fillr]; omega
theorem fillr_set {cols j : Nat} (f : Nat → UInt8) (h : j < cols) : (fillr cols j f).set j (f j) = fillr cols (j + 1) f := by
  unfold fillr
  rw [List.set_append_right _ _ (by simp), List.length_map, List.length_range, Nat.sub_self, show cols - j = (cols - (j + 1)) + 1 by omega, List.replicate_succ, List.set_cons_zero, List.range_succ, List.map_append, List.append_assoc]
  rfl
theorem made_bytes (n : Nat) : (madeCells (Value.int .u8 0).cells (n * 1)).toList = bcells (List.replicate n 0) := by
  unfold bcells
  rw [List.map_replicate]
  have h1 : (madeCells (Value.int .u8 0).cells (n * 1)).toList = List.replicate n (.int .u8 0) := by
    apply List.ext_getElem?
    intro i
    have hm : ∀ x : Nat, x % 1 = 0 := fun x => Nat.mod_one x
    simp only [madeCells, Value.cells, Nat.mul_one, Array.toList_map, Array.toList_range, List.getElem?_map, List.getElem?_replicate]
    by_cases h : i < n
    · rw [List.getElem?_range h, if_pos h]; simp [Nat.mod_one]
    · rw [List.getElem?_eq_none (by simp; omega), if_neg h]; rfl
  rw [h1]
  rfl
end Go.Proofs.YtoaaplngdomdcaaGreat

/- Lists of numbers of one kind, and lists of such lists, of the call's own. They hold of every program. -/
namespace Go.Proofs.YtoaaplngdomdcaaGreat
open Go.RowKit

/-- The cells of a list of numbers. -/
def ncells (k : IntKind) (l : List Nat) : List Value := l.map fun n : Nat => .int k (n : Int)
@[simp] theorem ncells_length (k : IntKind) (l : List Nat) : (ncells k l).length = l.length := by simp [ncells]
theorem ncells_append (k : IntKind) (l r : List Nat) : ncells k (l ++ r) = ncells k l ++ ncells k r := by simp [ncells]
theorem ncells_get (k : IntKind) (l : List Nat) (i : Nat) : (ncells k l)[i]? = (l[i]?).map fun n : Nat => .int k (n : Int) := by simp [ncells]
/-- A slice of numbers that reads as l. -/
def Ny (w : World) (k : IntKind) (v : Value) (l : List Nat) : Prop := Sl w 1 v l.length (ncells k l)
theorem Ny.below {w w' : World} {k : IntKind} {v : Value} {l : List Nat} (h : Ny w k v l) (hb : Below w.heap.size w w') : Ny w' k v l := Sl.below h hb
theorem Ny.nil (w : World) (k : IntKind) : Ny w k (.slice none 0 0) [] := Sl.nil w 1
theorem Ny.form {w : World} {k : IntKind} {v : Value} {l : List Nat} (h : Ny w k v l) :
    ∃ A c, v = .slice A l.length c ∧ l.length ≤ c ∧ c ≤ maxLen ∧
      (∀ (i x : Nat), l[i]? = some x → ∃ b o, A = some ⟨b, o, none⟩ ∧ b < w.heap.size ∧ w.cell? ⟨b, o + i, none⟩ = some (.int k (x : Int))) := by
  obtain ⟨A, c, hv, hn, hc, h2⟩ := Sl.form h
  refine ⟨A, c, hv, hn, hc, fun i x hx => ?_⟩
  have hi : i < l.length := (List.getElem?_eq_some_iff.1 hx).1
  obtain ⟨b, o, hA, hlt, hcell⟩ := h2 (by omega)
  refine ⟨b, o, hA, hlt, ?_⟩
  rw [hcell i (by omega), ncells_get, hx]; rfl
/-- A row of numbers of the call's own. -/
def OwnN (w : World) (base : Nat) (e : TypeId) (k : IntKind) (v : Value) (l : List Nat) : Prop := w.ownsRow base e 1 v l.length (ncells k l)
section
variable {w w' : World} {base : Nat} {e : TypeId} {k : IntKind} {v : Value} {l : List Nat}
theorem OwnN.ny (h : OwnN w base e k v l) : Ny w k v l := Sl.of_own h
theorem OwnN.below (h : OwnN w base e k v l) (hb : Below w.heap.size w w') : OwnN w' base e k v l := own_below' h hb
theorem OwnN.nil (w : World) (base : Nat) (e : TypeId) (k : IntKind) : OwnN w base e k (.slice none 0 0) [] := World.ownsRow_nil w base e 1
theorem OwnN.mono_ {b' : Nat} (h : OwnN w base e k v l) (hb : b' ≤ base) : OwnN w b' e k v l := by
  refine ⟨h.1, h.2.imp id ?_⟩
  rintro ⟨g, cap, cur, hv, hg, r⟩
  exact ⟨g, cap, cur, hv, by omega, r⟩
theorem OwnN.alloc (h : OwnN w base e k v l) (o : Obj) : OwnN (w.alloc o) base e k v l := World.ownsRow.alloc h o
theorem OwnN.push {v' : Value} {x : Nat} (h : w'.ownsRow base e 1 v' (l.length + 1) (ncells k l ++ [.int k (x : Int)])) : OwnN w' base e k v' (l ++ [x]) := by
  unfold OwnN
  rw [ncells_append]
  simpa [ncells] using h
theorem OwnN.store {g n cap : Nat} (h : OwnN w base e k (.slice (some ⟨g, 0, none⟩) n cap) l) (i : Nat) (x : Nat) :
    OwnN (w.setCell ⟨g, i, none⟩ (.int k (x : Int))) base e k (.slice (some ⟨g, 0, none⟩) n cap) (l.set i x) := by
  have hn : n = l.length := by
    rcases h.2 with ⟨h0, _⟩ | ⟨g', cap', cur, hv, _⟩
    · cases h0
    · injection hv
  unfold OwnN at *
  subst hn
  have := (h.stored i (.int k (x : Int))).1
  have e : (ncells k l).set i (.int k (x : Int)) = ncells k (l.set i x) := by simp [ncells, List.map_set]
  rw [e] at this
  simpa using this
theorem OwnN.form (h : OwnN w base e k v l) (hn : 0 < l.length) : ∃ g cap, v = .slice (some ⟨g, 0, none⟩) l.length cap ∧ base ≤ g ∧ g < w.heap.size := World.ownsRow.form h hn
theorem OwnN.slice (h : OwnN w base e k v l) : ∃ A c, v = .slice A l.length c := by
  obtain ⟨A, c, hv, _⟩ := h.ny.form
  exact ⟨A, c, hv⟩
end

/-- A list of lists of numbers of the call's own (e: the number's type, E: the list's). -/
def OwnNL (w : World) (base : Nat) (e E : TypeId) (k : IntKind) (v : Value) (L : List (List Nat)) : Prop :=
  ∃ xs, w.ownsRow base E 1 v L.length xs ∧ ∀ (i : Nat) (l : List Nat), L[i]? = some l → ∃ x, xs[i]? = some x ∧ OwnN w base e k x l
section
variable {w w' : World} {base : Nat} {e E : TypeId} {k : IntKind} {v : Value} {L : List (List Nat)}
theorem OwnNL.nil (w : World) (base : Nat) (e E : TypeId) (k : IntKind) : OwnNL w base e E k (.slice none 0 0) [] := ⟨[], World.ownsRow_nil w base E 1, fun i l h => by simp at h⟩
theorem OwnNL.below (h : OwnNL w base e E k v L) (hb : Below w.heap.size w w') : OwnNL w' base e E k v L := by
  obtain ⟨xs, h1, h2⟩ := h
  refine ⟨xs, own_below' h1 hb, fun i l hl => ?_⟩
  obtain ⟨x, hx, ho⟩ := h2 i l hl
  exact ⟨x, hx, ho.below hb⟩
theorem OwnNL.kept (h : OwnNL w base e E k v L) {g : Nat} {t : TypeId} {cs : Array Value} (hb : Blk w g t cs) (he : e ≠ t) (hE : E ≠ t)
    (hg : w.grownBy w' (some g)) : OwnNL w' base e E k v L := by
  obtain ⟨xs, h1, h2⟩ := h
  refine ⟨xs, h1.kept hg (own_blk_ne h1 hb hE), fun i l hl => ?_⟩
  obtain ⟨x, hx, ho⟩ := h2 i l hl
  exact ⟨x, hx, World.ownsRow.kept ho hg (own_blk_ne ho hb he)⟩
/-- One list more, as 'wpList_push1' gives it. -/
theorem OwnNL.pushed (he : e ≠ E) {v' u : Value} {l : List Nat} {xs : List Value} (h1 : w.ownsRow base E 1 v L.length xs)
    (h2 : ∀ (i : Nat) (l : List Nat), L[i]? = some l → ∃ x, xs[i]? = some x ∧ OwnN w base e k x l) (hu : OwnN w base e k u l) (h' : w'.ownsRow base E 1 v' (L.length + 1) (xs ++ [u])) (hg : w.grownBy w' v.ownBlock) : OwnNL w' base e E k v' (L ++ [l]) := by
  have hl := h1.1
  refine ⟨xs ++ [u], by simpa using h', fun i m hm => ?_⟩
  by_cases hi : i < L.length
  · rw [List.getElem?_append_left hi] at hm
    obtain ⟨x, hx, ho⟩ := h2 i m hm
    exact ⟨x, by rw [List.getElem?_append_left (by omega)]; exact hx, World.ownsRow.kept ho hg (own_ne' ho h1 he)⟩
  · rw [List.getElem?_append_right (by omega)] at hm
    have hi2 : i = L.length := by
      rcases Nat.lt_or_ge L.length i with h | h
      · rw [List.getElem?_eq_none (by simp; omega)] at hm; cases hm
      · omega
    subst hi2
    rw [Nat.sub_self] at hm
    injection hm with hm
    subst hm
    exact ⟨u, by rw [List.getElem?_append_right (by omega), show L.length - xs.length = 0 by omega]; rfl, World.ownsRow.kept hu hg (own_ne' hu h1 he)⟩
end

/-- A list of lists of numbers that reads as L. -/
def Nls (w : World) (k : IntKind) (v : Value) (L : List (List Nat)) : Prop :=
  ∃ xs, Sl w 1 v L.length xs ∧ ∀ (i : Nat) (l : List Nat), L[i]? = some l → ∃ x, xs[i]? = some x ∧ Ny w k x l
theorem OwnNL.ls {w : World} {base : Nat} {e E : TypeId} {k : IntKind} {v : Value} {L : List (List Nat)} (h : OwnNL w base e E k v L) : Nls w k v L := by
  obtain ⟨xs, h1, h2⟩ := h
  refine ⟨xs, Sl.of_own h1, fun i l hl => ?_⟩
  obtain ⟨x, hx, ho⟩ := h2 i l hl
  exact ⟨x, hx, ho.ny⟩
theorem Nls.form {w : World} {k : IntKind} {v : Value} {L : List (List Nat)} (h : Nls w k v L) :
    ∃ A c, v = .slice A L.length c ∧ L.length ≤ c ∧ c ≤ maxLen ∧
      (∀ (i : Nat) (l : List Nat), L[i]? = some l → ∃ b o x, A = some ⟨b, o, none⟩ ∧ b < w.heap.size ∧ w.cell? ⟨b, o + i, none⟩ = some x ∧ Ny w k x l) := by
  obtain ⟨xs, h1, h2⟩ := h
  obtain ⟨A, c, hv, hn, hc, h3⟩ := Sl.form h1
  refine ⟨A, c, hv, hn, hc, fun i l hl => ?_⟩
  have hi : i < L.length := (List.getElem?_eq_some_iff.1 hl).1
  obtain ⟨b, o, hA, hlt, hcell⟩ := h3 (by omega)
  obtain ⟨x, hx, hb⟩ := h2 i l hl
  exact ⟨b, o, x, hA, hlt, by rw [hcell i (by omega), hx], hb⟩

/-- A row of cols numbers of which the first j are reckoned. -/
def fillN (cols j : Nat) (f : Nat → Nat) : List Nat := (List.range j).map f ++ List.replicate (cols - j) 0
theorem fillN_zero (cols : Nat) (f : Nat → Nat) : fillN cols 0 f = List.replicate cols 0 := by simp [fillN]
theorem fillN_full (cols : Nat) (f : Nat → Nat) : fillN cols cols f = (List.range cols).map f := by simp [fillN]
theorem fillN_length {cols j : Nat} (f : Nat → Nat) (h : j ≤ cols) : (fillN cols j f).length = cols := by simp [fillN]; omega
theorem fillN_set {cols j : Nat} (f : Nat → Nat) (h : j < cols) : (fillN cols j f).set j (f j) = fillN cols (j + 1) f := by
  unfold fillN
  rw [List.set_append_right _ _ (by simp), List.length_map, List.length_range, Nat.sub_self, show cols - j = (cols - (j + 1)) + 1 by omega, List.replicate_succ, List.set_cons_zero, List.range_succ, List.map_append, List.append_assoc]
  rfl
theorem made_nums (k : IntKind) (n : Nat) : (madeCells (Value.int k 0).cells (n * 1)).toList = ncells k (List.replicate n 0) := by
  unfold ncells
  rw [List.map_replicate]
  have h1 : (madeCells (Value.int k 0).cells (n * 1)).toList = List.replicate n (.int k 0) := by
    apply List.ext_getElem?
    intro i
    have hm : ∀ x : Nat, x % 1 = 0 := fun x => Nat.mod_one x
    simp only [madeCells, Value.cells, Nat.mul_one, Array.toList_map, Array.toList_range, List.getElem?_map, List.getElem?_replicate]
    by_cases h : i < n
    · rw [List.getElem?_range h, if_pos h]; simp [Nat.mod_one]
    · rw [List.getElem?_eq_none (by simp; omega), if_neg h]; rfl
  rw [h1]
  rfl
/-- The rows of a matrix, by its elements. -/
def rowsN (cols : Nat) (E : Nat → Nat → Nat) (rows : Nat) : List (List Nat) := (List.range rows).map fun i => (List.range cols).map (E i)
theorem rowsN_succ (cols : Nat) (E : Nat → Nat → Nat) (k : Nat) : rowsN cols E (k + 1) = rowsN cols E k ++ [(List.range cols).map (E k)] := by simp [rowsN, List.range_succ]
@[simp] theorem rowsN_length (cols : Nat) (E : Nat → Nat → Nat) (k : Nat) : (rowsN cols E k).length = k := by simp [rowsN]
end Go.Proofs.YtoaaplngdomdcaaGreat

/- Contracts of the matrices of words: what lays one out of a function of places. -/
namespace Go.Proofs.YtoaaplngdomdcaaGreat
open Go.RowKit

theorem elemW : Elem1 Tryz.prog 23 22 (.int .u32 0) 4 := ⟨Tryz.underlying23, by kernel_rfl, rfl⟩
theorem elemWL : Elem1 Tryz.prog 61 23 (.slice none 0 0) 24 := ⟨Tryz.underlying61, by kernel_rfl, rfl⟩

/-- A matrix of words: its block holds the field and the rows L, which are of the call's own. -/
def Mw (F : Value) (w : World) (base g : Nat) (L : List (List Nat)) : Prop :=
  base ≤ g ∧ ∃ v, Blk w g 141 #[F, v] ∧ OwnNL w base 22 23 .u32 v L
theorem Mw.below {F : Value} {w w' : World} {base g : Nat} {L : List (List Nat)} (h : Mw F w base g L) (hb : Below w.heap.size w w') : Mw F w' base g L := by
  obtain ⟨h0, v, h1, h2⟩ := h
  exact ⟨h0, v, h1.below' hb, h2.below hb⟩

theorem laidw_step {F : Value} {w w' : World} {base g : Nat} {v v' u : Value} {L : List (List Nat)} {l : List Nat} {xs : List Value} (hb : Blk w g 141 #[F, v]) (h1 : w.ownsRow base 23 1 v L.length xs)
    (h2 : ∀ (i : Nat) (l : List Nat), L[i]? = some l → ∃ x, xs[i]? = some x ∧ OwnN w base 22 .u32 x l) (hu : OwnN w base 22 .u32 u l) (h' : w'.ownsRow base 23 1 v' (L.length + 1) (xs ++ [u])) (hg : w.grownBy w' v.ownBlock) :
    w'.cell? ⟨g, 1, none⟩ = some v ∧ w'.frozen? ⟨g, 1, none⟩ = false ∧ Blk w' g 141 #[F, v] ∧ OwnNL w' base 22 23 .u32 v' (L ++ [l]) := by
  have hk := hb.grown hg (by
    rcases own_blk_ne h1 hb (by decide) with h | h
    · intro e; rw [h] at e; cases e
    · exact fun e => h e.symm)
  exact ⟨by rw [hk.cell]; rfl, hk.frozen 1, hk, OwnNL.pushed (by decide) h1 h2 hu h' hg⟩

set_option maxRecDepth 100000 in
set_option maxHeartbeats 1600000 in
theorem laidw_any (ft : TypeId) (fv : Value) (rows cols : Nat) (K : FuncId) (cap : Array Value) (E : Nat → Nat → Nat) (w : World) (hr : rows ≤ 256) (hc : cols ≤ 256)
    (hent : ∀ (args : Array Value) (w : World), (callFunc K args).run Tryz.prog w = .ok (.enter K args) w)
    (hcl : ∀ (i j : Nat) (w' : World), i < rows → j < cols → Below w.heap.size w w' → Calls Tryz.prog K (#[.int .i64 (i : Int), .int .i64 (j : Int)] ++ cap) w' fun e w'' => e = .returned (.int .u32 ((E i j : Nat) : Int)) ∧ Below w'.heap.size w' w'') :
    Calls Tryz.prog 85 #[.iface ft fv, .int .i64 (rows : Int), .int .i64 (cols : Int), .func (.func K) #[] cap] w fun e w' => ∃ g, e = .returned (.pointer (some ⟨g, 0, none⟩)) ∧ Mw (.iface ft fv) w' w.heap.size g (rowsN cols E rows) ∧ Below w.heap.size w w' := by
  have hn1 := Blk.new w 141 #[.iface ft fv, .slice none 0 0]
  have hn2 := (Below.refl w.heap.size w).alloc (Nat.le_refl _) (.cells #[.iface ft fv, .slice none 0 0] 141)
  have H := hide (And.intro hn1 hn2)
  clear hn1 hn2
  go_enter Tryz.func85, Tryz.ntmps85
  go_wp2
  go_loopw [10, 11, 12, 17, 24] (fun _ _ _ u17 _ wr => ∃ k : Nat, k ≤ rows ∧ u17 = .int .i64 (k : Int) ∧ Mw (.iface ft fv) wr w.heap.size w.heap.size (rowsN cols E k) ∧ Below w.heap.size w wr) (fun _ _ _ u17 _ _ => rows - (intOf u17).toNat)
  case atStart => exact ⟨0, by omega, rfl, ⟨Nat.le_refl _, _, H.out.1, OwnNL.nil _ _ _ _ _⟩, H.out.2⟩
  case round =>
    clear H
    obtain ⟨k, hk, rfl, hmx, hbel⟩ := hrel
    obtain ⟨wr', hwr'⟩ : ∃ x, x = wr := ⟨_, rfl⟩
    subst hwr'
    have HM := hide hmx
    clear hmx
    by_cases hlt : k < rows
    · have i1 : (k : Int) < (rows : Int) := by omega
      obtain ⟨i, hi, hz, h1, h2⟩ := info_parts elemW.hi
      have HI := hide (And.intro hi (And.intro hz (And.intro h1 h2)))
      clear hi hz h1 h2
      go_wp2_with (at_make; refine wpList_make_full wr' rfl _ _ 23 rfl wr'.heap.size 22 i (.int .u32 0) 1 Tryz.underlying23 HI.out.1 HI.out.2.1 HI.out.2.2.1 .i64 .i64 _ _ cols rfl rfl rfl rfl (by rw [HI.out.2.2.2]; omega) (by unfold maxLen; omega) (Nat.le_refl _) ?_; intro w1 ho1 hg1)
      rw [made_nums] at ho1
      have hb1 : Below wr'.heap.size wr' w1 := (Below.refl wr'.heap.size wr').grown hg1 (Nat.le_refl _) (fun k hk => by cases hk)
      have HO := hide (show OwnN w1 wr'.heap.size 22 .u32 (.slice (some ⟨wr'.heap.size, 0, none⟩) cols cols) (fillN cols 0 (E k)) by
        rw [fillN_zero]; unfold OwnN; rw [List.length_replicate]; exact ho1)
      clear ho1 hg1 HI
      go_loopw [12, 24] (fun _ u24 w2 => ∃ j : Nat, j ≤ cols ∧ u24 = .int .i64 (j : Int) ∧ OwnN w2 wr'.heap.size 22 .u32 (.slice (some ⟨wr'.heap.size, 0, none⟩) cols cols) (fillN cols j (E k)) ∧ Below wr'.heap.size wr' w2) (fun _ u24 _ => cols - (intOf u24).toNat)
      case atStart => exact ⟨0, by omega, rfl, HO.out, hb1⟩
      case round =>
        clear HO hb1
        obtain ⟨j, hj, rfl, hown, hb2⟩ := hrel
        have HO := hide hown
        clear hown
        by_cases hjl : j < cols
        · have i2 : (j : Int) < (cols : Int) := by omega
          have i3 : (0 : Int) ≤ (j : Int) := by omega
          have q := hcl k j _ hlt hjl (hbel.trans (hb2.mono hbel.size))
          have hE := hent #[.int .i64 (k : Int), .int .i64 (j : Int)]
          go_wp2_with fail
          refine q.mono ?_
          rintro e w3 ⟨rfl, hb3⟩
          have ho3 := HO.out.below hb3
          have hlen := fillN_length (E k) hj
          have hfz := World.ownsRow.frozenAt (n := cols) (xs := ncells .u32 (fillN cols j (E k))) (by unfold OwnN at ho3; rw [hlen] at ho3; exact ho3) j
          have hcc := World.ownsRow.cellAt (n := cols) (xs := ncells .u32 (fillN cols j (E k))) (by unfold OwnN at ho3; rw [hlen] at ho3; exact ho3) j (by omega)
          obtain ⟨y, hcy⟩ : ∃ y, w3.cell? ⟨wr'.heap.size, j, none⟩ = some y := by rw [hcc]; exact ⟨_, List.getElem?_eq_getElem (by rw [ncells_length]; omega)⟩
          have HO3 := hide ho3
          have HL := hide hlen
          clear hcc ho3 hlen q HO hE
          go_wp2
          go_roundw
          case rel =>
            refine ⟨j + 1, by omega, by go_num, ?_, (hb2.trans (hb3.mono hb2.size)).setCell (Nat.le_refl _) _⟩
            rw [← fillN_set (E k) hjl]
            exact HO3.out.store j _
          case measure => simp [intOf]; omega
        · have hjc : j = cols := by omega
          subst hjc
          rw [fillN_full] at HO
          have hm2 := HM.out.below hb2
          obtain ⟨_, v, hblk, xs, hxs, hxl⟩ := hm2
          have hbel2 := hbel.trans (hb2.mono hbel.size)
          have hcv : wr.cell? ⟨w.heap.size, 1, none⟩ = some v := by rw [hblk.cell]; rfl
          have H1 := hide (And.intro hblk (And.intro hxs hxl))
          have hlr := rowsN_length j E k
          have HLR := hide hlr
          clear hblk hxs hxl hlr HM
          go_wp2_with (at_builtin; go_loud (refine wpList_push1 elemWL H1.out.2.1 hbel2 hbel2.size (by rw [HLR.out]; unfold maxLen; omega) (by rw [HLR.out]; omega) (.slice (some ⟨wr'.heap.size, 0, none⟩) j j) rfl rfl _ _ rfl rfl rfl ?_); intro v1 w4 ho4 hb4 _ hg4 _; obtain ⟨A1, c1, hv1, _⟩ := (Sl.of_own ho4).form; subst hv1; have h4 := laidw_step H1.out.1 H1.out.2.1 H1.out.2.2 (HO.out.mono_ hbel.size) ho4 hg4; have hc4 := h4.1; have hf4 := h4.2.1; have HK4 := hide h4.2.2.1; have HP4 := hide h4.2.2.2; clear h4 ho4)
          go_roundw
          case rel =>
            refine ⟨k + 1, by omega, by go_num, ⟨Nat.le_refl _, _, HK4.out.set_ 1 _, ?_⟩, hb4.setCell (Nat.le_refl _) _⟩
            rw [rowsN_succ]
            have hP := HP4.out
            rw [HLR.out] at hP
            exact hP.kept HK4.out (by decide) (by decide) (store_grown _ _ _ _)
          case measure => simp [intOf]; omega
    · have hkr : k = rows := by omega
      subst hkr
      go_wp2
      go_ret
      exact ⟨_, rfl, HM.out, hbel⟩
end Go.Proofs.YtoaaplngdomdcaaGreat

/- Contracts of the field of the numbers modulo a prime: the program's Mod and the document's. -/
namespace Go.Proofs.YtoaaplngdomdcaaGreat
open Go.RowKit

/-- A Mod of p. -/
def MP (w : World) (v : Value) (p : Nat) : Prop := ∃ g, v = .pointer (some ⟨g, 0, none⟩) ∧ g < w.heap.size ∧ w.cell? ⟨g, 0, none⟩ = some (.int .u64 (p : Int))
theorem MP.below {w w' : World} {v : Value} {p : Nat} (h : MP w v p) (hb : Below w.heap.size w w') : MP w' v p := by
  obtain ⟨g, h1, h2, h3⟩ := h
  have := hb.size
  exact ⟨g, h1, by omega, (hb.cell (p := ⟨g, 0, none⟩) h2).trans h3⟩
theorem MP.drewN {w : World} {v : Value} {p : Nat} (h : MP w v p) (q : Nat) : MP (w.drewN q) v p := h.below (below_drewN (Below.refl _ _) q)

set_option maxHeartbeats 400000 in
theorem told_any (v : Value) (p x : Nat) (w : World) (hm : MP w v p) (hp : 0 < p) (hp2 : p ≤ 2147483648) (hx : (x : Int) ≤ 18446744073709551615) :
    Calls Tryz.prog 62 #[v, .int .u64 (x : Int)] w fun e w' => e = .returned (.int .u32 ((x % p : Nat) : Int)) ∧ w = w' := by
  obtain ⟨g, rfl, hg, hc⟩ := hm
  have h0 : ((p : Int) == 0) = false := by simp; omega
  have hw : IntKind.u32.wrap ((x : Int) % (p : Int)) = ((x % p : Nat) : Int) := by
    have : x % p < p := Nat.mod_lt _ hp
    have e : ((x : Int) % (p : Int)) = ((x % p : Nat) : Int) := by simp
    rw [e]
    simp [IntKind.wrap, IntKind.bits, IntKind.signed]
    omega
  have h1 : (p : Int) ≠ 0 := by omega
  go_enter Tryz.func62, Tryz.ntmps62
  go_wp2
  go_ret
  exact ⟨rfl, rfl⟩

set_option maxHeartbeats 400000 in
theorem mzero_any (v : Value) (w : World) : Calls Tryz.prog 165 #[v] w fun e w' => e = .returned (.int .u32 0) ∧ w = w' := by
  go_enter Tryz.func165, Tryz.ntmps165
  go_wp2
  go_ret
  exact ⟨rfl, rfl⟩

set_option maxHeartbeats 400000 in
theorem mone_any (v : Value) (p : Nat) (w : World) (hm : MP w v p) (hp : 1 < p) (hp2 : p ≤ 2147483648) :
    Calls Tryz.prog 164 #[v] w fun e w' => e = .returned (.int .u32 1) ∧ w = w' := by
  have h := told_any v p 1 w hm (by omega) hp2 (by omega)
  rw [Nat.mod_eq_of_lt hp] at h
  go_enter Tryz.func164, Tryz.ntmps164
  go_wp2_with fail
  refine h.mono ?_
  rintro e w' ⟨rfl, rfl⟩
  go_wp2
  go_ret
  exact ⟨rfl, rfl⟩

set_option maxHeartbeats 400000 in
theorem madd_any (v : Value) (p a b : Nat) (w : World) (hm : MP w v p) (hp : 0 < p) (hp2 : p ≤ 2147483648) (ha : (a : Int) ≤ 4294967295) (hb : (b : Int) ≤ 4294967295) :
    Calls Tryz.prog 22 #[v, .int .u32 (a : Int), .int .u32 (b : Int)] w fun e w' => e = .returned (.int .u32 (((a + b) % p : Nat) : Int)) ∧ w = w' := by
  have h := told_any v p (a + b) w hm hp hp2 (by omega)
  rw [Int.natCast_add a b] at h
  go_enter Tryz.func22, Tryz.ntmps22
  go_wp2_with fail
  refine h.mono ?_
  rintro e w' ⟨rfl, rfl⟩
  go_wp2
  go_ret
  exact ⟨rfl, rfl⟩

theorem u64_id (x : Int) (h0 : 0 ≤ x) (h : x ≤ 18446744073709551615) : IntKind.u64.wrap x = x := by
  simp only [IntKind.wrap, IntKind.bits, IntKind.signed]
  simp
  omega
theorem u32_id (x : Int) (h0 : 0 ≤ x) (h : x ≤ 4294967295) : IntKind.u32.wrap x = x := by
  simp only [IntKind.wrap, IntKind.bits, IntKind.signed]
  simp
  omega
theorem mul_u64 (a b : Nat) (ha : a ≤ 4294967295) (hb : b ≤ 4294967295) : IntKind.u64.wrap ((a : Int) * (b : Int)) = ((a * b : Nat) : Int) ∧ ((a * b : Nat) : Int) ≤ 18446744065119617025 := by
  have h := Nat.mul_le_mul ha hb
  rw [← Int.natCast_mul]
  refine ⟨?_, by omega⟩
  simp only [IntKind.wrap, IntKind.bits, IntKind.signed]
  simp
  omega

set_option maxHeartbeats 400000 in
theorem mmul_any (v : Value) (p a b : Nat) (w : World) (hm : MP w v p) (hp : 0 < p) (hp2 : p ≤ 2147483648) (ha : (a : Int) ≤ 4294967295) (hb : (b : Int) ≤ 4294967295) :
    Calls Tryz.prog 24 #[v, .int .u32 (a : Int), .int .u32 (b : Int)] w fun e w' => e = .returned (.int .u32 (((a % p) * (b % p) % p : Nat) : Int)) ∧ w = w' := by
  have h1 := told_any v p a w hm hp hp2 (by omega)
  have h2 := told_any v p b w hm hp hp2 (by omega)
  obtain ⟨x, hx⟩ : ∃ x, x = a % p := ⟨_, rfl⟩
  obtain ⟨y, hy⟩ : ∃ y, y = b % p := ⟨_, rfl⟩
  have hxl : x < p := by rw [hx]; exact Nat.mod_lt _ hp
  have hyl : y < p := by rw [hy]; exact Nat.mod_lt _ hp
  obtain ⟨m1, m2⟩ := mul_u64 x y (by omega) (by omega)
  have h3 := told_any v p (x * y) w hm hp hp2 (by omega)
  rw [← hx] at h1 ⊢
  rw [← hy] at h2 ⊢
  have HX := hide hx
  have HY := hide hy
  clear hx hy
  go_enter Tryz.func24, Tryz.ntmps24
  go_wp2_with fail
  refine h1.mono ?_
  rintro e w' ⟨rfl, rfl⟩
  go_wp2_with fail
  refine h2.mono ?_
  rintro e w' ⟨rfl, rfl⟩
  go_wp2_with fail
  refine h3.mono ?_
  rintro e w' ⟨rfl, rfl⟩
  go_wp2
  go_ret
  exact ⟨rfl, rfl⟩

set_option maxHeartbeats 400000 in
theorem msub_any (v : Value) (p a b : Nat) (w : World) (hm : MP w v p) (hp : 0 < p) (hp2 : p ≤ 2147483648) (ha : (a : Int) ≤ 4294967295) (hb : (b : Int) ≤ 4294967295) :
    Calls Tryz.prog 23 #[v, .int .u32 (a : Int), .int .u32 (b : Int)] w fun e w' => e = .returned (.int .u32 (((a + p - b % p) % p : Nat) : Int)) ∧ ∃ q, w' = w.drewN q := by
  obtain ⟨y, hy⟩ : ∃ y, y = b % p := ⟨_, rfl⟩
  have hyl : y < p := by rw [hy]; exact Nat.mod_lt _ hp
  have hye : (b : Int) % (p : Int) = (y : Int) := by rw [hy]; simp
  have h1 := fun w (hm : MP w v p) => told_any v p (a + p - y) w hm hp hp2 (by omega)
  have e1 : ((a + p - y : Nat) : Int) = (a : Int) + (p : Int) - (y : Int) := by omega
  rw [e1] at h1
  rw [← hy]
  have HY := hide hy
  clear hy
  have HM := hide hm
  obtain ⟨g, rfl, hg, hc⟩ := hm
  have h0 : ((p : Int) == 0) = false := by simp; omega
  have hn : ¬ p = 0 := by omega
  have wa : IntKind.u64.wrap (a : Int) = (a : Int) := u64_id _ (by omega) (by omega)
  have wb : IntKind.u64.wrap (b : Int) = (b : Int) := u64_id _ (by omega) (by omega)
  have wp : IntKind.u64.wrap ((a : Int) + (p : Int)) = (a : Int) + (p : Int) := u64_id _ (by omega) (by omega)
  have wy : IntKind.u64.wrap (y : Int) = (y : Int) := u64_id _ (by omega) (by omega)
  have ws : IntKind.u64.wrap ((a : Int) + (p : Int) - (y : Int)) = (a : Int) + (p : Int) - (y : Int) := u64_id _ (by omega) (by omega)
  have ht : (b : Int).tmod (p : Int) = (y : Int) := by rw [Int.tmod_eq_emod_of_nonneg (by omega), hye]
  go_enter Tryz.func23, Tryz.ntmps23
  go_wp2
  go_quiet ((go_at_call 62; with_reducible exact Calls.quiet_of_same ((h1 _ (HM.out.drewN _)).mono fun _ _ ⟨a, b⟩ => ⟨a, b.symm⟩)))
  go_wp2
  go_ret
  exact ⟨rfl, _, rfl⟩
end Go.Proofs.YtoaaplngdomdcaaGreat

/- The document's field of numbers, the power loops, primes, NewMod. -/
namespace Go.Proofs.YtoaaplngdomdcaaGreat
open Go.RowKit

def fadd (p a b : Nat) : Nat := (a + b) % p
def fsub (p a b : Nat) : Nat := (a + p - b % p) % p
def fmul (p a b : Nat) : Nat := a * b % p
def pw (p n x y : Nat) : Nat := if h : n = 0 then x else pw p (n / 2) (if n % 2 = 1 then fmul p x y else x) (fmul p y y)
termination_by n
decreasing_by omega
def finv (p a : Nat) : Nat := pw p (p - 2) 1 (a % p) % p
theorem pw_zero (p x y : Nat) : pw p 0 x y = x := by unfold pw; simp
theorem pw_odd (p n x y : Nat) (h : n % 2 = 1) : pw p n x y = pw p (n / 2) (fmul p x y) (fmul p y y) := by
  rw [pw, dif_neg (by omega), if_pos h]
theorem pw_even (p n x y : Nat) (h0 : 0 < n) (h : n % 2 = 0) : pw p n x y = pw p (n / 2) x (fmul p y y) := by
  rw [pw, dif_neg (by omega), if_neg (by omega)]
theorem fmul_lt (p a b : Nat) (hp : 0 < p) : fmul p a b < p := Nat.mod_lt _ hp
theorem fmul_mod (p a b : Nat) : (a % p) * (b % p) % p = fmul p a b := (Nat.mul_mod a b p).symm
theorem fsub_mod (p a b : Nat) (hp : 0 < p) : (a % p + p - b % p) % p = fsub p a b := by
  have := Nat.mod_lt b hp
  unfold fsub
  rw [show a % p + p - b % p = a % p + (p - b % p) by omega, show a + p - b % p = a + (p - b % p) by omega, Nat.add_mod, Nat.mod_mod, ← Nat.add_mod]

set_option maxHeartbeats 800000 in
theorem radd_any (p a b : Nat) (w : World) (hp : 0 < p) (hp2 : p ≤ 2147483648) (ha : (a : Int) ≤ 4294967295) (hb : (b : Int) ≤ 4294967295) :
    Calls Tryz.prog 118 #[.int .u32 (p : Int), .int .u32 (a : Int), .int .u32 (b : Int)] w fun e w' => e = .returned (.int .u32 ((fadd p a b : Nat) : Int)) ∧ ∃ q, w' = w.drewN q := by
  unfold fadd
  rw [Nat.add_mod]
  obtain ⟨x, hx⟩ : ∃ x, x = a % p := ⟨_, rfl⟩
  obtain ⟨y, hy⟩ : ∃ y, y = b % p := ⟨_, rfl⟩
  have hxl : x < p := by rw [hx]; exact Nat.mod_lt _ hp
  have hyl : y < p := by rw [hy]; exact Nat.mod_lt _ hp
  have hxe : (a : Int).tmod (p : Int) = (x : Int) := by rw [hx, Int.tmod_eq_emod_of_nonneg (by omega)]; simp
  have hye : (b : Int).tmod (p : Int) = (y : Int) := by rw [hy, Int.tmod_eq_emod_of_nonneg (by omega)]; simp
  rw [← hx, ← hy]
  have HX := hide hx
  have HY := hide hy
  clear hx hy
  obtain ⟨r, hr⟩ : ∃ r, r = (x + y) % p := ⟨_, rfl⟩
  have hrl : r < p := by rw [hr]; exact Nat.mod_lt _ hp
  have hre : ((x : Int) + (y : Int)).tmod (p : Int) = (r : Int) := by rw [hr, Int.tmod_eq_emod_of_nonneg (by omega)]; simp
  rw [← hr]
  have HR := hide hr
  clear hr
  have hn : ¬ p = 0 := by omega
  have g1 : ((p : Int) == 0) = false := by simp; omega
  have w1 : IntKind.u64.wrap (x : Int) = (x : Int) := u64_id _ (by omega) (by omega)
  have w2 : IntKind.u64.wrap (y : Int) = (y : Int) := u64_id _ (by omega) (by omega)
  have w3 : IntKind.u64.wrap ((x : Int) + (y : Int)) = (x : Int) + (y : Int) := u64_id _ (by omega) (by omega)
  have w4 : IntKind.u64.wrap (p : Int) = (p : Int) := u64_id _ (by omega) (by omega)
  have w5 : IntKind.u32.wrap (r : Int) = (r : Int) := u32_id _ (by omega) (by omega)
  have w6 : IntKind.u32.wrap (x : Int) = (x : Int) := u32_id _ (by omega) (by omega)
  have w7 : IntKind.u32.wrap (y : Int) = (y : Int) := u32_id _ (by omega) (by omega)
  have w8 : IntKind.u64.wrap (r : Int) = (r : Int) := u64_id _ (by omega) (by omega)
  go_enter Tryz.func118, Tryz.ntmps118
  go_wp2
  go_quiet (fail)
  go_wp2
  go_ret
  exact ⟨rfl, _, rfl⟩

set_option maxHeartbeats 800000 in
theorem rsub_any (p a b : Nat) (w : World) (hp : 0 < p) (hp2 : p ≤ 2147483648) (ha : (a : Int) ≤ 4294967295) (hb : (b : Int) ≤ 4294967295) :
    Calls Tryz.prog 138 #[.int .u32 (p : Int), .int .u32 (a : Int), .int .u32 (b : Int)] w fun e w' => e = .returned (.int .u32 ((fsub p a b : Nat) : Int)) ∧ ∃ q, w' = w.drewN q := by
  rw [← fsub_mod p a b hp]
  obtain ⟨x, hx⟩ : ∃ x, x = a % p := ⟨_, rfl⟩
  obtain ⟨y, hy⟩ : ∃ y, y = b % p := ⟨_, rfl⟩
  have hxl : x < p := by rw [hx]; exact Nat.mod_lt _ hp
  have hyl : y < p := by rw [hy]; exact Nat.mod_lt _ hp
  have hxe : (a : Int).tmod (p : Int) = (x : Int) := by rw [hx, Int.tmod_eq_emod_of_nonneg (by omega)]; simp
  have hye : (b : Int).tmod (p : Int) = (y : Int) := by rw [hy, Int.tmod_eq_emod_of_nonneg (by omega)]; simp
  rw [← hx, ← hy]
  have HX := hide hx
  have HY := hide hy
  clear hx hy
  obtain ⟨r, hr⟩ : ∃ r, r = (x + p - y) % p := ⟨_, rfl⟩
  have hrl : r < p := by rw [hr]; exact Nat.mod_lt _ hp
  have hre : ((x : Int) + (p : Int) - (y : Int)).tmod (p : Int) = (r : Int) := by rw [hr, Int.tmod_eq_emod_of_nonneg (by omega), Int.natCast_emod]; congr 1; omega
  rw [← hr]
  have HR := hide hr
  clear hr
  have hn : ¬ p = 0 := by omega
  have g1 : ((p : Int) == 0) = false := by simp; omega
  have w1 : IntKind.u64.wrap (x : Int) = (x : Int) := u64_id _ (by omega) (by omega)
  have w2 : IntKind.u64.wrap (y : Int) = (y : Int) := u64_id _ (by omega) (by omega)
  have w3 : IntKind.u64.wrap ((x : Int) + (p : Int)) = (x : Int) + (p : Int) := u64_id _ (by omega) (by omega)
  have w9 : IntKind.u64.wrap ((x : Int) + (p : Int) - (y : Int)) = (x : Int) + (p : Int) - (y : Int) := u64_id _ (by omega) (by omega)
  have w4 : IntKind.u64.wrap (p : Int) = (p : Int) := u64_id _ (by omega) (by omega)
  have w5 : IntKind.u32.wrap (r : Int) = (r : Int) := u32_id _ (by omega) (by omega)
  have w6 : IntKind.u32.wrap (x : Int) = (x : Int) := u32_id _ (by omega) (by omega)
  have w7 : IntKind.u32.wrap (y : Int) = (y : Int) := u32_id _ (by omega) (by omega)
  have w8 : IntKind.u64.wrap (r : Int) = (r : Int) := u64_id _ (by omega) (by omega)
  go_enter Tryz.func138, Tryz.ntmps138
  go_wp2
  go_quiet (fail)
  go_wp2
  go_ret
  exact ⟨rfl, _, rfl⟩

set_option maxHeartbeats 800000 in
theorem rmul_any (p a b : Nat) (w : World) (hp : 0 < p) (hp2 : p ≤ 2147483648) (ha : (a : Int) ≤ 4294967295) (hb : (b : Int) ≤ 4294967295) :
    Calls Tryz.prog 119 #[.int .u32 (p : Int), .int .u32 (a : Int), .int .u32 (b : Int)] w fun e w' => e = .returned (.int .u32 ((fmul p a b : Nat) : Int)) ∧ ∃ q, w' = w.drewN q := by
  rw [← fmul_mod p a b]
  obtain ⟨x, hx⟩ : ∃ x, x = a % p := ⟨_, rfl⟩
  obtain ⟨y, hy⟩ : ∃ y, y = b % p := ⟨_, rfl⟩
  have hxl : x < p := by rw [hx]; exact Nat.mod_lt _ hp
  have hyl : y < p := by rw [hy]; exact Nat.mod_lt _ hp
  have hxe : (a : Int).tmod (p : Int) = (x : Int) := by rw [hx, Int.tmod_eq_emod_of_nonneg (by omega)]; simp
  have hye : (b : Int).tmod (p : Int) = (y : Int) := by rw [hy, Int.tmod_eq_emod_of_nonneg (by omega)]; simp
  rw [← hx, ← hy]
  have HX := hide hx
  have HY := hide hy
  clear hx hy
  obtain ⟨m1, m2⟩ := mul_u64 x y (by omega) (by omega)
  obtain ⟨m, hm⟩ : ∃ m, m = x * y := ⟨_, rfl⟩
  rw [← hm] at m1 m2 ⊢
  have HM := hide hm
  clear hm
  obtain ⟨r, hr⟩ : ∃ r, r = m % p := ⟨_, rfl⟩
  have hrl : r < p := by rw [hr]; exact Nat.mod_lt _ hp
  have hre : (m : Int).tmod (p : Int) = (r : Int) := by rw [hr, Int.tmod_eq_emod_of_nonneg (by omega)]; simp
  rw [← hr]
  have HR := hide hr
  clear hr
  have hn : ¬ p = 0 := by omega
  have g1 : ((p : Int) == 0) = false := by simp; omega
  have w1 : IntKind.u64.wrap (x : Int) = (x : Int) := u64_id _ (by omega) (by omega)
  have w2 : IntKind.u64.wrap (y : Int) = (y : Int) := u64_id _ (by omega) (by omega)
  have w4 : IntKind.u64.wrap (p : Int) = (p : Int) := u64_id _ (by omega) (by omega)
  have w5 : IntKind.u32.wrap (r : Int) = (r : Int) := u32_id _ (by omega) (by omega)
  have w6 : IntKind.u32.wrap (x : Int) = (x : Int) := u32_id _ (by omega) (by omega)
  have w7 : IntKind.u32.wrap (y : Int) = (y : Int) := u32_id _ (by omega) (by omega)
  have w8 : IntKind.u64.wrap (r : Int) = (r : Int) := u64_id _ (by omega) (by omega)
  go_enter Tryz.func119, Tryz.ntmps119
  go_wp2
  go_quiet (fail)
  go_wp2
  go_ret
  exact ⟨rfl, _, rfl⟩

theorem mod_int (a p : Nat) : (a : Int) % (p : Int) = ((a % p : Nat) : Int) := by simp

set_option maxHeartbeats 800000 in
theorem rown_any (p a : Nat) (w : World) (hp : 0 < p) (hp2 : p ≤ 2147483648) (ha : (a : Int) ≤ 4294967295) :
    Calls Tryz.prog 135 #[.int .u32 (p : Int), .int .u32 (a : Int)] w fun e w' => e = .returned (.int .u32 ((a % p : Nat) : Int)) ∧ w = w' := by
  have g1 : ((p : Int) == 0) = false := by simp; omega
  have hn : (p : Int) ≠ 0 := by omega
  have hm := mod_int a p
  have hl := Nat.mod_lt a hp
  go_enter Tryz.func135, Tryz.ntmps135
  go_wp2
  go_ret
  exact ⟨rfl, rfl⟩
end Go.Proofs.YtoaaplngdomdcaaGreat

/- Inverses in the field of numbers. -/
namespace Go.Proofs.YtoaaplngdomdcaaGreat
open Go.RowKit

theorem u64_and1 (n : Nat) (hn : n ≤ 18446744073709551615) : bits .and .u64 (n : Int) 1 = ((n % 2 : Nat) : Int) := by
  have := u64_and_nat n 1 (by omega) (by omega)
  rw [show (1 : Nat) = 2 ^ 1 - 1 from rfl, Nat.and_two_pow_sub_one_eq_mod] at this
  exact this

set_option maxHeartbeats 800000 in
theorem minverse_any (v : Value) (p a : Nat) (w : World) (hm : MP w v p) (hp : 1 < p) (hp2 : p ≤ 2147483648) (ha : (a : Int) ≤ 4294967295) :
    Calls Tryz.prog 21 #[v, .int .u32 (a : Int)] w fun e w' => e = .returned (.tuple (if a % p = 0 then #[.int .u32 0, .bool false] else #[.int .u32 ((finv p a : Nat) : Int), .bool true])) ∧ w = w' := by
  have h1 := told_any v p a w hm (by omega) hp2 (by omega)
  unfold finv
  obtain ⟨y, hy⟩ : ∃ y, y = a % p := ⟨_, rfl⟩
  rw [← hy] at h1 ⊢
  have hyl : y < p := by rw [hy]; exact Nat.mod_lt _ (by omega)
  have HM := hide hm
  obtain ⟨g, rfl, hg, hc⟩ := hm
  by_cases h0 : y = 0
  · rw [if_pos h0]
    subst h0
    clear hy hyl
    go_enter Tryz.func21, Tryz.ntmps21
    go_wp2_with fail
    refine h1.mono ?_
    rintro e w' ⟨rfl, rfl⟩
    go_wp2
    go_ret2
    exact ⟨rfl, rfl⟩
  · rw [if_neg h0]
    have g0 : ((y : Int) == 0) = false := by simp; omega
    have i1 : (2 : Int) ≤ (p : Int) := by omega
    have i2 : (p : Int) ≤ 2147483648 := by omega
    clear hy
    go_enter Tryz.func21, Tryz.ntmps21
    go_wp2_with fail
    refine h1.mono ?_
    rintro e w' ⟨rfl, rfl⟩
    go_wp2
    go_loopw [1, 6, 7] (fun u1 u6 u7 wr => ∃ z o n : Nat, u1 = .int .u32 (z : Int) ∧ u6 = .int .u32 (o : Int) ∧ u7 = .int .u64 (n : Int) ∧ z ≤ 2147483648 ∧ o ≤ 2147483648 ∧ n ≤ 2147483648 ∧ pw p n o z = pw p (p - 2) 1 y ∧ wr = w) (fun _ _ u7 _ => (intOf u7).toNat)
    case atStart => exact ⟨y, 1, p - 2, rfl, rfl, by go_num, by omega, by omega, by omega, rfl, rfl⟩
    case round =>
      obtain ⟨z, o, n, rfl, rfl, rfl, hz, ho, hn, hq, rfl⟩ := hrel
      have HQ := hide hq
      clear hq
      have m1 := mmul_any _ p o z wr HM.out (by omega) hp2 (by omega) (by omega)
      have m2 := mmul_any _ p z z wr HM.out (by omega) hp2 (by omega) (by omega)
      rw [fmul_mod] at m1 m2
      obtain ⟨x1, hx1⟩ : ∃ x, x = fmul p o z := ⟨_, rfl⟩
      obtain ⟨x2, hx2⟩ : ∃ x, x = fmul p z z := ⟨_, rfl⟩
      rw [← hx1] at m1
      rw [← hx2] at m2
      have l1 : x1 < p := by rw [hx1]; exact fmul_lt _ _ _ (by omega)
      have l2 : x2 < p := by rw [hx2]; exact fmul_lt _ _ _ (by omega)
      have HX1 := hide hx1
      have HX2 := hide hx2
      clear hx1 hx2
      by_cases hn0 : 0 < n
      · have hand := u64_and1 n (by omega)
        obtain ⟨b, hb⟩ : ∃ b, b = n % 2 := ⟨_, rfl⟩
        rw [← hb] at hand
        have hbb : b = 0 ∨ b = 1 := by omega
        have HB := hide hb
        clear hb
        rcases hbb with rfl | rfl
        · go_wp2_with fail
          refine m2.mono ?_
          rintro e w' ⟨rfl, rfl⟩
          go_wp2
          go_roundw
          case rel => exact ⟨x2, o, n / 2, rfl, rfl, by go_num, by omega, by omega, by omega, by rw [← HQ.out, pw_even p n o z hn0 HB.out.symm, HX2.out], by first | rfl | trivial⟩
          case measure => simp [intOf]; omega
        · go_wp2_with fail
          refine m1.mono ?_
          rintro e w' ⟨rfl, rfl⟩
          go_wp2_with fail
          refine m2.mono ?_
          rintro e w' ⟨rfl, rfl⟩
          go_wp2
          go_roundw
          case rel => exact ⟨x2, x1, n / 2, rfl, rfl, by go_num, by omega, by omega, by omega, by rw [← HQ.out, pw_odd p n o z HB.out.symm, HX2.out, HX1.out], by first | rfl | trivial⟩
          case measure => simp [intOf]; omega
      · have hn1 : n = 0 := by omega
        subst hn1
        have h2 := told_any _ p o wr HM.out (by omega) hp2 (by omega)
        have hq := HQ.out
        rw [pw_zero] at hq
        subst hq
        go_wp2_with fail
        refine h2.mono ?_
        rintro e w' ⟨rfl, rfl⟩
        go_wp2
        go_ret2
        exact ⟨rfl, rfl⟩
end Go.Proofs.YtoaaplngdomdcaaGreat

/- The document's inverse, primes, NewMod. -/
namespace Go.Proofs.YtoaaplngdomdcaaGreat
open Go.RowKit

set_option maxHeartbeats 800000 in
theorem rinverse_any (p a : Nat) (w : World) (hp : 1 < p) (hp2 : p ≤ 2147483648) (ha : (a : Int) ≤ 4294967295) :
    Calls Tryz.prog 137 #[.int .u32 (p : Int), .int .u32 (a : Int)] w fun e w' => e = .returned (.tuple (if a % p = 0 then #[.int .u32 0, .bool false] else #[.int .u32 ((finv p a : Nat) : Int), .bool true])) ∧ ∃ q, w' = w.drewN q := by
  have h1 := rown_any p a w (by omega) hp2 (by omega)
  unfold finv
  have hme := mod_int a p
  obtain ⟨y, hy⟩ : ∃ y, y = a % p := ⟨_, rfl⟩
  rw [← hy] at h1 hme ⊢
  have hyl : y < p := by rw [hy]; exact Nat.mod_lt _ (by omega)
  have gp : ((p : Int) == 0) = false := by simp; omega
  have gn : (p : Int) ≠ 0 := by omega
  by_cases h0 : y = 0
  · rw [if_pos h0]
    subst h0
    clear hy hyl
    go_enter Tryz.func137, Tryz.ntmps137
    go_wp2_with fail
    refine h1.mono ?_
    rintro e w' ⟨rfl, rfl⟩
    go_wp2
    go_ret2
    exact ⟨rfl, 0, rfl⟩
  · rw [if_neg h0]
    have g0 : ((y : Int) == 0) = false := by simp; omega
    have i1 : (2 : Int) ≤ (p : Int) := by omega
    have i2 : (p : Int) ≤ 2147483648 := by omega
    clear hy
    have b1 : (0 : Int) ≤ (a : Int) % (p : Int) := by omega
    have b2 : (a : Int) % (p : Int) ≤ 2147483648 := by omega
    have HME := hide hme
    clear hme
    go_enter Tryz.func137, Tryz.ntmps137
    go_wp2_with fail
    refine h1.mono ?_
    rintro e w' ⟨rfl, rfl⟩
    go_wp2
    go_loopw [7, 8, 9] (fun u7 u8 u9 wr => ∃ z o n q : Nat, u8 = .int .u32 (z : Int) ∧ u7 = .int .u32 (o : Int) ∧ u9 = .int .u32 (n : Int) ∧ z ≤ 2147483648 ∧ o ≤ 2147483648 ∧ n ≤ 2147483648 ∧ pw p n o z = pw p (p - 2) 1 y ∧ wr = w.drewN q) (fun _ _ u9 _ => (intOf u9).toNat)
    case atStart => exact ⟨y, 1, p - 2, 0, by rw [HME.out], rfl, by go_num, by omega, by omega, by omega, rfl, rfl⟩
    case round =>
      obtain ⟨z, o, n, q, rfl, rfl, rfl, hz, ho, hn, hq, rfl⟩ := hrel
      have HQ := hide hq
      clear hq
      have m1 := fun w => rmul_any p o z w (by omega) hp2 (by omega) (by omega)
      have m2 := fun w => rmul_any p z z w (by omega) hp2 (by omega) (by omega)
      obtain ⟨x1, hx1⟩ : ∃ x, x = fmul p o z := ⟨_, rfl⟩
      obtain ⟨x2, hx2⟩ : ∃ x, x = fmul p z z := ⟨_, rfl⟩
      rw [← hx1] at m1
      rw [← hx2] at m2
      have l1 : x1 < p := by rw [hx1]; exact fmul_lt _ _ _ (by omega)
      have l2 : x2 < p := by rw [hx2]; exact fmul_lt _ _ _ (by omega)
      have HX1 := hide hx1
      have HX2 := hide hx2
      clear hx1 hx2
      by_cases hn0 : 0 < n
      · have hand := mod_int n 2
        have hand2 : (n : Int) % 2 = ((n % 2 : Nat) : Int) := hand
        clear hand
        obtain ⟨b, hb⟩ : ∃ b, b = n % 2 := ⟨_, rfl⟩
        rw [← hb] at hand2
        have hbb : b = 0 ∨ b = 1 := by omega
        have HB := hide hb
        clear hb
        rcases hbb with rfl | rfl
        · go_wp2_with fail
          refine (m2 _).mono ?_
          rintro e w' ⟨rfl, q2, rfl⟩
          go_wp2
          go_roundw
          case rel => exact ⟨x2, o, n / 2, q + q2, rfl, rfl, by go_num, by omega, by omega, by omega, by rw [← HQ.out, pw_even p n o z hn0 HB.out.symm, HX2.out], by first | rfl | rw [World.drewN_drewN]⟩
          case measure => simp [intOf]; omega
        · go_wp2_with fail
          refine (m1 _).mono ?_
          rintro e w' ⟨rfl, q2, rfl⟩
          go_wp2_with fail
          refine (m2 _).mono ?_
          rintro e w' ⟨rfl, q3, rfl⟩
          go_wp2
          go_roundw
          case rel => exact ⟨x2, x1, n / 2, q + q2 + q3, rfl, rfl, by go_num, by omega, by omega, by omega, by rw [← HQ.out, pw_odd p n o z HB.out.symm, HX2.out, HX1.out], by first | rfl | rw [World.drewN_drewN, World.drewN_drewN]⟩
          case measure => simp [intOf]; omega
      · have hn1 : n = 0 := by omega
        subst hn1
        have h2 := mod_int o p
        have hq := HQ.out
        rw [pw_zero] at hq
        subst hq
        obtain ⟨r, hr⟩ : ∃ r, r = pw p (p - 2) 1 y % p := ⟨_, rfl⟩
        rw [← hr] at h2
        have HR := hide hr
        clear hr
        go_wp2
        go_ret2
        refine ⟨?_, _, rfl⟩
        rw [← HR.out]
        exact congrArg (fun x => Ending.returned (.tuple #[.int .u32 x, .bool true])) h2

/-- A prime number. -/
def PrimeN (p : Nat) : Prop := 2 ≤ p ∧ ∀ e, 2 ≤ e → e * e ≤ p → p % e ≠ 0
noncomputable def primeB (p : Nat) : Bool := @decide (PrimeN p) (Classical.propDecidable _)
theorem primeB_true {p : Nat} (h : PrimeN p) : primeB p = true := @decide_eq_true _ (Classical.propDecidable _) h
theorem primeB_false {p : Nat} (h : ¬ PrimeN p) : primeB p = false := @decide_eq_false _ (Classical.propDecidable _) h
theorem primeB_iff {p : Nat} : primeB p = true ↔ PrimeN p := @decide_eq_true_iff _ (Classical.propDecidable _)
noncomputable def primeR (p : Nat) : Bool := primeB p && decide (p ≤ 2147483648)
theorem primeR_true {p : Nat} (h : PrimeN p) (h2 : p ≤ 2147483648) : primeR p = true := by simp [primeR, primeB_true h, h2]
theorem primeR_false {p : Nat} (h : ¬ PrimeN p) : primeR p = false := by simp [primeR, primeB_false h]
theorem primeR_big {p : Nat} (h : 2147483648 < p) : primeR p = false := by simp [primeR]; omega
theorem prime_more {p d : Nat} (h : ∀ e, 2 ≤ e → e < d → p % e ≠ 0) (h2 : p % d ≠ 0) : ∀ e, 2 ≤ e → e < d + 1 → p % e ≠ 0 := by
  intro e h3 h4
  rcases Nat.lt_or_ge e d with h5 | h5
  · exact h e h3 h5
  · have : e = d := by omega
    subst this; exact h2
theorem prime_end {p d : Nat} (hp : 2 ≤ p) (h : ∀ e, 2 ≤ e → e < d → p % e ≠ 0) (h2 : p < d * d) : PrimeN p := by
  refine ⟨hp, fun e h3 h4 => h e h3 ?_⟩
  rcases Nat.lt_or_ge e d with h5 | h5
  · exact h5
  · have := Nat.mul_le_mul h5 h5
    omega
theorem sq_small {p d : Nat} (hp : p ≤ 4294967295) (h : d * d ≤ p) : d ≤ 65535 := by
  rcases Nat.lt_or_ge d 65536 with h5 | h5
  · omega
  · have := Nat.mul_le_mul h5 h5
    omega

set_option maxHeartbeats 800000 in
theorem prime_any (p : Nat) (w : World) (hp2 : (p : Int) ≤ 4294967295) :
    Calls Tryz.prog 61 #[.int .u32 (p : Int)] w fun e w' => e = .returned (.bool (primeB p)) ∧ w = w' := by
  by_cases h2 : p < 2
  · go_enter Tryz.func61, Tryz.ntmps61
    go_wp2
    go_ret
    exact ⟨ret_bool (primeB_false fun h => by have := h.1; omega).symm, rfl⟩
  · have hp : 2 ≤ p := by omega
    go_enter Tryz.func61, Tryz.ntmps61
    go_wp2
    go_loopw [3] (fun u3 wr => ∃ d : Nat, u3 = .int .u64 (d : Int) ∧ 2 ≤ d ∧ d ≤ 65536 ∧ (∀ e, 2 ≤ e → e < d → p % e ≠ 0) ∧ wr = w) (fun u3 _ => 65536 - (intOf u3).toNat)
    case atStart => exact ⟨2, rfl, by omega, by omega, fun e h3 h4 => by omega, rfl⟩
    case round =>
      obtain ⟨d, rfl, hd2, hd, hall, rfl⟩ := hrel
      have HALL := hide hall
      clear hall
      obtain ⟨m1, m2⟩ := mul_u64 d d (by omega) (by omega)
      obtain ⟨m, hm⟩ : ∃ m, m = d * d := ⟨_, rfl⟩
      rw [← hm] at m1 m2
      have hs : m ≤ p → d ≤ 65535 := fun h => sq_small (p := p) (by omega) (by omega)
      have he := mod_int p d
      have hn : (d : Int) ≠ 0 := by omega
      have HM := hide hm
      clear hm
      by_cases hmp : m ≤ p
      · have hs2 := hs hmp
        obtain ⟨r, hr⟩ : ∃ r, r = p % d := ⟨_, rfl⟩
        rw [← hr] at he
        have hrl : r < d := by rw [hr]; exact Nat.mod_lt _ (by omega)
        have HR := hide hr
        clear hr hs
        by_cases hr0 : r = 0
        · subst hr0
          clear hrl
          go_wp2
          go_ret
          exact ⟨ret_bool (primeB_false fun h => absurd HR.out.symm (h.2 d hd2 (by have := HM.out; omega))).symm, rfl⟩
        · have g1 : ((r : Int) == 0) = false := by simp; omega
          go_wp2
          go_roundw
          case rel => exact ⟨d + 1, by go_num, by omega, by omega, prime_more HALL.out (by rw [← HR.out]; exact hr0), by first | rfl | trivial⟩
          case measure => simp [intOf]; omega
      · go_wp2
        go_ret
        exact ⟨ret_bool (primeB_true (prime_end hp HALL.out (by have := HM.out; omega))).symm, rfl⟩

set_option maxHeartbeats 800000 in
theorem rprime_any (p : Nat) (w : World) (hp2 : (p : Int) ≤ 4294967295) :
    Calls Tryz.prog 26 #[.int .u32 (p : Int)] w fun e w' => e = .returned (.bool (primeR p)) ∧ w = w' := by
  by_cases h2 : p < 2
  · go_enter Tryz.func26, Tryz.ntmps26
    go_wp2
    go_ret
    exact ⟨ret_bool (primeR_false fun h => by have := h.1; omega).symm, rfl⟩
  by_cases h3 : 2147483648 < p
  · have hp : 2 ≤ p := by omega
    go_enter Tryz.func26, Tryz.ntmps26
    go_wp2
    go_ret
    exact ⟨ret_bool (primeR_big h3).symm, rfl⟩
  · have hp : 2 ≤ p := by omega
    have hp3 : p ≤ 2147483648 := by omega
    go_enter Tryz.func26, Tryz.ntmps26
    go_wp2
    go_loopw [3] (fun u3 wr => ∃ d : Nat, u3 = .int .u32 (d : Int) ∧ 2 ≤ d ∧ d ≤ 65536 ∧ (∀ e, 2 ≤ e → e < d → p % e ≠ 0) ∧ wr = w) (fun u3 _ => 65536 - (intOf u3).toNat)
    case atStart => exact ⟨2, rfl, by omega, by omega, fun e h3 h4 => by omega, rfl⟩
    case round =>
      obtain ⟨d, rfl, hd2, hd, hall, rfl⟩ := hrel
      have HALL := hide hall
      clear hall
      obtain ⟨m1, m2⟩ := mul_u64 d d (by omega) (by omega)
      obtain ⟨m, hm⟩ : ∃ m, m = d * d := ⟨_, rfl⟩
      rw [← hm] at m1 m2
      have hs : m ≤ p → d ≤ 65535 := fun h => sq_small (p := p) (by omega) (by omega)
      have he := mod_int p d
      have hn : (d : Int) ≠ 0 := by omega
      have HM := hide hm
      clear hm
      by_cases hmp : m ≤ p
      · have hs2 := hs hmp
        obtain ⟨r, hr⟩ : ∃ r, r = p % d := ⟨_, rfl⟩
        rw [← hr] at he
        have hrl : r < d := by rw [hr]; exact Nat.mod_lt _ (by omega)
        have HR := hide hr
        clear hr hs
        by_cases hr0 : r = 0
        · subst hr0
          clear hrl
          go_wp2
          go_ret
          exact ⟨ret_bool (primeR_false fun h => absurd HR.out.symm (h.2 d hd2 (by have := HM.out; omega))).symm, rfl⟩
        · have g1 : ((r : Int) == 0) = false := by simp; omega
          go_wp2
          go_roundw
          case rel => exact ⟨d + 1, by go_num, by omega, by omega, prime_more HALL.out (by rw [← HR.out]; exact hr0), by first | rfl | trivial⟩
          case measure => simp [intOf]; omega
      · go_wp2
        go_ret
        exact ⟨ret_bool (primeR_true (prime_end hp HALL.out (by have := HM.out; omega)) hp3).symm, rfl⟩
end Go.Proofs.YtoaaplngdomdcaaGreat

/- NewMod. -/
namespace Go.Proofs.YtoaaplngdomdcaaGreat
open Go.RowKit

set_option maxHeartbeats 800000 in
theorem newmod_no (p : Nat) (w : World) (hp2 : (p : Int) ≤ 4294967295) (h : primeR p = false) :
    Calls Tryz.prog 20 #[.int .u32 (p : Int)] w fun e w' => e = .returned (.tuple #[.pointer none, .int .i64 73]) ∧ w = w' := by
  have h1 := prime_any p w hp2
  have hx : 2147483648 < p ∨ (p ≤ 2147483648 ∧ primeB p = false) := by
    unfold primeR at h
    simp at h
    by_cases h2 : p ≤ 2147483648
    · right
      refine ⟨h2, ?_⟩
      cases hb : primeB p
      · rfl
      · have := h hb; omega
    · left; omega
  clear h
  rcases hx with hx | ⟨hx, hb⟩
  · go_enter Tryz.func20, Tryz.ntmps20
    go_wp2
    go_ret2
    exact ⟨rfl, rfl⟩
  · rw [hb] at h1
    clear hb
    go_enter Tryz.func20, Tryz.ntmps20
    go_wp2_with fail
    refine h1.mono ?_
    rintro e w' ⟨rfl, rfl⟩
    go_wp2
    go_ret2
    exact ⟨rfl, rfl⟩

set_option maxHeartbeats 800000 in
theorem newmod_yes (p : Nat) (w : World) (h : primeR p = true) :
    Calls Tryz.prog 20 #[.int .u32 (p : Int)] w fun e w' => ∃ g, e = .returned (.tuple #[.pointer (some ⟨g, 0, none⟩), .int .i64 0]) ∧ MP w' (.pointer (some ⟨g, 0, none⟩)) p ∧ Below w.heap.size w w' := by
  have hx : primeB p = true ∧ p ≤ 2147483648 := by
    unfold primeR at h
    simpa using h
  obtain ⟨hb, hp⟩ := hx
  have h1 := prime_any p w (by omega)
  rw [hb] at h1
  clear hb h
  go_enter Tryz.func20, Tryz.ntmps20
  go_wp2_with fail
  refine h1.mono ?_
  rintro e w' ⟨rfl, rfl⟩
  go_wp2
  go_ret2
  refine ⟨_, rfl, ⟨_, rfl, ?_, ?_⟩, (Below.refl _ w).alloc (Nat.le_refl _) _⟩
  · simp
  · exact (Blk.new w _ _).cell 0
end Go.Proofs.YtoaaplngdomdcaaGreat

/- Contracts of the matrices of words over a Mod: Identity. -/
namespace Go.Proofs.YtoaaplngdomdcaaGreat
open Go.RowKit

/-- A Mod, as matrices hold it. -/
abbrev modF (g : Nat) : Value := .iface 25 (.pointer (some ⟨g, 0, none⟩))
theorem methw_one (n : Nat) (A : Option Addr) (w : World) : (method (n + 1) 25 (.pointer A) "One").run Tryz.prog w = .ok (164, .pointer A) w := by kernel_rfl
theorem methw_zero (n : Nat) (A : Option Addr) (w : World) : (method (n + 1) 25 (.pointer A) "Zero").run Tryz.prog w = .ok (165, .pointer A) w := by kernel_rfl
theorem methw_add (n : Nat) (A : Option Addr) (w : World) : (method (n + 1) 25 (.pointer A) "Add").run Tryz.prog w = .ok (22, .pointer A) w := by kernel_rfl
theorem methw_sub (n : Nat) (A : Option Addr) (w : World) : (method (n + 1) 25 (.pointer A) "Sub").run Tryz.prog w = .ok (23, .pointer A) w := by kernel_rfl
theorem methw_mul (n : Nat) (A : Option Addr) (w : World) : (method (n + 1) 25 (.pointer A) "Mul").run Tryz.prog w = .ok (24, .pointer A) w := by kernel_rfl
theorem methw_inv (n : Nat) (A : Option Addr) (w : World) : (method (n + 1) 25 (.pointer A) "Inverse").run Tryz.prog w = .ok (21, .pointer A) w := by kernel_rfl
def ahead? (nm : String) : Prop := ∀ (n : Nat) (A : Option Addr) (w : World), (nilAhead (n + 1) 25 (.pointer A) nm).run Tryz.prog w = .ok (some false) w
theorem aheadw_add : ahead? "Add" := fun n A w => by kernel_rfl
theorem aheadw_one : ahead? "One" := fun n A w => by kernel_rfl

/-- The identity's elements. -/
def idE (i j : Nat) : Nat := if i = j then 1 else 0

set_option maxRecDepth 100000 in
set_option maxHeartbeats 1600000 in
theorem identc_any (i j g p b : Nat) (w : World) (hi : i ≤ 256) (hj : j ≤ 256) (hm : MP w (.pointer (some ⟨g, 0, none⟩)) p) (hp : 1 < p) (hp2 : p ≤ 2147483648) (c1 : w.cell? ⟨b, 0, none⟩ = some (modF g)) :
    Calls Tryz.prog 86 #[.int .i64 (i : Int), .int .i64 (j : Int), .pointer (some ⟨b, 0, none⟩)] w fun e w' => e = .returned (.int .u32 ((idE i j : Nat) : Int)) ∧ Below w.heap.size w w' := by
  have m1 := methw_one
  have m2 := methw_zero
  have Q1 := hide (mone_any (.pointer (some ⟨g, 0, none⟩)) p w hm hp hp2)
  have Q2 := hide (mzero_any (.pointer (some ⟨g, 0, none⟩)) w)
  clear hm
  unfold idE
  by_cases h : i = j
  · subst h
    rw [if_pos rfl]
    go_enter Tryz.func86, Tryz.ntmps86
    go_wp2_with fail
    refine Q1.out.mono ?_
    rintro e w' ⟨rfl, rfl⟩
    go_wp2
    go_ret
    exact ⟨rfl, Below.refl _ _⟩
  · rw [if_neg h]
    have i1 : ¬ (i : Int) = (j : Int) := by omega
    clear h
    go_enter Tryz.func86, Tryz.ntmps86
    go_wp2_with fail
    refine Q2.out.mono ?_
    rintro e w' ⟨rfl, rfl⟩
    go_wp2
    go_ret
    exact ⟨rfl, Below.refl _ _⟩

theorem dimsw_any (r c : Nat) (w : World) (hr : 1 ≤ r ∧ r ≤ 256) (hc : 1 ≤ c ∧ c ≤ 256) :
    Calls Tryz.prog 82 #[.int .i64 (r : Int), .int .i64 (c : Int)] w fun e w' => e = .returned (.bool true) ∧ w = w' := by
  have i1 : (r : Int) ≥ 1 := by omega
  have i2 : (r : Int) ≤ 256 := by omega
  have i3 : (c : Int) ≥ 1 := by omega
  have i4 : (c : Int) ≤ 256 := by omega
  go_enter Tryz.func82, Tryz.ntmps82
  go_wp2
  go_ret
  exact ⟨rfl, rfl⟩

set_option maxRecDepth 100000 in
set_option maxHeartbeats 1600000 in
theorem identw_any (n g p : Nat) (w : World) (hn : 1 ≤ n ∧ n ≤ 256) (hm : MP w (.pointer (some ⟨g, 0, none⟩)) p) (hp : 1 < p) (hp2 : p ≤ 2147483648) :
    Calls Tryz.prog 33 #[modF g, .int .i64 (n : Int)] w fun e w' =>
      ∃ x base, e = .returned (.tuple #[.pointer (some ⟨x, 0, none⟩), .int .i64 0]) ∧ w.heap.size ≤ base ∧ Mw (modF g) w' base x (rowsN n idE n) ∧ Below w.heap.size w w' := by
  have q1 := fun w => dimsw_any n n w hn hn
  have HM := hide hm
  have HN := hide hn
  clear hm hn
  go_enter Tryz.func33, Tryz.ntmps33
  go_wp2_with fail
  refine (q1 _).mono ?_
  rintro e w' ⟨rfl, rfl⟩
  go_wp2_with fail
  have n1 := Blk.new w 132 #[modF g]
  have n4 := (Below.refl w.heap.size w).alloc (Nat.le_refl _) (.cells #[modF g] 132)
  generalize w.alloc (.cells #[modF g] 132) = W at *
  refine (laidw_any 25 (.pointer (some ⟨g, 0, none⟩)) n n 86 #[.pointer (some ⟨w.heap.size, 0, none⟩)] idE W HN.out.2 HN.out.2
    (enters_of Tryz.func86 (by kernel_rfl) rfl) ?_).mono ?_
  · intro i j w' hi hj hb
    have hn := HN.out
    refine identc_any i j g p w.heap.size w' (by omega) (by omega) ((HM.out.below n4).below hb) hp hp2 ?_
    rw [(n1.below' hb).cell]; rfl
  · rintro e w' ⟨x, rfl, hmx, hb⟩
    have H4 := hide (And.intro n4 (And.intro hmx hb))
    clear n1 n4 hmx hb q1
    go_wp2
    go_ret2
    exact ⟨x, W.heap.size, rfl, H4.out.1.size, H4.out.2.1, H4.out.1.trans (H4.out.2.2.mono H4.out.1.size)⟩
end Go.Proofs.YtoaaplngdomdcaaGreat

/- More lemmas on memory: several elements appended at once. They hold of every program. -/
namespace Go.Proofs.YtoaaplngdomdcaaGreat
open Go.RowKit

/-- 'append(out, x, y, ..)', out a row of the call's own with elements of one cell. -/
theorem wpList_pushL {P : Program} {t e : TypeId} {z : Value} {bytes : Nat} (T : Elem1 P t e z bytes) {w : World} {base : Nat} {v : Value} {n : Nat} {xs : List Value} (hown : w.ownsRow base e 1 v n xs)
    {w0 : World} (hb : Below base w0 w) (hbase : base ≤ w.heap.size) (news : Array Value) (hn : n + news.size ≤ maxLen) (hbytes : (n + news.size) * bytes ≤ 140737488355328) (hu : ∀ u ∈ news.toList, u.oneCell' = true)
    {ops : Array Oper} {rest : List Oper} {o : Oper} {a : Act} {Q : Exit → Act → World → Prop} (hgd : o.guard = none) (s y : Operand)
    (ho : o.op = .call { callee := .builtin .append, args := #[s, y], argTypes := #[t, t] }) (hs : a.eval s = v) (hx : a.eval y = .slice (some ⟨w.heap.size, 0, none⟩) news.size news.size)
    (h : ∀ v' w', w'.ownsRow base e 1 v' (n + news.size) (xs ++ news.toList) → Below base w0 w' → w.grownBy w' v.ownBlock → (v'.ownBlock = v.ownBlock ∨ ∀ g, v'.ownBlock = some g → w.heap.size ≤ g) → wpList P ops Q rest (a.put o.dst v') w') :
    wpList P ops Q (o :: rest) a (w.alloc (.cells news e)) := by
  refine wpList_plain hgd fun K hK => ?_
  obtain ⟨i, hi, hz, h1, h2⟩ := info_parts T.hi
  have hn1 : ∀ j u, news.toList[j]? = some u → (w.alloc (.cells news e)).cell? ((⟨w.heap.size, 0, none⟩ : Addr).add j) = some u :=
    World.news_of_block (w := w.alloc (.cells news e)) (B := w.heap.size) (cs := news) (t := e) (fr := (0, 0)) (heap_alloc_new w _)
  obtain ⟨v', w', hrun, h3, h4, _, h6⟩ := run_append_own_at (P := P) (w.alloc (.cells news e)) base t o.type e i z 1 bytes T.ht hi hz h1 h2 T.hz (by omega) v n xs (hown.alloc _) ⟨w.heap.size, 0, none⟩ news.size news.size news.toList (by simp) hn1 hu hn hbytes (by simp; omega)
  have gb : w.grownBy w' v.ownBlock := ⟨h4.os, h4.tape, h4.output, Nat.le_trans (by simp) h4.size, fun k hk hne => (h4.block k (by simp; omega) hne).trans (Below.heap_alloc w _ k hk)⟩
  unfold Oper.wp execOp
  simp only [ho, resolve, invoke, builtin, Sem.run_bind, Sem.run_pure, Result.andThen_ok, List.map_toArray, List.map_cons, List.map_nil, hs, hx, hrun]
  refine hK _ _ (h v' w' h3 (hb.grown gb hbase fun k hk => (hown.lt k hk).1) gb ?_)
  rcases h6 with h6 | h6
  · exact .inl h6
  · refine .inr fun g hg => ?_
    rw [h6] at hg
    injection hg with hg
    simp at hg
    omega

/-- The same, of bytes. -/
theorem wpList_pushBs {P : Program} {t e : TypeId} (T : Elem1 P t e (.int .u8 0) 1) {w : World} {base : Nat} {v : Value} {l : List UInt8} (hown : Own w base e v l)
    {w0 : World} (hb : Below base w0 w) (hbase : base ≤ w.heap.size) (m : List UInt8) (hlen : l.length + m.length ≤ 140737488355328) (news : Array Value) (hnews : news.toList = bcells m) (hsz : news.size = m.length)
    {ops : Array Oper} {rest : List Oper} {o : Oper} {a : Act} {Q : Exit → Act → World → Prop} (hgd : o.guard = none) (s y : Operand)
    (ho : o.op = .call { callee := .builtin .append, args := #[s, y], argTypes := #[t, t] }) (hs : a.eval s = v) (hx : a.eval y = .slice (some ⟨w.heap.size, 0, none⟩) news.size news.size)
    (h : ∀ v' w', Own w' base e v' (l ++ m) → Below base w0 w' → w.grownBy w' v.ownBlock → (v'.ownBlock = v.ownBlock ∨ ∀ g, v'.ownBlock = some g → w.heap.size ≤ g) → wpList P ops Q rest (a.put o.dst v') w') :
    wpList P ops Q (o :: rest) a (w.alloc (.cells news e)) := by
  refine wpList_pushL T hown hb hbase news (by rw [hsz]; unfold maxLen; omega) (by rw [hsz]; omega) (fun u hu => ?_) hgd s y ho hs hx fun v' w' h1 h2 h3 h4 => h v' w' ?_ h2 h3 h4
  · rw [hnews] at hu
    obtain ⟨x, _, rfl⟩ := List.mem_map.1 hu
    rfl
  · unfold Own
    rw [bcells_append, List.length_append]
    rw [hnews, hsz] at h1
    exact h1

theorem Own.alloc {w : World} {base : Nat} {e : TypeId} {v : Value} {l : List UInt8} (h : Own w base e v l) (o : Obj) : Own (w.alloc o) base e v l := World.ownsRow.alloc h o

/-- 'append(out, x, y, ..)' of bytes at a step of a region that draws its order; what is appended lies in block g. -/
theorem step_pushBs {P : Program} {t e : TypeId} (T : Elem1 P t e (.int .u8 0) 1) {w : World} {base : Nat} {v : Value} {l : List UInt8} (hown : Own w base e v l)
    {w0 : World} (hb : Below base w0 w) (hbase : base ≤ w.heap.size) (m : List UInt8) (hlen : l.length + m.length ≤ 140737488355328) {g : Nat} {news : Array Value} (hg : Blk w g e news) (hnews : news.toList = bcells m) (hsz : news.size = m.length)
    {ops : Array Oper} {o : Oper} {a : Act} {K : Act → World → Prop} {Q : Exit → Act → World → Prop} {E : Prop} (hgd : o.guard = none) (s y : Operand)
    (ho : o.op = .call { callee := .builtin .append, args := #[s, y], argTypes := #[t, t] }) (hs : a.eval s = v) (hx : a.eval y = .slice (some ⟨g, 0, none⟩) m.length m.length)
    (h : ∀ v' w', Own w' base e v' (l ++ m) → Below base w0 w' → w.grownBy w' v.ownBlock → K (a.put o.dst v') w') :
    if Region.wanted o (yielded ops a.tmps) = true then Oper.wp P o a w K Q else E := by
  have hw : Region.wanted o (yielded ops a.tmps) = true := by simp [Region.wanted, hgd]
  rw [if_pos hw]
  obtain ⟨i, hi, hz, h1, h2⟩ := info_parts T.hi
  have hn1 : ∀ j u, (bcells m)[j]? = some u → w.cell? ((⟨g, 0, none⟩ : Addr).add j) = some u := by
    rw [← hnews]
    exact World.news_of_block (w := w) (B := g) (cs := news) (t := e) (fr := (0, 0)) hg
  obtain ⟨v', w', hrun, h3, h4, _, _⟩ := run_append_own_at (P := P) w base t o.type e i _ 1 1 T.ht hi hz h1 h2 T.hz (by omega) v l.length (bcells l) hown ⟨g, 0, none⟩ m.length m.length (bcells m) (by simp) hn1 (fun u hu => by
    obtain ⟨x, _, rfl⟩ := List.mem_map.1 hu
    rfl) (by unfold maxLen; omega) (by omega) hbase
  unfold Oper.wp execOp
  simp only [ho, resolve, invoke, builtin, Sem.run_bind, Sem.run_pure, Result.andThen_ok, List.map_toArray, List.map_cons, List.map_nil, hs, hx, hrun]
  refine h v' w' ?_ (hb.grown h4 hbase fun k hk => (hown.lt k hk).1) h4
  unfold Own
  rw [bcells_append, List.length_append]
  exact h3

end Go.Proofs.YtoaaplngdomdcaaGreat

/- More lemmas on memory: what lies in a slice is appended to a row of the call's own. -/
namespace Go.Proofs.YtoaaplngdomdcaaGreat
open Go.RowKit

theorem run_append_none {P : Program} (w : World) (t ty e : TypeId) (i : TypeInfo) (ht : P.underlying t = some (.slice e)) (hi : P.info? e = some i) (A : Option Addr) (n c d : Nat) (hn : n ≤ c) :
    (Builtin.append_ #[t, t] ty #[.slice A n c, .slice none 0 d]).run P w = .ok (.slice A n c) w := by
  cases A with
  | none => simp [Builtin.append_, run_underlying ht, sizeOf, typeInfo, hi, Builtin.lenOf, Builtin.firstCells, loadCells, loadCellsFrom, storeCells, hn]
  | some a => simp [Builtin.append_, run_underlying ht, sizeOf, typeInfo, hi, Builtin.lenOf, Builtin.firstCells, loadCells, loadCellsFrom, storeCells, hn]

theorem run_pushS {P : Program} {t e : TypeId} {z : Value} {bytes : Nat} (T : Elem1 P t e z bytes) (ty : TypeId) {w : World} {base : Nat} {v : Value} {n : Nat} {xs : List Value} (hown : w.ownsRow base e 1 v n xs)
    {u : Value} {m : Nat} {ys : List Value} (hu : Sl w 1 u m ys) (h63 : n + m ≤ maxLen) (hbytes : (n + m) * bytes ≤ 140737488355328) (hbase : base ≤ w.heap.size) (h1 : ∀ y ∈ ys, y.oneCell' = true) :
    ∃ v' w', (Builtin.append_ #[t, t] ty #[v, u]).run P w = .ok v' w' ∧ w'.ownsRow base e 1 v' (n + m) (xs ++ ys) ∧ w.grownBy w' v.ownBlock ∧ (v'.ownBlock = v.ownBlock ∨ v'.ownBlock = some w.heap.size) := by
  obtain ⟨i, hi, hz, hs, hb⟩ := info_parts T.hi
  obtain ⟨hl, A, c, rfl, hc, hm, hcell⟩ := hu
  have hpos : (∃ ad, A = some ad ∧ ∀ (j : Nat) (x : Value), ys[j]? = some x → w.cell? (ad.add j) = some x) ∨ (A = none ∧ m = 0) := by
    rcases Nat.eq_zero_or_pos m with h0 | h0
    · subst h0
      cases A with
      | none => exact .inr ⟨rfl, rfl⟩
      | some ad =>
        have : ys = [] := List.eq_nil_of_length_eq_zero (by simpa using hl)
        subst this
        exact .inl ⟨ad, rfl, fun j x hx => by simp at hx⟩
    · obtain ⟨b, o, rfl, _, hcs⟩ := hcell h0
      refine .inl ⟨_, rfl, fun j x hx => ?_⟩
      have hj := (List.getElem?_eq_some_iff.1 hx).1
      have ea : (⟨b, o, none⟩ : Addr).add j = ⟨b, o + j, none⟩ := by simp [Addr.add]
      rw [ea, hcs j (by omega), hx]
  rcases hpos with ⟨ad, rfl, hcs⟩ | ⟨rfl, rfl⟩
  · obtain ⟨v', w', h2, h3, h4, -, h5⟩ := run_append_own_at (P := P) w base t ty e i z 1 bytes T.ht hi hz hs hb T.hz (by omega) v n xs hown ad m c ys hl hcs h1 h63 hbytes hbase
    exact ⟨v', w', h2, h3, h4, h5⟩
  · have : ys = [] := List.eq_nil_of_length_eq_zero (by simpa using hl)
    subst this
    obtain ⟨_, A', c', rfl, hn, -⟩ := Sl.of_own hown
    exact ⟨_, w, run_append_none w t ty e i T.ht hi A' n c' c hn, by simpa using hown, ⟨rfl, rfl, rfl, Nat.le_refl _, fun _ _ _ => rfl⟩, .inl rfl⟩

/-- 'append(out, s...)', out a row of bytes of the call's own. -/
theorem wpList_pushV {P : Program} {t e : TypeId} (T : Elem1 P t e (.int .u8 0) 1) {w : World} {base : Nat} {v : Value} {l : List UInt8} (hown : Own w base e v l)
    {w0 : World} (hb : Below base w0 w) (hbase : base ≤ w.heap.size) {u : Value} {m : List UInt8} (hu : By w u m) (hlen : l.length + m.length ≤ 140737488355328)
    {ops : Array Oper} {rest : List Oper} {o : Oper} {a : Act} {Q : Exit → Act → World → Prop} (hgd : o.guard = none) (s y : Operand)
    (ho : o.op = .call { callee := .builtin .append, args := #[s, y], argTypes := #[t, t] }) (hs : a.eval s = v) (hx : a.eval y = u)
    (h : ∀ v' w', Own w' base e v' (l ++ m) → Below base w0 w' → w.grownBy w' v.ownBlock → (v'.ownBlock = v.ownBlock ∨ v'.ownBlock = some w.heap.size) → wpList P ops Q rest (a.put o.dst v') w') :
    wpList P ops Q (o :: rest) a w := by
  refine wpList_plain hgd fun K hK => ?_
  obtain ⟨v', w', hrun, h3, h4, h6⟩ := run_pushS (P := P) T o.type hown hu (by unfold maxLen; omega) (by omega) hbase fun x hx => by
    obtain ⟨x, _, rfl⟩ := List.mem_map.1 hx
    rfl
  unfold Oper.wp execOp
  simp only [ho, resolve, invoke, builtin, Sem.run_bind, Sem.run_pure, Result.andThen_ok, List.map_toArray, List.map_cons, List.map_nil, hs, hx, hrun]
  refine hK _ _ (h v' w' ?_ (hb.grown h4 hbase fun k hk => (hown.lt k hk).1) h4 h6)
  unfold Own
  rw [bcells_append, List.length_append]
  exact h3
end Go.Proofs.YtoaaplngdomdcaaGreat
