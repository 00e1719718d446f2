/- Lemmas on memory that the walks of this claim use: slices that read as lists, rows that a call made itself, what stays as it was. They hold of every program. -/
import Derived.WalkKit
import Derived.Deep.AppendLies
import Derived.Deep.Draws
import Derived.Maps.AppendAt
import Derived.WalkSpells
import Derived.Deep.MidRow
import Derived.Lib.BufferRead
namespace Go.Proofs.Ytoaaplngdomdcaa
open Go.RowKit

theorem ret_int {k : IntKind} {a b : Int} (h : a = b) : Ending.returned (.int k a) = .returned (.int k b) := by rw [h]
theorem ret_bool {a b : Bool} (h : a = b) : Ending.returned (.bool a) = .returned (.bool b) := by rw [h]

theorem hide {p : Prop} (h : p) : Hid p := h

/-- A slice value of n elements of sz cells whose cells are xs. -/
def Sl (w : World) (sz : Nat) (v : Value) (n : Nat) (xs : List Value) : Prop :=
  xs.length = n * sz ∧ ∃ A c, v = .slice A n c ∧ n ≤ c ∧ c ≤ maxLen ∧
    (0 < n → ∃ b o, A = some ⟨b, o, none⟩ ∧ b < w.heap.size ∧ ∀ j, j < n * sz → w.cell? ⟨b, o + j, none⟩ = xs[j]?)

theorem Sl.keep {w w' : World} {sz : Nat} {v : Value} {n : Nat} {xs : List Value} (h : Sl w sz v n xs) (hs : w.heap.size ≤ w'.heap.size)
    (hb : ∀ b, b < w.heap.size → w'.heap[b]? = w.heap[b]?) : Sl w' sz v n xs := by
  obtain ⟨h1, A, c, hv, hn, hc, h2⟩ := h
  refine ⟨h1, A, c, hv, hn, hc, fun h0 => ?_⟩
  obtain ⟨b, o, hA, hlt, hcell⟩ := h2 h0
  exact ⟨b, o, hA, by omega, fun j hj => (World.cell?_of_block (w := w) (hb b hlt)).trans (hcell j hj)⟩

theorem Sl.below {w w' : World} {sz : Nat} {v : Value} {n : Nat} {xs : List Value} (h : Sl w sz v n xs) (hb : Below w.heap.size w w') : Sl w' sz v n xs :=
  h.keep hb.size hb.block

theorem below_drewN {B : Nat} {a w : World} (h : Below B a w) (n : Nat) : Below B a (w.drewN n) := ⟨h.os, h.tape, h.output, h.size, h.block⟩

/-- What is owned stays owned where no old block has turned. -/
theorem own_below {w w' : World} {base : Nat} {e : TypeId} {sz : Nat} {v : Value} {n : Nat} {xs : List Value} (h : w.ownsRow base e sz v n xs)
    {B : Nat} (hb : Below B w w') (hB : ∀ g, v.ownBlock = some g → g < B) : w'.ownsRow base e sz v n xs := by
  obtain ⟨h1, h2 | ⟨g, cap, cur, hv, hg, hh, r⟩⟩ := h
  · exact ⟨h1, .inl h2⟩
  · subst hv
    exact ⟨h1, .inr ⟨g, cap, cur, rfl, hg, (hb.block g (hB g rfl)).trans hh, r⟩⟩

theorem own_lt {w : World} {base : Nat} {e : TypeId} {sz : Nat} {v : Value} {n : Nat} {xs : List Value} (h : w.ownsRow base e sz v n xs) :
    ∀ g, v.ownBlock = some g → g < w.heap.size := fun g hg => (h.lt g hg).2

theorem own_below' {w w' : World} {base : Nat} {e : TypeId} {sz : Nat} {v : Value} {n : Nat} {xs : List Value} (h : w.ownsRow base e sz v n xs)
    (hb : Below w.heap.size w w') : w'.ownsRow base e sz v n xs := own_below h hb (own_lt h)

/-- An owned row reads as a slice. -/
theorem Sl.of_own {w : World} {base : Nat} {e : TypeId} {sz : Nat} {v : Value} {n : Nat} {xs : List Value} (h : w.ownsRow base e sz v n xs) : Sl w sz v n xs := by
  have hl := own_lt h
  obtain ⟨h1, ⟨hv, hn⟩ | ⟨g, cap, cur, hv, hg, hh, hn, hc, hs, ht⟩⟩ := h
  · subst hv hn
    exact ⟨h1, none, 0, rfl, Nat.le_refl _, by simp [maxLen], fun h => absurd h (by omega)⟩
  · subst hv
    refine ⟨h1, _, cap, rfl, hn, hc, fun h0 => ⟨g, 0, rfl, hl g rfl, fun j hj => ?_⟩⟩
    rw [Nat.zero_add, cell_of_row w g j cur e (0, 0) hh, ← ht, List.getElem?_take_of_lt hj]
    simp

theorem Sl.nil (w : World) (sz : Nat) : Sl w sz (.slice none 0 0) 0 [] := ⟨by simp, none, 0, rfl, Nat.le_refl _, by simp [maxLen], fun h => absurd h (by omega)⟩

/-- The value, its address where there is an element, and that element's cells. -/
theorem Sl.form {w : World} {sz : Nat} {v : Value} {n : Nat} {xs : List Value} (h : Sl w sz v n xs) :
    ∃ A c, v = .slice A n c ∧ n ≤ c ∧ c ≤ maxLen ∧ (0 < n → ∃ b o, A = some ⟨b, o, none⟩ ∧ b < w.heap.size ∧ ∀ j, j < n * sz → w.cell? ⟨b, o + j, none⟩ = xs[j]?) := h.2

/-! ### Bytes -/
def bcells (l : List UInt8) : List Value := l.map fun x => .int .u8 (x.toNat : Int)

@[simp] theorem bcells_length (l : List UInt8) : (bcells l).length = l.length := by simp [bcells]
theorem bcells_append (l r : List UInt8) : bcells (l ++ r) = bcells l ++ bcells r := by simp [bcells]
theorem bcells_one (x : UInt8) : bcells [x] = [.int .u8 (x.toNat : Int)] := rfl
theorem bcells_get (l : List UInt8) (k : Nat) : (bcells l)[k]? = (l[k]?).map fun x => .int .u8 (x.toNat : Int) := by simp [bcells]

/-- A slice of bytes that reads as l. -/
def By (w : World) (v : Value) (l : List UInt8) : Prop := Sl w 1 v l.length (bcells l)
theorem By.below {w w' : World} {v : Value} {l : List UInt8} (h : By w v l) (hb : Below w.heap.size w w') : By w' v l := Sl.below h hb
theorem By.keep {w w' : World} {v : Value} {l : List UInt8} (h : By w v l) (hs : w.heap.size ≤ w'.heap.size)
    (hb : ∀ b, b < w.heap.size → w'.heap[b]? = w.heap[b]?) : By w' v l := Sl.keep h hs hb
theorem By.nil (w : World) : By w (.slice none 0 0) [] := Sl.nil w 1
theorem By.form {w : World} {v : Value} {l : List UInt8} (h : By w v l) :
    ∃ A c, v = .slice A l.length c ∧ l.length ≤ c ∧ c ≤ maxLen ∧
      (∀ k x, l[k]? = some x → ∃ b o, A = some ⟨b, o, none⟩ ∧ b < w.heap.size ∧ w.cell? ⟨b, o + k, none⟩ = some (.int .u8 (x.toNat : Int))) := by
  obtain ⟨A, c, hv, hn, hc, h2⟩ := Sl.form h
  refine ⟨A, c, hv, hn, hc, fun k x hx => ?_⟩
  have hk : k < l.length := (List.getElem?_eq_some_iff.1 hx).1
  obtain ⟨b, o, hA, hlt, hcell⟩ := h2 (by omega)
  refine ⟨b, o, hA, hlt, ?_⟩
  rw [hcell k (by omega), bcells_get, hx]; rfl

/-- A row of bytes of the call's own (e: the byte's type number). -/
def Own (w : World) (base : Nat) (e : TypeId) (v : Value) (l : List UInt8) : Prop := w.ownsRow base e 1 v l.length (bcells l)
theorem Own.by_ {w : World} {base : Nat} {e : TypeId} {v : Value} {l : List UInt8} (h : Own w base e v l) : By w v l := Sl.of_own h
theorem Own.below {w w' : World} {base : Nat} {e : TypeId} {v : Value} {l : List UInt8} (h : Own w base e v l) (hb : Below w.heap.size w w') : Own w' base e v l := own_below' h hb
theorem Own.nil (w : World) (base : Nat) (e : TypeId) : Own w base e (.slice none 0 0) [] := World.ownsRow_nil w base e 1

/-- The slice type t over the element type e of one cell. -/
structure Elem1 (P : Program) (t e : TypeId) (z : Value) (bytes : Nat) : Prop where
  ht : P.underlying t = some (.slice e)
  hi : (P.info? e).map (fun i => (i.zero, i.size, i.bytes)) = some (some z, 1, bytes)
  hz : z.cells.size = 1

/-- 'append(out, x)' of one element of one cell, out nil or the call's own: the new value owns one more, the old one owns what it owned; what else may have turned: the row itself alone. -/
theorem run_push1 {P : Program} {t e : TypeId} {z : Value} {bytes : Nat} (T : Elem1 P t e z bytes) (ty : TypeId) {w : World} {base : Nat} {v : Value} {n : Nat} {xs : List Value} (hown : w.ownsRow base e 1 v n xs)
    (hbase : base ≤ w.heap.size) (hn : n + 1 ≤ maxLen) (hbytes : (n + 1) * bytes ≤ 140737488355328) (u : Value) (hu : u.oneCell' = true) :
    ∃ v' w', (Builtin.append_ #[t, t] ty #[v, .slice (some ⟨w.heap.size, 0, none⟩) 1 1]).run P (w.alloc (.cells #[u] e)) = .ok v' w' ∧ w'.ownsRow base e 1 v' (n + 1) (xs ++ [u]) ∧ w'.ownsRow base e 1 v n xs ∧
      w.grownBy w' v.ownBlock ∧ (v'.ownBlock = v.ownBlock ∨ ∀ g, v'.ownBlock = some g → w.heap.size ≤ g) := by
  obtain ⟨i, hi, hz, h1, h2⟩ := info_parts T.hi
  have hn1 : ∀ j y, [u][j]? = some y → (w.alloc (.cells #[u] e)).cell? ((⟨w.heap.size, 0, none⟩ : Addr).add j) = some y := fun j y hj => by
    have := World.news_of_block (w := w.alloc (.cells #[u] e)) (B := w.heap.size) (cs := #[u]) (t := e) (fr := (0, 0)) (heap_alloc_new w _) j y (by simpa using hj)
    exact this
  have ho1 := hown.alloc (.cells #[u] e)
  have hnl : ([u] : List Value).length = 1 * i.size := by simp [h1]
  have hbig : n + 1 ≤ 9223372036854775807 := by simp only [maxLen] at hn; omega
  have gb : ∀ {w' : World} {row : Option Nat}, (w.alloc (.cells #[u] e)).grownBy w' row → w.grownBy w' row := fun hg =>
    ⟨hg.os, hg.tape, hg.output, Nat.le_trans (by simp) hg.size, fun k hk hne => (hg.block k (by simp; omega) hne).trans (Below.heap_alloc w _ k hk)⟩
  obtain ⟨v', w', hrun, h3, h4, _, h6⟩ := run_append_own_at (P := P) (w.alloc (.cells #[u] e)) base t ty e i z 1 bytes T.ht hi hz h1 h2 T.hz (by omega) v n xs ho1 ⟨w.heap.size, 0, none⟩ 1 1 [u] rfl hn1 (by simpa using hu) hn hbytes (by simp; omega)
  refine ⟨v', w', hrun, h3, ?_, gb h4, ?_⟩
  · rcases ho1.2 with ⟨rfl, rfl⟩ | ⟨g, cap, cur, rfl, hbg, hg, hnc, hcm, hcs, htake⟩
    · have hx : xs = [] := List.eq_nil_of_length_eq_zero (by simpa using hown.1)
      subst hx
      exact World.ownsRow_nil w' base e 1
    · by_cases hroom : n + 1 ≤ cap
      · have hfit : n * i.size + [u].length ≤ cur.size := by rw [hcs, h1]; simp; omega
        have hr := run_append_room (P := P) (w.alloc (.cells #[u] e)) t ty e i T.ht hi g n cap cur hg ⟨w.heap.size, 0, none⟩ 1 1 [u] hnl hn1 (by simpa using hu) hroom hfit
        rw [hr] at hrun
        injection hrun with _ hw
        subst hw
        refine ⟨hown.1, .inr ⟨g, cap, _, rfl, hbg, setRow_heap _ g cur _ e _ hg, hnc, hcm, ?_, ?_⟩⟩
        · simp only [List.size_toArray, List.length_append, List.length_take, List.length_drop, Array.length_toList]
          have := hfit
          simp only [List.length_cons, List.length_nil] at *
          omega
        · have hl : (cur.toList.take (n * 1)).length = n := by rw [htake]; simpa using hown.1
          rw [h1, List.append_assoc, List.take_append_of_le_length (by omega), List.take_take, Nat.min_self, htake]
      · have holds : ∀ j y, xs[j]? = some y → (w.alloc (.cells #[u] e)).cell? ((⟨g, 0, none⟩ : Addr).add j) = some y := ho1.cells (g := g) rfl
        have hr := run_append_grow (P := P) (w.alloc (.cells #[u] e)) t ty e i z T.ht hi hz ⟨g, 0, none⟩ n cap xs (by rw [h1]; exact hown.1) holds ⟨w.heap.size, 0, none⟩ 1 1 [u] hnl hn1 (by omega) (by omega) (growslice_fits (by omega) (by rw [h2]; exact hbytes))
        rw [hr] at hrun
        injection hrun with _ hw
        subst hw
        exact World.ownsRow.alloc (w := (w.alloc (.cells #[u] e)).drew) ho1 _
  · rcases h6 with h6 | h6
    · exact .inl h6
    · refine .inr fun g hg => ?_
      rw [h6] at hg
      injection hg with hg
      simp at hg
      omega

theorem Own.push {w' : World} {base : Nat} {e : TypeId} {v' : Value} {l : List UInt8} {n : Nat} {x : UInt8} {xs : List Value}
    (h : w'.ownsRow base e 1 v' (n + 1) (xs ++ [.int .u8 (x.toNat : Int)])) (hn : n = l.length) (hx : xs = bcells l) : Own w' base e v' (l ++ [x]) := by
  subst hn hx
  unfold Own
  rw [bcells_append, bcells_one]
  simpa using h

/-- 'append(out, x)', out a row of the call's own with elements of one cell. -/
theorem wpList_push1 {P : Program} {t e : TypeId} {z : Value} {bytes : Nat} (T : Elem1 P t e z bytes) {w : World} {base : Nat} {v : Value} {n : Nat} {xs : List Value} (hown : w.ownsRow base e 1 v n xs)
    {w0 : World} (hb : Below base w0 w) (hbase : base ≤ w.heap.size) (hn : n + 1 ≤ maxLen) (hbytes : (n + 1) * bytes ≤ 140737488355328) (u : Value) (hu : u.oneCell' = true)
    {ops : Array Oper} {rest : List Oper} {o : Oper} {a : Act} {Q : Exit → Act → World → Prop} (hgd : o.guard = none) (s y : Operand)
    (ho : o.op = .call { callee := .builtin .append, args := #[s, y], argTypes := #[t, t] }) (hs : a.eval s = v) (hx : a.eval y = .slice (some ⟨w.heap.size, 0, none⟩) 1 1)
    (h : ∀ v' w', w'.ownsRow base e 1 v' (n + 1) (xs ++ [u]) → Below base w0 w' → w'.ownsRow base e 1 v n xs → w.grownBy w' v.ownBlock → (v'.ownBlock = v.ownBlock ∨ ∀ g, v'.ownBlock = some g → w.heap.size ≤ g) → wpList P ops Q rest (a.put o.dst v') w') :
    wpList P ops Q (o :: rest) a (w.alloc (.cells #[u] e)) := by
  refine wpList_plain hgd fun K hK => ?_
  obtain ⟨v', w', hrun, h2, h3, h4, h5⟩ := run_push1 T o.type hown hbase hn hbytes u hu
  unfold Oper.wp execOp
  simp only [ho, resolve, invoke, builtin, Sem.run_bind, Sem.run_pure, Result.andThen_ok, List.map_toArray, List.map_cons, List.map_nil, hs, hx, hrun]
  exact hK _ _ (h v' w' h2 (hb.grown h4 hbase fun k hk => (hown.lt k hk).1) h3 h4 h5)

/-- 'append(out, x)', out a row of bytes of the call's own. -/
theorem wpList_pushB {P : Program} {t e : TypeId} (T : Elem1 P t e (.int .u8 0) 1) {w : World} {base : Nat} {v : Value} {l : List UInt8} (hown : Own w base e v l)
    {w0 : World} (hb : Below base w0 w) (hbase : base ≤ w.heap.size) (hlen : l.length + 1 ≤ 140737488355328) (x : UInt8)
    {ops : Array Oper} {rest : List Oper} {o : Oper} {a : Act} {Q : Exit → Act → World → Prop} (hgd : o.guard = none) (s y : Operand)
    (ho : o.op = .call { callee := .builtin .append, args := #[s, y], argTypes := #[t, t] }) (hs : a.eval s = v) (hx : a.eval y = .slice (some ⟨w.heap.size, 0, none⟩) 1 1)
    (h : ∀ v' w', Own w' base e v' (l ++ [x]) → Below base w0 w' → w.grownBy w' v.ownBlock → (v'.ownBlock = v.ownBlock ∨ ∀ g, v'.ownBlock = some g → w.heap.size ≤ g) → wpList P ops Q rest (a.put o.dst v') w') :
    wpList P ops Q (o :: rest) a (w.alloc (.cells #[.int .u8 (x.toNat : Int)] e)) := by
  refine wpList_push1 T hown hb hbase (by unfold maxLen; omega) (by omega) _ rfl hgd s y ho hs hx fun v' w' h1 h2 _ h3 h4 => h v' w' (Own.push h1 rfl rfl) h2 h3 h4

theorem str_toList (s : ByteArray) : s.toList = s.data.toList := ByteArray.toList_eq s

/-! ### A block that is known whole -/
def Blk (w : World) (g : Nat) (t : TypeId) (cs : Array Value) : Prop := w.heap[g]? = some (.cells cs t (0, 0))
section
variable {w w' : World} {g : Nat} {t : TypeId} {cs : Array Value}
theorem Blk.lt (h : Blk w g t cs) : g < w.heap.size := by
  rcases Nat.lt_or_ge g w.heap.size with h1 | h1
  · exact h1
  · unfold Blk at h; rw [Array.getElem?_eq_none h1] at h; cases h
theorem Blk.cell (h : Blk w g t cs) (i : Nat) : w.cell? ⟨g, i, none⟩ = cs[i]? := cell_of_row w g i cs t (0, 0) h
theorem Blk.frozen (h : Blk w g t cs) (i : Nat) : w.frozen? ⟨g, i, none⟩ = false := by unfold Blk at h; simp [World.frozen?, h]
theorem Blk.new (w : World) (t : TypeId) (cs : Array Value) : Blk (w.alloc (.cells cs t)) w.heap.size t cs := heap_alloc_new w _
theorem Blk.alloc (h : Blk w g t cs) (o : Obj) : Blk (w.alloc o) g t cs := (Below.heap_alloc w o g h.lt).trans h
theorem Blk.drew (h : Blk w g t cs) : Blk w.drew g t cs := h
theorem Blk.drewN (h : Blk w g t cs) (n : Nat) : Blk (w.drewN n) g t cs := h
theorem Blk.set_ (h : Blk w g t cs) (i : Nat) (u : Value) : Blk (w.setCell ⟨g, i, none⟩ u) g t (cs.setIfInBounds i u) := by
  unfold Blk at h ⊢
  simp [World.setCell, Array.getElem?_modify, h]
theorem Blk.far (h : Blk w g t cs) {p : Addr} (hp : g ≠ p.block) (u : Value) : Blk (w.setCell p u) g t cs := (Below.heap_setCell w p u g hp).trans h
theorem Blk.below {B : Nat} (h : Blk w g t cs) (hb : Below B w w') (hg : g < B) : Blk w' g t cs := (hb.block g hg).trans h
theorem Blk.below' (h : Blk w g t cs) (hb : Below w.heap.size w w') : Blk w' g t cs := h.below hb h.lt
theorem Blk.grown {row : Option Nat} (h : Blk w g t cs) (hb : w.grownBy w' row) (hg : some g ≠ row) : Blk w' g t cs := (hb.block g h.lt hg).trans h
theorem Blk.own (h : Blk w g t cs) {base n cap : Nat} {e : TypeId} {sz : Nat} (he : e = t) (hb : base ≤ g) (hc : cs.size = cap * sz) (hn : n ≤ cap) (hm : cap ≤ maxLen) :
    w.ownsRow base e sz (.slice (some ⟨g, 0, none⟩) n cap) n (cs.toList.take (n * sz)) := by
  subst he
  refine ⟨?_, .inr ⟨g, cap, cs, rfl, hb, h, hn, hm, hc, rfl⟩⟩
  rw [List.length_take, Array.length_toList, hc, Nat.min_eq_left (Nat.mul_le_mul_right _ hn)]
theorem own_blk_ne {base : Nat} {e : TypeId} {sz n : Nat} {v : Value} {xs : List Value} (h : w.ownsRow base e sz v n xs) (hg : Blk w g t cs) (hne : e ≠ t) : v.ownBlock = none ∨ v.ownBlock ≠ some g := by
  rcases h.2 with ⟨rfl, _⟩ | ⟨g', cap, cur, rfl, _, hh, _⟩
  · exact .inl rfl
  · refine .inr ?_
    intro he
    have : g' = g := by simpa [Value.ownBlock] using he
    subst this
    unfold Blk at hg
    rw [hh] at hg
    injection hg with hg
    injection hg with _ ht
    exact hne ht
end

theorem grown_drew {w w' : World} {row : Option Nat} (h : w.grownBy w' row) : w.grownBy w'.drew row := ⟨h.os, h.tape, h.output, h.size, h.block⟩
theorem grown_drewN {w w' : World} {row : Option Nat} (h : w.grownBy w' row) (n : Nat) : w.grownBy (w'.drewN n) row := ⟨h.os, h.tape, h.output, h.size, h.block⟩
theorem _root_.Go.World.grownBy.trans_ {a b c : World} {row : Option Nat} (h : a.grownBy b row) (k : b.grownBy c row) : a.grownBy c row :=
  ⟨k.os.trans h.os, k.tape.trans h.tape, k.output.trans h.output, Nat.le_trans h.size k.size, fun i hi hne => (k.block i (Nat.lt_of_lt_of_le hi h.size) hne).trans (h.block i hi hne)⟩
theorem store_grown (w : World) (g i : Nat) (u : Value) : w.grownBy (w.setCell ⟨g, i, none⟩ u) (some g) :=
  ⟨rfl, rfl, rfl, by simp [World.setCell], fun k hk hne => Below.heap_setCell w _ u k (fun e => hne (by rw [e]))⟩
theorem stores_grown (g : Nat) (cs : List Value) : ∀ (w : World) (o : Nat), w.grownBy (w.setCells g o cs) (some g) := by
  induction cs with
  | nil => exact fun w o => World.grownBy.refl w _
  | cons c cs ih => exact fun w o => (store_grown w g o c).trans_ (ih _ _)

theorem blk_setCells {g : Nat} {t : TypeId} (cs : List Value) : ∀ (w : World) (o : Nat) (old : Array Value), Blk w g t old → o + cs.length ≤ old.size →
    Blk (w.setCells g o cs) g t (old.toList.take o ++ cs ++ old.toList.drop (o + cs.length)).toArray := by
  induction cs with
  | nil => intro w o old h _; simpa [World.setCells] using h
  | cons c cs ih =>
    intro w o old h hl
    simp only [List.length_cons] at hl
    have := ih (w.setCell ⟨g, o, none⟩ c) (o + 1) (old.setIfInBounds o c) (h.set_ o c) (by simp; omega)
    simp only [World.setCells]
    have e : (old.setIfInBounds o c).toList.take (o + 1) ++ cs ++ (old.setIfInBounds o c).toList.drop (o + 1 + cs.length) = old.toList.take o ++ c :: cs ++ old.toList.drop (o + (c :: cs).length) := by
      rw [Array.toList_setIfInBounds, List.drop_set_of_lt (by omega), List.length_cons, show o + 1 + cs.length = o + (cs.length + 1) by omega]
      congr 1
      rw [List.take_add_one, List.take_set_of_le (Nat.le_refl _), List.getElem?_set_self (by simp; omega)]
      simp
    rw [e] at this
    exact this

/-- A whole array or struct is stored into a block that is known whole. -/
theorem wpList_store_row {P : Program} {ops : Array Oper} {rest : List Oper} {o : Oper} {a : Act} {w : World} {Q : Exit → Act → World → Prop} {g : Nat} {t : TypeId} {old : Array Value} (hb : Blk w g t old) (cells : Array Value)
    (hs : cells.size = old.size) (h1 : cells.all (·.oneCell') = true) (hgd : o.guard = none) (ty : TypeId) (x y : Operand) (ho : o.op = .store ty x y)
    (hi : (P.info? ty).map (·.size) = some cells.size) (hx : a.eval x = .pointer (some ⟨g, 0, none⟩)) (hy : a.eval y = .agg cells)
    (h : ∀ w', Blk w' g t cells → w.grownBy w' (some g) → wpList P ops Q rest (a.put o.dst undef) w') : wpList P ops Q (o :: rest) a w := by
  refine wpList_store_mid hgd ty x y ho g 0 cells hx hy (fun j hj => ⟨?_, ?_⟩) hi h1 (h _ ?_ (stores_grown g _ _ _))
  · rw [Nat.zero_add, hb.cell]; simp; omega
  · rw [Nat.zero_add]; exact hb.frozen j
  · have := blk_setCells cells.toList w 0 old hb (by simp; omega)
    simp only [List.take_zero, List.nil_append, Nat.zero_add, Array.length_toList] at this
    rw [List.drop_of_length_le (by simp; omega), List.append_nil] at this
    simpa using this

/-- 'string(b)' of a slice of bytes. -/
theorem run_str {P : Program} {w : World} {v : Value} {l : List UInt8} (h : By w v l) (src dst e : TypeId) (hs : P.underlying src = some (.slice e)) (he : P.underlying e = some (.int .u8)) (hd : P.underlying dst = some .string) :
    ∃ s : ByteArray, s.data.toList = l ∧ (convert src dst v).run P w = .ok (.string s) w := by
  obtain ⟨A, c, rfl, hlc, hc, hcell⟩ := h.form
  rcases A with _ | ad
  · have hl : l = [] := by
      rcases l with _ | ⟨x, l⟩
      · rfl
      · obtain ⟨b, o, h0, _⟩ := hcell 0 x rfl
        cases h0
    subst hl
    exact ⟨⟨#[]⟩, rfl, Lib.run_convert_nil_bytes w src dst e c hs he hd⟩
  · refine ⟨⟨l.toArray⟩, by simp, run_convert_bytes_back w src dst e ad c l hs he hd fun j hj => ?_⟩
    obtain ⟨b, o, h0, _, h2⟩ := hcell j _ (List.getElem?_eq_getElem hj)
    injection h0 with h0
    subst h0
    rw [Go.Addr.add_mid]
    exact h2

end Go.Proofs.Ytoaaplngdomdcaa
