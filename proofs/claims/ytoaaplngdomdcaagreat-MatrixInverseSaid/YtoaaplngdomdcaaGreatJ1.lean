/- Joined texts: Mem, Kit, Lists, Gf, GfW, MatF, MatG, MatH, Mem2, Mem3, Gau. -/
import Derived.WalkKit
import Derived.Deep.AppendLies
import Derived.Deep.Draws
import Derived.Maps.AppendAt
import Derived.WalkSpells
import Derived.Deep.MidRow
import Derived.Lib.BufferRead
import Derived.Test.YtoaaplngdomdcaaGreatRows
import Derived.BigQuiet
import Derived.Deep.QuietTactic
import Derived.OwnWalk
import Derived.Laws.BitsAll
import Derived.Deep.RegionHeld3
import Derived.Shelf.Abstract

/- Lemmas on memory that the walks of this claim use: slices that read as lists, rows that a call made itself, what stays as it was. They hold of every program. -/
namespace Go.Proofs.YtoaaplngdomdcaaGreat
open Go.RowKit

theorem ret_int {k : IntKind} {a b : Int} (h : a = b) : Ending.returned (.int k a) = .returned (.int k b) := by rw [h]
theorem ret_bool {a b : Bool} (h : a = b) : Ending.returned (.bool a) = .returned (.bool b) := by rw [h]

theorem hide {p : Prop} (h : p) : Hid p := h

/-- A slice value of n elements of sz cells whose cells are xs. -/
def Sl (w : World) (sz : Nat) (v : Value) (n : Nat) (xs : List Value) : Prop :=
  xs.length = n * sz ∧ ∃ A c, v = .slice A n c ∧ n ≤ c ∧ c ≤ maxLen ∧
    (0 < n → ∃ b o, A = some ⟨b, o, none⟩ ∧ b < w.heap.size ∧ ∀ j, j < n * sz → w.cell? ⟨b, o + j, none⟩ = xs[j]?)

theorem Sl.keep {w w' : World} {sz : Nat} {v : Value} {n : Nat} {xs : List Value} (h : Sl w sz v n xs) (hs : w.heap.size ≤ w'.heap.size)
    (hb : ∀ b, b < w.heap.size → w'.heap[b]? = w.heap[b]?) : Sl w' sz v n xs := by
  obtain ⟨h1, A, c, hv, hn, hc, h2⟩ := h
  refine ⟨h1, A, c, hv, hn, hc, fun h0 => ?_⟩
  obtain ⟨b, o, hA, hlt, hcell⟩ := h2 h0
  exact ⟨b, o, hA, by omega, fun j hj => (World.cell?_of_block (w := w) (hb b hlt)).trans (hcell j hj)⟩

theorem Sl.below {w w' : World} {sz : Nat} {v : Value} {n : Nat} {xs : List Value} (h : Sl w sz v n xs) (hb : Below w.heap.size w w') : Sl w' sz v n xs :=
  h.keep hb.size hb.block

theorem below_drewN {B : Nat} {a w : World} (h : Below B a w) (n : Nat) : Below B a (w.drewN n) := ⟨h.os, h.tape, h.output, h.size, h.block⟩

/-- What is owned stays owned where no old block has turned. -/
theorem own_below {w w' : World} {base : Nat} {e : TypeId} {sz : Nat} {v : Value} {n : Nat} {xs : List Value} (h : w.ownsRow base e sz v n xs)
    {B : Nat} (hb : Below B w w') (hB : ∀ g, v.ownBlock = some g → g < B) : w'.ownsRow base e sz v n xs := by
  obtain ⟨h1, h2 | ⟨g, cap, cur, hv, hg, hh, r⟩⟩ := h
  · exact ⟨h1, .inl h2⟩
  · subst hv
    exact ⟨h1, .inr ⟨g, cap, cur, rfl, hg, (hb.block g (hB g rfl)).trans hh, r⟩⟩

theorem own_lt {w : World} {base : Nat} {e : TypeId} {sz : Nat} {v : Value} {n : Nat} {xs : List Value} (h : w.ownsRow base e sz v n xs) :
    ∀ g, v.ownBlock = some g → g < w.heap.size := fun g hg => (h.lt g hg).2

theorem own_below' {w w' : World} {base : Nat} {e : TypeId} {sz : Nat} {v : Value} {n : Nat} {xs : List Value} (h : w.ownsRow base e sz v n xs)
    (hb : Below w.heap.size w w') : w'.ownsRow base e sz v n xs := own_below h hb (own_lt h)

/-- An owned row reads as a slice. -/
theorem Sl.of_own {w : World} {base : Nat} {e : TypeId} {sz : Nat} {v : Value} {n : Nat} {xs : List Value} (h : w.ownsRow base e sz v n xs) : Sl w sz v n xs := by
  have hl := own_lt h
  obtain ⟨h1, ⟨hv, hn⟩ | ⟨g, cap, cur, hv, hg, hh, hn, hc, hs, ht⟩⟩ := h
  · subst hv hn
    exact ⟨h1, none, 0, rfl, Nat.le_refl _, by simp [maxLen], fun h => absurd h (by omega)⟩
  · subst hv
    refine ⟨h1, _, cap, rfl, hn, hc, fun h0 => ⟨g, 0, rfl, hl g rfl, fun j hj => ?_⟩⟩
    rw [Nat.zero_add, cell_of_row w g j cur e (0, 0) hh, ← ht, List.getElem?_take_of_lt hj]
    simp

theorem Sl.nil (w : World) (sz : Nat) : Sl w sz (.slice none 0 0) 0 [] := ⟨by simp, none, 0, rfl, Nat.le_refl _, by simp [maxLen], fun h => absurd h (by omega)⟩

/-- The value, its address where there is an element, and that element's cells. -/
theorem Sl.form {w : World} {sz : Nat} {v : Value} {n : Nat} {xs : List Value} (h : Sl w sz v n xs) :
    ∃ A c, v = .slice A n c ∧ n ≤ c ∧ c ≤ maxLen ∧ (0 < n → ∃ b o, A = some ⟨b, o, none⟩ ∧ b < w.heap.size ∧ ∀ j, j < n * sz → w.cell? ⟨b, o + j, none⟩ = xs[j]?) := h.2

/-! ### Bytes -/
def bcells (l : List UInt8) : List Value := l.map fun x => .int .u8 (x.toNat : Int)

@[simp] theorem bcells_length (l : List UInt8) : (bcells l).length = l.length := by simp [bcells]
theorem bcells_append (l r : List UInt8) : bcells (l ++ r) = bcells l ++ bcells r := by simp [bcells]
theorem bcells_one (x : UInt8) : bcells [x] = [.int .u8 (x.toNat : Int)] := rfl
theorem bcells_get (l : List UInt8) (k : Nat) : (bcells l)[k]? = (l[k]?).map fun x => .int .u8 (x.toNat : Int) := by simp [bcells]

/-- A slice of bytes that reads as l. -/
def By (w : World) (v : Value) (l : List UInt8) : Prop := Sl w 1 v l.length (bcells l)
theorem By.below {w w' : World} {v : Value} {l : List UInt8} (h : By w v l) (hb : Below w.heap.size w w') : By w' v l := Sl.below h hb
theorem By.keep {w w' : World} {v : Value} {l : List UInt8} (h : By w v l) (hs : w.heap.size ≤ w'.heap.size)
    (hb : ∀ b, b < w.heap.size → w'.heap[b]? = w.heap[b]?) : By w' v l := Sl.keep h hs hb
theorem By.nil (w : World) : By w (.slice none 0 0) [] := Sl.nil w 1
theorem By.form {w : World} {v : Value} {l : List UInt8} (h : By w v l) :
    ∃ A c, v = .slice A l.length c ∧ l.length ≤ c ∧ c ≤ maxLen ∧
      (∀ k x, l[k]? = some x → ∃ b o, A = some ⟨b, o, none⟩ ∧ b < w.heap.size ∧ w.cell? ⟨b, o + k, none⟩ = some (.int .u8 (x.toNat : Int))) := by
  obtain ⟨A, c, hv, hn, hc, h2⟩ := Sl.form h
  refine ⟨A, c, hv, hn, hc, fun k x hx => ?_⟩
  have hk : k < l.length := (List.getElem?_eq_some_iff.1 hx).1
  obtain ⟨b, o, hA, hlt, hcell⟩ := h2 (by omega)
  refine ⟨b, o, hA, hlt, ?_⟩
  rw [hcell k (by omega), bcells_get, hx]; rfl

/-- A row of bytes of the call's own (e: the byte's type number). -/
def Own (w : World) (base : Nat) (e : TypeId) (v : Value) (l : List UInt8) : Prop := w.ownsRow base e 1 v l.length (bcells l)
theorem Own.by_ {w : World} {base : Nat} {e : TypeId} {v : Value} {l : List UInt8} (h : Own w base e v l) : By w v l := Sl.of_own h
theorem Own.below {w w' : World} {base : Nat} {e : TypeId} {v : Value} {l : List UInt8} (h : Own w base e v l) (hb : Below w.heap.size w w') : Own w' base e v l := own_below' h hb
theorem Own.nil (w : World) (base : Nat) (e : TypeId) : Own w base e (.slice none 0 0) [] := World.ownsRow_nil w base e 1

/-- The slice type t over the element type e of one cell. -/
structure Elem1 (P : Program) (t e : TypeId) (z : Value) (bytes : Nat) : Prop where
  ht : P.underlying t = some (.slice e)
  hi : (P.info? e).map (fun i => (i.zero, i.size, i.bytes)) = some (some z, 1, bytes)
  hz : z.cells.size = 1

/-- 'append(out, x)' of one element of one cell, out nil or the call's own: the new value owns one more, the old one owns what it owned; what else may have turned: the row itself alone. -/
theorem run_push1 {P : Program} {t e : TypeId} {z : Value} {bytes : Nat} (T : Elem1 P t e z bytes) (ty : TypeId) {w : World} {base : Nat} {v : Value} {n : Nat} {xs : List Value} (hown : w.ownsRow base e 1 v n xs)
    (hbase : base ≤ w.heap.size) (hn : n + 1 ≤ maxLen) (hbytes : (n + 1) * bytes ≤ 140737488355328) (u : Value) (hu : u.oneCell' = true) :
    ∃ v' w', (Builtin.append_ #[t, t] ty #[v, .slice (some ⟨w.heap.size, 0, none⟩) 1 1]).run P (w.alloc (.cells #[u] e)) = .ok v' w' ∧ w'.ownsRow base e 1 v' (n + 1) (xs ++ [u]) ∧ w'.ownsRow base e 1 v n xs ∧
      w.grownBy w' v.ownBlock ∧ (v'.ownBlock = v.ownBlock ∨ ∀ g, v'.ownBlock = some g → w.heap.size ≤ g) := by
  obtain ⟨i, hi, hz, h1, h2⟩ := info_parts T.hi
  have hn1 : ∀ j y, [u][j]? = some y → (w.alloc (.cells #[u] e)).cell? ((⟨w.heap.size, 0, none⟩ : Addr).add j) = some y := fun j y hj => by
    have := World.news_of_block (w := w.alloc (.cells #[u] e)) (B := w.heap.size) (cs := #[u]) (t := e) (fr := (0, 0)) (heap_alloc_new w _) j y (by simpa using hj)
    exact this
  have ho1 := hown.alloc (.cells #[u] e)
  have hnl : ([u] : List Value).length = 1 * i.size := by simp [h1]
  have hbig : n + 1 ≤ 9223372036854775807 := by simp only [maxLen] at hn; omega
  have gb : ∀ {w' : World} {row : Option Nat}, (w.alloc (.cells #[u] e)).grownBy w' row → w.grownBy w' row := fun hg =>
    ⟨hg.os, hg.tape, hg.output, Nat.le_trans (by simp) hg.size, fun k hk hne => (hg.block k (by simp; omega) hne).trans (Below.heap_alloc w _ k hk)⟩
  obtain ⟨v', w', hrun, h3, h4, _, h6⟩ := run_append_own_at (P := P) (w.alloc (.cells #[u] e)) base t ty e i z 1 bytes T.ht hi hz h1 h2 T.hz (by omega) v n xs ho1 ⟨w.heap.size, 0, none⟩ 1 1 [u] rfl hn1 (by simpa using hu) hn hbytes (by simp; omega)
  refine ⟨v', w', hrun, h3, ?_, gb h4, ?_⟩
  · rcases ho1.2 with ⟨rfl, rfl⟩ | ⟨g, cap, cur, rfl, hbg, hg, hnc, hcm, hcs, htake⟩
    · have hx : xs = [] := List.eq_nil_of_length_eq_zero (by simpa using hown.1)
      subst hx
      exact World.ownsRow_nil w' base e 1
    · by_cases hroom : n + 1 ≤ cap
      · have hfit : n * i.size + [u].length ≤ cur.size := by rw [hcs, h1]; simp; omega
        have hr := run_append_room (P := P) (w.alloc (.cells #[u] e)) t ty e i T.ht hi g n cap cur hg ⟨w.heap.size, 0, none⟩ 1 1 [u] hnl hn1 (by simpa using hu) hroom hfit
        rw [hr] at hrun
        injection hrun with _ hw
        subst hw
        refine ⟨hown.1, .inr ⟨g, cap, _, rfl, hbg, setRow_heap _ g cur _ e _ hg, hnc, hcm, ?_, ?_⟩⟩
        · simp only [List.size_toArray, List.length_append, List.length_take, List.length_drop, Array.length_toList]
          have := hfit
          simp only [List.length_cons, List.length_nil] at *
          omega
        · have hl : (cur.toList.take (n * 1)).length = n := by rw [htake]; simpa using hown.1
          rw [h1, List.append_assoc, List.take_append_of_le_length (by omega), List.take_take, Nat.min_self, htake]
      · have holds : ∀ j y, xs[j]? = some y → (w.alloc (.cells #[u] e)).cell? ((⟨g, 0, none⟩ : Addr).add j) = some y := ho1.cells (g := g) rfl
        have hr := run_append_grow (P := P) (w.alloc (.cells #[u] e)) t ty e i z T.ht hi hz ⟨g, 0, none⟩ n cap xs (by rw [h1]; exact hown.1) holds ⟨w.heap.size, 0, none⟩ 1 1 [u] hnl hn1 (by omega) (by omega) (growslice_fits (by omega) (by rw [h2]; exact hbytes))
        rw [hr] at hrun
        injection hrun with _ hw
        subst hw
        exact World.ownsRow.alloc (w := (w.alloc (.cells #[u] e)).drew) ho1 _
  · rcases h6 with h6 | h6
    · exact .inl h6
    · refine .inr fun g hg => ?_
      rw [h6] at hg
      injection hg with hg
      simp at hg
      omega

theorem Own.push {w' : World} {base : Nat} {e : TypeId} {v' : Value} {l : List UInt8} {n : Nat} {x : UInt8} {xs : List Value}
    (h : w'.ownsRow base e 1 v' (n + 1) (xs ++ [.int .u8 (x.toNat : Int)])) (hn : n = l.length) (hx : xs = bcells l) : Own w' base e v' (l ++ [x]) := by
  subst hn hx
  unfold Own
  rw [bcells_append, bcells_one]
  simpa using h

/-- 'append(out, x)', out a row of the call's own with elements of one cell. -/
theorem wpList_push1 {P : Program} {t e : TypeId} {z : Value} {bytes : Nat} (T : Elem1 P t e z bytes) {w : World} {base : Nat} {v : Value} {n : Nat} {xs : List Value} (hown : w.ownsRow base e 1 v n xs)
    {w0 : World} (hb : Below base w0 w) (hbase : base ≤ w.heap.size) (hn : n + 1 ≤ maxLen) (hbytes : (n + 1) * bytes ≤ 140737488355328) (u : Value) (hu : u.oneCell' = true)
    {ops : Array Oper} {rest : List Oper} {o : Oper} {a : Act} {Q : Exit → Act → World → Prop} (hgd : o.guard = none) (s y : Operand)
    (ho : o.op = .call { callee := .builtin .append, args := #[s, y], argTypes := #[t, t] }) (hs : a.eval s = v) (hx : a.eval y = .slice (some ⟨w.heap.size, 0, none⟩) 1 1)
    (h : ∀ v' w', w'.ownsRow base e 1 v' (n + 1) (xs ++ [u]) → Below base w0 w' → w'.ownsRow base e 1 v n xs → w.grownBy w' v.ownBlock → (v'.ownBlock = v.ownBlock ∨ ∀ g, v'.ownBlock = some g → w.heap.size ≤ g) → wpList P ops Q rest (a.put o.dst v') w') :
    wpList P ops Q (o :: rest) a (w.alloc (.cells #[u] e)) := by
  refine wpList_plain hgd fun K hK => ?_
  obtain ⟨v', w', hrun, h2, h3, h4, h5⟩ := run_push1 T o.type hown hbase hn hbytes u hu
  unfold Oper.wp execOp
  simp only [ho, resolve, invoke, builtin, Sem.run_bind, Sem.run_pure, Result.andThen_ok, List.map_toArray, List.map_cons, List.map_nil, hs, hx, hrun]
  exact hK _ _ (h v' w' h2 (hb.grown h4 hbase fun k hk => (hown.lt k hk).1) h3 h4 h5)

/-- 'append(out, x)', out a row of bytes of the call's own. -/
theorem wpList_pushB {P : Program} {t e : TypeId} (T : Elem1 P t e (.int .u8 0) 1) {w : World} {base : Nat} {v : Value} {l : List UInt8} (hown : Own w base e v l)
    {w0 : World} (hb : Below base w0 w) (hbase : base ≤ w.heap.size) (hlen : l.length + 1 ≤ 140737488355328) (x : UInt8)
    {ops : Array Oper} {rest : List Oper} {o : Oper} {a : Act} {Q : Exit → Act → World → Prop} (hgd : o.guard = none) (s y : Operand)
    (ho : o.op = .call { callee := .builtin .append, args := #[s, y], argTypes := #[t, t] }) (hs : a.eval s = v) (hx : a.eval y = .slice (some ⟨w.heap.size, 0, none⟩) 1 1)
    (h : ∀ v' w', Own w' base e v' (l ++ [x]) → Below base w0 w' → w.grownBy w' v.ownBlock → (v'.ownBlock = v.ownBlock ∨ ∀ g, v'.ownBlock = some g → w.heap.size ≤ g) → wpList P ops Q rest (a.put o.dst v') w') :
    wpList P ops Q (o :: rest) a (w.alloc (.cells #[.int .u8 (x.toNat : Int)] e)) := by
  refine wpList_push1 T hown hb hbase (by unfold maxLen; omega) (by omega) _ rfl hgd s y ho hs hx fun v' w' h1 h2 _ h3 h4 => h v' w' (Own.push h1 rfl rfl) h2 h3 h4

theorem str_toList (s : ByteArray) : s.toList = s.data.toList := ByteArray.toList_eq s

/-! ### A block that is known whole -/
def Blk (w : World) (g : Nat) (t : TypeId) (cs : Array Value) : Prop := w.heap[g]? = some (.cells cs t (0, 0))
section
variable {w w' : World} {g : Nat} {t : TypeId} {cs : Array Value}
theorem Blk.lt (h : Blk w g t cs) : g < w.heap.size := by
  rcases Nat.lt_or_ge g w.heap.size with h1 | h1
  · exact h1
  · unfold Blk at h; rw [Array.getElem?_eq_none h1] at h; cases h
theorem Blk.cell (h : Blk w g t cs) (i : Nat) : w.cell? ⟨g, i, none⟩ = cs[i]? := cell_of_row w g i cs t (0, 0) h
theorem Blk.frozen (h : Blk w g t cs) (i : Nat) : w.frozen? ⟨g, i, none⟩ = false := by unfold Blk at h; simp [World.frozen?, h]
theorem Blk.new (w : World) (t : TypeId) (cs : Array Value) : Blk (w.alloc (.cells cs t)) w.heap.size t cs := heap_alloc_new w _
theorem Blk.alloc (h : Blk w g t cs) (o : Obj) : Blk (w.alloc o) g t cs := (Below.heap_alloc w o g h.lt).trans h
theorem Blk.drew (h : Blk w g t cs) : Blk w.drew g t cs := h
theorem Blk.drewN (h : Blk w g t cs) (n : Nat) : Blk (w.drewN n) g t cs := h
theorem Blk.set_ (h : Blk w g t cs) (i : Nat) (u : Value) : Blk (w.setCell ⟨g, i, none⟩ u) g t (cs.setIfInBounds i u) := by
  unfold Blk at h ⊢
  simp [World.setCell, Array.getElem?_modify, h]
theorem Blk.far (h : Blk w g t cs) {p : Addr} (hp : g ≠ p.block) (u : Value) : Blk (w.setCell p u) g t cs := (Below.heap_setCell w p u g hp).trans h
theorem Blk.below {B : Nat} (h : Blk w g t cs) (hb : Below B w w') (hg : g < B) : Blk w' g t cs := (hb.block g hg).trans h
theorem Blk.below' (h : Blk w g t cs) (hb : Below w.heap.size w w') : Blk w' g t cs := h.below hb h.lt
theorem Blk.grown {row : Option Nat} (h : Blk w g t cs) (hb : w.grownBy w' row) (hg : some g ≠ row) : Blk w' g t cs := (hb.block g h.lt hg).trans h
theorem Blk.own (h : Blk w g t cs) {base n cap : Nat} {e : TypeId} {sz : Nat} (he : e = t) (hb : base ≤ g) (hc : cs.size = cap * sz) (hn : n ≤ cap) (hm : cap ≤ maxLen) :
    w.ownsRow base e sz (.slice (some ⟨g, 0, none⟩) n cap) n (cs.toList.take (n * sz)) := by
  subst he
  refine ⟨?_, .inr ⟨g, cap, cs, rfl, hb, h, hn, hm, hc, rfl⟩⟩
  rw [List.length_take, Array.length_toList, hc, Nat.min_eq_left (Nat.mul_le_mul_right _ hn)]
theorem own_blk_ne {base : Nat} {e : TypeId} {sz n : Nat} {v : Value} {xs : List Value} (h : w.ownsRow base e sz v n xs) (hg : Blk w g t cs) (hne : e ≠ t) : v.ownBlock = none ∨ v.ownBlock ≠ some g := by
  rcases h.2 with ⟨rfl, _⟩ | ⟨g', cap, cur, rfl, _, hh, _⟩
  · exact .inl rfl
  · refine .inr ?_
    intro he
    have : g' = g := by simpa [Value.ownBlock] using he
    subst this
    unfold Blk at hg
    rw [hh] at hg
    injection hg with hg
    injection hg with _ ht
    exact hne ht
end

theorem grown_drew {w w' : World} {row : Option Nat} (h : w.grownBy w' row) : w.grownBy w'.drew row := ⟨h.os, h.tape, h.output, h.size, h.block⟩
theorem grown_drewN {w w' : World} {row : Option Nat} (h : w.grownBy w' row) (n : Nat) : w.grownBy (w'.drewN n) row := ⟨h.os, h.tape, h.output, h.size, h.block⟩
theorem _root_.Go.World.grownBy.trans_ {a b c : World} {row : Option Nat} (h : a.grownBy b row) (k : b.grownBy c row) : a.grownBy c row :=
  ⟨k.os.trans h.os, k.tape.trans h.tape, k.output.trans h.output, Nat.le_trans h.size k.size, fun i hi hne => (k.block i (Nat.lt_of_lt_of_le hi h.size) hne).trans (h.block i hi hne)⟩
theorem store_grown (w : World) (g i : Nat) (u : Value) : w.grownBy (w.setCell ⟨g, i, none⟩ u) (some g) :=
  ⟨rfl, rfl, rfl, by simp [World.setCell], fun k hk hne => Below.heap_setCell w _ u k (fun e => hne (by rw [e]))⟩
theorem stores_grown (g : Nat) (cs : List Value) : ∀ (w : World) (o : Nat), w.grownBy (w.setCells g o cs) (some g) := by
  induction cs with
  | nil => exact fun w o => World.grownBy.refl w _
  | cons c cs ih => exact fun w o => (store_grown w g o c).trans_ (ih _ _)

theorem blk_setCells {g : Nat} {t : TypeId} (cs : List Value) : ∀ (w : World) (o : Nat) (old : Array Value), Blk w g t old → o + cs.length ≤ old.size →
    Blk (w.setCells g o cs) g t (old.toList.take o ++ cs ++ old.toList.drop (o + cs.length)).toArray := by
  induction cs with
  | nil => intro w o old h _; simpa [World.setCells] using h
  | cons c cs ih =>
    intro w o old h hl
    simp only [List.length_cons] at hl
    have := ih (w.setCell ⟨g, o, none⟩ c) (o + 1) (old.setIfInBounds o c) (h.set_ o c) (by simp; omega)
    simp only [World.setCells]
    have e : (old.setIfInBounds o c).toList.take (o + 1) ++ cs ++ (old.setIfInBounds o c).toList.drop (o + 1 + cs.length) = old.toList.take o ++ c :: cs ++ old.toList.drop (o + (c :: cs).length) := by
      rw [Array.toList_setIfInBounds, List.drop_set_of_lt (by omega), List.length_cons, show o + 1 + cs.length = o + (cs.length + 1) by omega]
      congr 1
      rw [List.take_add_one, List.take_set_of_le (Nat.le_refl _), List.getElem?_set_self (by simp; omega)]
      simp
    rw [e] at this
    exact this

/-- A whole array or struct is stored into a block that is known whole. -/
theorem wpList_store_row {P : Program} {ops : Array Oper} {rest : List Oper} {o : Oper} {a : Act} {w : World} {Q : Exit → Act → World → Prop} {g : Nat} {t : TypeId} {old : Array Value} (hb : Blk w g t old) (cells : Array Value)
    (hs : cells.size = old.size) (h1 : cells.all (·.oneCell') = true) (hgd : o.guard = none) (ty : TypeId) (x y : Operand) (ho : o.op = .store ty x y)
    (hi : (P.info? ty).map (·.size) = some cells.size) (hx : a.eval x = .pointer (some ⟨g, 0, none⟩)) (hy : a.eval y = .agg cells)
    (h : ∀ w', Blk w' g t cells → w.grownBy w' (some g) → wpList P ops Q rest (a.put o.dst undef) w') : wpList P ops Q (o :: rest) a w := by
  refine wpList_store_mid hgd ty x y ho g 0 cells hx hy (fun j hj => ⟨?_, ?_⟩) hi h1 (h _ ?_ (stores_grown g _ _ _))
  · rw [Nat.zero_add, hb.cell]; simp; omega
  · rw [Nat.zero_add]; exact hb.frozen j
  · have := blk_setCells cells.toList w 0 old hb (by simp; omega)
    simp only [List.take_zero, List.nil_append, Nat.zero_add, Array.length_toList] at this
    rw [List.drop_of_length_le (by simp; omega), List.append_nil] at this
    simpa using this

/-- 'string(b)' of a slice of bytes. -/
theorem run_str {P : Program} {w : World} {v : Value} {l : List UInt8} (h : By w v l) (src dst e : TypeId) (hs : P.underlying src = some (.slice e)) (he : P.underlying e = some (.int .u8)) (hd : P.underlying dst = some .string) :
    ∃ s : ByteArray, s.data.toList = l ∧ (convert src dst v).run P w = .ok (.string s) w := by
  obtain ⟨A, c, rfl, hlc, hc, hcell⟩ := h.form
  rcases A with _ | ad
  · have hl : l = [] := by
      rcases l with _ | ⟨x, l⟩
      · rfl
      · obtain ⟨b, o, h0, _⟩ := hcell 0 x rfl
        cases h0
    subst hl
    exact ⟨⟨#[]⟩, rfl, Lib.run_convert_nil_bytes w src dst e c hs he hd⟩
  · refine ⟨⟨l.toArray⟩, by simp, run_convert_bytes_back w src dst e ad c l hs he hd fun j hj => ?_⟩
    obtain ⟨b, o, h0, _, h2⟩ := hcell j _ (List.getElem?_eq_getElem hj)
    injection h0 with h0
    subst h0
    rw [Go.Addr.add_mid]
    exact h2

end Go.Proofs.YtoaaplngdomdcaaGreat

/- Contracts of the statements' helpers for lists of bytes: marks, sameness, lists that are lent with marks behind them. -/
namespace Go.Proofs.YtoaaplngdomdcaaGreat
open Go.RowKit

theorem elem8 : Elem1 Tryz.prog 85 5 (.int .u8 0) 1 := ⟨Tryz.underlying85, by kernel_rfl, rfl⟩
theorem Tryz.info8 : (Tryz.prog.info? 5).map (fun i => (i.zero, i.size, i.bytes)) = some (some (.int .u8 0), 1, 1) := by kernel_rfl

def mark (k i : Int) : UInt8 := UInt8.ofNat ((151 * k + 7 * i + 1) % 256).toNat
theorem mark_toNat (k i : Int) : ((mark k i).toNat : Int) = (151 * k + 7 * i + 1) % 256 := by
  unfold mark
  simp only [UInt8.toNat_ofNat']
  omega


set_option maxHeartbeats 400000 in
theorem mark_any (k i : Int) (w : World) :
    Calls Tryz.prog 99 #[.int .i64 k, .int .i64 i] w fun e w' => e = .returned (.int .u8 ((mark k i).toNat : Int)) ∧ w = w' := by
  go_enter Tryz.func99, Tryz.ntmps99
  go_wp2
  go_ret
  refine ⟨ret_int ?_, rfl⟩
  rw [mark_toNat]
  simp only [wrap64]
  omega

/-- What two lists have in common from the first k places on. -/
theorem same_step (l m : List UInt8) (k : Nat) (x y : UInt8) (hx : l[k]? = some x) (hy : m[k]? = some y) (h : l.take k = m.take k) :
    (l.take (k + 1) = m.take (k + 1)) ↔ x = y := by
  rw [List.take_add_one, List.take_add_one, hx, hy, h]
  simp

theorem u8_int {x y : UInt8} : ((x.toNat : Int) = (y.toNat : Int)) ↔ x = y := by
  constructor
  · intro h
    exact UInt8.toNat_inj.1 (by omega)
  · rintro rfl; rfl

set_option maxHeartbeats 400000 in
theorem same_any (va vb : Value) (l m : List UInt8) (w : World) (ha : By w va l) (hb : By w vb m) :
    Calls Tryz.prog 49 #[va, vb] w fun e w' => e = .returned (.bool (decide (l = m))) ∧ Below w.heap.size w w' := by
  obtain ⟨A, c, rfl, hc, hm, hca⟩ := ha.form
  obtain ⟨B, d, rfl, hd, hmd, hcb⟩ := hb.form
  unfold maxLen at hm hmd
  by_cases hl : l.length = m.length
  · have hne : ((l.length : Int) != (m.length : Int)) = false := by simp [hl]
    have HL : Hid (l.length = m.length) := hl
    clear hl
    go_enter Tryz.func49, Tryz.ntmps49
    go_wp2
    go_loopw [5] (fun i wr => ∃ k : Nat, k ≤ l.length ∧ i = .int .i64 k ∧ l.take k = m.take k ∧ Below w.heap.size w wr) (fun i _ => l.length - (intOf i).toNat)
    case atStart => exact ⟨0, by omega, rfl, by simp, Below.refl _ _⟩
    case round =>
      obtain ⟨k, hk, rfl, hq, hbel⟩ := hrel
      have HQ := hide hq
      clear hq
      by_cases hlt : k < l.length
      · have hlt2 : k < m.length := by have := HL.out; omega
        obtain ⟨x, hx⟩ : ∃ x, l[k]? = some x := ⟨_, List.getElem?_eq_getElem hlt⟩
        obtain ⟨y, hy⟩ : ∃ y, m[k]? = some y := ⟨_, List.getElem?_eq_getElem hlt2⟩
        obtain ⟨b, o, rfl, hbl, hcell⟩ := hca k x hx
        obtain ⟨b2, o2, rfl, hbl2, hcell2⟩ := hcb k y hy
        have hcx : wr.cell? ⟨b, o + k, none⟩ = some (.int .u8 (x.toNat : Int)) := (hbel.cell (p := ⟨b, o + k, none⟩) hbl).trans hcell
        have hcy : wr.cell? ⟨b2, o2 + k, none⟩ = some (.int .u8 (y.toNat : Int)) := (hbel.cell (p := ⟨b2, o2 + k, none⟩) hbl2).trans hcell2
        have HX := hide hx
        have HY := hide hy
        clear hx hy hcell hcell2 hca hcb
        have i1 : (k : Int) < (l.length : Int) := by omega
        have i2 : (k : Int) < (m.length : Int) := by omega
        have i3 : (0 : Int) ≤ (k : Int) := by omega
        by_cases hxy : x = y
        · have hd : ((x.toNat : Int) != (y.toNat : Int)) = false := by simp [hxy]
          go_wp2
          go_quiet (fail)
          go_wp2
          go_roundw
          case rel => exact ⟨k + 1, by omega, by go_num, (same_step l m k x y HX.out HY.out HQ.out).2 hxy, below_drewN hbel _⟩
          case measure => simp [intOf]; omega
        · have hd : ((x.toNat : Int) != (y.toNat : Int)) = true := by
            rw [bne_iff_ne]; intro h; exact hxy (u8_int.1 h)
          go_wp2
          go_quiet (fail)
          go_wp2
          go_ret
          refine ⟨ret_bool ?_, below_drewN hbel _⟩
          refine (decide_eq_false fun h => hxy ((same_step l m k x y HX.out HY.out HQ.out).1 (by rw [h]))).symm
      · have hge : ¬ ((k : Int) < (l.length : Int)) := by omega
        go_wp2
        go_ret
        refine ⟨ret_bool ?_, hbel⟩
        refine (decide_eq_true ?_).symm
        have := HQ.out
        rwa [List.take_of_length_le (by omega), List.take_of_length_le (by have := HL.out; omega)] at this
  · have hne : ((l.length : Int) != (m.length : Int)) = true := by rw [bne_iff_ne]; omega
    go_enter Tryz.func49, Tryz.ntmps49
    go_wp2
    go_ret
    exact ⟨ret_bool (decide_eq_false fun h => hl (by rw [h])).symm, Below.refl _ _⟩

/-- The first n marks behind a list of length len. -/
def marks (k len n : Nat) : List UInt8 := (List.range n).map fun i => mark k ((len + i : Nat) : Int)
theorem marks_succ (k len n : Nat) : marks k len (n + 1) = marks k len n ++ [mark k ((len + n : Nat) : Int)] := by
  simp [marks, List.range_succ]
@[simp] theorem marks_length (k len n : Nat) : (marks k len n).length = n := by simp [marks]

theorem take_snoc {α : Type} (l : List α) (k : Nat) (x : α) (h : l[k]? = some x) : l.take (k + 1) = l.take k ++ [x] := by
  rw [List.take_add_one, h]; rfl


set_option maxHeartbeats 800000 in
theorem lent_any (va : Value) (l : List UInt8) (w : World) (ha : By w va l) (hl : l.length ≤ 140737488355000) :
    Calls Tryz.prog 45 #[va] w fun e w' => ∃ v, e = .returned v ∧ Own w' w.heap.size 5 v (l ++ marks 0 l.length 70) ∧ Below w.heap.size w w' := by
  obtain ⟨A, c, rfl, hc, hm, hca⟩ := ha.form
  unfold maxLen at hm
  go_enter Tryz.func45, Tryz.ntmps45
  go_wp2
  go_loopw [3, 4] (fun v i wr => ∃ k : Nat, k ≤ l.length ∧ i = .int .i64 k ∧ Own wr w.heap.size 5 v (l.take k) ∧ Below w.heap.size w wr) (fun _ i _ => l.length - (intOf i).toNat)
  case atStart => exact ⟨0, by omega, rfl, Own.nil _ _ _, Below.refl _ _⟩
  case round =>
    obtain ⟨k, hk, rfl, hown, hbel⟩ := hrel
    have HO := hide hown
    clear hown
    by_cases hlt : k < l.length
    · obtain ⟨x, hx⟩ : ∃ x, l[k]? = some x := ⟨_, List.getElem?_eq_getElem hlt⟩
      obtain ⟨b, o, rfl, hbl, hcell⟩ := hca k x hx
      have hcx : wr.cell? ⟨b, o + k, none⟩ = some (.int .u8 (x.toNat : Int)) := (hbel.cell (p := ⟨b, o + k, none⟩) hbl).trans hcell
      have HX := hide hx
      clear hx hcell hca
      have hlk : (l.take k).length = k := by rw [List.length_take]; omega
      have HLK := hide hlk
      clear hlk
      go_wp2_with (at_builtin; go_loud (refine wpList_pushB elem8 HO.out hbel hbel.size (by rw [List.length_take]; omega) x rfl _ _ rfl rfl rfl ?_); intro v1 w1 hown1 hbel1 _ _)
      go_roundw
      case rel => exact ⟨k + 1, by omega, by go_num, by rw [take_snoc l k x HX.out]; exact hown1, hbel1⟩
      case measure => simp [intOf]; omega
    · have hkl : k = l.length := by omega
      subst hkl
      have hO2 := HO.out
      rw [List.take_of_length_le (Nat.le_refl _)] at hO2
      clear HO
      have HO := hide hO2
      clear hO2
      go_wp2
      go_loopw [3, 5] (fun v i wr => ∃ k : Nat, k ≤ 70 ∧ i = .int .i64 k ∧ Own wr w.heap.size 5 v (l ++ marks 0 l.length k) ∧ Below w.heap.size w wr) (fun _ i _ => 70 - (intOf i).toNat)
      case atStart => exact ⟨0, by omega, rfl, by simpa [marks] using HO.out, hbel⟩
      case round =>
        clear HO hbel
        obtain ⟨k, hk, rfl, hown, hbel⟩ := hrel
        have HO := hide hown
        clear hown
        by_cases hlt : k < 70
        · have hmk := mark_any 0 ((l.length + k : Nat) : Int)
          rw [Int.natCast_add] at hmk
          go_wp2_with (first
            | (go_at_call 99; refine (hmk _).mono ?_; rintro e w' ⟨rfl, rfl⟩)
            | (at_builtin; go_loud (refine wpList_pushB elem8 HO.out hbel hbel.size (by rw [List.length_append, marks_length]; omega) (mark 0 ((l.length + k : Nat) : Int)) rfl _ _ rfl rfl rfl ?_); intro v1 w1 hown1 hbel1 _ _))
          go_roundw
          case rel => exact ⟨k + 1, by omega, by go_num, by rw [marks_succ, ← List.append_assoc]; exact hown1, hbel1⟩
          case measure => simp [intOf]; omega
        · have hkl : k = 70 := by omega
          subst hkl
          go_wp2
          go_ret
          exact ⟨_, rfl, HO.out, hbel⟩


set_option maxHeartbeats 400000 in
theorem kept_any (vf va : Value) (f l : List UInt8) (w : World) (hf : By w vf f) (ha : By w va l) (hl : l.length ≤ 140737488355000) :
    Calls Tryz.prog 48 #[vf, va] w fun e w' => e = .returned (.bool (decide (f = l ++ marks 0 l.length 70))) ∧ Below w.heap.size w w' := by
  go_enter Tryz.func48, Tryz.ntmps48
  go_wp2_with fail
  refine (lent_any va l w ha hl).mono ?_
  rintro e w1 ⟨v, rfl, hown, hbel⟩
  go_wp2_with fail
  refine (same_any vf v f _ w1 (hf.below hbel) hown.by_).mono ?_
  rintro e w2 ⟨rfl, hbel2⟩
  go_wp2_with fail
  go_ret
  exact ⟨rfl, hbel.trans (hbel2.mono hbel.size)⟩

/-- What a list holds when i places are written over. -/
def overed (_n i : Nat) (l : List UInt8) : List UInt8 := ((List.range i).map fun j => mark 7 ((j + 3 : Nat) : Int)) ++ l.drop i
theorem overed_set (l : List UInt8) (i : Nat) (h : i < l.length) : (overed l.length i l).set i (mark 7 ((i : Int) + 3)) = overed l.length (i + 1) l := by
  unfold overed
  rw [List.set_append_right _ _ (by simp), List.drop_eq_getElem_cons h]
  simp only [List.length_map, List.length_range, Nat.sub_self, List.set_cons_zero, List.range_succ, List.map_append, List.map_cons, List.map_nil, List.append_assoc, List.cons_append, List.nil_append]
  rfl
theorem overed_length (l : List UInt8) (n i : Nat) (h : i ≤ l.length) : (overed n i l).length = l.length := by simp [overed]; omega

theorem Own.store {w : World} {base : Nat} {e : TypeId} {g n cap : Nat} {l : List UInt8} (h : Own w base e (.slice (some ⟨g, 0, none⟩) n cap) l) (k : Nat) (x : UInt8) :
    Own (w.setCell ⟨g, k, none⟩ (.int .u8 (x.toNat : Int))) base e (.slice (some ⟨g, 0, none⟩) n cap) (l.set k x) := by
  have hn : n = l.length := by
    rcases h.2 with ⟨h0, _⟩ | ⟨g', cap', cur, hv, _⟩
    · cases h0
    · injection hv
  unfold Own at *
  subst hn
  have := (h.stored k (.int .u8 (x.toNat : Int))).1
  have e : (bcells l).set k (.int .u8 (x.toNat : Int)) = bcells (l.set k x) := by simp [bcells, List.map_set]
  rw [e] at this
  simpa using this

theorem Own.form {w : World} {base : Nat} {e : TypeId} {v : Value} {l : List UInt8} (h : Own w base e v l) (hn : 0 < l.length) : ∃ g cap, v = .slice (some ⟨g, 0, none⟩) l.length cap ∧ base ≤ g ∧ g < w.heap.size :=
  World.ownsRow.form h hn


set_option maxHeartbeats 400000 in
theorem over_any (base : Nat) (v : Value) (l : List UInt8) (w : World) (h : Own w base 5 v l) (hl : l.length ≤ 140737488355328) :
    Calls Tryz.prog 80 #[v] w fun e w' => e = .returned (.tuple #[]) ∧ Below base w w' ∧ w.grownBy w' v.ownBlock ∧ (∃ l', Own w' base 5 v l' ∧ l'.length = l.length) := by
  by_cases h0 : l.length = 0
  · have hl0 : l = [] := List.eq_nil_of_length_eq_zero h0
    subst hl0
    have HO := hide h
    obtain ⟨A, c, hv, _⟩ := h.by_.form
    subst hv
    clear h
    go_enter Tryz.func80, Tryz.ntmps80
    go_wp2
    go_loopw [2] (fun u2 wr => u2 = .int .i64 0 ∧ Below base w wr ∧ w.grownBy wr (Value.ownBlock (.slice A (List.length ([] : List UInt8)) c)) ∧ Own wr base 5 (.slice A (List.length ([] : List UInt8)) c) []) (fun _ _ => 0)
    case atStart => exact ⟨rfl, Below.refl _ _, World.grownBy.refl _ _, HO.out⟩
    case round =>
      obtain ⟨rfl, hb, hg, hw⟩ := hrel
      go_wp2
      go_end0
      exact ⟨rfl, hb, hg, [], hw, rfl⟩
  obtain ⟨g, cap, hv, hbg, _⟩ := h.form (by omega)
  subst hv
  have HO := hide h
  clear h
  go_enter Tryz.func80, Tryz.ntmps80
  go_wp2
  go_loopw [2] (fun u2 wr => ∃ i : Nat, i ≤ l.length ∧ u2 = .int .i64 (i : Int) ∧ Below base w wr ∧ w.grownBy wr (some g) ∧ Own wr base 5 (.slice (some ⟨g, 0, none⟩) l.length cap) (overed l.length i l)) (fun i _ => l.length - (intOf i).toNat)
  case atStart => exact ⟨0, by omega, rfl, Below.refl _ _, World.grownBy.refl _ _, by simpa [overed] using HO.out⟩
  case round =>
    obtain ⟨i, hi, rfl, hb, hg, ho⟩ := hrel
    clear HO
    have HO := hide ho
    by_cases hil : i < l.length
    · have hlen := overed_length l l.length i hi
      have hfz := World.ownsRow.frozenAt (n := l.length) (xs := bcells (overed l.length i l)) (by unfold Own at ho; rw [hlen] at ho; exact ho) i
      have hcc := World.ownsRow.cellAt (n := l.length) (xs := bcells (overed l.length i l)) (by unfold Own at ho; rw [hlen] at ho; exact ho) i (by omega)
      have hcv : ∃ y, wr.cell? ⟨g, i, none⟩ = some y := by rw [hcc]; exact ⟨_, List.getElem?_eq_getElem (by rw [bcells_length]; omega)⟩
      obtain ⟨y, hcy⟩ := hcv
      have hmk := mark_any 7 ((i : Int) + 3)
      have HG := hide hg
      clear hcc hlen ho hg
      go_wp2_with (go_at_call 99; ((with_reducible refine (hmk _).mono ?_)); rintro e w' ⟨rfl, rfl⟩)
      go_roundw
      case rel => exact ⟨i + 1, by omega, by go_num, hb.setCell hbg _, HG.out.trans_ (store_grown _ _ _ _), by rw [← overed_set l i hil]; exact HO.out.store i _⟩
      case measure => simp [intOf]; omega
    · have hieq : i = l.length := by omega
      clear HO
      go_wp2
      go_end0
      refine ⟨rfl, hb, hg, _, ho, ?_⟩
      rw [overed_length _ _ _ (by omega)]
/-- The beginning of a row, as 'full[:n]' gives it. -/
theorem Own.front {w : World} {base : Nat} {e : TypeId} {g n cap : Nat} {l r : List UInt8} (h : Own w base e (.slice (some ⟨g, 0, none⟩) n cap) (l ++ r)) : By w (.slice (some ⟨g, 0, none⟩) l.length cap) l := by
  rcases h.2 with ⟨h0, _⟩ | ⟨g', cap', cur, hv, hg, hh, hnc, hcm, hcs, ht⟩
  · cases h0
  · injection hv with hA hn hc
    injection hA with hA
    injection hA with hA
    subst hA hc
    have hlt := (Blk.lt (w := w) (g := g) (t := e) (cs := cur) hh)
    have hlen : (l ++ r).length = l.length + r.length := List.length_append
    refine ⟨by simp, some ⟨g, 0, none⟩, cap, rfl, by omega, hcm, fun h0 => ⟨g, 0, rfl, hlt, fun j hj => ?_⟩⟩
    rw [Nat.zero_add, cell_of_row w g j cur e (0, 0) hh]
    have e1 : cur[j]? = (bcells (l ++ r))[j]? := by
      rw [← ht, List.getElem?_take_of_lt (by omega)]; simp
    rw [e1, bcells_append, List.getElem?_append_left (by simp; omega)]

end Go.Proofs.YtoaaplngdomdcaaGreat

/- Lists of lists of bytes of the call's own. They hold of every program. -/
namespace Go.Proofs.YtoaaplngdomdcaaGreat
open Go.RowKit

theorem own_ne' {w : World} {b1 b2 : Nat} {e1 e2 : TypeId} {s1 s2 : Nat} {v1 v2 : Value} {n1 n2 : Nat} {x1 x2 : List Value} (h1 : w.ownsRow b1 e1 s1 v1 n1 x1) (h2 : w.ownsRow b2 e2 s2 v2 n2 x2) (he : e1 ≠ e2) :
    v1.ownBlock = none ∨ v1.ownBlock ≠ v2.ownBlock := by
  rcases h1.2 with ⟨rfl, _⟩ | ⟨g, cap, cur, rfl, _, hh, _⟩
  · exact .inl rfl
  · refine .inr ?_
    rcases h2.2 with ⟨rfl, _⟩ | ⟨g', cap', cur', rfl, _, hh', _⟩
    · simp [Value.ownBlock]
    · intro hg
      have : g = g' := by simpa [Value.ownBlock] using hg
      subst this
      rw [hh] at hh'
      injection hh' with hh'
      injection hh' with _ ht
      exact he ht

theorem Own.mono_ {w : World} {b b' : Nat} {e : TypeId} {v : Value} {l : List UInt8} (h : Own w b e v l) (hb : b' ≤ b) : Own w b' e v l := by
  refine ⟨h.1, h.2.imp id ?_⟩
  rintro ⟨g, cap, cur, hv, hg, r⟩
  exact ⟨g, cap, cur, hv, by omega, r⟩

/-- A list of lists of bytes of the call's own (e: the byte's type, E: the list's). -/
def OwnL (w : World) (base : Nat) (e E : TypeId) (v : Value) (L : List (List UInt8)) : Prop :=
  ∃ xs, w.ownsRow base E 1 v L.length xs ∧ ∀ (i : Nat) (l : List UInt8), L[i]? = some l → ∃ x, xs[i]? = some x ∧ Own w base e x l
theorem OwnL.nil (w : World) (base : Nat) (e E : TypeId) : OwnL w base e E (.slice none 0 0) [] := ⟨[], World.ownsRow_nil w base E 1, fun i l h => by simp at h⟩
theorem OwnL.below {w w' : World} {base : Nat} {e E : TypeId} {v : Value} {L : List (List UInt8)} (h : OwnL w base e E v L) (hb : Below w.heap.size w w') : OwnL w' base e E v L := by
  obtain ⟨xs, h1, h2⟩ := h
  refine ⟨xs, own_below' h1 hb, fun i l hl => ?_⟩
  obtain ⟨x, hx, ho⟩ := h2 i l hl
  exact ⟨x, hx, ho.below hb⟩
theorem OwnL.kept {w w' : World} {base : Nat} {e E : TypeId} {v : Value} {L : List (List UInt8)} (h : OwnL w base e E v L) {g : Nat} {t : TypeId} {cs : Array Value} (hb : Blk w g t cs) (he : e ≠ t) (hE : E ≠ t)
    (hg : w.grownBy w' (some g)) : OwnL w' base e E v L := by
  obtain ⟨xs, h1, h2⟩ := h
  refine ⟨xs, h1.kept hg (own_blk_ne h1 hb hE), fun i l hl => ?_⟩
  obtain ⟨x, hx, ho⟩ := h2 i l hl
  exact ⟨x, hx, World.ownsRow.kept ho hg (own_blk_ne ho hb he)⟩
/-- One list more, as 'wpList_push1' gives it. -/
theorem OwnL.pushed {w w' : World} {base : Nat} {e E : TypeId} (he : e ≠ E) {v v' u : Value} {L : List (List UInt8)} {l : List UInt8} {xs : List Value} (h1 : w.ownsRow base E 1 v L.length xs)
    (h2 : ∀ (i : Nat) (l : List UInt8), L[i]? = some l → ∃ x, xs[i]? = some x ∧ Own w base e x l) (hu : Own w base e u l) (h' : w'.ownsRow base E 1 v' (L.length + 1) (xs ++ [u])) (hg : w.grownBy w' v.ownBlock) : OwnL w' base e E v' (L ++ [l]) := by
  have hl := h1.1
  refine ⟨xs ++ [u], by simpa using h', fun i m hm => ?_⟩
  by_cases hi : i < L.length
  · rw [List.getElem?_append_left hi] at hm
    obtain ⟨x, hx, ho⟩ := h2 i m hm
    exact ⟨x, by rw [List.getElem?_append_left (by omega)]; exact hx, World.ownsRow.kept ho hg (own_ne' ho h1 he)⟩
  · rw [List.getElem?_append_right (by omega)] at hm
    have hi2 : i = L.length := by
      rcases Nat.lt_or_ge L.length i with h | h
      · rw [List.getElem?_eq_none (by simp; omega)] at hm; cases hm
      · omega
    subst hi2
    rw [Nat.sub_self] at hm
    injection hm with hm
    subst hm
    exact ⟨u, by rw [List.getElem?_append_right (by omega), show L.length - xs.length = 0 by omega]; rfl, World.ownsRow.kept hu hg (own_ne' hu h1 he)⟩

/-- 'append(out, x)' at a step of a region that draws its order; what is appended lies in block g. -/
theorem step_push1 {P : Program} {t e : TypeId} {z : Value} {bytes : Nat} (T : Elem1 P t e z bytes) {w : World} {base : Nat} {v : Value} {n : Nat} {xs : List Value} (hown : w.ownsRow base e 1 v n xs)
    {w0 : World} (hb : Below base w0 w) (hbase : base ≤ w.heap.size) (hn : n + 1 ≤ maxLen) (hbytes : (n + 1) * bytes ≤ 140737488355328) {g : Nat} {u : Value} (hu : u.oneCell' = true) (hg : Blk w g e #[u])
    {ops : Array Oper} {o : Oper} {a : Act} {K : Act → World → Prop} {Q : Exit → Act → World → Prop} {E : Prop} (hgd : o.guard = none) (s y : Operand)
    (ho : o.op = .call { callee := .builtin .append, args := #[s, y], argTypes := #[t, t] }) (hs : a.eval s = v) (hx : a.eval y = .slice (some ⟨g, 0, none⟩) 1 1)
    (h : ∀ v' w', w'.ownsRow base e 1 v' (n + 1) (xs ++ [u]) → Below base w0 w' → w.grownBy w' v.ownBlock → K (a.put o.dst v') w') :
    if Region.wanted o (yielded ops a.tmps) = true then Oper.wp P o a w K Q else E := by
  have hw : Region.wanted o (yielded ops a.tmps) = true := by simp [Region.wanted, hgd]
  rw [if_pos hw]
  obtain ⟨i, hi, hz, h1, h2⟩ := info_parts T.hi
  have hn1 : ∀ j y, [u][j]? = some y → w.cell? ((⟨g, 0, none⟩ : Addr).add j) = some y := fun j y hj =>
    World.news_of_block (w := w) (B := g) (cs := #[u]) (t := e) (fr := (0, 0)) hg j y (by simpa using hj)
  obtain ⟨v', w', hrun, h3, h4, _, _⟩ := run_append_own_at (P := P) w base t o.type e i z 1 bytes T.ht hi hz h1 h2 T.hz (by omega) v n xs hown ⟨g, 0, none⟩ 1 1 [u] (by simp) hn1 (by simpa using hu) hn hbytes hbase
  unfold Oper.wp execOp
  simp only [ho, resolve, invoke, builtin, Sem.run_bind, Sem.run_pure, Result.andThen_ok, List.map_toArray, List.map_cons, List.map_nil, hs, hx, hrun]
  exact h v' w' h3 (hb.grown h4 hbase fun k hk => (hown.lt k hk).1) h4

/-- A list of lists of bytes that reads as L. -/
def Ls (w : World) (v : Value) (L : List (List UInt8)) : Prop :=
  ∃ xs, Sl w 1 v L.length xs ∧ ∀ (i : Nat) (l : List UInt8), L[i]? = some l → ∃ x, xs[i]? = some x ∧ By w x l
theorem Ls.below {w w' : World} {v : Value} {L : List (List UInt8)} (h : Ls w v L) (hb : Below w.heap.size w w') : Ls w' v L := by
  obtain ⟨xs, h1, h2⟩ := h
  refine ⟨xs, h1.below hb, fun i l hl => ?_⟩
  obtain ⟨x, hx, ho⟩ := h2 i l hl
  exact ⟨x, hx, ho.below hb⟩
theorem OwnL.ls {w : World} {base : Nat} {e E : TypeId} {v : Value} {L : List (List UInt8)} (h : OwnL w base e E v L) : Ls w v L := by
  obtain ⟨xs, h1, h2⟩ := h
  refine ⟨xs, Sl.of_own h1, fun i l hl => ?_⟩
  obtain ⟨x, hx, ho⟩ := h2 i l hl
  exact ⟨x, hx, ho.by_⟩
theorem Ls.form {w : World} {v : Value} {L : List (List UInt8)} (h : Ls w v L) :
    ∃ A c, v = .slice A L.length c ∧ L.length ≤ c ∧ c ≤ maxLen ∧
      (∀ k l, L[k]? = some l → ∃ b o x, A = some ⟨b, o, none⟩ ∧ b < w.heap.size ∧ w.cell? ⟨b, o + k, none⟩ = some x ∧ By w x l) := by
  obtain ⟨xs, h1, h2⟩ := h
  obtain ⟨A, c, hv, hn, hc, h3⟩ := Sl.form h1
  refine ⟨A, c, hv, hn, hc, fun k l hl => ?_⟩
  have hk : k < L.length := (List.getElem?_eq_some_iff.1 hl).1
  obtain ⟨b, o, hA, hlt, hcell⟩ := h3 (by omega)
  obtain ⟨x, hx, hb⟩ := h2 k l hl
  exact ⟨b, o, x, hA, hlt, by rw [hcell k (by omega), hx], hb⟩

/-- A row of cols bytes of which the first j are reckoned. -/
def fillr (cols j : Nat) (f : Nat → UInt8) : List UInt8 := (List.range j).map f ++ List.replicate (cols - j) 0
theorem fillr_zero (cols : Nat) (f : Nat → UInt8) : fillr cols 0 f = List.replicate cols 0 := by simp [fillr]
theorem fillr_full (cols : Nat) (f : Nat → UInt8) : fillr cols cols f = (List.range cols).map f := by simp [fillr]
theorem fillr_length {cols j : Nat} (f : Nat → UInt8) (h : j ≤ cols) : (fillr cols j f).length = cols := by simp [fillr]; omega
theorem fillr_set {cols j : Nat} (f : Nat → UInt8) (h : j < cols) : (fillr cols j f).set j (f j) = fillr cols (j + 1) f := by
  unfold fillr
  rw [List.set_append_right _ _ (by simp), List.length_map, List.length_range, Nat.sub_self, show cols - j = (cols - (j + 1)) + 1 by omega, List.replicate_succ, List.set_cons_zero, List.range_succ, List.map_append, List.append_assoc]
  rfl
theorem made_bytes (n : Nat) : (madeCells (Value.int .u8 0).cells (n * 1)).toList = bcells (List.replicate n 0) := by
  unfold bcells
  rw [List.map_replicate]
  have h1 : (madeCells (Value.int .u8 0).cells (n * 1)).toList = List.replicate n (.int .u8 0) := by
    apply List.ext_getElem?
    intro i
    have hm : ∀ x : Nat, x % 1 = 0 := fun x => Nat.mod_one x
    simp only [madeCells, Value.cells, Nat.mul_one, Array.toList_map, Array.toList_range, List.getElem?_map, List.getElem?_replicate]
    by_cases h : i < n
    · rw [List.getElem?_range h, if_pos h]; simp [Nat.mod_one]
    · rw [List.getElem?_eq_none (by simp; omega), if_neg h]; rfl
  rw [h1]
  rfl
end Go.Proofs.YtoaaplngdomdcaaGreat

/- The field of 256 elements: its product and inverse as the program reckons them, and the laws of a field. -/
namespace Go.Proofs.YtoaaplngdomdcaaGreat

/-- Times the generator. -/
def gx (a : Nat) : Nat := if a < 128 then 2 * a else (2 * a - 256) ^^^ 29
/-- The loop of the product. -/
def gm : Nat → Nat → Nat → Nat → Nat
  | 0, p, _, _ => p
  | n + 1, p, a, b => gm n (if b % 2 = 0 then p else p ^^^ a) (gx a) (b / 2)
def gmul (a b : Nat) : Nat := gm 8 0 a b
/-- The loop of the inverse. -/
def gpw : Nat → Nat → Nat → Nat
  | 0, _, p => p
  | n + 1, a, p => gpw n (gmul a a) (gmul p (gmul a a))
def ginv (a : Nat) : Nat := if a = 0 then 0 else gpw 7 a 1

theorem xor_lt {a b : Nat} (ha : a < 256) (hb : b < 256) : a ^^^ b < 256 := Nat.xor_lt_two_pow (n := 8) ha hb
theorem gx_lt : ∀ a, a < 256 → gx a < 256 := by decide +kernel
theorem gm_lt (n : Nat) : ∀ p a b, p < 256 → a < 256 → gm n p a b < 256 := by
  induction n with
  | zero => intro p a b hp _; exact hp
  | succ n ih =>
    intro p a b hp ha
    refine ih _ _ _ ?_ (gx_lt a ha)
    split
    · exact hp
    · exact xor_lt hp ha
theorem gmul_lt {a : Nat} (b : Nat) (ha : a < 256) : gmul a b < 256 := gm_lt 8 0 a b (by omega) ha
theorem gm_b0 (n : Nat) : ∀ p a, gm n p a 0 = p := by
  induction n with
  | zero => intro p a; rfl
  | succ n ih => intro p a; exact ih _ _
theorem gx_xor_dec : ∀ a, a < 256 → ∀ i, i < 8 → gx (a ^^^ 2 ^ i) = gx a ^^^ gx (2 ^ i) := by decide +kernel
theorem top_bit : ∀ a, a < 256 → ∀ k, k < 8 → 2 ^ k ≤ a → a < 2 ^ (k + 1) → (a - 2 ^ k) ^^^ 2 ^ k = a := by decide +kernel

/-- What holds of 0 and of a number with one bit more holds of all. -/
theorem bits_ind {P : Nat → Prop} (h0 : P 0) (hx : ∀ a i, a < 256 → i < 8 → P a → P (a ^^^ 2 ^ i)) : ∀ a, a < 256 → P a := by
  have key : ∀ k, k ≤ 8 → ∀ a, a < 2 ^ k → P a := by
    intro k
    induction k with
    | zero => intro _ a ha; rw [show a = 0 by simpa using ha]; exact h0
    | succ k ih =>
      intro hk a ha
      by_cases h : a < 2 ^ k
      · exact ih (by omega) a h
      · have h2 : 2 ^ (k + 1) ≤ 2 ^ 8 := Nat.pow_le_pow_right (by omega) hk
        have ha8 : a < 256 := by omega
        rw [← top_bit a ha8 k (by omega) (by omega) ha]
        refine hx _ k (by omega) (by omega) (ih (by omega) _ ?_)
        rw [Nat.pow_succ] at ha
        omega
  exact fun a ha => key 8 (by omega) a ha

theorem gx_xor (a b : Nat) (ha : a < 256) (hb : b < 256) : gx (a ^^^ b) = gx a ^^^ gx b := by
  revert b
  refine bits_ind (P := fun b => gx (a ^^^ b) = gx a ^^^ gx b) (by rw [Nat.xor_zero, show gx 0 = 0 from rfl, Nat.xor_zero]) ?_
  intro b i hb hi h
  rw [← Nat.xor_assoc, gx_xor_dec _ (xor_lt ha hb) i hi, h, gx_xor_dec b hb i hi, Nat.xor_assoc]

theorem gm_p (n : Nat) : ∀ p a b, gm n p a b = p ^^^ gm n 0 a b := by
  induction n with
  | zero => intro p a b; simp [gm]
  | succ n ih =>
    intro p a b
    simp only [gm]
    rw [ih, ih (if b % 2 = 0 then 0 else 0 ^^^ a)]
    split
    · simp
    · simp [Nat.xor_assoc]
theorem gm_succ (n a b : Nat) : gm (n + 1) 0 a b = (if b % 2 = 0 then 0 else a) ^^^ gm n 0 (gx a) (b / 2) := by
  simp only [gm]
  rw [gm_p]
  simp
theorem gm_addl (n : Nat) : ∀ a c b, a < 256 → c < 256 → gm n 0 (a ^^^ c) b = gm n 0 a b ^^^ gm n 0 c b := by
  induction n with
  | zero => intro a c b _ _; simp [gm]
  | succ n ih =>
    intro a c b ha hc
    rw [gm_succ, gm_succ, gm_succ, gx_xor a c ha hc, ih _ _ _ (gx_lt a ha) (gx_lt c hc)]
    split
    · simp
    · generalize gm n 0 (gx a) (b / 2) = x
      generalize gm n 0 (gx c) (b / 2) = y
      rw [Nat.xor_assoc, Nat.xor_assoc, ← Nat.xor_assoc c x y, Nat.xor_comm c x, Nat.xor_assoc]
theorem xor_half (a b : Nat) : (a ^^^ b) / 2 = a / 2 ^^^ b / 2 := by
  have := Nat.xor_div_two_pow (a := a) (b := b) (n := 1)
  simpa using this
theorem gm_addr (n : Nat) : ∀ a b c, gm n 0 a (b ^^^ c) = gm n 0 a b ^^^ gm n 0 a c := by
  induction n with
  | zero => intro a b c; simp [gm]
  | succ n ih =>
    intro a b c
    rw [gm_succ, gm_succ, gm_succ, xor_half, ih]
    generalize gm n 0 (gx a) (b / 2) = x
    generalize gm n 0 (gx a) (c / 2) = y
    have hm : (b ^^^ c) % 2 = (b % 2 + c % 2) % 2 := by
      have := Nat.xor_mod_two_pow (a := b) (b := c) (n := 1)
      rw [Nat.pow_one] at this
      rw [this]
      rcases Nat.mod_two_eq_zero_or_one b with hb | hb <;> rcases Nat.mod_two_eq_zero_or_one c with hc | hc <;> rw [hb, hc]
      all_goals rfl
    rcases Nat.mod_two_eq_zero_or_one b with hb | hb <;> rcases Nat.mod_two_eq_zero_or_one c with hc | hc
    · rw [if_pos (by omega), if_pos hb, if_pos hc]; simp
    · rw [if_neg (by omega), if_pos hb, if_neg (by omega)]
      rw [Nat.zero_xor, ← Nat.xor_assoc, ← Nat.xor_assoc, Nat.xor_comm a x]
    · rw [if_neg (by omega), if_neg (by omega), if_pos hc]
      rw [Nat.zero_xor, Nat.xor_assoc]
    · rw [if_pos (by omega), if_neg (by omega), if_neg (by omega)]
      rw [Nat.zero_xor, Nat.xor_assoc, ← Nat.xor_assoc x a y, Nat.xor_comm x a, Nat.xor_assoc, ← Nat.xor_assoc a a, Nat.xor_self, Nat.zero_xor]

theorem gmul_addl {a c : Nat} (b : Nat) (ha : a < 256) (hc : c < 256) : gmul (a ^^^ c) b = gmul a b ^^^ gmul c b := gm_addl 8 a c b ha hc
theorem gmul_addr (a b c : Nat) : gmul a (b ^^^ c) = gmul a b ^^^ gmul a c := gm_addr 8 a b c
theorem gmul_zero (a : Nat) : gmul a 0 = 0 := gm_b0 8 0 a
theorem zero_gmul (b : Nat) : gmul 0 b = 0 := by
  have := gmul_addl (a := 0) (c := 0) b (by omega) (by omega)
  rw [Nat.xor_self, Nat.xor_self] at this
  exact this
theorem comm_dec : ∀ i, i < 8 → ∀ j, j < 8 → gmul (2 ^ i) (2 ^ j) = gmul (2 ^ j) (2 ^ i) := by decide +kernel
theorem pow_lt8 {i : Nat} (h : i < 8) : 2 ^ i < 256 := Nat.pow_lt_pow_right (a := 2) (n := 8) (by omega) h
theorem gmul_comm {a b : Nat} (ha : a < 256) (hb : b < 256) : gmul a b = gmul b a := by
  have h1 : ∀ j, j < 8 → ∀ a, a < 256 → gmul a (2 ^ j) = gmul (2 ^ j) a := by
    intro j hj
    refine bits_ind (by rw [zero_gmul, gmul_zero]) ?_
    intro a i ha hi h
    rw [gmul_addl _ ha (pow_lt8 hi), gmul_addr, h, comm_dec i hi j hj]
  refine bits_ind (P := fun b => gmul a b = gmul b a) (by rw [zero_gmul, gmul_zero]) ?_ b hb
  intro b i hb hi h
  rw [gmul_addl _ hb (pow_lt8 hi), gmul_addr, h, h1 i hi a ha]
theorem assoc_dec : ∀ i, i < 8 → ∀ j, j < 8 → ∀ k, k < 8 → gmul (gmul (2 ^ i) (2 ^ j)) (2 ^ k) = gmul (2 ^ i) (gmul (2 ^ j) (2 ^ k)) := by decide +kernel
theorem gmul_assoc {a b c : Nat} (ha : a < 256) (hb : b < 256) (hc : c < 256) : gmul (gmul a b) c = gmul a (gmul b c) := by
  have h1 : ∀ j, j < 8 → ∀ k, k < 8 → ∀ a, a < 256 → gmul (gmul a (2 ^ j)) (2 ^ k) = gmul a (gmul (2 ^ j) (2 ^ k)) := by
    intro j hj k hk
    refine bits_ind (by rw [zero_gmul, zero_gmul, zero_gmul]) ?_
    intro a i ha hi h
    rw [gmul_addl _ ha (pow_lt8 hi), gmul_addl _ (gmul_lt _ ha) (gmul_lt _ (pow_lt8 hi)), gmul_addl _ ha (pow_lt8 hi), h, assoc_dec i hi j hj k hk]
  have h2 : ∀ k, k < 8 → ∀ b, b < 256 → gmul (gmul a b) (2 ^ k) = gmul a (gmul b (2 ^ k)) := by
    intro k hk
    refine bits_ind (by rw [gmul_zero, zero_gmul, gmul_zero]) ?_
    intro b i hb hi h
    rw [gmul_addr, gmul_addl _ (gmul_lt _ ha) (gmul_lt _ ha), gmul_addl _ hb (pow_lt8 hi), gmul_addr, h, h1 i hi k hk a ha]
  refine bits_ind (P := fun c => gmul (gmul a b) c = gmul a (gmul b c)) (by rw [gmul_zero, gmul_zero, gmul_zero]) ?_ c hc
  intro c i hc hi h
  rw [gmul_addr, gmul_addr, gmul_addr, h, h2 i hi b hb]
theorem ginv_lt : ∀ a, a < 256 → ginv a < 256 := by decide +kernel
theorem ginv_mul : ∀ a, a < 256 → a ≠ 0 → gmul a (ginv a) = 1 := by decide +kernel
theorem one_dec : ∀ a, a < 256 → gmul a 1 = a := by decide +kernel

/-! ### As bytes -/
def bmul (x y : UInt8) : UInt8 := UInt8.ofNat (gmul x.toNat y.toNat)
def binv (x : UInt8) : UInt8 := UInt8.ofNat (ginv x.toNat)
theorem bmul_toNat (x y : UInt8) : (bmul x y).toNat = gmul x.toNat y.toNat := by
  rw [bmul, UInt8.toNat_ofNat']
  exact Nat.mod_eq_of_lt (gmul_lt _ x.toNat_lt)
theorem binv_toNat (x : UInt8) : (binv x).toNat = ginv x.toNat := by
  rw [binv, UInt8.toNat_ofNat']
  exact Nat.mod_eq_of_lt (ginv_lt _ x.toNat_lt)
theorem bmul_comm (x y : UInt8) : bmul x y = bmul y x := by
  apply UInt8.toNat_inj.1
  rw [bmul_toNat, bmul_toNat, gmul_comm x.toNat_lt y.toNat_lt]
theorem bmul_assoc (x y z : UInt8) : bmul (bmul x y) z = bmul x (bmul y z) := by
  apply UInt8.toNat_inj.1
  rw [bmul_toNat, bmul_toNat, bmul_toNat, bmul_toNat, gmul_assoc x.toNat_lt y.toNat_lt z.toNat_lt]
theorem bmul_xor (x y z : UInt8) : bmul x (y ^^^ z) = bmul x y ^^^ bmul x z := by
  apply UInt8.toNat_inj.1
  rw [UInt8.toNat_xor, bmul_toNat, bmul_toNat, bmul_toNat, UInt8.toNat_xor, gmul_addr]
theorem xor_bmul (x y z : UInt8) : bmul (x ^^^ y) z = bmul x z ^^^ bmul y z := by
  rw [bmul_comm, bmul_xor, bmul_comm z x, bmul_comm z y]
theorem bmul_one (x : UInt8) : bmul x 1 = x := by
  apply UInt8.toNat_inj.1
  rw [bmul_toNat]
  exact one_dec _ x.toNat_lt
theorem one_bmul (x : UInt8) : bmul 1 x = x := by rw [bmul_comm, bmul_one]
theorem bmul_zero (x : UInt8) : bmul x 0 = 0 := by
  apply UInt8.toNat_inj.1
  rw [bmul_toNat]
  exact gmul_zero _
theorem zero_bmul (x : UInt8) : bmul 0 x = 0 := by rw [bmul_comm, bmul_zero]
theorem bmul_inv {x : UInt8} (h : x ≠ 0) : bmul x (binv x) = 1 := by
  apply UInt8.toNat_inj.1
  rw [bmul_toNat, binv_toNat]
  refine ginv_mul _ x.toNat_lt fun h0 => h (UInt8.toNat_inj.1 h0)
theorem bmul_eq_zero {x y : UInt8} (h : bmul x y = 0) (hx : x ≠ 0) : y = 0 := by
  have h1 := congrArg (bmul (binv x)) h
  rw [← bmul_assoc, bmul_comm (binv x) x, bmul_inv hx, one_bmul, bmul_zero] at h1
  exact h1
theorem binv_ne {x : UInt8} (h : x ≠ 0) : binv x ≠ 0 := by
  intro h0
  have := bmul_inv h
  rw [h0, bmul_zero] at this
  exact absurd this (by decide)

end Go.Proofs.YtoaaplngdomdcaaGreat

/- Contracts of the field's functions: the product, the inverse, and the methods of Field that the matrices call. -/
namespace Go.Proofs.YtoaaplngdomdcaaGreat
open Go.RowKit

set_option maxHeartbeats 800000 in
theorem gmul_any (x y : UInt8) (w : World) :
    Calls Tryz.prog 174 #[.int .u8 (x.toNat : Int), .int .u8 (y.toNat : Int)] w fun e w' => e = .returned (.int .u8 ((bmul x y).toNat : Int)) ∧ w = w' := by
  have hx := x.toNat_lt
  have hy := y.toNat_lt
  rw [bmul_toNat]
  obtain ⟨G, hG⟩ : ∃ G, G = gmul x.toNat y.toNat := ⟨_, rfl⟩
  rw [← hG]
  have H0 : Hid (gm 8 0 x.toNat y.toNat = G) := hG.symm
  clear hG
  generalize x.toNat = X at *
  generalize y.toNat = Y at *
  go_enter Tryz.func174, Tryz.ntmps174
  go_wp2
  go_loopw [0, 1, 5, 6] (fun a b p _ wr => ∃ A B P n : Nat, A < 256 ∧ P < 256 ∧ B < 256 ∧ B < 2 ^ n ∧ gm n P A B = G ∧ a = .int .u8 (A : Int) ∧ b = .int .u8 (B : Int) ∧ p = .int .u8 (P : Int) ∧ w = wr) (fun _ b _ _ _ => (intOf b).toNat)
  case atStart => exact ⟨X, Y, 0, 8, hx, by omega, hy, hy, H0.out, rfl, rfl, rfl, rfl⟩
  case round =>
    clear H0 hx hy
    obtain ⟨A, B, P, n, hA, hP, hB, hBn, hG, rfl, rfl, rfl, rfl⟩ := hrel
    have HG := hide hG
    have HB := hide hBn
    clear hG hBn
    by_cases hb : B = 0
    · subst hb
      have hb2 : ((0 : Nat) : Int) = 0 := rfl
      go_wp2
      go_ret
      refine ⟨ret_int ?_, rfl⟩
      have := HG.out
      rw [gm_b0] at this
      rw [this]
    · obtain ⟨n, rfl⟩ : ∃ m, n = m + 1 := by
        rcases n with _ | n
        · have := HB.out; simp at this; omega
        · exact ⟨n, rfl⟩
      have h3 : bits .xor .u8 (P : Int) (A : Int) = ((P ^^^ A : Nat) : Int) := u8_xor_nat P A hP hA
      have hPA := xor_lt hP hA
      have hgA := gx_lt A hA
      have hb0 : ¬ ((B : Int) = 0) := by omega
      have hBn2 : B / 2 < 2 ^ n := by have := HB.out; rw [Nat.pow_succ] at this; omega
      have HB2 := hide hBn2
      clear hBn2 HB
      have hAl : A < 128 → bits .and .u8 (A : Int) 128 = 0 := fun hA2 => by
        have := u8_and_nat A 128 hA (by omega)
        rw [show A &&& 128 = 0 by have := nat_bit 7 A; rw [show A / 2 ^ 7 % 2 = 0 by omega] at this; simpa using this] at this
        exact this
      have hAh : ¬ A < 128 → bits .and .u8 (A : Int) 128 = 128 := fun hA2 => by
        have := u8_and_nat A 128 hA (by omega)
        rw [show A &&& 128 = 128 by have := nat_bit 7 A; rw [show A / 2 ^ 7 % 2 = 1 by omega] at this; simpa using this] at this
        exact this
      have hgl : A < 128 → gx A = 2 * A := fun h => by unfold gx; rw [if_pos h]
      have hgh : ¬ A < 128 → bits .xor .u8 ((2 * A - 256 : Nat) : Int) 29 = ((gx A : Nat) : Int) := fun h => by
        unfold gx
        rw [if_neg h]
        exact u8_xor_nat _ 29 (by omega) (by omega)
      have hwr : ¬ A < 128 → IntKind.u8.wrap ((A : Int) * 2) = ((2 * A - 256 : Nat) : Int) := fun h => by
        rw [IntKind.wrap_u8']
        omega
      rcases Nat.mod_two_eq_zero_or_one B with hm | hm
      · have h1 : bits .and .u8 (B : Int) 1 = 0 := by
          have := u8_and_nat B 1 hB (by omega)
          rw [nat_mask1, hm] at this
          exact this
        have hstep : gm n P (gx A) (B / 2) = G := by
          have := HG.out
          simp only [gm] at this
          rwa [if_pos hm] at this
        have HG := hide hstep
        clear hstep
        by_cases hA2 : A < 128
        · have h2 := hAl hA2
          have h4 := hide (hgl hA2)
          clear hAl hAh hgl hgh hwr
          go_wp2
          go_roundw
          case rel => exact ⟨gx A, B / 2, P, n, hgA, hP, by omega, HB2.out, HG.out, by rw [h4.out]; go_num, by go_num, rfl, trivial⟩
          case measure => simp [intOf]; omega
        · have h2 := hAh hA2
          have h4 := hgh hA2
          have h5 := hwr hA2
          clear hAl hAh hgl hgh hwr
          go_wp2
          go_roundw
          case rel => exact ⟨gx A, B / 2, P, n, hgA, hP, by omega, HB2.out, HG.out, rfl, by go_num, rfl, trivial⟩
          case measure => simp [intOf]; omega
      · have h1 : bits .and .u8 (B : Int) 1 = 1 := by
          have := u8_and_nat B 1 hB (by omega)
          rw [nat_mask1, hm] at this
          exact this
        have hstep : gm n (P ^^^ A) (gx A) (B / 2) = G := by
          have := HG.out
          simp only [gm] at this
          rwa [if_neg (by omega)] at this
        have HG := hide hstep
        clear hstep
        by_cases hA2 : A < 128
        · have h2 := hAl hA2
          have h4 := hide (hgl hA2)
          clear hAl hAh hgl hgh hwr
          go_wp2
          go_roundw
          case rel => exact ⟨gx A, B / 2, P ^^^ A, n, hgA, hPA, by omega, HB2.out, HG.out, by rw [h4.out]; go_num, by go_num, rfl, trivial⟩
          case measure => simp [intOf]; omega
        · have h2 := hAh hA2
          have h4 := hgh hA2
          have h5 := hwr hA2
          clear hAl hAh hgl hgh hwr
          go_wp2
          go_roundw
          case rel => exact ⟨gx A, B / 2, P ^^^ A, n, hgA, hPA, by omega, HB2.out, HG.out, rfl, by go_num, rfl, trivial⟩
          case measure => simp [intOf]; omega

def bpw : Nat → UInt8 → UInt8 → UInt8
  | 0, _, p => p
  | n + 1, a, p => bpw n (bmul a a) (bmul p (bmul a a))
theorem bpw_toNat (n : Nat) : ∀ a p : UInt8, (bpw n a p).toNat = gpw n a.toNat p.toNat := by
  induction n with
  | zero => intro a p; rfl
  | succ n ih => intro a p; simp only [bpw, gpw, ih, bmul_toNat]
theorem bpw_inv {x : UInt8} (h : x ≠ 0) : bpw 7 x 1 = binv x := by
  apply UInt8.toNat_inj.1
  have h' : ¬ x.toNat = 0 := fun h0 => h (UInt8.toNat_inj.1 (by simpa using h0))
  rw [bpw_toNat, binv_toNat, ginv, if_neg h']
  rfl
theorem binv_zero : binv 0 = 0 := by
  apply UInt8.toNat_inj.1
  rw [binv_toNat]
  rfl

set_option maxHeartbeats 800000 in
theorem ginv_any (x : UInt8) (w : World) :
    Calls Tryz.prog 173 #[.int .u8 (x.toNat : Int)] w fun e w' => (∃ n : Int, e = .returned (.tuple #[.int .u8 ((binv x).toNat : Int), .int .i64 n]) ∧ (n = 0 ↔ x ≠ 0)) ∧ w = w' := by
  by_cases h0 : x = 0
  · subst h0
    have e0 : (((0 : UInt8).toNat : Nat) : Int) = 0 := rfl
    rw [binv_zero, e0]
    go_enter Tryz.func173, Tryz.ntmps173
    go_wp2
    go_ret2
    exact ⟨⟨60, rfl, by decide⟩, rfl⟩
  · have hx0 : ((x.toNat : Int) == 0) = false := by
      have : ¬ ((x.toNat : Int) = 0) := fun h => h0 (UInt8.toNat_inj.1 (by simpa using h))
      simp only [beq_eq_false_iff_ne]
      exact this
    have H0 := hide (bpw_inv h0)
    have HX := hide h0
    clear h0
    generalize binv x = R at *
    go_enter Tryz.func173, Tryz.ntmps173
    go_wp2
    go_loopw [0, 4, 7] (fun a p i wr => ∃ (y z : UInt8) (k : Nat), k ≤ 7 ∧ Hid (bpw (7 - k) y z = R) ∧ a = .int .u8 (y.toNat : Int) ∧ p = .int .u8 (z.toNat : Int) ∧ i = .int .i64 (k : Int) ∧ w = wr) (fun _ _ i _ => 7 - (intOf i).toNat)
    case atStart => exact ⟨x, 1, 0, by omega, H0, rfl, rfl, rfl, rfl⟩
    case round =>
      clear H0
      obtain ⟨y, z, k, hk, HR, rfl, rfl, rfl, rfl⟩ := hrel
      by_cases hk7 : k < 7
      · have hR2 : bpw (7 - (k + 1)) (bmul y y) (bmul z (bmul y y)) = R := by
          have := HR.out
          rwa [show 7 - k = (7 - (k + 1)) + 1 by omega] at this
        have HR := hide hR2
        clear hR2
        have q1 := gmul_any y y w
        have q2 := gmul_any z (bmul y y) w
        go_wp2_with fail
        refine q1.mono ?_
        rintro e w' ⟨rfl, rfl⟩
        go_wp2_with fail
        refine q2.mono ?_
        rintro e w' ⟨rfl, rfl⟩
        go_wp2
        go_roundw
        case rel => exact ⟨bmul y y, bmul z (bmul y y), k + 1, by omega, HR, rfl, rfl, by go_num, trivial⟩
        case measure => simp [intOf]; omega
      · have hk8 : k = 7 := by omega
        subst hk8
        have hR := HR.out
        simp only [bpw, Nat.sub_self] at hR
        subst hR
        go_wp2
        go_ret2
        exact ⟨⟨0, rfl, by simpa using HX.out⟩, rfl⟩
end Go.Proofs.YtoaaplngdomdcaaGreat

/- Contracts of the matrices of bytes: what lays one out of a function of places, New, Rows, Cols, At. -/
namespace Go.Proofs.YtoaaplngdomdcaaGreat
open Go.RowKit

theorem elemL : Elem1 Tryz.prog 93 85 (.slice none 0 0) 24 := ⟨Tryz.underlying93, by kernel_rfl, rfl⟩

/-- The rows of a matrix, by its elements. -/
def rowsOf (cols : Nat) (E : Nat → Nat → UInt8) (rows : Nat) : List (List UInt8) := (List.range rows).map fun i => (List.range cols).map (E i)
theorem rowsOf_succ (cols : Nat) (E : Nat → Nat → UInt8) (k : Nat) : rowsOf cols E (k + 1) = rowsOf cols E k ++ [(List.range cols).map (E k)] := by simp [rowsOf, List.range_succ]
@[simp] theorem rowsOf_length (cols : Nat) (E : Nat → Nat → UInt8) (k : Nat) : (rowsOf cols E k).length = k := by simp [rowsOf]

/-- The field of 256 elements, as matrices hold it. -/
abbrev gfF : Value := .iface 77 (.agg #[])

/-- A matrix of bytes: its block holds the field and the rows L, which are of the call's own. -/
def Mx (w : World) (base g : Nat) (L : List (List UInt8)) : Prop :=
  base ≤ g ∧ ∃ v, Blk w g 136 #[gfF, v] ∧ OwnL w base 5 85 v L
theorem Mx.below {w w' : World} {base g : Nat} {L : List (List UInt8)} (h : Mx w base g L) (hb : Below w.heap.size w w') : Mx w' base g L := by
  obtain ⟨h0, v, h1, h2⟩ := h
  exact ⟨h0, v, h1.below' hb, h2.below hb⟩

theorem laid_step {w w' : World} {base g : Nat} {v v' u : Value} {L : List (List UInt8)} {l : List UInt8} {xs : List Value} (hb : Blk w g 136 #[gfF, v]) (h1 : w.ownsRow base 85 1 v L.length xs)
    (h2 : ∀ (i : Nat) (l : List UInt8), L[i]? = some l → ∃ x, xs[i]? = some x ∧ Own w base 5 x l) (hu : Own w base 5 u l) (h' : w'.ownsRow base 85 1 v' (L.length + 1) (xs ++ [u])) (hg : w.grownBy w' v.ownBlock) :
    w'.cell? ⟨g, 1, none⟩ = some v ∧ w'.frozen? ⟨g, 1, none⟩ = false ∧ Blk w' g 136 #[gfF, v] ∧ OwnL w' base 5 85 v' (L ++ [l]) := by
  have hk := hb.grown hg (by
    rcases own_blk_ne h1 hb (by decide) with h | h
    · intro e; rw [h] at e; cases e
    · exact fun e => h e.symm)
  exact ⟨by rw [hk.cell]; rfl, hk.frozen 1, hk, OwnL.pushed (by decide) h1 h2 hu h' hg⟩

set_option maxRecDepth 100000 in
set_option maxHeartbeats 1600000 in
theorem laid_any (rows cols : Nat) (K : FuncId) (cap : Array Value) (E : Nat → Nat → UInt8) (w : World) (hr : rows ≤ 256) (hc : cols ≤ 256)
    (hent : ∀ (args : Array Value) (w : World), (callFunc K args).run Tryz.prog w = .ok (.enter K args) w)
    (hcl : ∀ (i j : Nat) (w' : World), i < rows → j < cols → Below w.heap.size w w' → Calls Tryz.prog K (#[.int .i64 (i : Int), .int .i64 (j : Int)] ++ cap) w' fun e w'' => e = .returned (.int .u8 ((E i j).toNat : Int)) ∧ Below w'.heap.size w' w'') :
    Calls Tryz.prog 83 #[gfF, .int .i64 (rows : Int), .int .i64 (cols : Int), .func (.func K) #[] cap] w fun e w' => ∃ g, e = .returned (.pointer (some ⟨g, 0, none⟩)) ∧ Mx w' w.heap.size g (rowsOf cols E rows) ∧ Below w.heap.size w w' := by
  have hn1 := Blk.new w 136 #[gfF, .slice none 0 0]
  have hn2 := (Below.refl w.heap.size w).alloc (Nat.le_refl _) (.cells #[gfF, .slice none 0 0] 136)
  have H := hide (And.intro hn1 hn2)
  clear hn1 hn2
  go_enter Tryz.func83, Tryz.ntmps83
  go_wp2
  go_loopw [10, 11, 12, 17, 24] (fun _ _ _ u17 _ wr => ∃ k : Nat, k ≤ rows ∧ u17 = .int .i64 (k : Int) ∧ Mx wr w.heap.size w.heap.size (rowsOf cols E k) ∧ Below w.heap.size w wr) (fun _ _ _ u17 _ _ => rows - (intOf u17).toNat)
  case atStart => exact ⟨0, by omega, rfl, ⟨Nat.le_refl _, _, H.out.1, OwnL.nil _ _ _ _⟩, H.out.2⟩
  case round =>
    clear H
    obtain ⟨k, hk, rfl, hmx, hbel⟩ := hrel
    obtain ⟨wr', hwr'⟩ : ∃ x, x = wr := ⟨_, rfl⟩
    subst hwr'
    have HM := hide hmx
    clear hmx
    by_cases hlt : k < rows
    · have i1 : (k : Int) < (rows : Int) := by omega
      obtain ⟨i, hi, hz, h1, h2⟩ := info_parts elem8.hi
      have HI := hide (And.intro hi (And.intro hz (And.intro h1 h2)))
      clear hi hz h1 h2
      go_wp2_with (at_make; refine wpList_make_full wr' rfl _ _ 85 rfl wr'.heap.size 5 i (.int .u8 0) 1 Tryz.underlying85 HI.out.1 HI.out.2.1 HI.out.2.2.1 .i64 .i64 _ _ cols rfl rfl rfl rfl (by rw [HI.out.2.2.2]; omega) (by unfold maxLen; omega) (Nat.le_refl _) ?_; intro w1 ho1 hg1)
      rw [made_bytes] at ho1
      have hb1 : Below wr'.heap.size wr' w1 := (Below.refl wr'.heap.size wr').grown hg1 (Nat.le_refl _) (fun k hk => by cases hk)
      have HO := hide (show Own w1 wr'.heap.size 5 (.slice (some ⟨wr'.heap.size, 0, none⟩) cols cols) (fillr cols 0 (E k)) by
        rw [fillr_zero]; unfold Own; rw [List.length_replicate]; exact ho1)
      clear ho1 hg1 HI
      go_loopw [12, 24] (fun _ u24 w2 => ∃ j : Nat, j ≤ cols ∧ u24 = .int .i64 (j : Int) ∧ Own w2 wr'.heap.size 5 (.slice (some ⟨wr'.heap.size, 0, none⟩) cols cols) (fillr cols j (E k)) ∧ Below wr'.heap.size wr' w2) (fun _ u24 _ => cols - (intOf u24).toNat)
      case atStart => exact ⟨0, by omega, rfl, HO.out, hb1⟩
      case round =>
        clear HO hb1
        obtain ⟨j, hj, rfl, hown, hb2⟩ := hrel
        have HO := hide hown
        clear hown
        by_cases hjl : j < cols
        · have i2 : (j : Int) < (cols : Int) := by omega
          have i3 : (0 : Int) ≤ (j : Int) := by omega
          have q := hcl k j _ hlt hjl (hbel.trans (hb2.mono hbel.size))
          have hE := hent #[.int .i64 (k : Int), .int .i64 (j : Int)]
          go_wp2_with fail
          refine q.mono ?_
          rintro e w3 ⟨rfl, hb3⟩
          have ho3 := HO.out.below hb3
          have hlen := fillr_length (E k) hj
          have hfz := World.ownsRow.frozenAt (n := cols) (xs := bcells (fillr cols j (E k))) (by unfold Own at ho3; rw [hlen] at ho3; exact ho3) j
          have hcc := World.ownsRow.cellAt (n := cols) (xs := bcells (fillr cols j (E k))) (by unfold Own at ho3; rw [hlen] at ho3; exact ho3) j (by omega)
          obtain ⟨y, hcy⟩ : ∃ y, w3.cell? ⟨wr'.heap.size, j, none⟩ = some y := by rw [hcc]; exact ⟨_, List.getElem?_eq_getElem (by rw [bcells_length]; omega)⟩
          have HO3 := hide ho3
          have HL := hide hlen
          clear hcc ho3 hlen q HO hE
          go_wp2
          go_roundw
          case rel =>
            refine ⟨j + 1, by omega, by go_num, ?_, (hb2.trans (hb3.mono hb2.size)).setCell (Nat.le_refl _) _⟩
            rw [← fillr_set (E k) hjl]
            exact HO3.out.store j _
          case measure => simp [intOf]; omega
        · have hjc : j = cols := by omega
          subst hjc
          rw [fillr_full] at HO
          have hm2 := HM.out.below hb2
          obtain ⟨_, v, hblk, xs, hxs, hxl⟩ := hm2
          have hbel2 := hbel.trans (hb2.mono hbel.size)
          have hcv : wr.cell? ⟨w.heap.size, 1, none⟩ = some v := by rw [hblk.cell]; rfl
          have H1 := hide (And.intro hblk (And.intro hxs hxl))
          have hlr := rowsOf_length j E k
          have HLR := hide hlr
          clear hblk hxs hxl hlr HM
          go_wp2_with (at_builtin; go_loud (refine wpList_push1 elemL H1.out.2.1 hbel2 hbel2.size (by rw [HLR.out]; unfold maxLen; omega) (by rw [HLR.out]; omega) (.slice (some ⟨wr'.heap.size, 0, none⟩) j j) rfl rfl _ _ rfl rfl rfl ?_); intro v1 w4 ho4 hb4 _ hg4 _; obtain ⟨A1, c1, hv1, _⟩ := (Sl.of_own ho4).form; subst hv1; have h4 := laid_step H1.out.1 H1.out.2.1 H1.out.2.2 (HO.out.mono_ hbel.size) ho4 hg4; have hc4 := h4.1; have hf4 := h4.2.1; have HK4 := hide h4.2.2.1; have HP4 := hide h4.2.2.2; clear h4 ho4)
          go_roundw
          case rel =>
            refine ⟨k + 1, by omega, by go_num, ⟨Nat.le_refl _, _, HK4.out.set_ 1 _, ?_⟩, hb4.setCell (Nat.le_refl _) _⟩
            rw [rowsOf_succ]
            have hP := HP4.out
            rw [HLR.out] at hP
            exact hP.kept HK4.out (by decide) (by decide) (store_grown _ _ _ _)
          case measure => simp [intOf]; omega
    · have hkr : k = rows := by omega
      subst hkr
      go_wp2
      go_ret
      exact ⟨_, rfl, HM.out, hbel⟩
end Go.Proofs.YtoaaplngdomdcaaGreat

/- Contracts of the matrices of bytes: the field's methods, New and what New hands to the layer-out. -/
namespace Go.Proofs.YtoaaplngdomdcaaGreat
open Go.RowKit

theorem gzero_any (w : World) : Calls Tryz.prog 172 #[.agg #[]] w fun e w' => e = .returned (.int .u8 0) ∧ w' = w.alloc (.cells #[] 77) := by
  go_enter Tryz.func172, Tryz.ntmps172
  go_wp2
  go_ret
  exact ⟨rfl, rfl⟩
theorem gadd_any (x y : UInt8) (w : World) : Calls Tryz.prog 167 #[.agg #[], .int .u8 (x.toNat : Int), .int .u8 (y.toNat : Int)] w fun e w' => e = .returned (.int .u8 ((x ^^^ y).toNat : Int)) ∧ w' = w.alloc (.cells #[] 77) := by
  have h := u8_xor_nat x.toNat y.toNat x.toNat_lt y.toNat_lt
  go_enter Tryz.func167, Tryz.ntmps167
  go_wp2
  go_ret
  exact ⟨ret_int (by rw [UInt8.toNat_xor]), rfl⟩

theorem meth_zero (n : Nat) (w : World) : (method (n + 1) 77 (.agg #[]) "Zero").run Tryz.prog w = .ok (172, .agg #[]) w := by kernel_rfl
theorem meth_add (n : Nat) (w : World) : (method (n + 1) 77 (.agg #[]) "Add").run Tryz.prog w = .ok (167, .agg #[]) w := by kernel_rfl
theorem ahead_add (n : Nat) (w : World) : (nilAhead (n + 1) 77 (.agg #[]) "Add").run Tryz.prog w = .ok (some false) w := by kernel_rfl

set_option maxRecDepth 100000 in
set_option maxHeartbeats 1600000 in
theorem newc_any (i j cols : Nat) (l : List UInt8) (x : UInt8) (ve : Value) (b1 b2 b3 : Nat) (w : World) (hi : i ≤ 256) (hj : j ≤ 256) (hc : cols ≤ 256) (hl : By w ve l) (hx : l[i * cols + j]? = some x)
    (c1 : w.cell? ⟨b1, 0, none⟩ = some gfF) (c2 : w.cell? ⟨b2, 0, none⟩ = some ve) (c3 : w.cell? ⟨b3, 0, none⟩ = some (.int .i64 (cols : Int))) :
    Calls Tryz.prog 128 #[.int .i64 (i : Int), .int .i64 (j : Int), .pointer (some ⟨b1, 0, none⟩), .pointer (some ⟨b2, 0, none⟩), .pointer (some ⟨b3, 0, none⟩)] w fun e w' => e = .returned (.int .u8 (x.toNat : Int)) ∧ Below w.heap.size w w' := by
  obtain ⟨A, c, rfl, hlc, hcm, hcell⟩ := hl.form
  unfold maxLen at hcm
  obtain ⟨b, o, rfl, hbl, hcx⟩ := hcell _ x hx
  have hlt : i * cols + j < l.length := (List.getElem?_eq_some_iff.1 hx).1
  have hm : i * cols ≤ 65536 := Nat.le_trans (Nat.mul_le_mul hi hc) (by omega)
  have hw1 : IntKind.i64.wrap ((i : Int) * (cols : Int)) = ((i * cols : Nat) : Int) := by
    rw [← Int.natCast_mul]
    simp [IntKind.wrap, IntKind.bits, IntKind.signed]
    omega
  generalize i * cols = M at *
  obtain ⟨I, hI⟩ : ∃ I, I = M + j := ⟨_, rfl⟩
  have hw2 : IntKind.i64.wrap ((M : Int) + (j : Int)) = (I : Int) := by
    simp [IntKind.wrap, IntKind.bits, IntKind.signed]
    omega
  rw [← hI] at hlt hcx
  clear hI hx hcell hl
  have i1 : (I : Int) < (l.length : Int) := by omega
  have i2 : (0 : Int) ≤ (I : Int) := by omega
  have m1 := meth_zero
  have m2 := meth_add
  have m3 := ahead_add
  have q1 := gzero_any
  have q2 := fun w => gadd_any x 0 w
  rw [show x ^^^ 0 = x by simp, show (((0 : UInt8).toNat : Nat) : Int) = 0 from rfl] at q2
  go_enter Tryz.func128, Tryz.ntmps128
  go_wp2
  go_region_held3 (fun w' => w'.cell? ⟨b1, 0, none⟩ = some gfF ∧ w'.cell? ⟨b2, 0, none⟩ = some (.slice (some ⟨b, o, none⟩) l.length c) ∧ w'.cell? ⟨b3, 0, none⟩ = some (.int .i64 (cols : Int)) ∧ w'.cell? ⟨b, o + I, none⟩ = some (.int .u8 (x.toNat : Int))) (go_keep) (first | (go_at_call 172; refine (q1 _).mono ?_; rintro e w' ⟨rfl, rfl⟩) | (go_at_call 167; refine (q2 _).mono ?_; rintro e w' ⟨rfl, rfl⟩))
  all_goals go_wp2
  all_goals go_ret
  all_goals exact ⟨rfl, (((Below.refl w.heap.size w).alloc (Nat.le_refl _) _).alloc (by simp) _).drew⟩

theorem dims_any (r c : Nat) (w : World) (hr : 1 ≤ r ∧ r ≤ 256) (hc : 1 ≤ c ∧ c ≤ 256) :
    Calls Tryz.prog 82 #[.int .i64 (r : Int), .int .i64 (c : Int)] w fun e w' => e = .returned (.bool true) ∧ w = w' := by
  have i1 : (r : Int) ≥ 1 := by omega
  have i2 : (r : Int) ≤ 256 := by omega
  have i3 : (c : Int) ≥ 1 := by omega
  have i4 : (c : Int) ≤ 256 := by omega
  go_enter Tryz.func82, Tryz.ntmps82
  go_wp2
  go_ret
  exact ⟨rfl, rfl⟩

set_option maxRecDepth 100000 in
set_option maxHeartbeats 1600000 in
theorem mnew_any (rows cols : Nat) (E : Nat → Nat → UInt8) (ve : Value) (l : List UInt8) (w : World) (hr : 1 ≤ rows ∧ rows ≤ 256) (hc : 1 ≤ cols ∧ cols ≤ 256) (hl : By w ve l) (hlen : l.length = rows * cols)
    (hE : ∀ i j, i < rows → j < cols → l[i * cols + j]? = some (E i j)) :
    Calls Tryz.prog 79 #[gfF, .int .i64 (rows : Int), .int .i64 (cols : Int), ve] w fun e w' =>
      ∃ g base, e = .returned (.tuple #[.pointer (some ⟨g, 0, none⟩), .int .i64 0]) ∧ w.heap.size ≤ base ∧ Mx w' base g (rowsOf cols E rows) ∧ Below w.heap.size w w' := by
  have q1 := fun w => dims_any rows cols w hr hc
  obtain ⟨A, c, rfl, hlc, hcm, hcell⟩ := hl.form
  clear hcell
  have hm : rows * cols ≤ 65536 := Nat.le_trans (Nat.mul_le_mul hr.2 hc.2) (by omega)
  have hw1 : IntKind.i64.wrap ((rows : Int) * (cols : Int)) = (l.length : Int) := by
    rw [hlen, ← Int.natCast_mul]
    simp [IntKind.wrap, IntKind.bits, IntKind.signed]
    omega
  have HH := hide (And.intro hlen (And.intro hr (And.intro hc (And.intro hl (And.intro hE (And.intro hlc hcm))))))
  clear hlen hr hc hl hE hlc hcm hm
  go_enter Tryz.func79, Tryz.ntmps79
  go_wp2_with fail
  refine (q1 _).mono ?_
  rintro e w' ⟨rfl, rfl⟩
  go_wp2_with fail
  have n1 := ((Blk.new w 126 #[gfF]).alloc (.cells #[.int .i64 (cols : Int)] 3)).alloc (.cells #[.slice A l.length c] 85)
  have n2 := (Blk.new (w.alloc (.cells #[gfF] 126)) 3 #[.int .i64 (cols : Int)]).alloc (.cells #[.slice A l.length c] 85)
  have n3 := Blk.new ((w.alloc (.cells #[gfF] 126)).alloc (.cells #[.int .i64 (cols : Int)] 3)) 85 #[.slice A l.length c]
  have n4 := (((Below.refl w.heap.size w).alloc (Nat.le_refl _) (.cells #[gfF] 126)).alloc (by simp) (.cells #[.int .i64 (cols : Int)] 3)).alloc (by simp; omega) (.cells #[.slice A l.length c] 85)
  simp only [World.size_alloc] at n2 n3
  generalize ((w.alloc (.cells #[gfF] 126)).alloc (.cells #[.int .i64 (cols : Int)] 3)).alloc (.cells #[.slice A l.length c] 85) = W at *
  refine (laid_any rows cols 128 #[.pointer (some ⟨w.heap.size, 0, none⟩), .pointer (some ⟨w.heap.size + 1 + 1, 0, none⟩), .pointer (some ⟨w.heap.size + 1, 0, none⟩)] E W HH.out.2.1.2 HH.out.2.2.1.2
    (enters_of Tryz.func128 (by kernel_rfl) rfl) ?_).mono ?_
  · intro i j w' hi hj hb
    obtain ⟨hlen, hr, hc, hl, hE, hlc, hcm⟩ := HH.out
    refine newc_any i j cols l (E i j) (.slice A l.length c) w.heap.size (w.heap.size + 1 + 1) (w.heap.size + 1) w' (by omega) (by omega) hc.2 ((hl.below n4).below hb) (hE i j hi hj) ?_ ?_ ?_
    · rw [(n1.below' hb).cell]; rfl
    · rw [(n3.below' hb).cell]; rfl
    · rw [(n2.below' hb).cell]; rfl
  · rintro e w' ⟨g, rfl, hmx, hb⟩
    have H4 := hide (And.intro n4 (And.intro hmx hb))
    clear n1 n2 n3 n4 hmx hb q1 hw1
    go_wp2
    go_ret2
    exact ⟨g, W.heap.size, rfl, H4.out.1.size, H4.out.2.1, H4.out.1.trans (H4.out.2.2.mono H4.out.1.size)⟩
end Go.Proofs.YtoaaplngdomdcaaGreat

/- Contracts of the matrices of bytes: made, Rows, Cols, At; and a row as the code takes it. -/
namespace Go.Proofs.YtoaaplngdomdcaaGreat
open Go.RowKit

theorem Mx.form {w : World} {base g : Nat} {L : List (List UInt8)} (h : Mx w base g L) :
    ∃ A c, w.cell? ⟨g, 0, none⟩ = some gfF ∧ w.cell? ⟨g, 1, none⟩ = some (.slice A L.length c) ∧ L.length ≤ c ∧ c ≤ maxLen ∧
      ∀ (i : Nat) (l : List UInt8), L[i]? = some l → ∃ b o B d, A = some ⟨b, o, none⟩ ∧ w.cell? ⟨b, o + i, none⟩ = some (.slice B l.length d) ∧ l.length ≤ d ∧ d ≤ maxLen ∧
        ∀ (j : Nat) (x : UInt8), l[j]? = some x → ∃ b2 o2, B = some ⟨b2, o2, none⟩ ∧ w.cell? ⟨b2, o2 + j, none⟩ = some (.int .u8 (x.toNat : Int)) := by
  obtain ⟨_, v, hb, ho⟩ := h
  obtain ⟨A, c, rfl, hc, hm, hcell⟩ := ho.ls.form
  refine ⟨A, c, by rw [hb.cell]; rfl, by rw [hb.cell]; rfl, hc, hm, fun i l hl => ?_⟩
  obtain ⟨b, o, x, hA, _, hcx, hby⟩ := hcell i l hl
  obtain ⟨B, d, rfl, hd, hdm, hcell2⟩ := hby.form
  refine ⟨b, o, B, d, hA, hcx, hd, hdm, fun j y hy => ?_⟩
  obtain ⟨b2, o2, hB, _, hc2⟩ := hcell2 j y hy
  exact ⟨b2, o2, hB, hc2⟩

theorem mmade_any (base g : Nat) (L : List (List UInt8)) (w : World) (h : Mx w base g L) :
    Calls Tryz.prog 87 #[.pointer (some ⟨g, 0, none⟩)] w fun e w' => e = .returned (.bool true) ∧ w = w' := by
  obtain ⟨A, c, h0, _⟩ := h.form
  clear h
  go_enter Tryz.func87, Tryz.ntmps87
  go_wp2
  go_ret
  exact ⟨rfl, rfl⟩

theorem mrows_any (base g : Nat) (L : List (List UInt8)) (w : World) (h : Mx w base g L) :
    Calls Tryz.prog 36 #[.pointer (some ⟨g, 0, none⟩)] w fun e w' => e = .returned (.int .i64 (L.length : Int)) ∧ w = w' := by
  have q := mmade_any base g L w h
  obtain ⟨A, c, _, h1, _⟩ := h.form
  clear h
  go_enter Tryz.func36, Tryz.ntmps36
  go_wp2_with fail
  refine q.mono ?_
  rintro e w' ⟨rfl, rfl⟩
  go_wp2
  go_ret
  exact ⟨rfl, rfl⟩

theorem mcols_any (base g : Nat) (L : List (List UInt8)) (l : List UInt8) (w : World) (h : Mx w base g L) (hl : L[0]? = some l) :
    Calls Tryz.prog 37 #[.pointer (some ⟨g, 0, none⟩)] w fun e w' => e = .returned (.int .i64 (l.length : Int)) ∧ w = w' := by
  have q := mmade_any base g L w h
  obtain ⟨A, c, _, h1, _, _, h2⟩ := h.form
  obtain ⟨b, o, B, d, rfl, h3, _⟩ := h2 0 l hl
  rw [Nat.add_zero] at h3
  have hlen : (0 : Int) < (L.length : Int) := by
    have := (List.getElem?_eq_some_iff.1 hl).1
    omega
  clear h h2 hl
  go_enter Tryz.func37, Tryz.ntmps37
  go_wp2_with fail
  refine q.mono ?_
  rintro e w' ⟨rfl, rfl⟩
  go_wp2
  go_ret
  exact ⟨rfl, rfl⟩

set_option maxHeartbeats 800000 in
theorem mat_any (base g : Nat) (L : List (List UInt8)) (l0 l : List UInt8) (x : UInt8) (i j : Nat) (w : World) (h : Mx w base g L) (h0 : L[0]? = some l0) (hl : L[i]? = some l) (hll : l.length = l0.length) (hx : l[j]? = some x) :
    Calls Tryz.prog 42 #[.pointer (some ⟨g, 0, none⟩), .int .i64 (i : Int), .int .i64 (j : Int)] w fun e w' => e = .returned (.tuple #[.int .u8 (x.toNat : Int), .int .i64 0]) ∧ w = w' := by
  have q1 := mmade_any base g L w h
  have q2 := mrows_any base g L w h
  have q3 := mcols_any base g L l0 w h h0
  obtain ⟨A, c, _, h1, _, _, h2⟩ := h.form
  obtain ⟨b, o, B, d, rfl, h3, _, _, h4⟩ := h2 i l hl
  obtain ⟨b2, o2, rfl, h5⟩ := h4 j x hx
  have i1 : (i : Int) < (L.length : Int) := by
    have := (List.getElem?_eq_some_iff.1 hl).1
    omega
  have i2 : (j : Int) < (l.length : Int) := by
    have := (List.getElem?_eq_some_iff.1 hx).1
    omega
  have i3 : (0 : Int) ≤ (i : Int) := by omega
  have i4 : (0 : Int) ≤ (j : Int) := by omega
  have i5 : (j : Int) < (l0.length : Int) := by omega
  clear h h2 h4 hl hx h0 hll
  go_enter Tryz.func42, Tryz.ntmps42
  go_wp2_with fail
  refine q1.mono ?_
  rintro e w' ⟨rfl, rfl⟩
  go_wp2_with fail
  refine q2.mono ?_
  rintro e w' ⟨rfl, rfl⟩
  go_wp2_with fail
  refine q3.mono ?_
  rintro e w' ⟨rfl, rfl⟩
  go_wp2
  go_ret2
  exact ⟨rfl, rfl⟩

theorem rowsOf_get (cols : Nat) (E : Nat → Nat → UInt8) {k i : Nat} (h : i < k) : (rowsOf cols E k)[i]? = some ((List.range cols).map (E i)) := by
  rw [rowsOf, List.getElem?_map, List.getElem?_range h]; rfl

end Go.Proofs.YtoaaplngdomdcaaGreat

/- More lemmas on memory: several elements appended at once. They hold of every program. -/
namespace Go.Proofs.YtoaaplngdomdcaaGreat
open Go.RowKit

/-- 'append(out, x, y, ..)', out a row of the call's own with elements of one cell. -/
theorem wpList_pushL {P : Program} {t e : TypeId} {z : Value} {bytes : Nat} (T : Elem1 P t e z bytes) {w : World} {base : Nat} {v : Value} {n : Nat} {xs : List Value} (hown : w.ownsRow base e 1 v n xs)
    {w0 : World} (hb : Below base w0 w) (hbase : base ≤ w.heap.size) (news : Array Value) (hn : n + news.size ≤ maxLen) (hbytes : (n + news.size) * bytes ≤ 140737488355328) (hu : ∀ u ∈ news.toList, u.oneCell' = true)
    {ops : Array Oper} {rest : List Oper} {o : Oper} {a : Act} {Q : Exit → Act → World → Prop} (hgd : o.guard = none) (s y : Operand)
    (ho : o.op = .call { callee := .builtin .append, args := #[s, y], argTypes := #[t, t] }) (hs : a.eval s = v) (hx : a.eval y = .slice (some ⟨w.heap.size, 0, none⟩) news.size news.size)
    (h : ∀ v' w', w'.ownsRow base e 1 v' (n + news.size) (xs ++ news.toList) → Below base w0 w' → w.grownBy w' v.ownBlock → (v'.ownBlock = v.ownBlock ∨ ∀ g, v'.ownBlock = some g → w.heap.size ≤ g) → wpList P ops Q rest (a.put o.dst v') w') :
    wpList P ops Q (o :: rest) a (w.alloc (.cells news e)) := by
  refine wpList_plain hgd fun K hK => ?_
  obtain ⟨i, hi, hz, h1, h2⟩ := info_parts T.hi
  have hn1 : ∀ j u, news.toList[j]? = some u → (w.alloc (.cells news e)).cell? ((⟨w.heap.size, 0, none⟩ : Addr).add j) = some u :=
    World.news_of_block (w := w.alloc (.cells news e)) (B := w.heap.size) (cs := news) (t := e) (fr := (0, 0)) (heap_alloc_new w _)
  obtain ⟨v', w', hrun, h3, h4, _, h6⟩ := run_append_own_at (P := P) (w.alloc (.cells news e)) base t o.type e i z 1 bytes T.ht hi hz h1 h2 T.hz (by omega) v n xs (hown.alloc _) ⟨w.heap.size, 0, none⟩ news.size news.size news.toList (by simp) hn1 hu hn hbytes (by simp; omega)
  have gb : w.grownBy w' v.ownBlock := ⟨h4.os, h4.tape, h4.output, Nat.le_trans (by simp) h4.size, fun k hk hne => (h4.block k (by simp; omega) hne).trans (Below.heap_alloc w _ k hk)⟩
  unfold Oper.wp execOp
  simp only [ho, resolve, invoke, builtin, Sem.run_bind, Sem.run_pure, Result.andThen_ok, List.map_toArray, List.map_cons, List.map_nil, hs, hx, hrun]
  refine hK _ _ (h v' w' h3 (hb.grown gb hbase fun k hk => (hown.lt k hk).1) gb ?_)
  rcases h6 with h6 | h6
  · exact .inl h6
  · refine .inr fun g hg => ?_
    rw [h6] at hg
    injection hg with hg
    simp at hg
    omega

/-- The same, of bytes. -/
theorem wpList_pushBs {P : Program} {t e : TypeId} (T : Elem1 P t e (.int .u8 0) 1) {w : World} {base : Nat} {v : Value} {l : List UInt8} (hown : Own w base e v l)
    {w0 : World} (hb : Below base w0 w) (hbase : base ≤ w.heap.size) (m : List UInt8) (hlen : l.length + m.length ≤ 140737488355328) (news : Array Value) (hnews : news.toList = bcells m) (hsz : news.size = m.length)
    {ops : Array Oper} {rest : List Oper} {o : Oper} {a : Act} {Q : Exit → Act → World → Prop} (hgd : o.guard = none) (s y : Operand)
    (ho : o.op = .call { callee := .builtin .append, args := #[s, y], argTypes := #[t, t] }) (hs : a.eval s = v) (hx : a.eval y = .slice (some ⟨w.heap.size, 0, none⟩) news.size news.size)
    (h : ∀ v' w', Own w' base e v' (l ++ m) → Below base w0 w' → w.grownBy w' v.ownBlock → (v'.ownBlock = v.ownBlock ∨ ∀ g, v'.ownBlock = some g → w.heap.size ≤ g) → wpList P ops Q rest (a.put o.dst v') w') :
    wpList P ops Q (o :: rest) a (w.alloc (.cells news e)) := by
  refine wpList_pushL T hown hb hbase news (by rw [hsz]; unfold maxLen; omega) (by rw [hsz]; omega) (fun u hu => ?_) hgd s y ho hs hx fun v' w' h1 h2 h3 h4 => h v' w' ?_ h2 h3 h4
  · rw [hnews] at hu
    obtain ⟨x, _, rfl⟩ := List.mem_map.1 hu
    rfl
  · unfold Own
    rw [bcells_append, List.length_append]
    rw [hnews, hsz] at h1
    exact h1

theorem Own.alloc {w : World} {base : Nat} {e : TypeId} {v : Value} {l : List UInt8} (h : Own w base e v l) (o : Obj) : Own (w.alloc o) base e v l := World.ownsRow.alloc h o

/-- 'append(out, x, y, ..)' of bytes at a step of a region that draws its order; what is appended lies in block g. -/
theorem step_pushBs {P : Program} {t e : TypeId} (T : Elem1 P t e (.int .u8 0) 1) {w : World} {base : Nat} {v : Value} {l : List UInt8} (hown : Own w base e v l)
    {w0 : World} (hb : Below base w0 w) (hbase : base ≤ w.heap.size) (m : List UInt8) (hlen : l.length + m.length ≤ 140737488355328) {g : Nat} {news : Array Value} (hg : Blk w g e news) (hnews : news.toList = bcells m) (hsz : news.size = m.length)
    {ops : Array Oper} {o : Oper} {a : Act} {K : Act → World → Prop} {Q : Exit → Act → World → Prop} {E : Prop} (hgd : o.guard = none) (s y : Operand)
    (ho : o.op = .call { callee := .builtin .append, args := #[s, y], argTypes := #[t, t] }) (hs : a.eval s = v) (hx : a.eval y = .slice (some ⟨g, 0, none⟩) m.length m.length)
    (h : ∀ v' w', Own w' base e v' (l ++ m) → Below base w0 w' → w.grownBy w' v.ownBlock → K (a.put o.dst v') w') :
    if Region.wanted o (yielded ops a.tmps) = true then Oper.wp P o a w K Q else E := by
  have hw : Region.wanted o (yielded ops a.tmps) = true := by simp [Region.wanted, hgd]
  rw [if_pos hw]
  obtain ⟨i, hi, hz, h1, h2⟩ := info_parts T.hi
  have hn1 : ∀ j u, (bcells m)[j]? = some u → w.cell? ((⟨g, 0, none⟩ : Addr).add j) = some u := by
    rw [← hnews]
    exact World.news_of_block (w := w) (B := g) (cs := news) (t := e) (fr := (0, 0)) hg
  obtain ⟨v', w', hrun, h3, h4, _, _⟩ := run_append_own_at (P := P) w base t o.type e i _ 1 1 T.ht hi hz h1 h2 T.hz (by omega) v l.length (bcells l) hown ⟨g, 0, none⟩ m.length m.length (bcells m) (by simp) hn1 (fun u hu => by
    obtain ⟨x, _, rfl⟩ := List.mem_map.1 hu
    rfl) (by unfold maxLen; omega) (by omega) hbase
  unfold Oper.wp execOp
  simp only [ho, resolve, invoke, builtin, Sem.run_bind, Sem.run_pure, Result.andThen_ok, List.map_toArray, List.map_cons, List.map_nil, hs, hx, hrun]
  refine h v' w' ?_ (hb.grown h4 hbase fun k hk => (hown.lt k hk).1) h4
  unfold Own
  rw [bcells_append, List.length_append]
  exact h3

end Go.Proofs.YtoaaplngdomdcaaGreat

/- More lemmas on memory: what lies in a slice is appended to a row of the call's own. -/
namespace Go.Proofs.YtoaaplngdomdcaaGreat
open Go.RowKit

theorem run_append_none {P : Program} (w : World) (t ty e : TypeId) (i : TypeInfo) (ht : P.underlying t = some (.slice e)) (hi : P.info? e = some i) (A : Option Addr) (n c d : Nat) (hn : n ≤ c) :
    (Builtin.append_ #[t, t] ty #[.slice A n c, .slice none 0 d]).run P w = .ok (.slice A n c) w := by
  cases A with
  | none => simp [Builtin.append_, run_underlying ht, sizeOf, typeInfo, hi, Builtin.lenOf, Builtin.firstCells, loadCells, loadCellsFrom, storeCells, hn]
  | some a => simp [Builtin.append_, run_underlying ht, sizeOf, typeInfo, hi, Builtin.lenOf, Builtin.firstCells, loadCells, loadCellsFrom, storeCells, hn]

theorem run_pushS {P : Program} {t e : TypeId} {z : Value} {bytes : Nat} (T : Elem1 P t e z bytes) (ty : TypeId) {w : World} {base : Nat} {v : Value} {n : Nat} {xs : List Value} (hown : w.ownsRow base e 1 v n xs)
    {u : Value} {m : Nat} {ys : List Value} (hu : Sl w 1 u m ys) (h63 : n + m ≤ maxLen) (hbytes : (n + m) * bytes ≤ 140737488355328) (hbase : base ≤ w.heap.size) (h1 : ∀ y ∈ ys, y.oneCell' = true) :
    ∃ v' w', (Builtin.append_ #[t, t] ty #[v, u]).run P w = .ok v' w' ∧ w'.ownsRow base e 1 v' (n + m) (xs ++ ys) ∧ w.grownBy w' v.ownBlock ∧ (v'.ownBlock = v.ownBlock ∨ v'.ownBlock = some w.heap.size) := by
  obtain ⟨i, hi, hz, hs, hb⟩ := info_parts T.hi
  obtain ⟨hl, A, c, rfl, hc, hm, hcell⟩ := hu
  have hpos : (∃ ad, A = some ad ∧ ∀ (j : Nat) (x : Value), ys[j]? = some x → w.cell? (ad.add j) = some x) ∨ (A = none ∧ m = 0) := by
    rcases Nat.eq_zero_or_pos m with h0 | h0
    · subst h0
      cases A with
      | none => exact .inr ⟨rfl, rfl⟩
      | some ad =>
        have : ys = [] := List.eq_nil_of_length_eq_zero (by simpa using hl)
        subst this
        exact .inl ⟨ad, rfl, fun j x hx => by simp at hx⟩
    · obtain ⟨b, o, rfl, _, hcs⟩ := hcell h0
      refine .inl ⟨_, rfl, fun j x hx => ?_⟩
      have hj := (List.getElem?_eq_some_iff.1 hx).1
      have ea : (⟨b, o, none⟩ : Addr).add j = ⟨b, o + j, none⟩ := by simp [Addr.add]
      rw [ea, hcs j (by omega), hx]
  rcases hpos with ⟨ad, rfl, hcs⟩ | ⟨rfl, rfl⟩
  · obtain ⟨v', w', h2, h3, h4, -, h5⟩ := run_append_own_at (P := P) w base t ty e i z 1 bytes T.ht hi hz hs hb T.hz (by omega) v n xs hown ad m c ys hl hcs h1 h63 hbytes hbase
    exact ⟨v', w', h2, h3, h4, h5⟩
  · have : ys = [] := List.eq_nil_of_length_eq_zero (by simpa using hl)
    subst this
    obtain ⟨_, A', c', rfl, hn, -⟩ := Sl.of_own hown
    exact ⟨_, w, run_append_none w t ty e i T.ht hi A' n c' c hn, by simpa using hown, ⟨rfl, rfl, rfl, Nat.le_refl _, fun _ _ _ => rfl⟩, .inl rfl⟩

/-- 'append(out, s...)', out a row of bytes of the call's own. -/
theorem wpList_pushV {P : Program} {t e : TypeId} (T : Elem1 P t e (.int .u8 0) 1) {w : World} {base : Nat} {v : Value} {l : List UInt8} (hown : Own w base e v l)
    {w0 : World} (hb : Below base w0 w) (hbase : base ≤ w.heap.size) {u : Value} {m : List UInt8} (hu : By w u m) (hlen : l.length + m.length ≤ 140737488355328)
    {ops : Array Oper} {rest : List Oper} {o : Oper} {a : Act} {Q : Exit → Act → World → Prop} (hgd : o.guard = none) (s y : Operand)
    (ho : o.op = .call { callee := .builtin .append, args := #[s, y], argTypes := #[t, t] }) (hs : a.eval s = v) (hx : a.eval y = u)
    (h : ∀ v' w', Own w' base e v' (l ++ m) → Below base w0 w' → w.grownBy w' v.ownBlock → (v'.ownBlock = v.ownBlock ∨ v'.ownBlock = some w.heap.size) → wpList P ops Q rest (a.put o.dst v') w') :
    wpList P ops Q (o :: rest) a w := by
  refine wpList_plain hgd fun K hK => ?_
  obtain ⟨v', w', hrun, h3, h4, h6⟩ := run_pushS (P := P) T o.type hown hu (by unfold maxLen; omega) (by omega) hbase fun x hx => by
    obtain ⟨x, _, rfl⟩ := List.mem_map.1 hx
    rfl
  unfold Oper.wp execOp
  simp only [ho, resolve, invoke, builtin, Sem.run_bind, Sem.run_pure, Result.andThen_ok, List.map_toArray, List.map_cons, List.map_nil, hs, hx, hrun]
  refine hK _ _ (h v' w' ?_ (hb.grown h4 hbase fun k hk => (hown.lt k hk).1) h4 h6)
  unfold Own
  rw [bcells_append, List.length_append]
  exact h3
end Go.Proofs.YtoaaplngdomdcaaGreat

/- Plain algebra: rows over a field, reckoned with till columns have a single one. -/
namespace Go.Proofs.YtoaaplngdomdcaaGreat

/-- What a field reckons with. -/
structure Fd (α : Type) where
  zero : α
  one : α
  add : α → α → α
  sub : α → α → α
  mul : α → α → α
  inv : α → Option α

structure Fd.Ok {α : Type} (F : Fd α) : Prop where
  add_comm : ∀ a b, F.add a b = F.add b a
  add_assoc : ∀ a b c, F.add (F.add a b) c = F.add a (F.add b c)
  zero_add : ∀ a, F.add F.zero a = a
  mul_comm : ∀ a b, F.mul a b = F.mul b a
  mul_assoc : ∀ a b c, F.mul (F.mul a b) c = F.mul a (F.mul b c)
  one_mul : ∀ a, F.mul F.one a = a
  distrib : ∀ a b c, F.mul a (F.add b c) = F.add (F.mul a b) (F.mul a c)
  sub_add : ∀ a b, F.add (F.sub a b) b = a
  inv_some : ∀ a b, F.inv a = some b → F.mul a b = F.one
  inv_none : ∀ a, F.inv a = none ↔ a = F.zero
  one_ne : F.one ≠ F.zero

namespace Fd
variable {α : Type} {F : Fd α}

theorem Ok.add_zero (h : F.Ok) (a : α) : F.add a F.zero = a := by rw [h.add_comm, h.zero_add]
theorem Ok.add_right (h : F.Ok) {a b c : α} (e : F.add a c = F.add b c) : a = b := by
  have h0 : F.add (F.sub F.zero c) c = F.zero := h.sub_add _ _
  have h1 : ∀ x, F.add (F.add x c) (F.sub F.zero c) = x := fun x => by rw [h.add_assoc, h.add_comm c, h0, h.add_zero]
  rw [← h1 a, e, h1]
theorem Ok.mul_zero (h : F.Ok) (a : α) : F.mul a F.zero = F.zero := by
  refine h.add_right (c := F.mul a F.zero) ?_
  rw [← h.distrib, h.zero_add, h.zero_add]
theorem Ok.zero_mul (h : F.Ok) (a : α) : F.mul F.zero a = F.zero := by rw [h.mul_comm, h.mul_zero]
theorem Ok.mul_one (h : F.Ok) (a : α) : F.mul a F.one = a := by rw [h.mul_comm, h.one_mul]
theorem Ok.sub_self (h : F.Ok) (a : α) : F.sub a a = F.zero := by
  refine h.add_right (c := a) ?_
  rw [h.sub_add, h.zero_add]
theorem Ok.sub_zero (h : F.Ok) (a : α) : F.sub a F.zero = a := by
  have := h.sub_add a F.zero
  rwa [h.add_zero] at this
theorem Ok.sub_eq_zero (h : F.Ok) {a b : α} (e : F.sub a b = F.zero) : a = b := by
  have := h.sub_add a b
  rwa [e, h.zero_add, eq_comm] at this
theorem Ok.mul_sub (h : F.Ok) (a b c : α) : F.mul a (F.sub b c) = F.sub (F.mul a b) (F.mul a c) := by
  refine h.add_right (c := F.mul a c) ?_
  rw [h.sub_add, ← h.distrib, h.sub_add]
theorem Ok.add_mid (h : F.Ok) (a b c d : α) : F.add (F.add a b) (F.add c d) = F.add (F.add a c) (F.add b d) := by
  rw [h.add_assoc, h.add_assoc, ← h.add_assoc b, h.add_comm b, h.add_assoc c]
theorem Ok.sub_mid (h : F.Ok) (a b c d : α) : F.sub (F.add a c) (F.add b d) = F.add (F.sub a b) (F.sub c d) := by
  refine h.add_right (c := F.add b d) ?_
  rw [h.sub_add, h.add_mid, h.sub_add, h.sub_add]

/-- The sum of the first n. -/
def sum (F : Fd α) : Nat → (Nat → α) → α
  | 0, _ => F.zero
  | n + 1, f => F.add (F.sum n f) (f n)
theorem sum_congr {n : Nat} {f g : Nat → α} (h : ∀ i, i < n → f i = g i) : F.sum n f = F.sum n g := by
  induction n with
  | zero => rfl
  | succ n ih => unfold sum; rw [ih fun i hi => h i (by omega), h n (by omega)]
theorem Ok.sum_zero (h : F.Ok) {n : Nat} {f : Nat → α} (h0 : ∀ i, i < n → f i = F.zero) : F.sum n f = F.zero := by
  induction n with
  | zero => rfl
  | succ n ih => unfold sum; rw [ih fun i hi => h0 i (by omega), h0 n (by omega), h.zero_add]
theorem Ok.sum_add (h : F.Ok) (n : Nat) (f g : Nat → α) : F.sum n (fun i => F.add (f i) (g i)) = F.add (F.sum n f) (F.sum n g) := by
  induction n with
  | zero => unfold sum; rw [h.zero_add]
  | succ n ih => unfold sum; rw [ih, h.add_mid]
theorem Ok.sum_sub (h : F.Ok) (n : Nat) (f g : Nat → α) : F.sum n (fun i => F.sub (f i) (g i)) = F.sub (F.sum n f) (F.sum n g) := by
  induction n with
  | zero => unfold sum; rw [h.sub_self]
  | succ n ih => unfold sum; rw [ih, h.sub_mid]
theorem Ok.sum_mul (h : F.Ok) (n : Nat) (a : α) (f : Nat → α) : F.sum n (fun i => F.mul a (f i)) = F.mul a (F.sum n f) := by
  induction n with
  | zero => unfold sum; rw [h.mul_zero]
  | succ n ih => unfold sum; rw [ih, h.distrib]
theorem Ok.sum_single (h : F.Ok) {n k : Nat} (hk : k < n) (f : Nat → α) (h0 : ∀ i, i < n → i ≠ k → f i = F.zero) : F.sum n f = f k := by
  induction n with
  | zero => omega
  | succ n ih =>
    unfold sum
    by_cases e : k = n
    · subst e
      rw [h.sum_zero fun i hi => h0 i (by omega) (by omega), h.zero_add]
    · rw [ih (by omega) fun i hi => h0 i (by omega), h0 n (by omega) (by omega), h.add_zero]
theorem Ok.sum_swap (h : F.Ok) (m n : Nat) (f : Nat → Nat → α) : F.sum m (fun i => F.sum n (f i)) = F.sum n fun j => F.sum m fun i => f i j := by
  induction m with
  | zero => exact (h.sum_zero fun _ _ => rfl).symm
  | succ m ih =>
    have : (F.sum n fun j => F.sum (m + 1) fun i => f i j) = F.sum n fun j => F.add (F.sum m fun i => f i j) (f m j) := rfl
    rw [this, h.sum_add, ← ih]
    rfl

/-- Rows, by number and place. -/
abbrev Mat (α : Type) := Nat → Nat → α
def swapped (A : Mat α) (a b : Nat) : Mat α := fun i => if i = a then A b else if i = b then A a else A i
def scaled (F : Fd α) (A : Mat α) (r : Nat) (by_ : α) : Mat α := fun i => if i = r then fun j => F.mul (A r j) by_ else A i
def cleared (F : Fd α) (A : Mat α) (own c : Nat) : Mat α := fun i => if i = own then A i else fun j => F.sub (A i j) (F.mul (A i c) (A own j))
/-- The first row from the rank on that has an element with an inverse in a column. -/
def pivot (F : Fd α) (A : Mat α) (n rank c : Nat) : Option Nat := (List.range n).find? fun i => decide (rank ≤ i) && (F.inv (A i c)).isSome
def step (F : Fd α) (n : Nat) (S : Mat α × Nat) (c : Nat) : Mat α × Nat := match F.pivot S.1 n S.2 c with
  | none => S
  | some i => (F.cleared (F.scaled (swapped S.1 S.2 i) S.2 ((F.inv (S.1 i c)).getD F.zero)) S.2 c, S.2 + 1)
def red (F : Fd α) (n : Nat) (A : Mat α) : Nat → Mat α × Nat
  | 0 => (A, 0)
  | c + 1 => F.step n (F.red n A c) c

theorem pivot_none {A : Mat α} {n rank c i : Nat} (h : F.pivot A n rank c = none) (hi : i < n) (hr : rank ≤ i) : F.inv (A i c) = none := by
  unfold pivot at h
  rw [List.find?_eq_none] at h
  have := h i (List.mem_range.2 hi)
  simpa [hr] using this
theorem pivot_some {A : Mat α} {n rank c i : Nat} (h : F.pivot A n rank c = some i) : i < n ∧ rank ≤ i ∧ ∃ b, F.inv (A i c) = some b := by
  unfold pivot at h
  have h1 := List.find?_some h
  have h2 := List.mem_of_find?_eq_some h
  simp only [Bool.and_eq_true, decide_eq_true_eq, Option.isSome_iff_exists] at h1
  exact ⟨List.mem_range.1 h2, h1.1, h1.2⟩
theorem red_rank (n : Nat) (A : Mat α) (c : Nat) : (F.red n A c).2 ≤ c ∧ (F.red n A c).2 ≤ n := by
  induction c with
  | zero => exact ⟨Nat.le_refl _, Nat.zero_le _⟩
  | succ c ih =>
    have e : F.red n A (c + 1) = F.step n (F.red n A c) c := rfl
    rw [e]
    unfold step
    split
    · omega
    · rename_i i hi
      have := pivot_some hi
      simp only
      omega

/-- What is reckoned of a row, linear. -/
structure Lin (F : Fd α) (φ : (Nat → α) → α) : Prop where
  mul : ∀ r b, φ (fun j => F.mul (r j) b) = F.mul (φ r) b
  sub : ∀ r s b, φ (fun j => F.sub (r j) (F.mul b (s j))) = F.sub (φ r) (F.mul b (φ s))
theorem Ok.lin_dot (h : F.Ok) (n k : Nat) (y : Nat → α) : Lin F fun r => F.sum n fun t => F.mul (r (k + t)) (y t) where
  mul r b := by
    rw [h.mul_comm _ b, ← h.sum_mul]
    refine sum_congr fun i _ => ?_
    show F.mul (F.mul (r (k + i)) b) (y i) = _
    rw [h.mul_comm _ b, h.mul_assoc]
  sub r s b := by
    rw [← h.sum_mul, ← h.sum_sub]
    refine sum_congr fun i _ => ?_
    show F.mul (F.sub (r (k + i)) (F.mul b (s (k + i)))) (y i) = _
    rw [h.mul_comm (F.sub _ _), h.mul_sub, h.mul_comm (y i), h.mul_comm (y i), h.mul_assoc]
theorem Ok.lin_at (h : F.Ok) (j : Nat) : Lin F fun r => r j where
  mul _ _ := rfl
  sub _ _ _ := rfl
theorem Ok.sub_mid' (h : F.Ok) (a b c d : α) : F.sub (F.sub a b) (F.sub c d) = F.sub (F.sub a c) (F.sub b d) := by
  refine h.add_right (c := F.sub c d) ?_
  rw [h.sub_add]
  refine h.add_right (c := b) ?_
  rw [h.sub_add, h.add_assoc, h.add_comm (F.sub c d), ← h.add_assoc, h.add_comm (F.sub (F.sub a c) (F.sub b d)), h.add_assoc]
  have h2 : F.add (F.add b (F.sub (F.sub a c) (F.sub b d))) (F.sub c d) = a := by
    refine h.add_right (c := d) ?_
    rw [h.add_assoc, h.sub_add]
    have h3 : F.add (F.sub (F.sub a c) (F.sub b d)) (F.sub b d) = F.sub a c := h.sub_add _ _
    have h4 : F.add (F.sub b d) d = b := h.sub_add _ _
    have h5 : F.add (F.sub a c) c = a := h.sub_add _ _
    generalize F.sub (F.sub a c) (F.sub b d) = p at *
    generalize F.sub b d = q at *
    rw [← h5, ← h3, ← h4, h.add_assoc (F.add p q), h.add_comm c d, ← h.add_assoc, h.add_comm (F.add q d) p, ← h.add_assoc]
  rw [← h.add_assoc, h2]
theorem Ok.lin_diff (h : F.Ok) {φ ψ : (Nat → α) → α} (a : Lin F φ) (b : Lin F ψ) : Lin F fun r => F.sub (φ r) (ψ r) where
  mul r x := by rw [a.mul, b.mul, h.mul_comm (φ r), h.mul_comm (ψ r), h.mul_comm (F.sub _ _), h.mul_sub]
  sub r s x := by rw [a.sub, b.sub, h.mul_sub, h.sub_mid']

theorem swapped_all {A : Mat α} {n a b : Nat} (ha : a < n) (hb : b < n) {p : (Nat → α) → Prop} : (∀ i, i < n → p (swapped A a b i)) ↔ ∀ i, i < n → p (A i) := by
  constructor
  · intro h i hi
    by_cases e : i = a
    · by_cases e2 : b = a
      · have := h b hb
        unfold swapped at this
        rw [if_pos e2, e2, ← e] at this
        exact this
      · have := h b hb
        unfold swapped at this
        rw [if_neg e2, if_pos rfl, ← e] at this
        exact this
    · by_cases e2 : i = b
      · have := h a ha
        unfold swapped at this
        rw [if_pos rfl, ← e2] at this
        exact this
      · have := h i hi
        unfold swapped at this
        rwa [if_neg e, if_neg e2] at this
  · intro h i hi
    unfold swapped
    split
    · exact h b hb
    · split
      · exact h a ha
      · exact h i hi
theorem Ok.scaled_all (h : F.Ok) {φ : (Nat → α) → α} (hφ : Lin F φ) {A : Mat α} {n r : Nat} {x b : α} (hb : F.mul x b = F.one) :
    (∀ i, i < n → φ (F.scaled A r b i) = F.zero) ↔ ∀ i, i < n → φ (A i) = F.zero := by
  have key : φ (fun j => F.mul (A r j) b) = F.zero ↔ φ (A r) = F.zero := by
    rw [hφ.mul]
    constructor
    · intro e
      have : F.mul (F.mul (φ (A r)) b) x = F.mul F.zero x := by rw [e]
      rwa [h.mul_assoc, h.mul_comm b, hb, h.mul_one, h.zero_mul] at this
    · intro e; rw [e, h.zero_mul]
  constructor
  · intro g i hi
    have := g i hi
    unfold scaled at this
    split at this
    · rename_i e; rw [e]; exact key.1 this
    · exact this
  · intro g i hi
    unfold scaled
    split
    · rename_i e; exact key.2 (by rw [← e]; exact g i hi)
    · exact g i hi
theorem Ok.cleared_all (h : F.Ok) {φ : (Nat → α) → α} (hφ : Lin F φ) {A : Mat α} {n own c : Nat} (ho : own < n) :
    (∀ i, i < n → φ (F.cleared A own c i) = F.zero) ↔ ∀ i, i < n → φ (A i) = F.zero := by
  constructor
  · intro g i hi
    have h1 : φ (A own) = F.zero := by
      have := g own ho
      unfold cleared at this
      rwa [if_pos rfl] at this
    have := g i hi
    unfold cleared at this
    split at this
    · exact this
    · rw [hφ.sub, h1, h.mul_zero, h.sub_zero] at this
      exact this
  · intro g i hi
    unfold cleared
    split
    · exact g i hi
    · rw [hφ.sub, g own ho, h.mul_zero, h.sub_zero, g i hi]
theorem Ok.step_all (h : F.Ok) {φ : (Nat → α) → α} (hφ : Lin F φ) (n : Nat) (S : Mat α × Nat) (c : Nat) :
    (∀ i, i < n → φ ((F.step n S c).1 i) = F.zero) ↔ ∀ i, i < n → φ (S.1 i) = F.zero := by
  unfold step
  split
  · exact Iff.rfl
  · rename_i i hi
    obtain ⟨h1, h2, b, hb⟩ := pivot_some hi
    rw [hb]
    show (∀ k, k < n → φ (F.cleared (F.scaled (swapped S.1 S.2 i) S.2 b) S.2 c k) = F.zero) ↔ _
    rw [h.cleared_all hφ (by omega), h.scaled_all hφ (h.inv_some _ _ hb)]
    exact swapped_all (p := fun r => φ r = F.zero) (by omega) h1
theorem Ok.red_all (h : F.Ok) {φ : (Nat → α) → α} (hφ : Lin F φ) (n : Nat) (A : Mat α) (c : Nat) :
    (∀ i, i < n → φ ((F.red n A c).1 i) = F.zero) ↔ ∀ i, i < n → φ (A i) = F.zero := by
  induction c with
  | zero => exact Iff.rfl
  | succ c ih => rw [← ih]; exact h.step_all hφ n _ c
end Fd
end Go.Proofs.YtoaaplngdomdcaaGreat
