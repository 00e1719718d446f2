import Derived.WalkKit
import Derived.Deep.AppendLies
import Derived.Deep.Draws
import Derived.Maps.AppendAt
import Derived.WalkSpells
import Derived.Deep.MidRow
import Derived.Lib.BufferRead
import Derived.Test.YtdohebhbiokljaaGreatDoorRows
import Derived.BigQuiet
import Derived.Deep.QuietTactic
import Derived.Lib.SlBytesConst
import Derived.Laws.IdiomStrings
set_option linter.all false
namespace Go.Proofs.YtdohebhbiokljaaGreatDoor
open Go.RowKit
theorem ret_int {k : IntKind} {a b : Int} (h : a = b) : Ending.returned (.int k a) = .returned (.int k b) := by rw [h]
theorem ret_bool {a b : Bool} (h : a = b) : Ending.returned (.bool a) = .returned (.bool b) := by rw [h]
theorem hide {p : Prop} (h : p) : Hid p := h
def Sl (w : World) (sz : Nat) (v : Value) (n : Nat) (xs : List Value) : Prop :=
 xs.length = n * sz ∧ ∃ A c, v = .slice A n c ∧ n ≤ c ∧ c ≤ maxLen ∧
  (0 < n → ∃ b o, A = some ⟨b, o, none⟩ ∧ b < w.heap.size ∧ ∀ j, j < n * sz → w.cell? ⟨b, o + j, none⟩ = xs[j]?)
theorem Sl.keep {w w' : World} {sz : Nat} {v : Value} {n : Nat} {xs : List Value} (h : Sl w sz v n xs) (hs : w.heap.size ≤ w'.heap.size)
  (hb : ∀ b, b < w.heap.size → w'.heap[b]? = w.heap[b]?) : Sl w' sz v n xs := by
 obtain ⟨h1, A, c, hv, hn, hc, h2⟩ := h
 refine ⟨h1, A, c, hv, hn, hc, fun h0 => ?_⟩
 obtain ⟨b, o, hA, hlt, hcell⟩ := h2 h0
 exact ⟨b, o, hA, by omega, fun j hj => (World.cell?_of_block (w := w) (hb b hlt)).trans (hcell j hj)⟩
theorem Sl.below {w w' : World} {sz : Nat} {v : Value} {n : Nat} {xs : List Value} (h : Sl w sz v n xs) (hb : Below w.heap.size w w') : Sl w' sz v n xs :=
 h.keep hb.size hb.block
theorem below_drewN {B : Nat} {a w : World} (h : Below B a w) (n : Nat) : Below B a (w.drewN n) := ⟨h.os, h.tape, h.output, h.size, h.block⟩
theorem own_below {w w' : World} {base : Nat} {e : TypeId} {sz : Nat} {v : Value} {n : Nat} {xs : List Value} (h : w.ownsRow base e sz v n xs)
  {B : Nat} (hb : Below B w w') (hB : ∀ g, v.ownBlock = some g → g < B) : w'.ownsRow base e sz v n xs := by
 obtain ⟨h1, h2 | ⟨g, cap, cur, hv, hg, hh, r⟩⟩ := h
 ·exact ⟨h1, .inl h2⟩
 ·subst hv
  exact ⟨h1, .inr ⟨g, cap, cur, rfl, hg, (hb.block g (hB g rfl)).trans hh, r⟩⟩
theorem own_lt {w : World} {base : Nat} {e : TypeId} {sz : Nat} {v : Value} {n : Nat} {xs : List Value} (h : w.ownsRow base e sz v n xs) :
  ∀ g, v.ownBlock = some g → g < w.heap.size := fun g hg => (h.lt g hg).2
theorem own_below' {w w' : World} {base : Nat} {e : TypeId} {sz : Nat} {v : Value} {n : Nat} {xs : List Value} (h : w.ownsRow base e sz v n xs)
  (hb : Below w.heap.size w w') : w'.ownsRow base e sz v n xs := own_below h hb (own_lt h)
theorem Sl.of_own {w : World} {base : Nat} {e : TypeId} {sz : Nat} {v : Value} {n : Nat} {xs : List Value} (h : w.ownsRow base e sz v n xs) : Sl w sz v n xs := by
 have hl := own_lt h
 obtain ⟨h1, ⟨hv, hn⟩ | ⟨g, cap, cur, hv, hg, hh, hn, hc, hs, ht⟩⟩ := h
 ·subst hv hn
  exact ⟨h1, none, 0, rfl, Nat.le_refl _, by simp [maxLen], fun h => absurd h (by omega)⟩
 ·subst hv
  refine ⟨h1, _, cap, rfl, hn, hc, fun h0 => ⟨g, 0, rfl, hl g rfl, fun j hj => ?_⟩⟩
  rw [Nat.zero_add, cell_of_row w g j cur e (0, 0) hh, ← ht, List.getElem?_take_of_lt hj]
  simp
theorem Sl.nil (w : World) (sz : Nat) : Sl w sz (.slice none 0 0) 0 [] := ⟨by simp, none, 0, rfl, Nat.le_refl _, by simp [maxLen], fun h => absurd h (by omega)⟩
theorem Sl.form {w : World} {sz : Nat} {v : Value} {n : Nat} {xs : List Value} (h : Sl w sz v n xs) :
  ∃ A c, v = .slice A n c ∧ n ≤ c ∧ c ≤ maxLen ∧ (0 < n → ∃ b o, A = some ⟨b, o, none⟩ ∧ b < w.heap.size ∧ ∀ j, j < n * sz → w.cell? ⟨b, o + j, none⟩ = xs[j]?) := h.2
def bcells (l : List UInt8) : List Value := l.map fun x => .int .u8 (x.toNat : Int)
@[simp] theorem bcells_length (l : List UInt8) : (bcells l).length = l.length := by simp [bcells]
theorem bcells_append (l r : List UInt8) : bcells (l ++ r) = bcells l ++ bcells r := by simp [bcells]
theorem bcells_one (x : UInt8) : bcells [x] = [.int .u8 (x.toNat : Int)] := rfl
theorem bcells_get (l : List UInt8) (k : Nat) : (bcells l)[k]? = (l[k]?).map fun x => .int .u8 (x.toNat : Int) := by simp [bcells]
def By (w : World) (v : Value) (l : List UInt8) : Prop := Sl w 1 v l.length (bcells l)
theorem By.below {w w' : World} {v : Value} {l : List UInt8} (h : By w v l) (hb : Below w.heap.size w w') : By w' v l := Sl.below h hb
theorem By.keep {w w' : World} {v : Value} {l : List UInt8} (h : By w v l) (hs : w.heap.size ≤ w'.heap.size)
  (hb : ∀ b, b < w.heap.size → w'.heap[b]? = w.heap[b]?) : By w' v l := Sl.keep h hs hb
theorem By.nil (w : World) : By w (.slice none 0 0) [] := Sl.nil w 1
theorem By.form {w : World} {v : Value} {l : List UInt8} (h : By w v l) :
  ∃ A c, v = .slice A l.length c ∧ l.length ≤ c ∧ c ≤ maxLen ∧
   (∀ k x, l[k]? = some x → ∃ b o, A = some ⟨b, o, none⟩ ∧ b < w.heap.size ∧ w.cell? ⟨b, o + k, none⟩ = some (.int .u8 (x.toNat : Int))) := by
 obtain ⟨A, c, hv, hn, hc, h2⟩ := Sl.form h
 refine ⟨A, c, hv, hn, hc, fun k x hx => ?_⟩
 have hk : k < l.length := (List.getElem?_eq_some_iff.1 hx).1
 obtain ⟨b, o, hA, hlt, hcell⟩ := h2 (by omega)
 refine ⟨b, o, hA, hlt, ?_⟩
 rw [hcell k (by omega), bcells_get, hx]; rfl
def Own (w : World) (base : Nat) (e : TypeId) (v : Value) (l : List UInt8) : Prop := w.ownsRow base e 1 v l.length (bcells l)
theorem Own.by_ {w : World} {base : Nat} {e : TypeId} {v : Value} {l : List UInt8} (h : Own w base e v l) : By w v l := Sl.of_own h
theorem Own.below {w w' : World} {base : Nat} {e : TypeId} {v : Value} {l : List UInt8} (h : Own w base e v l) (hb : Below w.heap.size w w') : Own w' base e v l := own_below' h hb
theorem Own.nil (w : World) (base : Nat) (e : TypeId) : Own w base e (.slice none 0 0) [] := World.ownsRow_nil w base e 1
structure Elem1 (P : Program) (t e : TypeId) (z : Value) (bytes : Nat) : Prop where
 ht : P.underlying t = some (.slice e)
 hi : (P.info? e).map (fun i => (i.zero, i.size, i.bytes)) = some (some z, 1, bytes)
 hz : z.cells.size = 1
theorem run_push1 {P : Program} {t e : TypeId} {z : Value} {bytes : Nat} (T : Elem1 P t e z bytes) (ty : TypeId) {w : World} {base : Nat} {v : Value} {n : Nat} {xs : List Value} (hown : w.ownsRow base e 1 v n xs)
  (hbase : base ≤ w.heap.size) (hn : n + 1 ≤ maxLen) (hbytes : (n + 1) * bytes ≤ 140737488355328) (u : Value) (hu : u.oneCell' = true) :
  ∃ v' w', (Builtin.append_ #[t, t] ty #[v, .slice (some ⟨w.heap.size, 0, none⟩) 1 1]).run P (w.alloc (.cells #[u] e)) = .ok v' w' ∧ w'.ownsRow base e 1 v' (n + 1) (xs ++ [u]) ∧ w'.ownsRow base e 1 v n xs ∧
   w.grownBy w' v.ownBlock ∧ (v'.ownBlock = v.ownBlock ∨ ∀ g, v'.ownBlock = some g → w.heap.size ≤ g) := by
 obtain ⟨i, hi, hz, h1, h2⟩ := info_parts T.hi
 have hn1 : ∀ j y, [u][j]? = some y → (w.alloc (.cells #[u] e)).cell? ((⟨w.heap.size, 0, none⟩ : Addr).add j) = some y := fun j y hj => by
  have := World.news_of_block (w := w.alloc (.cells #[u] e)) (B := w.heap.size) (cs := #[u]) (t := e) (fr := (0, 0)) (heap_alloc_new w _) j y (by simpa using hj)
  exact this
 have ho1 := hown.alloc (.cells #[u] e)
 have hnl : ([u] : List Value).length = 1 * i.size := by simp [h1]
 have hbig : n + 1 ≤ 9223372036854775807 := by simp only [maxLen] at hn; omega
 have gb : ∀ {w' : World} {row : Option Nat}, (w.alloc (.cells #[u] e)).grownBy w' row → w.grownBy w' row := fun hg =>
  ⟨hg.os, hg.tape, hg.output, Nat.le_trans (by simp) hg.size, fun k hk hne => (hg.block k (by simp; omega) hne).trans (Below.heap_alloc w _ k hk)⟩
 obtain ⟨v', w', hrun, h3, h4, _, h6⟩ := run_append_own_at (P := P) (w.alloc (.cells #[u] e)) base t ty e i z 1 bytes T.ht hi hz h1 h2 T.hz (by omega) v n xs ho1 ⟨w.heap.size, 0, none⟩ 1 1 [u] rfl hn1 (by simpa using hu) hn hbytes (by simp; omega)
 refine ⟨v', w', hrun, h3, ?_, gb h4, ?_⟩
 ·rcases ho1.2 with ⟨rfl, rfl⟩ | ⟨g, cap, cur, rfl, hbg, hg, hnc, hcm, hcs, htake⟩
  ·have hx : xs = [] := List.eq_nil_of_length_eq_zero (by simpa using hown.1)
   subst hx
   exact World.ownsRow_nil w' base e 1
  ·by_cases hroom : n + 1 ≤ cap
   ·have hfit : n * i.size + [u].length ≤ cur.size := by rw [hcs, h1]; simp; omega
    have hr := run_append_room (P := P) (w.alloc (.cells #[u] e)) t ty e i T.ht hi g n cap cur hg ⟨w.heap.size, 0, none⟩ 1 1 [u] hnl hn1 (by simpa using hu) hroom hfit
    rw [hr] at hrun
    injection hrun with _ hw
    subst hw
    refine ⟨hown.1, .inr ⟨g, cap, _, rfl, hbg, setRow_heap _ g cur _ e _ hg, hnc, hcm, ?_, ?_⟩⟩
    ·simp only [List.size_toArray, List.length_append, List.length_take, List.length_drop, Array.length_toList]
     have := hfit
     simp only [List.length_cons, List.length_nil] at *
     omega
    ·have hl : (cur.toList.take (n * 1)).length = n := by rw [htake]; simpa using hown.1
     rw [h1, List.append_assoc, List.take_append_of_le_length (by omega), List.take_take, Nat.min_self, htake]
   ·have holds : ∀ j y, xs[j]? = some y → (w.alloc (.cells #[u] e)).cell? ((⟨g, 0, none⟩ : Addr).add j) = some y := ho1.cells (g := g) rfl
    have hr := run_append_grow (P := P) (w.alloc (.cells #[u] e)) t ty e i z T.ht hi hz ⟨g, 0, none⟩ n cap xs (by rw [h1]; exact hown.1) holds ⟨w.heap.size, 0, none⟩ 1 1 [u] hnl hn1 (by omega) (by omega) (growslice_fits (by omega) (by rw [h2]; exact hbytes))
    rw [hr] at hrun
    injection hrun with _ hw
    subst hw
    exact World.ownsRow.alloc (w := (w.alloc (.cells #[u] e)).drew) ho1 _
 ·rcases h6 with h6 | h6
  ·exact .inl h6
  ·refine .inr fun g hg => ?_
   rw [h6] at hg
   injection hg with hg
   simp at hg
   omega
theorem Own.push {w' : World} {base : Nat} {e : TypeId} {v' : Value} {l : List UInt8} {n : Nat} {x : UInt8} {xs : List Value}
  (h : w'.ownsRow base e 1 v' (n + 1) (xs ++ [.int .u8 (x.toNat : Int)])) (hn : n = l.length) (hx : xs = bcells l) : Own w' base e v' (l ++ [x]) := by
 subst hn hx
 unfold Own
 rw [bcells_append, bcells_one]
 simpa using h
theorem wpList_push1 {P : Program} {t e : TypeId} {z : Value} {bytes : Nat} (T : Elem1 P t e z bytes) {w : World} {base : Nat} {v : Value} {n : Nat} {xs : List Value} (hown : w.ownsRow base e 1 v n xs)
  {w0 : World} (hb : Below base w0 w) (hbase : base ≤ w.heap.size) (hn : n + 1 ≤ maxLen) (hbytes : (n + 1) * bytes ≤ 140737488355328) (u : Value) (hu : u.oneCell' = true)
  {ops : Array Oper} {rest : List Oper} {o : Oper} {a : Act} {Q : Exit → Act → World → Prop} (hgd : o.guard = none) (s y : Operand)
  (ho : o.op = .call { callee := .builtin .append, args := #[s, y], argTypes := #[t, t] }) (hs : a.eval s = v) (hx : a.eval y = .slice (some ⟨w.heap.size, 0, none⟩) 1 1)
  (h : ∀ v' w', w'.ownsRow base e 1 v' (n + 1) (xs ++ [u]) → Below base w0 w' → w'.ownsRow base e 1 v n xs → w.grownBy w' v.ownBlock → (v'.ownBlock = v.ownBlock ∨ ∀ g, v'.ownBlock = some g → w.heap.size ≤ g) → wpList P ops Q rest (a.put o.dst v') w') :
  wpList P ops Q (o :: rest) a (w.alloc (.cells #[u] e)) := by
 refine wpList_plain hgd fun K hK => ?_
 obtain ⟨v', w', hrun, h2, h3, h4, h5⟩ := run_push1 T o.type hown hbase hn hbytes u hu
 unfold Oper.wp execOp
 simp only [ho, resolve, invoke, builtin, Sem.run_bind, Sem.run_pure, Result.andThen_ok, List.map_toArray, List.map_cons, List.map_nil, hs, hx, hrun]
 exact hK _ _ (h v' w' h2 (hb.grown h4 hbase fun k hk => (hown.lt k hk).1) h3 h4 h5)
theorem wpList_pushB {P : Program} {t e : TypeId} (T : Elem1 P t e (.int .u8 0) 1) {w : World} {base : Nat} {v : Value} {l : List UInt8} (hown : Own w base e v l)
  {w0 : World} (hb : Below base w0 w) (hbase : base ≤ w.heap.size) (hlen : l.length + 1 ≤ 140737488355328) (x : UInt8)
  {ops : Array Oper} {rest : List Oper} {o : Oper} {a : Act} {Q : Exit → Act → World → Prop} (hgd : o.guard = none) (s y : Operand)
  (ho : o.op = .call { callee := .builtin .append, args := #[s, y], argTypes := #[t, t] }) (hs : a.eval s = v) (hx : a.eval y = .slice (some ⟨w.heap.size, 0, none⟩) 1 1)
  (h : ∀ v' w', Own w' base e v' (l ++ [x]) → Below base w0 w' → w.grownBy w' v.ownBlock → (v'.ownBlock = v.ownBlock ∨ ∀ g, v'.ownBlock = some g → w.heap.size ≤ g) → wpList P ops Q rest (a.put o.dst v') w') :
  wpList P ops Q (o :: rest) a (w.alloc (.cells #[.int .u8 (x.toNat : Int)] e)) := by
 refine wpList_push1 T hown hb hbase (by unfold maxLen; omega) (by omega) _ rfl hgd s y ho hs hx fun v' w' h1 h2 _ h3 h4 => h v' w' (Own.push h1 rfl rfl) h2 h3 h4
theorem str_toList (s : ByteArray) : s.toList = s.data.toList := ByteArray.toList_eq s
def Blk (w : World) (g : Nat) (t : TypeId) (cs : Array Value) : Prop := w.heap[g]? = some (.cells cs t (0, 0))
section
variable {w w' : World} {g : Nat} {t : TypeId} {cs : Array Value}
theorem Blk.lt (h : Blk w g t cs) : g < w.heap.size := by
 rcases Nat.lt_or_ge g w.heap.size with h1 | h1
 ·exact h1
 ·unfold Blk at h; rw [Array.getElem?_eq_none h1] at h; cases h
theorem Blk.cell (h : Blk w g t cs) (i : Nat) : w.cell? ⟨g, i, none⟩ = cs[i]? := cell_of_row w g i cs t (0, 0) h
theorem Blk.frozen (h : Blk w g t cs) (i : Nat) : w.frozen? ⟨g, i, none⟩ = false := by unfold Blk at h; simp [World.frozen?, h]
theorem Blk.new (w : World) (t : TypeId) (cs : Array Value) : Blk (w.alloc (.cells cs t)) w.heap.size t cs := heap_alloc_new w _
theorem Blk.alloc (h : Blk w g t cs) (o : Obj) : Blk (w.alloc o) g t cs := (Below.heap_alloc w o g h.lt).trans h
theorem Blk.drew (h : Blk w g t cs) : Blk w.drew g t cs := h
theorem Blk.drewN (h : Blk w g t cs) (n : Nat) : Blk (w.drewN n) g t cs := h
theorem Blk.set_ (h : Blk w g t cs) (i : Nat) (u : Value) : Blk (w.setCell ⟨g, i, none⟩ u) g t (cs.setIfInBounds i u) := by
 unfold Blk at h ⊢
 simp [World.setCell, Array.getElem?_modify, h]
theorem Blk.far (h : Blk w g t cs) {p : Addr} (hp : g ≠ p.block) (u : Value) : Blk (w.setCell p u) g t cs := (Below.heap_setCell w p u g hp).trans h
theorem Blk.below {B : Nat} (h : Blk w g t cs) (hb : Below B w w') (hg : g < B) : Blk w' g t cs := (hb.block g hg).trans h
theorem Blk.below' (h : Blk w g t cs) (hb : Below w.heap.size w w') : Blk w' g t cs := h.below hb h.lt
theorem Blk.grown {row : Option Nat} (h : Blk w g t cs) (hb : w.grownBy w' row) (hg : some g ≠ row) : Blk w' g t cs := (hb.block g h.lt hg).trans h
theorem Blk.own (h : Blk w g t cs) {base n cap : Nat} {e : TypeId} {sz : Nat} (he : e = t) (hb : base ≤ g) (hc : cs.size = cap * sz) (hn : n ≤ cap) (hm : cap ≤ maxLen) :
  w.ownsRow base e sz (.slice (some ⟨g, 0, none⟩) n cap) n (cs.toList.take (n * sz)) := by
 subst he
 refine ⟨?_, .inr ⟨g, cap, cs, rfl, hb, h, hn, hm, hc, rfl⟩⟩
 rw [List.length_take, Array.length_toList, hc, Nat.min_eq_left (Nat.mul_le_mul_right _ hn)]
theorem own_blk_ne {base : Nat} {e : TypeId} {sz n : Nat} {v : Value} {xs : List Value} (h : w.ownsRow base e sz v n xs) (hg : Blk w g t cs) (hne : e ≠ t) : v.ownBlock = none ∨ v.ownBlock ≠ some g := by
 rcases h.2 with ⟨rfl, _⟩ | ⟨g', cap, cur, rfl, _, hh, _⟩
 ·exact .inl rfl
 ·refine .inr ?_
  intro he
  have : g' = g := by simpa [Value.ownBlock] using he
  subst this
  unfold Blk at hg
  rw [hh] at hg
  injection hg with hg
  injection hg with _ ht
  exact hne ht
end
theorem grown_drew {w w' : World} {row : Option Nat} (h : w.grownBy w' row) : w.grownBy w'.drew row := ⟨h.os, h.tape, h.output, h.size, h.block⟩
theorem _root_.Go.World.grownBy.trans_ {a b c : World} {row : Option Nat} (h : a.grownBy b row) (k : b.grownBy c row) : a.grownBy c row :=
 ⟨k.os.trans h.os, k.tape.trans h.tape, k.output.trans h.output, Nat.le_trans h.size k.size, fun i hi hne => (k.block i (Nat.lt_of_lt_of_le hi h.size) hne).trans (h.block i hi hne)⟩
theorem store_grown (w : World) (g i : Nat) (u : Value) : w.grownBy (w.setCell ⟨g, i, none⟩ u) (some g) :=
 ⟨rfl, rfl, rfl, by simp [World.setCell], fun k hk hne => Below.heap_setCell w _ u k (fun e => hne (by rw [e]))⟩
theorem stores_grown (g : Nat) (cs : List Value) : ∀ (w : World) (o : Nat), w.grownBy (w.setCells g o cs) (some g) := by
 induction cs with
 | nil => exact fun w o => World.grownBy.refl w _
 | cons c cs ih => exact fun w o => (store_grown w g o c).trans_ (ih _ _)
theorem blk_setCells {g : Nat} {t : TypeId} (cs : List Value) : ∀ (w : World) (o : Nat) (old : Array Value), Blk w g t old → o + cs.length ≤ old.size →
  Blk (w.setCells g o cs) g t (old.toList.take o ++ cs ++ old.toList.drop (o + cs.length)).toArray := by
 induction cs with
 | nil => intro w o old h _; simpa [World.setCells] using h
 | cons c cs ih =>
  intro w o old h hl
  simp only [List.length_cons] at hl
  have := ih (w.setCell ⟨g, o, none⟩ c) (o + 1) (old.setIfInBounds o c) (h.set_ o c) (by simp; omega)
  simp only [World.setCells]
  have e : (old.setIfInBounds o c).toList.take (o + 1) ++ cs ++ (old.setIfInBounds o c).toList.drop (o + 1 + cs.length) = old.toList.take o ++ c :: cs ++ old.toList.drop (o + (c :: cs).length) := by
   rw [Array.toList_setIfInBounds, List.drop_set_of_lt (by omega), List.length_cons, show o + 1 + cs.length = o + (cs.length + 1) by omega]
   congr 1
   rw [List.take_add_one, List.take_set_of_le (Nat.le_refl _), List.getElem?_set_self (by simp; omega)]
   simp
  rw [e] at this
  exact this
theorem wpList_store_row {P : Program} {ops : Array Oper} {rest : List Oper} {o : Oper} {a : Act} {w : World} {Q : Exit → Act → World → Prop} {g : Nat} {t : TypeId} {old : Array Value} (hb : Blk w g t old) (cells : Array Value)
  (hs : cells.size = old.size) (h1 : cells.all (·.oneCell') = true) (hgd : o.guard = none) (ty : TypeId) (x y : Operand) (ho : o.op = .store ty x y)
  (hi : (P.info? ty).map (·.size) = some cells.size) (hx : a.eval x = .pointer (some ⟨g, 0, none⟩)) (hy : a.eval y = .agg cells)
  (h : ∀ w', Blk w' g t cells → w.grownBy w' (some g) → wpList P ops Q rest (a.put o.dst undef) w') : wpList P ops Q (o :: rest) a w := by
 refine wpList_store_mid hgd ty x y ho g 0 cells hx hy (fun j hj => ⟨?_, ?_⟩) hi h1 (h _ ?_ (stores_grown g _ _ _))
 ·rw [Nat.zero_add, hb.cell]; simp; omega
 ·rw [Nat.zero_add]; exact hb.frozen j
 ·have := blk_setCells cells.toList w 0 old hb (by simp; omega)
  simp only [List.take_zero, List.nil_append, Nat.zero_add, Array.length_toList] at this
  rw [List.drop_of_length_le (by simp; omega), List.append_nil] at this
  simpa using this
theorem run_str {P : Program} {w : World} {v : Value} {l : List UInt8} (h : By w v l) (src dst e : TypeId) (hs : P.underlying src = some (.slice e)) (he : P.underlying e = some (.int .u8)) (hd : P.underlying dst = some .string) :
  ∃ s : ByteArray, s.data.toList = l ∧ (convert src dst v).run P w = .ok (.string s) w := by
 obtain ⟨A, c, rfl, hlc, hc, hcell⟩ := h.form
 rcases A with _ | ad
 ·have hl : l = [] := by
   rcases l with _ | ⟨x, l⟩
   ·rfl
   ·obtain ⟨b, o, h0, _⟩ := hcell 0 x rfl
    cases h0
  subst hl
  exact ⟨⟨#[]⟩, rfl, Lib.run_convert_nil_bytes w src dst e c hs he hd⟩
 ·refine ⟨⟨l.toArray⟩, by simp, run_convert_bytes_back w src dst e ad c l hs he hd fun j hj => ?_⟩
  obtain ⟨b, o, h0, _, h2⟩ := hcell j _ (List.getElem?_eq_getElem hj)
  injection h0 with h0
  subst h0
  rw [Go.Addr.add_mid]
  exact h2
end Go.Proofs.YtdohebhbiokljaaGreatDoor
namespace Go.Proofs.YtdohebhbiokljaaGreatDoor
open Go.RowKit
theorem elem8 : Elem1 Tryz.prog 34 5 (.int .u8 0) 1 := ⟨Tryz.underlying34, by kernel_rfl, rfl⟩
def mark (k i : Int) : UInt8 := UInt8.ofNat ((151 * k + 7 * i + 1) % 256).toNat
theorem same_step (l m : List UInt8) (k : Nat) (x y : UInt8) (hx : l[k]? = some x) (hy : m[k]? = some y) (h : l.take k = m.take k) :
  (l.take (k + 1) = m.take (k + 1)) ↔ x = y := by
 rw [List.take_add_one, List.take_add_one, hx, hy, h]
 simp
theorem u8_int {x y : UInt8} : ((x.toNat : Int) = (y.toNat : Int)) ↔ x = y := by
 constructor
 ·intro h
  exact UInt8.toNat_inj.1 (by omega)
 ·rintro rfl; rfl
set_option maxHeartbeats 400000 in
theorem same_any (va vb : Value) (l m : List UInt8) (w : World) (ha : By w va l) (hb : By w vb m) :
  Calls Tryz.prog 32 #[va, vb] w fun e w' => e = .returned (.bool (decide (l = m))) ∧ Below w.heap.size w w' := by
 obtain ⟨A, c, rfl, hc, hm, hca⟩ := ha.form
 obtain ⟨B, d, rfl, hd, hmd, hcb⟩ := hb.form
 unfold maxLen at hm hmd
 by_cases hl : l.length = m.length
 ·have hne : ((l.length : Int) != (m.length : Int)) = false := by simp [hl]
  have HL : Hid (l.length = m.length) := hl
  clear hl
  go_enter Tryz.func32, Tryz.ntmps32
  go_wp2
  go_loopw [5] (fun i wr => ∃ k : Nat, k ≤ l.length ∧ i = .int .i64 k ∧ l.take k = m.take k ∧ Below w.heap.size w wr) (fun i _ => l.length - (intOf i).toNat)
  case atStart => exact ⟨0, by omega, rfl, by simp, Below.refl _ _⟩
  case round =>
   obtain ⟨k, hk, rfl, hq, hbel⟩ := hrel
   have HQ := hide hq
   clear hq
   by_cases hlt : k < l.length
   ·have hlt2 : k < m.length := by have := HL.out; omega
    obtain ⟨x, hx⟩ : ∃ x, l[k]? = some x := ⟨_, List.getElem?_eq_getElem hlt⟩
    obtain ⟨y, hy⟩ : ∃ y, m[k]? = some y := ⟨_, List.getElem?_eq_getElem hlt2⟩
    obtain ⟨b, o, rfl, hbl, hcell⟩ := hca k x hx
    obtain ⟨b2, o2, rfl, hbl2, hcell2⟩ := hcb k y hy
    have hcx : wr.cell? ⟨b, o + k, none⟩ = some (.int .u8 (x.toNat : Int)) := (hbel.cell (p := ⟨b, o + k, none⟩) hbl).trans hcell
    have hcy : wr.cell? ⟨b2, o2 + k, none⟩ = some (.int .u8 (y.toNat : Int)) := (hbel.cell (p := ⟨b2, o2 + k, none⟩) hbl2).trans hcell2
    have HX := hide hx
    have HY := hide hy
    clear hx hy hcell hcell2 hca hcb
    have i1 : (k : Int) < (l.length : Int) := by omega
    have i2 : (k : Int) < (m.length : Int) := by omega
    have i3 : (0 : Int) ≤ (k : Int) := by omega
    by_cases hxy : x = y
    ·have hd : ((x.toNat : Int) != (y.toNat : Int)) = false := by simp [hxy]
     go_wp2
     go_quiet (fail)
     go_wp2
     go_roundw
     case rel => exact ⟨k + 1, by omega, by go_num, (same_step l m k x y HX.out HY.out HQ.out).2 hxy, below_drewN hbel _⟩
     case measure => simp [intOf]; omega
    ·have hd : ((x.toNat : Int) != (y.toNat : Int)) = true := by
      rw [bne_iff_ne]; intro h; exact hxy (u8_int.1 h)
     go_wp2
     go_quiet (fail)
     go_wp2
     go_ret
     refine ⟨ret_bool ?_, below_drewN hbel _⟩
     refine (decide_eq_false fun h => hxy ((same_step l m k x y HX.out HY.out HQ.out).1 (by rw [h]))).symm
   ·have hge : ¬ ((k : Int) < (l.length : Int)) := by omega
    go_wp2
    go_ret
    refine ⟨ret_bool ?_, hbel⟩
    refine (decide_eq_true ?_).symm
    have := HQ.out
    rwa [List.take_of_length_le (by omega), List.take_of_length_le (by have := HL.out; omega)] at this
 ·have hne : ((l.length : Int) != (m.length : Int)) = true := by rw [bne_iff_ne]; omega
  go_enter Tryz.func32, Tryz.ntmps32
  go_wp2
  go_ret
  exact ⟨ret_bool (decide_eq_false fun h => hl (by rw [h])).symm, Below.refl _ _⟩
def marks (k len n : Nat) : List UInt8 := (List.range n).map fun i => mark k ((len + i : Nat) : Int)
@[simp] theorem marks_length (k len n : Nat) : (marks k len n).length = n := by simp [marks]
theorem take_snoc {α : Type} (l : List α) (k : Nat) (x : α) (h : l[k]? = some x) : l.take (k + 1) = l.take k ++ [x] := by
 rw [List.take_add_one, h]; rfl
theorem Own.store {w : World} {base : Nat} {e : TypeId} {g n cap : Nat} {l : List UInt8} (h : Own w base e (.slice (some ⟨g, 0, none⟩) n cap) l) (k : Nat) (x : UInt8) :
  Own (w.setCell ⟨g, k, none⟩ (.int .u8 (x.toNat : Int))) base e (.slice (some ⟨g, 0, none⟩) n cap) (l.set k x) := by
 have hn : n = l.length := by
  rcases h.2 with ⟨h0, _⟩ | ⟨g', cap', cur, hv, _⟩
  ·cases h0
  ·injection hv
 unfold Own at *
 subst hn
 have := (h.stored k (.int .u8 (x.toNat : Int))).1
 have e : (bcells l).set k (.int .u8 (x.toNat : Int)) = bcells (l.set k x) := by simp [bcells, List.map_set]
 rw [e] at this
 simpa using this
theorem Own.form {w : World} {base : Nat} {e : TypeId} {v : Value} {l : List UInt8} (h : Own w base e v l) (hn : 0 < l.length) : ∃ g cap, v = .slice (some ⟨g, 0, none⟩) l.length cap ∧ base ≤ g ∧ g < w.heap.size :=
 World.ownsRow.form h hn
theorem Own.front {w : World} {base : Nat} {e : TypeId} {g n cap : Nat} {l r : List UInt8} (h : Own w base e (.slice (some ⟨g, 0, none⟩) n cap) (l ++ r)) : By w (.slice (some ⟨g, 0, none⟩) l.length cap) l := by
 rcases h.2 with ⟨h0, _⟩ | ⟨g', cap', cur, hv, hg, hh, hnc, hcm, hcs, ht⟩
 ·cases h0
 ·injection hv with hA hn hc
  injection hA with hA
  injection hA with hA
  subst hA hc
  have hlt := (Blk.lt (w := w) (g := g) (t := e) (cs := cur) hh)
  have hlen : (l ++ r).length = l.length + r.length := List.length_append
  refine ⟨by simp, some ⟨g, 0, none⟩, cap, rfl, by omega, hcm, fun h0 => ⟨g, 0, rfl, hlt, fun j hj => ?_⟩⟩
  rw [Nat.zero_add, cell_of_row w g j cur e (0, 0) hh]
  have e1 : cur[j]? = (bcells (l ++ r))[j]? := by
   rw [← ht, List.getElem?_take_of_lt (by omega)]; simp
  rw [e1, bcells_append, List.getElem?_append_left (by simp; omega)]
end Go.Proofs.YtdohebhbiokljaaGreatDoor
namespace Go.Proofs.YtdohebhbiokljaaGreatDoor
open Go.RowKit
def bigL (x n : Nat) : List UInt8 := (List.range n).map fun i => UInt8.ofNat (x / 256 ^ (n - 1 - i))
@[simp] theorem bigL_length (x n : Nat) : (bigL x n).length = n := by simp [bigL]
theorem bigL_get (x n i : Nat) (h : i < n) : (bigL x n)[i]? = some (UInt8.ofNat (x / 256 ^ (n - 1 - i))) := by simp [bigL, h]
def bigF (x n k : Nat) : List UInt8 := List.replicate (n - k) 0 ++ (bigL x n).drop (n - k)
theorem bigF_zero (x n : Nat) : bigF x n 0 = List.replicate n 0 := by simp [bigF]
theorem bigF_full (x n : Nat) : bigF x n n = bigL x n := by simp [bigF]
theorem bigF_length (x n k : Nat) : (bigF x n k).length = n := by simp only [bigF, List.length_append, List.length_replicate, List.length_drop, bigL_length]; omega
theorem bigF_set (x n k : Nat) (h : k < n) : (bigF x n k).set (n - 1 - k) (UInt8.ofNat (x / 256 ^ k)) = bigF x n (k + 1) := by
 apply List.ext_getElem?
 intro i
 have hl : n - 1 - k < (bigF x n k).length := by rw [bigF_length]; omega
 rw [List.getElem?_set]
 unfold bigF at hl ⊢
 by_cases h1 : i < n - 1 - k
 ·rw [if_neg (by omega), List.getElem?_append_left (by simp; omega), List.getElem?_append_left (by simp; omega), List.getElem?_replicate, List.getElem?_replicate, if_pos (by omega), if_pos (by omega)]
 ·by_cases h2 : i = n - 1 - k
  ·subst h2
   rw [if_pos rfl, if_pos hl, List.getElem?_append_right (by simp; omega), List.length_replicate, List.getElem?_drop, bigL_get _ _ _ (by omega)]
   congr 4
   omega
  ·rw [if_neg (by omega), List.getElem?_append_right (by simp; omega), List.getElem?_append_right (by simp; omega), List.length_replicate, List.length_replicate, List.getElem?_drop, List.getElem?_drop]
   congr 1
   omega
theorem bigL_take (x n k : Nat) (h : k < n) : (bigL x n).take (k + 1) = (bigL x n).take k ++ [UInt8.ofNat (x / 256 ^ (n - 1 - k))] := take_snoc _ _ _ (bigL_get x n k h)
theorem u8_of (m : Nat) : ((UInt8.ofNat m).toNat : Int) = (m : Int) % 256 := by simp [UInt8.toNat_ofNat']
theorem byte_of (x i : Nat) : (x : Int) / 2 ^ (8 * i) % 256 = ((UInt8.ofNat (x / 256 ^ i)).toNat : Int) := by
 rw [u8_of, show (256 : Nat) ^ i = 2 ^ (8 * i) by rw [show (256 : Nat) = 2 ^ 8 from rfl, ← Nat.pow_mul]]
 simp
theorem bigF_cells (x n k j : Nat) (h : k < n) (hj : n - 1 - k = j) : (bcells (bigF x n k)).toArray.setIfInBounds j (.int .u8 ((x : Int) / 2 ^ (8 * k) % 256)) = (bcells (bigF x n (k + 1))).toArray := by
 rw [← bigF_set x n k h, hj, byte_of]
 simp [bcells, List.map_set]
end Go.Proofs.YtdohebhbiokljaaGreatDoor
namespace Go.Proofs.YtdohebhbiokljaaGreatDoor
open Go.RowKit
set_option maxHeartbeats 1000000 in
theorem width64_any (w : World) : Calls Tryz.prog 138 #[] w fun e w' => e = .returned (.int .i64 8) ∧ w = w' := by
 go_enter Tryz.func138, Tryz.ntmps138
 go_wp2
 go_loopw [1, 2] (fun u1 u2 wr => ((u1 = .int .i64 0 ∧ u2 = .int .u64 18446744073709551615) ∨ (u1 = .int .i64 1 ∧ u2 = .int .u64 72057594037927935) ∨ (u1 = .int .i64 2 ∧ u2 = .int .u64 281474976710655) ∨ (u1 = .int .i64 3 ∧ u2 = .int .u64 1099511627775) ∨ (u1 = .int .i64 4 ∧ u2 = .int .u64 4294967295) ∨ (u1 = .int .i64 5 ∧ u2 = .int .u64 16777215) ∨ (u1 = .int .i64 6 ∧ u2 = .int .u64 65535) ∨ (u1 = .int .i64 7 ∧ u2 = .int .u64 255) ∨ (u1 = .int .i64 8 ∧ u2 = .int .u64 0)) ∧ w = wr) (fun u1 _ _ => 8 - (intOf u1).toNat)
 case atStart => exact ⟨.inl ⟨rfl, rfl⟩, rfl⟩
 case round =>
  obtain ⟨hh, rfl⟩ := hrel
  rcases hh with ⟨rfl, rfl⟩ | ⟨rfl, rfl⟩ | ⟨rfl, rfl⟩ | ⟨rfl, rfl⟩ | ⟨rfl, rfl⟩ | ⟨rfl, rfl⟩ | ⟨rfl, rfl⟩ | ⟨rfl, rfl⟩ | ⟨rfl, rfl⟩
  case inr.inr.inr.inr.inr.inr.inr.inr =>
   go_wp2
   go_ret
   exact ⟨rfl, rfl⟩
  all_goals
   go_wp2
   go_roundw
   case rel => simp
   case measure => simp [intOf]
set_option maxHeartbeats 1000000 in
theorem width32_any (w : World) : Calls Tryz.prog 87 #[] w fun e w' => e = .returned (.int .i64 4) ∧ w = w' := by
 go_enter Tryz.func87, Tryz.ntmps87
 go_wp2
 go_loopw [1, 2] (fun u1 u2 wr => ((u1 = .int .i64 0 ∧ u2 = .int .u32 4294967295) ∨ (u1 = .int .i64 1 ∧ u2 = .int .u32 16777215) ∨ (u1 = .int .i64 2 ∧ u2 = .int .u32 65535) ∨ (u1 = .int .i64 3 ∧ u2 = .int .u32 255) ∨ (u1 = .int .i64 4 ∧ u2 = .int .u32 0)) ∧ w = wr) (fun u1 _ _ => 4 - (intOf u1).toNat)
 case atStart => exact ⟨.inl ⟨rfl, rfl⟩, rfl⟩
 case round =>
  obtain ⟨hh, rfl⟩ := hrel
  rcases hh with ⟨rfl, rfl⟩ | ⟨rfl, rfl⟩ | ⟨rfl, rfl⟩ | ⟨rfl, rfl⟩ | ⟨rfl, rfl⟩
  case inr.inr.inr.inr =>
   go_wp2
   go_ret
   exact ⟨rfl, rfl⟩
  all_goals
   go_wp2
   go_roundw
   case rel => simp
   case measure => simp [intOf]
theorem made_bytes (n : Nat) : madeCells #[.int .u8 0] n = (bcells (List.replicate n 0)).toArray := by
 apply Array.ext
 ·simp [madeCells]
 ·intro i h1 h2
  simp [madeCells, bcells, Nat.mod_one]
theorem make_bytes (l c : Nat) (hl : l ≤ c) (hc : c ≤ 1000) (w : World) : (Instr.makeSlice 34 (.int .i64 (l : Int)) (.int .i64 (c : Int))).run Tryz.prog w = .ok (.slice (some ⟨w.heap.size, 0, none⟩) l c) (w.alloc (.cells (bcells (List.replicate c 0)).toArray 5)) := by
 obtain ⟨i, hi, hz, h1, h2⟩ := info_parts elem8.hi
 have := run_make (P := Tryz.prog) w 34 5 i _ elem8.ht hi hz .i64 .i64 (l : Int) (c : Int) (by omega) (by omega) (by rw [h2]; omega) (by omega)
 rw [show (Value.int .u8 0).cells = #[.int .u8 0] from rfl, made_bytes, h1] at this
 simpa using this
set_option maxHeartbeats 1000000 in
theorem big64_any (x : Nat) (w : World) (hx : x < 18446744073709551616) :
  Calls Tryz.prog 122 #[.int .u64 (x : Int)] w fun e w' => Below w.heap.size w w' ∧ e = .returned (.slice (some ⟨w.heap.size, 0, none⟩) 8 8) ∧ Own w' w.heap.size 5 (.slice (some ⟨w.heap.size, 0, none⟩) 8 8) (bigL x 8) := by
 have HX := hide hx
 clear hx
 have hmk := make_bytes 8 8 (by omega) (by omega)
 have HMK := hide (fun w => show (Instr.makeSlice 34 (.int .i64 8) (.int .i64 8)).run Tryz.prog w = .ok (.slice (some ⟨w.heap.size, 0, none⟩) 8 8) (w.alloc (.cells (bcells (List.replicate 8 0)).toArray 5)) from hmk w)
 clear hmk
 obtain ⟨Z, hZ⟩ : ∃ Z, Z = (bcells (List.replicate 8 0)).toArray := ⟨_, rfl⟩
 rw [← hZ] at HMK
 have HZ := hide hZ
 clear hZ
 have hmk := HMK.out
 go_enter Tryz.func122, Tryz.ntmps122
 go_wp2_with fail
 refine (width64_any w).mono ?_
 rintro e w1 ⟨rfl, rfl⟩
 go_wp2
 have HI := hide (show Blk (w.alloc (.cells Z 5)) w.heap.size 5 (bcells (bigF x 8 0)).toArray by rw [bigF_zero, ← HZ.out]; exact Blk.new _ _ _)
 go_loopw [11] (fun u11 wr => ∃ i : Nat, i ≤ 8 ∧ u11 = .int .i64 (i : Int) ∧ Blk wr w.heap.size 5 (bcells (bigF x 8 i)).toArray ∧ Below w.heap.size w wr) (fun i _ => 8 - (intOf i).toNat)
 case atStart => exact ⟨0, by omega, rfl, HI.out, (Below.refl _ w).alloc (Nat.le_refl _) _⟩
 case round =>
  clear HI
  obtain ⟨i, hi, rfl, hb, hbel⟩ := hrel
  have HB := hide hb
  clear hb
  by_cases hlt : i < 8
  ·obtain ⟨j, hj⟩ : ∃ j, j = 7 - i := ⟨_, rfl⟩
   have e1 : (7 : Int) - (i : Int) = (j : Int) := by omega
   have e3 : (j : Int) < 8 := by omega
   have e4 : (0 : Int) ≤ (j : Int) := by omega
   have e5 : (i : Int) < 8 := by omega
   have gs := HB.out.frozen j
   obtain ⟨z, hz⟩ : ∃ z, wr.cell? ⟨w.heap.size, j, none⟩ = some z := ⟨_, (HB.out.cell j).trans (Array.getElem?_eq_getElem (by simp [bigF_length]; omega))⟩
   have HJ := hide hj
   clear hj
   go_wp2
   go_roundw
   case rel =>
    refine ⟨i + 1, by omega, by go_num, ?_, hbel.setCell (Nat.le_refl _) _⟩
    rw [← bigF_cells x 8 i j hlt (by have := HJ.out; omega)]
    exact HB.out.set_ j _
   case measure => simp [intOf]; omega
  ·have hi8 : i = 8 := by omega
   subst hi8
   go_wp2
   go_ret
   refine ⟨hbel, rfl, ?_⟩
   have hh := HB.out
   rw [bigF_full] at hh
   have h2 := hh.own (base := w.heap.size) (n := 8) (cap := 8) (sz := 1) rfl (Nat.le_refl _) (by simp) (Nat.le_refl _) (by unfold maxLen; omega)
   unfold Own
   rw [bigL_length]
   rw [List.take_of_length_le (by simp)] at h2
   simpa using h2
set_option maxHeartbeats 1000000 in
theorem big32_any (x : Nat) (w : World) (hx : x < 4294967296) :
  Calls Tryz.prog 61 #[.int .u32 (x : Int)] w fun e w' => Below w.heap.size w w' ∧ e = .returned (.slice (some ⟨w.heap.size, 0, none⟩) 4 4) ∧ Own w' w.heap.size 5 (.slice (some ⟨w.heap.size, 0, none⟩) 4 4) (bigL x 4) := by
 have hw : IntKind.u64.wrap (x : Int) = (x : Int) := by simp [IntKind.wrap, IntKind.bits, IntKind.signed]; omega
 have HX := hide hx
 clear hx
 have hmk := make_bytes 4 4 (by omega) (by omega)
 have HMK := hide (fun w => show (Instr.makeSlice 34 (.int .i64 4) (.int .i64 4)).run Tryz.prog w = .ok (.slice (some ⟨w.heap.size, 0, none⟩) 4 4) (w.alloc (.cells (bcells (List.replicate 4 0)).toArray 5)) from hmk w)
 clear hmk
 obtain ⟨Z, hZ⟩ : ∃ Z, Z = (bcells (List.replicate 4 0)).toArray := ⟨_, rfl⟩
 rw [← hZ] at HMK
 have HZ := hide hZ
 clear hZ
 have hmk := HMK.out
 go_enter Tryz.func61, Tryz.ntmps61
 go_wp2_with fail
 refine (width32_any w).mono ?_
 rintro e w1 ⟨rfl, rfl⟩
 go_wp2
 have HI := hide (show Blk (w.alloc (.cells Z 5)) w.heap.size 5 (bcells (bigF x 4 0)).toArray by rw [bigF_zero, ← HZ.out]; exact Blk.new _ _ _)
 go_loopw [11] (fun u11 wr => ∃ i : Nat, i ≤ 4 ∧ u11 = .int .i64 (i : Int) ∧ Blk wr w.heap.size 5 (bcells (bigF x 4 i)).toArray ∧ Below w.heap.size w wr) (fun i _ => 4 - (intOf i).toNat)
 case atStart => exact ⟨0, by omega, rfl, HI.out, (Below.refl _ w).alloc (Nat.le_refl _) _⟩
 case round =>
  clear HI
  obtain ⟨i, hi, rfl, hb, hbel⟩ := hrel
  have HB := hide hb
  clear hb
  by_cases hlt : i < 4
  ·obtain ⟨j, hj⟩ : ∃ j, j = 3 - i := ⟨_, rfl⟩
   have e1 : (3 : Int) - (i : Int) = (j : Int) := by omega
   have e3 : (j : Int) < 4 := by omega
   have e4 : (0 : Int) ≤ (j : Int) := by omega
   have e5 : (i : Int) < 4 := by omega
   have gs := HB.out.frozen j
   obtain ⟨z, hz⟩ : ∃ z, wr.cell? ⟨w.heap.size, j, none⟩ = some z := ⟨_, (HB.out.cell j).trans (Array.getElem?_eq_getElem (by simp [bigF_length]; omega))⟩
   have HJ := hide hj
   clear hj
   go_wp2
   go_roundw
   case rel =>
    refine ⟨i + 1, by omega, by go_num, ?_, hbel.setCell (Nat.le_refl _) _⟩
    rw [← bigF_cells x 4 i j hlt (by have := HJ.out; omega)]
    exact HB.out.set_ j _
   case measure => simp [intOf]; omega
  ·have hi4 : i = 4 := by omega
   subst hi4
   go_wp2
   go_ret
   refine ⟨hbel, rfl, ?_⟩
   have hh := HB.out
   rw [bigF_full] at hh
   have h2 := hh.own (base := w.heap.size) (n := 4) (cap := 4) (sz := 1) rfl (Nat.le_refl _) (by simp) (Nat.le_refl _) (by unfold maxLen; omega)
   unfold Own
   rw [bigL_length]
   rw [List.take_of_length_le (by simp)] at h2
   simpa using h2
set_option maxHeartbeats 1000000 in
theorem rbig_any (x n : Nat) (w : World) (hx : x < 18446744073709551616) (hn : n ≤ 8) :
  Calls Tryz.prog 86 #[.int .u64 (x : Int), .int .i64 (n : Int)] w fun e w' => ∃ v, e = .returned v ∧ Own w' w.heap.size 5 v (bigL x n) ∧ Below w.heap.size w w' := by
 have HX := hide hx
 clear hx
 go_enter Tryz.func86, Tryz.ntmps86
 go_wp2
 go_loopw [5, 6] (fun u5 u6 wr => ∃ i : Nat, i ≤ n ∧ u6 = .int .i64 ((n : Int) - 1 - (i : Int)) ∧ Own wr w.heap.size 5 u5 ((bigL x n).take i) ∧ Below w.heap.size w wr) (fun _ u6 _ => (intOf u6 + 1).toNat)
 case atStart => exact ⟨0, by omega, by simp, Own.nil _ _ _, Below.refl _ _⟩
 case round =>
  obtain ⟨i, hi, rfl, ho, hbel⟩ := hrel
  have HO := hide ho
  clear ho
  by_cases hlt : i < n
  ·obtain ⟨j, hj⟩ : ∃ j, j = n - 1 - i := ⟨_, rfl⟩
   have e1 : (n : Int) - 1 - (i : Int) = (j : Int) := by omega
   have e3 : (j : Int) < 8 := by omega
   have e4 : (0 : Int) ≤ (j : Int) := by omega
   have hlen : ((bigL x n).take i).length + 1 ≤ 140737488355328 := by rw [List.length_take, bigL_length]; omega
   have HLEN := hide hlen
   have HV := hide (show ((x : Int) / 2 ^ (8 * j) % 256) = ((UInt8.ofNat (x / 256 ^ (n - 1 - i))).toNat : Int) by rw [byte_of, hj])
   have HT := hide (bigL_take x n i hlt)
   clear hj hlen
   rw [e1]
   go_wp2_with (at_builtin; go_loud (rw [HV.out]; refine wpList_pushB elem8 HO.out hbel hbel.size HLEN.out (UInt8.ofNat (x / 256 ^ (n - 1 - i))) rfl _ _ rfl rfl rfl ?_); intro v1 w1 hown1 hbel1 _ _)
   go_roundw
   case rel => exact ⟨i + 1, by omega, by rw [← e1, Int.natCast_add, Int.sub_sub ((n : Int) - 1)]; rfl, by rw [HT.out]; exact hown1, hbel1⟩
   case measure => simp [intOf] <;> omega
  ·have hin : i = n := by omega
   subst hin
   have e1 : (i : Int) - 1 - (i : Int) = -1 := by omega
   rw [e1]
   go_wp2
   go_ret
   refine ⟨_, rfl, ?_, hbel⟩
   have := HO.out
   rwa [List.take_of_length_le (by simp)] at this
end Go.Proofs.YtdohebhbiokljaaGreatDoor
namespace Go.Proofs.YtdohebhbiokljaaGreatDoor
open Go.RowKit
theorem Own.alloc {w : World} {base : Nat} {e : TypeId} {v : Value} {l : List UInt8} (h : Own w base e v l) (o : Obj) : Own (w.alloc o) base e v l := World.ownsRow.alloc h o
end Go.Proofs.YtdohebhbiokljaaGreatDoor
namespace Go.Proofs.YtdohebhbiokljaaGreatDoor
open Go.RowKit
theorem run_append_none {P : Program} (w : World) (t ty e : TypeId) (i : TypeInfo) (ht : P.underlying t = some (.slice e)) (hi : P.info? e = some i) (A : Option Addr) (n c d : Nat) (hn : n ≤ c) :
  (Builtin.append_ #[t, t] ty #[.slice A n c, .slice none 0 d]).run P w = .ok (.slice A n c) w := by
 cases A with
 | none => simp [Builtin.append_, run_underlying ht, sizeOf, typeInfo, hi, Builtin.lenOf, Builtin.firstCells, loadCells, loadCellsFrom, storeCells, hn]
 | some a => simp [Builtin.append_, run_underlying ht, sizeOf, typeInfo, hi, Builtin.lenOf, Builtin.firstCells, loadCells, loadCellsFrom, storeCells, hn]
theorem run_pushS {P : Program} {t e : TypeId} {z : Value} {bytes : Nat} (T : Elem1 P t e z bytes) (ty : TypeId) {w : World} {base : Nat} {v : Value} {n : Nat} {xs : List Value} (hown : w.ownsRow base e 1 v n xs)
  {u : Value} {m : Nat} {ys : List Value} (hu : Sl w 1 u m ys) (h63 : n + m ≤ maxLen) (hbytes : (n + m) * bytes ≤ 140737488355328) (hbase : base ≤ w.heap.size) (h1 : ∀ y ∈ ys, y.oneCell' = true) :
  ∃ v' w', (Builtin.append_ #[t, t] ty #[v, u]).run P w = .ok v' w' ∧ w'.ownsRow base e 1 v' (n + m) (xs ++ ys) ∧ w.grownBy w' v.ownBlock ∧ (v'.ownBlock = v.ownBlock ∨ v'.ownBlock = some w.heap.size) := by
 obtain ⟨i, hi, hz, hs, hb⟩ := info_parts T.hi
 obtain ⟨hl, A, c, rfl, hc, hm, hcell⟩ := hu
 have hpos : (∃ ad, A = some ad ∧ ∀ (j : Nat) (x : Value), ys[j]? = some x → w.cell? (ad.add j) = some x) ∨ (A = none ∧ m = 0) := by
  rcases Nat.eq_zero_or_pos m with h0 | h0
  ·subst h0
   cases A with
   | none => exact .inr ⟨rfl, rfl⟩
   | some ad =>
    have : ys = [] := List.eq_nil_of_length_eq_zero (by simpa using hl)
    subst this
    exact .inl ⟨ad, rfl, fun j x hx => by simp at hx⟩
  ·obtain ⟨b, o, rfl, _, hcs⟩ := hcell h0
   refine .inl ⟨_, rfl, fun j x hx => ?_⟩
   have hj := (List.getElem?_eq_some_iff.1 hx).1
   have ea : (⟨b, o, none⟩ : Addr).add j = ⟨b, o + j, none⟩ := by simp [Addr.add]
   rw [ea, hcs j (by omega), hx]
 rcases hpos with ⟨ad, rfl, hcs⟩ | ⟨rfl, rfl⟩
 ·obtain ⟨v', w', h2, h3, h4, -, h5⟩ := run_append_own_at (P := P) w base t ty e i z 1 bytes T.ht hi hz hs hb T.hz (by omega) v n xs hown ad m c ys hl hcs h1 h63 hbytes hbase
  exact ⟨v', w', h2, h3, h4, h5⟩
 ·have : ys = [] := List.eq_nil_of_length_eq_zero (by simpa using hl)
  subst this
  obtain ⟨_, A', c', rfl, hn, -⟩ := Sl.of_own hown
  exact ⟨_, w, run_append_none w t ty e i T.ht hi A' n c' c hn, by simpa using hown, ⟨rfl, rfl, rfl, Nat.le_refl _, fun _ _ _ => rfl⟩, .inl rfl⟩
theorem wpList_pushV {P : Program} {t e : TypeId} (T : Elem1 P t e (.int .u8 0) 1) {w : World} {base : Nat} {v : Value} {l : List UInt8} (hown : Own w base e v l)
  {w0 : World} (hb : Below base w0 w) (hbase : base ≤ w.heap.size) {u : Value} {m : List UInt8} (hu : By w u m) (hlen : l.length + m.length ≤ 140737488355328)
  {ops : Array Oper} {rest : List Oper} {o : Oper} {a : Act} {Q : Exit → Act → World → Prop} (hgd : o.guard = none) (s y : Operand)
  (ho : o.op = .call { callee := .builtin .append, args := #[s, y], argTypes := #[t, t] }) (hs : a.eval s = v) (hx : a.eval y = u)
  (h : ∀ v' w', Own w' base e v' (l ++ m) → Below base w0 w' → w.grownBy w' v.ownBlock → (v'.ownBlock = v.ownBlock ∨ v'.ownBlock = some w.heap.size) → wpList P ops Q rest (a.put o.dst v') w') :
  wpList P ops Q (o :: rest) a w := by
 refine wpList_plain hgd fun K hK => ?_
 obtain ⟨v', w', hrun, h3, h4, h6⟩ := run_pushS (P := P) T o.type hown hu (by unfold maxLen; omega) (by omega) hbase fun x hx => by
  obtain ⟨x, _, rfl⟩ := List.mem_map.1 hx
  rfl
 unfold Oper.wp execOp
 simp only [ho, resolve, invoke, builtin, Sem.run_bind, Sem.run_pure, Result.andThen_ok, List.map_toArray, List.map_cons, List.map_nil, hs, hx, hrun]
 refine hK _ _ (h v' w' ?_ (hb.grown h4 hbase fun k hk => (hown.lt k hk).1) h4 h6)
 unfold Own
 rw [bcells_append, List.length_append]
 exact h3
end Go.Proofs.YtdohebhbiokljaaGreatDoor
namespace Go.Proofs.YtdohebhbiokljaaGreatDoor
open Go.RowKit
abbrev lst (s : ByteArray) : List UInt8 := s.data.toList
theorem lst_len (s : ByteArray) : (lst s).length = s.size := by simp [lst]
end Go.Proofs.YtdohebhbiokljaaGreatDoor
namespace Go.Proofs.YtdohebhbiokljaaGreatDoor
open Go.RowKit
theorem by_row {w : World} {g : Nat} {cs : Array Value} {e : TypeId} {f : Nat × Nat} {l : List UInt8} {c : Nat} (hh : w.heap[g]? = some (.cells cs e f)) (hc : l.length ≤ c) (hm : c ≤ maxLen)
  (hcs : ∀ j, j < l.length → cs[j]? = (bcells l)[j]?) : By w (.slice (some ⟨g, 0, none⟩) l.length c) l := by
 refine ⟨by simp, _, c, rfl, hc, hm, fun _ => ⟨g, 0, rfl, ?_, fun j hj => ?_⟩⟩
 ·rcases Nat.lt_or_ge g w.heap.size with h | h
  ·exact h
  ·simp [Array.getElem?_eq_none h] at hh
 ·rw [Nat.zero_add, cell_of_row w g j cs e f hh]
  exact hcs j (by omega)
theorem by_marked (w : World) (e : TypeId) (f : Nat × Nat) (l : List UInt8) (h : l.length ≤ 1000) : By (w.alloc (.cells (bcells l).toArray e f)) (.slice (some ⟨w.heap.size, 0, none⟩) l.length l.length) l :=
 by_row (heap_alloc_new w _) (Nat.le_refl _) (by unfold maxLen; omega) fun j hj => by simp
theorem by_ofstr (w : World) (e : TypeId) (s : ByteArray) (f : Nat × Nat) (h : s.size ≤ maxLen) : By (w.drew.alloc (.cells (bytesRow s (grownCap w s.size 0 e)) e f)) (.slice (some ⟨w.heap.size, 0, none⟩) s.size (grownCap w s.size 0 e)) (lst s) := by
 have := by_row (w := w.drew.alloc (.cells (bytesRow s (grownCap w s.size 0 e)) e f)) (g := w.heap.size) (l := lst s) (c := grownCap w s.size 0 e) (heap_alloc_new w.drew _) (by rw [lst_len]; exact grownCap_ge ..) (grownCap_le_maxLen _ _ _ _ h) fun j hj => by
  rw [lst_len] at hj
  unfold bytesRow bcells lst
  rw [Array.getElem?_append_left (by simp; omega)]
  simp
 rwa [lst_len] at this
theorem run_bytes_str {P : Program} (src dst e : TypeId) (s : ByteArray) (w : World) (hs : P.underlying src = some .string) (hd : P.underlying dst = some (.slice e)) (he : P.underlying e = some (.int .u8)) (h : s.size ≤ maxLen) :
  ∃ g c w', (convert src dst (.string s)).run P w = .ok (.slice (some ⟨g, 0, none⟩) s.size c) w' ∧ By w' (.slice (some ⟨g, 0, none⟩) s.size c) (lst s) ∧ Below w.heap.size w w' ∧ g = w.heap.size ∧ w'.heap.size = w.heap.size + 1 ∧ s.size ≤ c ∧ c ≤ maxLen :=
 ⟨_, _, _, run_bytes_of_string w src dst e s hs hd he, by_ofstr w e s _ h, (Below.refl _ w).drew.alloc (Nat.le_refl _) _, rfl, by simp, grownCap_ge .., grownCap_le_maxLen _ _ _ _ h⟩
end Go.Proofs.YtdohebhbiokljaaGreatDoor
namespace Go.Proofs.YtdohebhbiokljaaGreatDoor
open Go.RowKit
theorem own_zero (w : World) (n c : Nat) (h1 : n ≤ c) (h2 : c ≤ maxLen) :
  Own (w.alloc (.cells (Builtin.zeroCells #[.int .u8 0] n ++ Builtin.zeroCells #[.int .u8 0] (c - n)) 5)).drew w.heap.size 5 (.slice (some ⟨w.heap.size, 0, none⟩) 0 c) [] := by
 have := (Blk.new w 5 (Builtin.zeroCells #[.int .u8 0] n ++ Builtin.zeroCells #[.int .u8 0] (c - n))).drew.own (base := w.heap.size) (e := 5) (n := 0) (cap := c) (sz := 1) rfl (Nat.le_refl _) (by simp [size_zeroCells]; omega) (Nat.zero_le _) h2
 simpa [Own, bcells] using this
set_option maxRecDepth 100000 in
set_option maxHeartbeats 1000000 in
theorem grow_any (n : Nat) (w : World) (hn : n ≤ 1099511627776) :
  Calls Tryz.prog 90 #[.slice none 0 0, .int .i64 (n : Int)] w fun e w' => ∃ v, e = .returned v ∧ Own w' w.heap.size 5 v [] ∧ Below w.heap.size w w' := by
 by_cases h0 : n = 0
 ·have g1 : (n : Int) = 0 := by omega
  rw [g1]
  go_enter Tryz.func90, Tryz.ntmps90
  go_wp2
  go_ret
  exact ⟨_, rfl, Own.nil _ _ _, Below.refl _ _⟩
 ·have g1 : ¬ (n : Int) < 0 := by omega
  have g2 : (0 : Int) < (n : Int) := by omega
  have g3 : ¬ (281474976710656 : Int) < (n : Int) * ((Tryz.t5).bytes : Int) := by
   have : ((Tryz.t5).bytes : Int) = 1 := by kernel_rfl
   rw [this]; omega
  have g4 : ¬ 281474976710656 < Builtin.nextslicecap n 0 * (Tryz.t5).bytes := by
   have h1 : (Tryz.t5).bytes = 1 := by kernel_rfl
   have h2 : Builtin.nextslicecap n 0 = n := by unfold Builtin.nextslicecap; simp; omega
   rw [h1, h2]; omega
  go_enter Tryz.func90, Tryz.ntmps90
  go_wp2
  go_ret
  refine ⟨_, rfl, ?_, ?_⟩
  ·exact own_zero w n _ (grownCap_ge w n 0 5) (grownCap_le_maxLen w n 0 5 (by unfold maxLen; omega))
  ·exact ((Below.refl _ w).alloc (Nat.le_refl _) _).drew
def Lsts (w : World) (v : Value) (L : List (Value × List UInt8)) : Prop := Sl w 1 v L.length (L.map (·.1)) ∧ ∀ x ∈ L, By w x.1 x.2
theorem Lsts.below {w w' : World} {v : Value} {L : List (Value × List UInt8)} (h : Lsts w v L) (hb : Below w.heap.size w w') : Lsts w' v L := ⟨h.1.below hb, fun x hx => (h.2 x hx).below hb⟩
def total (L : List (Value × List UInt8)) : Nat := (L.map (·.2.length)).sum
def cat (L : List (Value × List UInt8)) : List UInt8 := L.flatMap (·.2)
theorem total_snoc (L : List (Value × List UInt8)) (x : Value × List UInt8) : total (L ++ [x]) = total L + x.2.length := by simp [total]
theorem cat_snoc (L : List (Value × List UInt8)) (x : Value × List UInt8) : cat (L ++ [x]) = cat L ++ x.2 := by simp [cat]
theorem cat_length (L : List (Value × List UInt8)) : (cat L).length = total L := by
 induction L with
 | nil => rfl
 | cons x L ih => simp only [cat, total, List.flatMap_cons, List.length_append, List.map_cons, List.sum_cons] at ih ⊢; omega
theorem total_take (L : List (Value × List UInt8)) (k : Nat) : total (L.take k) ≤ total L := by
 have : total L = total (L.take k) + total (L.drop k) := by
  unfold total
  conv => lhs; rw [← List.take_append_drop k L, List.map_append, List.sum_append]
 omega
set_option maxRecDepth 100000 in
set_option maxHeartbeats 1000000 in
theorem concat_any (v : Value) (L : List (Value × List UInt8)) (w : World) (h : Lsts w v L) (ht : total L ≤ 1099511627776) :
  Calls Tryz.prog 66 #[v] w fun e w' => ∃ v', e = .returned v' ∧ Own w' w.heap.size 5 v' (cat L) ∧ Below w.heap.size w w' := by
 have HL := hide h
 obtain ⟨A, c, rfl, hc, hm, hcell⟩ := h.1.form
 have HC := hide hcell
 have HT := hide ht
 unfold maxLen at hm
 clear h hcell ht
 go_enter Tryz.func66, Tryz.ntmps66
 go_wp2
 go_loopw [3, 11] (fun u3 u11 wr => ∃ k t : Nat, k ≤ L.length ∧ u11 = .int .i64 k ∧ u3 = .int .i64 (t : Int) ∧ t = total (L.take k) ∧ w = wr) (fun _ i _ => L.length - (intOf i).toNat)
 case atStart => exact ⟨0, 0, by omega, rfl, rfl, by simp [total], rfl⟩
 case round =>
  obtain ⟨k, t, hk, rfl, rfl, ht, rfl⟩ := hrel
  have hle := total_take L k
  rw [← ht] at hle
  have HT2 := hide ht
  have hle2 : t ≤ 1099511627776 := Nat.le_trans hle HT.out
  clear ht hle
  by_cases hlt : k < L.length
  ·obtain ⟨x, hx⟩ : ∃ x, L[k]? = some x := ⟨_, List.getElem?_eq_getElem hlt⟩
   obtain ⟨b, o, rfl, hbl, hcs⟩ := HC.out (by omega)
   have hcx : w.cell? ⟨b, o + k, none⟩ = some x.1 := by rw [hcs k (by omega)]; simp [hx]
   have hby := HL.out.2 x (List.mem_of_getElem? hx)
   have hsum : total (L.take (k + 1)) = t + x.2.length := by rw [take_snoc L k x hx, total_snoc, HT2.out]
   have hle3 := total_take L (k + 1)
   rw [hsum] at hle3
   have hle4 : t + x.2.length ≤ 1099511627776 := Nat.le_trans hle3 HT.out
   obtain ⟨A2, c2, hv2, _⟩ := hby.form
   rw [hv2] at hcx
   have HS := hide hsum
   clear hby hcs hx hv2 hsum hle3
   obtain ⟨y, hy⟩ : ∃ y : Nat, y = x.2.length := ⟨_, rfl⟩
   rw [← hy] at hcx hle4
   have HY := hide hy
   have i1 : (k : Int) < (L.length : Int) := by omega
   have i2 : (0 : Int) ≤ (k : Int) := by omega
   clear hy
   go_wp2
   go_roundw
   case rel => exact ⟨k + 1, t + y, by omega, by go_num, by go_num, by rw [HS.out, HY.out], trivial⟩
   case measure => simp [intOf]; omega
  ·have hge : ¬ (k : Int) < (L.length : Int) := by omega
   have hks : k = L.length := by omega
   have htl : t = total L := by rw [HT2.out, hks, List.take_length]
   have HQ := hide (grow_any t w (by omega))
   have HK := hide htl
   clear hks htl HT2
   go_wp2_with fail
   refine HQ.out.mono ?_
   rintro e w1 ⟨v0, rfl, o1, b1⟩
   have HO1 := hide o1
   clear HQ o1 hge hlt hk
   go_wp2_with fail
   go_loopw [6, 27] (fun u6 u27 wr => ∃ k : Nat, k ≤ L.length ∧ u27 = .int .i64 k ∧ Own wr w.heap.size 5 u6 (cat (L.take k)) ∧ Below w.heap.size w wr) (fun _ i _ => L.length - (intOf i).toNat)
   case atStart => exact ⟨0, by omega, rfl, HO1.out, b1⟩
   case round =>
    obtain ⟨k, hk, rfl, ho, hb⟩ := hrel
    have HO := hide ho
    clear ho
    by_cases hlt : k < L.length
    ·obtain ⟨x, hx⟩ : ∃ x, L[k]? = some x := ⟨_, List.getElem?_eq_getElem hlt⟩
     obtain ⟨b, o, rfl, hbl, hcs⟩ := HC.out (by omega)
     have hcx : wr.cell? ⟨b, o + k, none⟩ = some x.1 := by rw [hb.cell (p := ⟨b, o + k, none⟩) hbl, hcs k (by omega)]; simp [hx]
     have hby := (HL.out.2 x (List.mem_of_getElem? hx)).below hb
     have hsum : total (L.take (k + 1)) = total (L.take k) + x.2.length := by rw [take_snoc L k x hx, total_snoc]
     have hle3 := total_take L (k + 1)
     have hlen : (cat (L.take k)).length + x.2.length ≤ 140737488355328 := by
      rw [cat_length, ← hsum]
      have := HT.out
      omega
     have hcat : cat (L.take (k + 1)) = cat (L.take k) ++ x.2 := by rw [take_snoc L k x hx, cat_snoc]
     have HCAT := hide hcat
     have HY := hide hby
     obtain ⟨A2, c2, hv2, _⟩ := hby.form
     rw [hv2] at hcx
     have HV := hide hv2
     have HLEN := hide hlen
     clear hby hcs hx hv2 hsum hle3 hcat hlen
     obtain ⟨y, hy⟩ : ∃ y : Nat, y = x.2.length := ⟨_, rfl⟩
     rw [← hy] at hcx
     have HY2 := hide hy
     have i1 : (k : Int) < (L.length : Int) := by omega
     have i2 : (0 : Int) ≤ (k : Int) := by omega
     clear hy
     go_wp2_with (at_builtin; go_loud (refine wpList_pushV elem8 HO.out hb hb.size HY.out HLEN.out rfl _ _ rfl rfl (by rw [HV.out, ← HY2.out]; rfl) ?_); intro v1 w1 hown1 hbel1 hgr1 _)
     go_roundw
     case rel => exact ⟨k + 1, by omega, by go_num, by rw [HCAT.out]; exact hown1, hbel1⟩
     case measure => simp [intOf]; omega
    ·have hge : ¬ (k : Int) < (L.length : Int) := by omega
     have hks : k = L.length := by omega
     have hend := HO.out
     rw [hks, List.take_length] at hend
     have HE := hide hend
     clear hks hend HO
     go_wp2
     go_ret
     exact ⟨_, rfl, HE.out, hb⟩
end Go.Proofs.YtdohebhbiokljaaGreatDoor
namespace Go.Proofs.YtdohebhbiokljaaGreatDoor
open Go.RowKit
def tagB : Nat → ByteArray
 | 1 => ⟨#[115, 116, 114, 111, 110, 103, 114, 111, 111, 109, 32, 107, 101, 121]⟩
 | 2 => ⟨#[115, 116, 114, 111, 110, 103, 114, 111, 111, 109, 32, 105, 110, 100, 101, 120]⟩
 | 3 => ⟨#[115, 116, 114, 111, 110, 103, 114, 111, 111, 109, 32, 98, 108, 111, 99, 107]⟩
 | 4 => ⟨#[115, 116, 114, 111, 110, 103, 114, 111, 111, 109, 32, 115, 101, 103, 109, 101, 110, 116]⟩
 | 5 => ⟨#[115, 116, 114, 111, 110, 103, 114, 111, 111, 109, 32, 114, 111, 111, 116]⟩
 | 6 => ⟨#[115, 116, 114, 111, 110, 103, 114, 111, 111, 109, 32, 110, 111, 100, 101]⟩
 | 7 => ⟨#[115, 116, 114, 111, 110, 103, 114, 111, 111, 109, 32, 112, 97, 100]⟩
 | 8 => ⟨#[115, 116, 114, 111, 110, 103, 114, 111, 111, 109, 32, 117, 101, 98]⟩
 | 9 => ⟨#[115, 116, 114, 111, 110, 103, 114, 111, 111, 109, 32, 114, 105, 110, 103]⟩
 | _ => ⟨#[]⟩
def frameL (l : List UInt8) : List UInt8 := bigL l.length 8 ++ l
@[simp] theorem frameL_length (l : List UInt8) : (frameL l).length = l.length + 8 := by simp [frameL]; omega
def framedL (L : List (List UInt8)) : List UInt8 := L.flatMap frameL
theorem framedL_snoc (L : List (List UInt8)) (x : List UInt8) : framedL (L ++ [x]) = framedL L ++ frameL x := by simp [framedL]
theorem framedL_length (L : List (List UInt8)) : (framedL L).length = (L.map List.length).sum + 8 * L.length := by
 induction L with
 | nil => rfl
 | cons x L ih => simp only [framedL, List.flatMap_cons, List.length_append, frameL_length, List.map_cons, List.sum_cons, List.length_cons] at ih ⊢; omega
set_option maxHeartbeats 1000000 in
theorem word_any (t : Nat) (ht : 1 ≤ t ∧ t ≤ 9) (w : World) : Calls Tryz.prog 111 #[.int .u8 (t : Int)] w fun e w' => e = .returned (.string (tagB t)) ∧ w = w' := by
 obtain rfl | rfl | rfl | rfl | rfl | rfl | rfl | rfl | rfl : t = 1 ∨ t = 2 ∨ t = 3 ∨ t = 4 ∨ t = 5 ∨ t = 6 ∨ t = 7 ∨ t = 8 ∨ t = 9 := by omega
 all_goals
  go_enter Tryz.func111, Tryz.ntmps111
  go_wp2
  go_ret
  exact ⟨rfl, rfl⟩
set_option maxHeartbeats 1000000 in
theorem rword_any (t : Nat) (ht : 1 ≤ t ∧ t ≤ 9) (w : World) : Calls Tryz.prog 57 #[.int .u8 (t : Int)] w fun e w' => e = .returned (.string (tagB t)) ∧ w = w' := by
 obtain rfl | rfl | rfl | rfl | rfl | rfl | rfl | rfl | rfl : t = 1 ∨ t = 2 ∨ t = 3 ∨ t = 4 ∨ t = 5 ∨ t = 6 ∨ t = 7 ∨ t = 8 ∨ t = 9 := by omega
 all_goals
  go_enter Tryz.func57, Tryz.ntmps57
  go_wp2
  go_ret
  exact ⟨rfl, rfl⟩
set_option maxHeartbeats 1000000 in
theorem rframe_any (v : Value) (l : List UInt8) (w : World) (hv : By w v l) (hl : l.length ≤ 1099511627776) :
  Calls Tryz.prog 59 #[v] w fun e w' => ∃ v', e = .returned v' ∧ Own w' w.heap.size 5 v' (frameL l) ∧ Below w.heap.size w w' := by
 obtain ⟨A, c, rfl, -, -, -⟩ := hv.form
 obtain ⟨n, hn⟩ : ∃ n, n = l.length := ⟨_, rfl⟩
 rw [← hn] at hv hl ⊢
 have HV := hide (And.intro hv hn)
 have c3 : IntKind.u64.wrap (n : Int) = (n : Int) := by simp [IntKind.wrap, IntKind.bits, IntKind.signed]; omega
 have Q := hide (fun w => rbig_any n 8 w (by omega) (by omega))
 clear hv hn
 go_enter Tryz.func59, Tryz.ntmps59
 go_wp2_with first
  | (go_at_call 86; refine (Q.out _).mono ?_; rintro e w1 ⟨v1, rfl, o1, b1⟩; go_loud (have H1 := hide (And.intro o1 (And.intro b1 (HV.out.1.below b1))); clear o1 b1))
  | (at_builtin; go_loud (refine wpList_pushV elem8 H1.out.1 H1.out.2.1 H1.out.2.1.size H1.out.2.2 (by rw [bigL_length, ← HV.out.2]; omega) rfl _ _ rfl rfl rfl ?_); intro v2 w2 o2 b2 _ _)
 go_ret
 refine ⟨_, rfl, ?_, b2⟩
 unfold frameL
 rw [← HV.out.2]
 exact o2
def parts (L : List (Value × List UInt8)) : List (List UInt8) := L.map (·.2)
theorem parts_len (L : List (Value × List UInt8)) : ((parts L).map List.length).sum = total L := by simp [parts, total, List.map_map, Function.comp_def]
theorem framed_len (L : List (Value × List UInt8)) (k : Nat) (h : total L ≤ 1099511627776) (hk : L.length ≤ 1000000) : (framedL (parts (L.take k))).length ≤ 1200000000000 := by
 rw [framedL_length, parts_len]
 have := total_take L k
 simp [parts]
 omega
set_option maxRecDepth 100000 in
set_option maxHeartbeats 1000000 in
theorem framed_any (v : Value) (L : List (Value × List UInt8)) (w : World) (h : Lsts w v L) (ht : total L ≤ 1099511627776) (hk : L.length ≤ 1000000) :
  Calls Tryz.prog 113 #[v] w fun e w' => ∃ v', e = .returned v' ∧ Own w' w.heap.size 5 v' (framedL (parts L)) ∧ Below w.heap.size w w' := by
 have HL := hide h
 obtain ⟨A, c, rfl, hc, hm, hcell⟩ := h.1.form
 have HC := hide hcell
 have HT := hide (And.intro ht hk)
 unfold maxLen at hm
 clear h hcell ht hk
 go_enter Tryz.func113, Tryz.ntmps113
 go_wp2
 go_loopw [3, 8] (fun u3 u8 wr => ∃ k : Nat, k ≤ L.length ∧ u8 = .int .i64 k ∧ Own wr w.heap.size 5 u3 (framedL (parts (L.take k))) ∧ Below w.heap.size w wr) (fun _ i _ => L.length - (intOf i).toNat)
 case atStart => exact ⟨0, by omega, rfl, Own.nil _ _ _, Below.refl _ _⟩
 case round =>
  obtain ⟨k, hk, rfl, ho, hb⟩ := hrel
  have HO := hide ho
  clear ho
  by_cases hlt : k < L.length
  ·obtain ⟨x, hx⟩ : ∃ x, L[k]? = some x := ⟨_, List.getElem?_eq_getElem hlt⟩
   obtain ⟨b, o, rfl, hbl, hcs⟩ := HC.out (by omega)
   have hcx : wr.cell? ⟨b, o + k, none⟩ = some x.1 := by rw [hb.cell (p := ⟨b, o + k, none⟩) hbl, hcs k (by omega)]; simp [hx]
   have hby := HL.out.2 x (List.mem_of_getElem? hx)
   have hxt : x.2.length ≤ 1099511627776 := by
    have h1 := total_take L (k + 1)
    rw [take_snoc L k x hx, total_snoc] at h1
    have := HT.out.1
    omega
   have hfl := framed_len L k HT.out.1 HT.out.2
   have hcat : framedL (parts (L.take (k + 1))) = (framedL (parts (L.take k)) ++ bigL x.2.length 8) ++ x.2 := by
    rw [take_snoc L k x hx, parts, List.map_append, List.map_cons, List.map_nil, framedL_snoc, frameL, List.append_assoc]; rfl
   obtain ⟨A2, c2, hv2, -, -, -⟩ := hby.form
   rw [hv2] at hcx hby
   obtain ⟨y, hy⟩ : ∃ y : Nat, y = x.2.length := ⟨_, rfl⟩
   rw [← hy] at hcx hby hxt hcat
   have HX := hide (And.intro hby (And.intro hy (And.intro hcat hfl)))
   have c3 : IntKind.u64.wrap (y : Int) = (y : Int) := by simp [IntKind.wrap, IntKind.bits, IntKind.signed]; omega
   have Q := hide (fun w => big64_any y w (by omega))
   have i1 : (k : Int) < (L.length : Int) := by omega
   have i2 : (0 : Int) ≤ (k : Int) := by omega
   clear hby hcs hx hv2 hcat hfl hy
   go_wp2_with first
    | (go_at_call 122; refine (Q.out _).mono ?_; rintro e w1 ⟨b1, rfl, o1⟩; go_loud (have H1 := hide (And.intro (HO.out.below b1) (And.intro (hb.trans (b1.mono hb.size)) o1.by_)); clear b1 o1))
    | (at_builtin; go_loud (first
      | (refine wpList_pushV elem8 H1.out.1 H1.out.2.1 H1.out.2.1.size H1.out.2.2 (by have := HX.out.2.2.2; simp; omega) rfl _ _ rfl rfl rfl ?_; intro v2 w2 o2 b2 g2 _)
      | (refine wpList_pushV elem8 o2 b2 b2.size (HX.out.1.below b2) (by have := HX.out.2.2.2; have := HX.out.2.1; simp; omega) rfl _ _ rfl rfl rfl ?_; intro v3 w3 o3 b3 g3 _)))
   go_roundw
   case rel => exact ⟨k + 1, by omega, by go_num, by rw [HX.out.2.2.1]; exact o3, b3⟩
   case measure => simp [intOf]; omega
  ·have hkl : k = L.length := by omega
   subst hkl
   go_wp2
   go_ret
   refine ⟨_, rfl, ?_, hb⟩
   have := HO.out
   rwa [List.take_length] at this
end Go.Proofs.YtdohebhbiokljaaGreatDoor
namespace Go.Proofs.YtdohebhbiokljaaGreatDoor
open Go.RowKit
def one2 (t k : Nat) : Prop := (t = 2 ∧ k = 16) ∨ (t = 5 ∧ k = 32) ∨ (t = 7 ∧ k = 4)
theorem one2_in {t k : Nat} (h : one2 t k) : 1 ≤ t ∧ t ≤ 9 := by unfold one2 at h; omega
set_option maxHeartbeats 400000 in
theorem just_any (k : Int) (w : World) : Calls Tryz.prog 137 #[.int .i64 k] w fun e w' => ∃ p, e = .returned (.func (.func 153) #[] #[.pointer (some ⟨p, 0, none⟩)]) ∧ Below w.heap.size w w' ∧ Blk w' p 3 #[.int .i64 k] := by
 go_enter Tryz.func137, Tryz.ntmps137
 go_wp2
 go_ret
 exact ⟨_, rfl, (Below.refl _ w).alloc (Nat.le_refl _) _, Blk.new _ _ _⟩
set_option maxHeartbeats 400000 in
theorem just1_any (p : Nat) (k n : Int) (w : World) (h : w.cell? ⟨p, 0, none⟩ = some (.int .i64 k)) : Calls Tryz.prog 153 #[.int .i64 n, .pointer (some ⟨p, 0, none⟩)] w fun e w' => e = .returned (.bool (n == k)) ∧ w = w' := by
 go_enter Tryz.func153, Tryz.ntmps153
 go_wp2
 go_ret
 exact ⟨rfl, rfl⟩
set_option maxHeartbeats 2000000 in
theorem bounds_two (t k : Nat) (ht : one2 t k) (w : World) : Calls Tryz.prog 121 #[.int .u8 (t : Int)] w fun e w' => ∃ g p, e = .returned (.slice (some ⟨g, 0, none⟩) 1 1) ∧ Below w.heap.size w w' ∧ Blk w' g 175 #[.func (.func 153) #[] #[.pointer (some ⟨p, 0, none⟩)]] ∧ w'.cell? ⟨p, 0, none⟩ = some (.int .i64 (k : Int)) := by
 rcases ht with ⟨rfl, rfl⟩ | ⟨rfl, rfl⟩ | ⟨rfl, rfl⟩
 all_goals
  go_enter Tryz.func121, Tryz.ntmps121
  go_wp2_with fail
  refine (just_any _ w).mono ?_
  rintro e w1 ⟨p, rfl, b1, hp⟩
  have HP := hide hp
  have HB := hide b1
  clear hp b1
  go_wp2
  go_ret
  exact ⟨_, p, rfl, HB.out.alloc HB.out.size _, Blk.new _ _ _, ((HP.out.alloc _).cell 0).trans rfl⟩
set_option maxHeartbeats 2000000 in
theorem fit_two (t k : Nat) (ht : one2 t k) (b o c : Nat) (Ap : Option Addr) (cp : Nat) (w : World) (hb : b < w.heap.size) (hc : w.cell? ⟨b, o, none⟩ = some (.slice Ap k cp)) : Calls Tryz.prog 112 #[.int .u8 (t : Int), .slice (some ⟨b, o, none⟩) 1 c] w fun e w' => e = .returned (.bool true) ∧ Below w.heap.size w w' := by
 have Q := hide (fun w => bounds_two t k ht w)
 go_enter Tryz.func112, Tryz.ntmps112
 go_wp2_with fail
 refine (Q.out _).mono ?_
 rintro e w1 ⟨g, p, rfl, b1, hg, hp⟩
 have hc1 : w1.cell? ⟨b, o, none⟩ = some (.slice Ap k cp) := (b1.cell (p := ⟨b, o, none⟩) hb).trans hc
 have hc2 : w1.cell? ⟨g, 0, none⟩ = some (.func (.func 153) #[] #[.pointer (some ⟨p, 0, none⟩)]) := (hg.cell 0).trans rfl
 have HB := hide b1
 have QA := hide (just1_any p (k : Int) (k : Int) w1 hp)
 clear b1 hg hc hp
 go_wp2
 go_loopw [17] (fun u17 wr => (u17 = .int .i64 0 ∨ u17 = .int .i64 1) ∧ w1 = wr) (fun u17 _ => 1 - (intOf u17).toNat)
 case atStart => exact ⟨.inl rfl, rfl⟩
 case round =>
  obtain ⟨rfl | rfl, rfl⟩ := hrel
  ·go_wp2_with (go_at_call 153; refine QA.out.mono ?_; rintro e w2 ⟨rfl, rfl⟩; rw [show ((k : Int) == (k : Int)) = true from by simp])
   go_roundw
   case rel => exact ⟨.inr rfl, trivial⟩
   case measure => simp [intOf]
  ·go_wp2
   go_ret
   exact ⟨rfl, HB.out⟩
set_option maxHeartbeats 4000000 in
theorem rfits_two (t k : Nat) (ht : one2 t k) (b o c : Nat) (Ap : Option Addr) (cp : Nat) (w : World) (hc : w.cell? ⟨b, o, none⟩ = some (.slice Ap k cp)) : Calls Tryz.prog 58 #[.int .u8 (t : Int), .slice (some ⟨b, o, none⟩) 1 c] w fun e w' => e = .returned (.bool true) ∧ w = w' := by
 rcases ht with ⟨rfl, rfl⟩ | ⟨rfl, rfl⟩ | ⟨rfl, rfl⟩
 all_goals
  go_enter Tryz.func58, Tryz.ntmps58
  go_wp2
  go_ret
  exact ⟨rfl, rfl⟩
end Go.Proofs.YtdohebhbiokljaaGreatDoor
namespace Go.Proofs.YtdohebhbiokljaaGreatDoor
open Go.RowKit
theorem own_lower {w : World} {b b' : Nat} {e : TypeId} {v : Value} {l : List UInt8} (h : Own w b e v l) (hb : b' ≤ b) : Own w b' e v l := by
 obtain ⟨h1, h2 | ⟨g, cap, cur, hv, hg, r⟩⟩ := h
 ·exact ⟨h1, .inl h2⟩
 ·exact ⟨h1, .inr ⟨g, cap, cur, hv, Nat.le_trans hb hg, r⟩⟩
def one1 (t : Nat) : Prop := t = 3 ∨ t = 4 ∨ t = 8
theorem one1_in {t : Nat} (h : one1 t) : 1 ≤ t ∧ t ≤ 9 := by unfold one1 at h; omega
set_option maxHeartbeats 2000000 in
theorem rfits_one (t : Nat) (ht : one1 t) (A : Option Addr) (c : Nat) (w : World) : Calls Tryz.prog 58 #[.int .u8 (t : Int), .slice A 1 c] w fun e w' => e = .returned (.bool true) ∧ w = w' := by
 rcases ht with rfl | rfl | rfl
 all_goals
  go_enter Tryz.func58, Tryz.ntmps58
  go_wp2
  go_ret
  exact ⟨rfl, rfl⟩
set_option maxHeartbeats 2000000 in
theorem bounds_one (t : Nat) (ht : one1 t) (w : World) : Calls Tryz.prog 121 #[.int .u8 (t : Int)] w fun e w' => ∃ g, e = .returned (.slice (some ⟨g, 0, none⟩) 1 1) ∧ Below w.heap.size w w' ∧ Blk w' g 175 #[.func (.func 135) #[] #[]] := by
 rcases ht with rfl | rfl | rfl
 all_goals
  go_enter Tryz.func121, Tryz.ntmps121
  go_wp2
  go_ret
  exact ⟨_, rfl, (Below.refl _ w).alloc (Nat.le_refl _) _, Blk.new _ _ _⟩
set_option maxHeartbeats 400000 in
theorem bany_any (n : Int) (w : World) : Calls Tryz.prog 135 #[.int .i64 n] w fun e w' => e = .returned (.bool true) ∧ w = w' := by
 go_enter Tryz.func135, Tryz.ntmps135
 go_wp2
 go_ret
 exact ⟨rfl, rfl⟩
set_option maxHeartbeats 2000000 in
theorem fit_one (t : Nat) (ht : one1 t) (b o c : Nat) (Ap : Option Addr) (n cp : Nat) (w : World) (hb : b < w.heap.size) (hc : w.cell? ⟨b, o, none⟩ = some (.slice Ap n cp)) : Calls Tryz.prog 112 #[.int .u8 (t : Int), .slice (some ⟨b, o, none⟩) 1 c] w fun e w' => e = .returned (.bool true) ∧ Below w.heap.size w w' := by
 have Q := hide (fun w => bounds_one t ht w)
 have QA := hide (fun n w => bany_any n w)
 go_enter Tryz.func112, Tryz.ntmps112
 go_wp2_with fail
 refine (Q.out _).mono ?_
 rintro e w1 ⟨g, rfl, b1, hg⟩
 have hc1 : w1.cell? ⟨b, o, none⟩ = some (.slice Ap n cp) := (b1.cell (p := ⟨b, o, none⟩) hb).trans hc
 have hc2 : w1.cell? ⟨g, 0, none⟩ = some (.func (.func 135) #[] #[]) := (hg.cell 0).trans rfl
 have HB := hide b1
 clear b1 hg hc
 go_wp2
 go_loopw [17] (fun u17 wr => (u17 = .int .i64 0 ∨ u17 = .int .i64 1) ∧ w1 = wr) (fun u17 _ => 1 - (intOf u17).toNat)
 case atStart => exact ⟨.inl rfl, rfl⟩
 case round =>
  obtain ⟨rfl | rfl, rfl⟩ := hrel
  ·go_wp2_with (go_at_call 135; refine (QA.out _ _).mono ?_; rintro e w2 ⟨rfl, rfl⟩)
   go_roundw
   case rel => exact ⟨.inr rfl, trivial⟩
   case measure => simp [intOf]
  ·go_wp2
   go_ret
   exact ⟨rfl, HB.out⟩
def okT (t n : Nat) : Prop := one1 t ∨ one2 t n
theorem okT_in {t n : Nat} (h : okT t n) : 1 ≤ t ∧ t ≤ 9 := h.elim one1_in one2_in
theorem tag_ne {t : Nat} (h : 1 ≤ t ∧ t ≤ 9) : (tagB t).toList.isEmpty = false := by
 obtain rfl | rfl | rfl | rfl | rfl | rfl | rfl | rfl | rfl : t = 1 ∨ t = 2 ∨ t = 3 ∨ t = 4 ∨ t = 5 ∨ t = 6 ∨ t = 7 ∨ t = 8 ∨ t = 9 := by omega
 all_goals (rw [ByteArray.toList_eq]; rfl)
theorem tag_len {t : Nat} (h : 1 ≤ t ∧ t ≤ 9) : (tagB t).size ≤ 20 := by
 obtain rfl | rfl | rfl | rfl | rfl | rfl | rfl | rfl | rfl : t = 1 ∨ t = 2 ∨ t = 3 ∨ t = 4 ∨ t = 5 ∨ t = 6 ∨ t = 7 ∨ t = 8 ∨ t = 9 := by omega
 all_goals decide
theorem rfits_okT (t n : Nat) (ht : okT t n) (b o c : Nat) (Ap : Option Addr) (cp : Nat) (w : World) (hc : w.cell? ⟨b, o, none⟩ = some (.slice Ap n cp)) : Calls Tryz.prog 58 #[.int .u8 (t : Int), .slice (some ⟨b, o, none⟩) 1 c] w fun e w' => e = .returned (.bool true) ∧ w = w' :=
 ht.elim (fun h => rfits_one t h _ c w) fun h => rfits_two t n h b o c Ap cp w hc
theorem fit_okT (t n : Nat) (ht : okT t n) (b o c : Nat) (Ap : Option Addr) (cp : Nat) (w : World) (hb : b < w.heap.size) (hc : w.cell? ⟨b, o, none⟩ = some (.slice Ap n cp)) : Calls Tryz.prog 112 #[.int .u8 (t : Int), .slice (some ⟨b, o, none⟩) 1 c] w fun e w' => e = .returned (.bool true) ∧ Below w.heap.size w w' :=
 ht.elim (fun h => fit_one t h b o c Ap n cp w hb hc) fun h => fit_two t n h b o c Ap cp w hb hc
set_option maxRecDepth 10000 in
set_option maxHeartbeats 4000000 in
theorem rbytes_one (t : Nat) (l : List UInt8) (ht : okT t l.length) (b o c : Nat) (Ap : Option Addr) (cp : Nat) (w : World) (hb : b < w.heap.size) (hc : w.cell? ⟨b, o, none⟩ = some (.slice Ap l.length cp)) (hv : By w (.slice Ap l.length cp) l) (hl : l.length ≤ 1099511627000) :
  Calls Tryz.prog 34 #[.int .u8 (t : Int), .slice (some ⟨b, o, none⟩) 1 c] w fun e w' => ∃ v', e = .returned (.tuple #[v', .int .i64 0]) ∧ Own w' w.heap.size 5 v' (framedL [lst (tagB t), l]) ∧ Below w.heap.size w w' := by
 have hne : (tagB t).toList.isEmpty = false := tag_ne (okT_in ht)
 have htl : (tagB t).size ≤ 20 := tag_len (okT_in ht)
 have QW := hide (fun w => rword_any t (okT_in ht) w)
 have QF := hide (rfits_okT t l.length ht b o c Ap cp w hc)
 obtain ⟨s, hs⟩ : ∃ s, s = tagB t := ⟨_, rfl⟩
 rw [← hs] at QW hne htl ⊢
 obtain ⟨n, hn⟩ : ∃ n, n = l.length := ⟨_, rfl⟩
 rw [← hn] at hc hv hl
 obtain ⟨g, cc, w2, hr, hby, b2, -, -, -, -⟩ := run_bytes_str 9 34 5 s w Tryz.underlying9 Tryz.underlying34 Tryz.underlying5 (by unfold maxLen; omega)
 have HB := hide (And.intro hby (And.intro b2 (And.intro hv (And.intro hn (And.intro hc (And.intro hb htl))))))
 have Q1 := hide (rframe_any _ (lst s) w2 hby (by rw [lst_len]; omega))
 have Q2 := hide (fun (W : World) (hW : Below w.heap.size w W) => rframe_any _ l W (hv.below hW) (by omega))
 clear hs hby b2 hv hn hc hb htl
 go_enter Tryz.func34, Tryz.ntmps34
 go_wp2_with first
  | (go_at_call 57; refine (QW.out _).mono ?_; rintro e w5 ⟨rfl, rfl⟩)
  | (go_at_call 58; refine QF.out.mono ?_; rintro e w5 ⟨rfl, rfl⟩)
  | (go_at_call 59; refine Q1.out.mono ?_; rintro e w3 ⟨v3, rfl, o3, b3⟩)
 have HI := hide (show Own w3 w.heap.size 5 v3 (frameL (lst s)) ∧ Below w.heap.size w w3 from ⟨own_lower o3 HB.out.2.1.size, HB.out.2.1.trans (b3.mono HB.out.2.1.size)⟩)
 clear o3 b3 Q1 QW QF
 go_loopw [6, 7] (fun u6 u7 wr => ((u7 = .int .i64 0 ∧ Own wr w.heap.size 5 u6 (frameL (lst s))) ∨ (u7 = .int .i64 1 ∧ Own wr w.heap.size 5 u6 (frameL (lst s) ++ frameL l))) ∧ Below w.heap.size w wr) (fun _ u7 _ => 1 - (intOf u7).toNat)
 case atStart => exact ⟨.inl ⟨rfl, HI.out.1⟩, HI.out.2⟩
 case round =>
  clear HI
  obtain ⟨⟨rfl, ho⟩ | ⟨rfl, ho⟩, hbel⟩ := hrel
  ·have HO := hide ho
   have hcx : wr.cell? ⟨b, o, none⟩ = some (.slice Ap n cp) := (hbel.cell (p := ⟨b, o, none⟩) HB.out.2.2.2.2.2.1).trans HB.out.2.2.2.2.1
   clear ho
   go_wp2_with first
    | (go_at_call 59; refine (Q2.out _ hbel).mono ?_; rintro e w4 ⟨v4, rfl, o4, b4⟩; go_loud (have H4 := hide (And.intro (HO.out.below b4) (And.intro (hbel.trans (b4.mono hbel.size)) o4.by_)); clear o4 b4))
    | (at_builtin; go_loud (refine wpList_pushV elem8 H4.out.1 H4.out.2.1 H4.out.2.1.size H4.out.2.2 (by have := HB.out.2.2.2.1; have := HB.out.2.2.2.2.2.2; rw [frameL_length, frameL_length, lst_len]; omega) rfl _ _ rfl rfl (by obtain ⟨A9, c9, h9, -⟩ := H4.out.2.2.form; exact rfl) ?_); intro v5 w6 o5 b5 _ _)
   go_roundw
   case rel => exact ⟨.inr ⟨rfl, o5⟩, b5⟩
   case measure => simp [intOf]
  ·go_wp2
   go_ret2
   refine ⟨_, rfl, ?_, hbel⟩
   have h9 : framedL [lst s, l] = frameL (lst s) ++ frameL l := by simp [framedL]
   rw [h9]
   exact ho
end Go.Proofs.YtdohebhbiokljaaGreatDoor
namespace Go.Proofs.YtdohebhbiokljaaGreatDoor
open Go.RowKit
theorem elemR : Elem1 Tryz.prog 29 34 (.slice none 0 0) 24 := ⟨Tryz.underlying29, by kernel_rfl, rfl⟩
theorem own_none (w : World) (n c : Nat) (h1 : n ≤ c) (h2 : c ≤ maxLen) :
  (w.alloc (.cells (Builtin.zeroCells #[.slice none 0 0] n ++ Builtin.zeroCells #[.slice none 0 0] (c - n)) 34)).drew.ownsRow w.heap.size 34 1 (.slice (some ⟨w.heap.size, 0, none⟩) 0 c) 0 [] := by
 have := (Blk.new w 34 (Builtin.zeroCells #[.slice none 0 0] n ++ Builtin.zeroCells #[.slice none 0 0] (c - n))).drew.own (base := w.heap.size) (e := 34) (n := 0) (cap := c) (sz := 1) rfl (Nat.le_refl _) (by simp [size_zeroCells]; omega) (Nat.zero_le _) h2
 simpa using this
set_option maxRecDepth 100000 in
set_option maxHeartbeats 1000000 in
theorem growR_any (n : Nat) (w : World) (hn : n ≤ 1048576) :
  Calls Tryz.prog 123 #[.slice none 0 0, .int .i64 (n : Int)] w fun e w' => ∃ v, e = .returned v ∧ w'.ownsRow w.heap.size 34 1 v 0 [] ∧ Below w.heap.size w w' := by
 by_cases h0 : n = 0
 ·have g1 : (n : Int) = 0 := by omega
  rw [g1]
  go_enter Tryz.func123, Tryz.ntmps123
  go_wp2
  go_ret
  exact ⟨_, rfl, World.ownsRow_nil _ _ _ _, Below.refl _ _⟩
 ·have g1 : ¬ (n : Int) < 0 := by omega
  have g2 : (0 : Int) < (n : Int) := by omega
  have g3 : ¬ (281474976710656 : Int) < (n : Int) * ((Tryz.t34).bytes : Int) := by
   have : ((Tryz.t34).bytes : Int) = 24 := by kernel_rfl
   rw [this]; omega
  have g4 : ¬ 281474976710656 < Builtin.nextslicecap n 0 * (Tryz.t34).bytes := by
   have h1 : (Tryz.t34).bytes = 24 := by kernel_rfl
   have h2 : Builtin.nextslicecap n 0 = n := by unfold Builtin.nextslicecap; simp; omega
   rw [h1, h2]; omega
  go_enter Tryz.func123, Tryz.ntmps123
  go_wp2
  go_ret
  refine ⟨_, rfl, ?_, ?_⟩
  ·exact own_none w n _ (grownCap_ge w n 0 34) (grownCap_le_maxLen w n 0 34 (by unfold maxLen; omega))
  ·exact ((Below.refl _ w).alloc (Nat.le_refl _) _).drew
theorem wpList_pushG {P : Program} {t e : TypeId} {z : Value} {bytes : Nat} (T : Elem1 P t e z bytes) {w : World} {base : Nat} {v : Value} {n : Nat} {xs : List Value} (hown : w.ownsRow base e 1 v n xs)
  {w0 : World} (hb : Below base w0 w) (hbase : base ≤ w.heap.size) {u : Value} {m : Nat} {ys : List Value} (hu : Sl w 1 u m ys) (h63 : n + m ≤ maxLen) (hbytes : (n + m) * bytes ≤ 140737488355328) (h1 : ∀ y ∈ ys, y.oneCell' = true)
  {ops : Array Oper} {rest : List Oper} {o : Oper} {a : Act} {Q : Exit → Act → World → Prop} (hgd : o.guard = none) (s y : Operand)
  (ho : o.op = .call { callee := .builtin .append, args := #[s, y], argTypes := #[t, t] }) (hs : a.eval s = v) (hx : a.eval y = u)
  (h : ∀ v' w', w'.ownsRow base e 1 v' (n + m) (xs ++ ys) → Below base w0 w' → wpList P ops Q rest (a.put o.dst v') w') :
  wpList P ops Q (o :: rest) a w := by
 refine wpList_plain hgd fun K hK => ?_
 obtain ⟨v', w', hrun, h3, h4, h6⟩ := run_pushS (P := P) T o.type hown hu h63 hbytes hbase h1
 unfold Oper.wp execOp
 simp only [ho, resolve, invoke, builtin, Sem.run_bind, Sem.run_pure, Result.andThen_ok, List.map_toArray, List.map_cons, List.map_nil, hs, hx, hrun]
 exact hK _ _ (h v' w' h3 (hb.grown h4 hbase fun k hk => (hown.lt k hk).1))
set_option maxRecDepth 100000 in
set_option maxHeartbeats 2000000 in
theorem concatR_two (g : Nat) (gc : Nat) (u v x y : Value) (w : World) (h0 : w.cell? ⟨g, 0, none⟩ = some u) (h1 : w.cell? ⟨g, 1, none⟩ = some v) (hg : g < w.heap.size) (hu : Sl w 1 u 1 [x]) (hv : Sl w 1 v 1 [y]) (hx : x.oneCell' = true) (hy : y.oneCell' = true) :
  Calls Tryz.prog 114 #[.slice (some ⟨g, 0, none⟩) 2 2] w fun e w' => ∃ r, e = .returned r ∧ Sl w' 1 r 2 [x, y] ∧ Below w.heap.size w w' := by
 obtain ⟨Au, cu, rfl, -, -, -⟩ := hu.form
 obtain ⟨Av, cv, rfl, -, -, -⟩ := hv.form
 have HG := hide (growR_any 2)
 have HU := hide (And.intro hu (And.intro hv (And.intro hx hy)))
 clear hu hv hx hy
 go_enter Tryz.func114, Tryz.ntmps114
 go_wp2
 go_loopw [3, 11] (fun u3 u11 wr => ((u11 = .int .i64 0 ∧ u3 = .int .i64 0) ∨ (u11 = .int .i64 1 ∧ u3 = .int .i64 1) ∨ (u11 = .int .i64 2 ∧ u3 = .int .i64 2)) ∧ w = wr) (fun _ i _ => 2 - (intOf i).toNat)
 case atStart => exact ⟨.inl ⟨rfl, rfl⟩, rfl⟩
 case round =>
  obtain ⟨⟨rfl, rfl⟩ | ⟨rfl, rfl⟩ | ⟨rfl, rfl⟩, rfl⟩ := hrel
  ·go_wp2
   go_roundw
   case rel => simp
   case measure => simp [intOf]
  ·go_wp2
   go_roundw
   case rel => simp
   case measure => simp [intOf]
  ·have HG2 := hide (show Calls Tryz.prog 123 #[.slice none 0 0, .int .i64 2] w _ from HG.out w (by omega))
   go_wp2_with (go_at_call 123; refine HG2.out.mono ?_; rintro e w1 ⟨v0, rfl, o1, b1⟩)
   have HI := hide (And.intro o1 b1)
   clear o1 b1
   go_loopw [6, 27] (fun u6 u27 wr => ((u27 = .int .i64 0 ∧ wr.ownsRow w.heap.size 34 1 u6 0 []) ∨ (u27 = .int .i64 1 ∧ wr.ownsRow w.heap.size 34 1 u6 1 [x]) ∨ (u27 = .int .i64 2 ∧ wr.ownsRow w.heap.size 34 1 u6 2 [x, y])) ∧ Below w.heap.size w wr) (fun _ i _ => 2 - (intOf i).toNat)
   case atStart => exact ⟨.inl ⟨rfl, HI.out.1⟩, HI.out.2⟩
   case round =>
    clear HI
    obtain ⟨⟨rfl, ho⟩ | ⟨rfl, ho⟩ | ⟨rfl, ho⟩, hb⟩ := hrel
    ·have HO := hide ho
     have c0 : wr.cell? ⟨g, 0, none⟩ = some (.slice Au 1 cu) := (hb.cell (p := ⟨g, 0, none⟩) hg).trans h0
     clear ho
     go_wp2_with (at_builtin; go_loud (refine wpList_pushG elemR HO.out hb hb.size (HU.out.1.below hb) (by unfold maxLen; omega) (by omega) (by intro z hz; simp at hz; rw [hz]; exact HU.out.2.2.1) rfl _ _ rfl rfl rfl ?_); intro v2 w2 o2 b2)
     go_roundw
     case rel => exact ⟨.inr (.inl ⟨rfl, by simpa using o2⟩), b2⟩
     case measure => simp [intOf]
    ·have HO := hide ho
     have c0 : wr.cell? ⟨g, 1, none⟩ = some (.slice Av 1 cv) := (hb.cell (p := ⟨g, 1, none⟩) hg).trans h1
     clear ho
     go_wp2_with (at_builtin; go_loud (refine wpList_pushG elemR HO.out hb hb.size (HU.out.2.1.below hb) (by unfold maxLen; omega) (by omega) (by intro z hz; simp at hz; rw [hz]; exact HU.out.2.2.2) rfl _ _ rfl rfl rfl ?_); intro v2 w2 o2 b2)
     go_roundw
     case rel => exact ⟨.inr (.inr ⟨rfl, by simpa using o2⟩), b2⟩
     case measure => simp [intOf]
    ·go_wp2
     go_ret
     exact ⟨_, rfl, Sl.of_own ho, hb⟩
end Go.Proofs.YtdohebhbiokljaaGreatDoor
namespace Go.Proofs.YtdohebhbiokljaaGreatDoor
open Go.RowKit
theorem sl_one {w : World} {b o c : Nat} {x : Value} (hb : b < w.heap.size) (hc : w.cell? ⟨b, o, none⟩ = some x) (h1 : 1 ≤ c) (h2 : c ≤ maxLen) : Sl w 1 (.slice (some ⟨b, o, none⟩) 1 c) 1 [x] :=
 ⟨rfl, _, _, rfl, h1, h2, fun _ => ⟨b, o, rfl, hb, fun j hj => by
  have : j = 0 := by omega
  subst this
  simpa using hc⟩⟩
set_option maxRecDepth 10000 in
set_option maxHeartbeats 4000000 in
theorem bytes_one (t : Nat) (l : List UInt8) (ht : okT t l.length) (b o c : Nat) (Ap : Option Addr) (cp : Nat) (w : World) (hb : b < w.heap.size) (h1c : 1 ≤ c ∧ c ≤ maxLen) (hc : w.cell? ⟨b, o, none⟩ = some (.slice Ap l.length cp)) (hv : By w (.slice Ap l.length cp) l) (hl : l.length ≤ 1099511627000) :
  Calls Tryz.prog 99 #[.int .u8 (t : Int), .slice (some ⟨b, o, none⟩) 1 c] w fun e w' => ∃ v', e = .returned (.tuple #[v', .int .i64 0]) ∧ Own w' w.heap.size 5 v' (framedL [lst (tagB t), l]) ∧ Below w.heap.size w w' := by
 have hne : (tagB t).toList.isEmpty = false := tag_ne (okT_in ht)
 have htl : (tagB t).size ≤ 20 := tag_len (okT_in ht)
 have QW := hide (fun w => word_any t (okT_in ht) w)
 obtain ⟨s, hs⟩ : ∃ s, s = tagB t := ⟨_, rfl⟩
 rw [← hs] at QW hne htl ⊢
 obtain ⟨n, hn⟩ : ∃ n, n = l.length := ⟨_, rfl⟩
 rw [← hn] at hc hv hl ht
 have QF := hide (fit_okT t n ht b o c Ap cp w hb hc)
 have HB := hide (And.intro hv (And.intro hn (And.intro hc (And.intro hb (And.intro htl (And.intro h1c hl))))))
 clear hs hv hn hc hb htl h1c
 go_enter Tryz.func99, Tryz.ntmps99
 go_wp2_with first
  | (go_at_call 111; refine (QW.out _).mono ?_; rintro e w5 ⟨rfl, rfl⟩)
  | (go_at_call 112; refine QF.out.mono ?_; rintro e w1 ⟨rfl, b1⟩; go_loud (obtain ⟨g, cc, w2, hr, hby, b2, -, -, hcc, hcm⟩ := run_bytes_str 9 34 5 s w1 Tryz.underlying9 Tryz.underlying34 Tryz.underlying5 (by have := HB.out.2.2.2.2.1; unfold maxLen; omega); have H2 := hide (And.intro hby (And.intro (b1.trans (b2.mono b1.size)) (And.intro hcc hcm))); clear b1 b2 hby hcc hcm))
 have ha : Below w2.heap.size w2 (w2.alloc (.cells #[.slice (some ⟨g, 0, none⟩) s.size cc] 34)) := (Below.refl _ w2).alloc (Nat.le_refl _) _
 have hab : Below w2.heap.size w2 ((w2.alloc (.cells #[.slice (some ⟨g, 0, none⟩) s.size cc] 34)).alloc (.cells #[.slice (some ⟨w2.heap.size, 0, none⟩) 1 1, .slice (some ⟨b, o, none⟩) 1 c] 29)) := ha.alloc (by simp) _
 have k1 := Blk.new (w2.alloc (.cells #[.slice (some ⟨g, 0, none⟩) s.size cc] 34)) 29 #[.slice (some ⟨w2.heap.size, 0, none⟩) 1 1, .slice (some ⟨b, o, none⟩) 1 c]
 have k2 := (Blk.new w2 34 #[.slice (some ⟨g, 0, none⟩) s.size cc]).alloc (.cells #[.slice (some ⟨w2.heap.size, 0, none⟩) 1 1, .slice (some ⟨b, o, none⟩) 1 c] 29)
 rw [World.size_alloc] at k1
 have hbw : b < w2.heap.size := Nat.lt_of_lt_of_le HB.out.2.2.2.1 H2.out.2.1.size
 have hcw : w2.cell? ⟨b, o, none⟩ = some (.slice Ap n cp) := (H2.out.2.1.cell (p := ⟨b, o, none⟩) HB.out.2.2.2.1).trans HB.out.2.2.1
 have QC := hide (concatR_two (w2.heap.size + 1) 2 _ _ (.slice (some ⟨g, 0, none⟩) s.size cc) (.slice Ap n cp) _ ((k1.cell 0).trans rfl) ((k1.cell 1).trans rfl) k1.lt (sl_one k2.lt ((k2.cell 0).trans rfl) (Nat.le_refl _) (by unfold maxLen; omega)) (sl_one (Nat.lt_of_lt_of_le hbw hab.size) ((hab.cell (p := ⟨b, o, none⟩) hbw).trans hcw) HB.out.2.2.2.2.2.1.1 HB.out.2.2.2.2.2.1.2) rfl rfl)
 have HAB := hide hab
 clear ha hab k1 k2 hbw hcw
 with_reducible refine QC.out.mono ?_
 rintro e w3 ⟨r, rfl, hr3, b3⟩
 obtain ⟨Ar, cr, rfl, -, -, -⟩ := hr3.form
 have hb23 : Below w2.heap.size w2 w3 := HAB.out.trans (b3.mono HAB.out.size)
 have QR := hide (framed_any (.slice Ar 2 cr) [(.slice (some ⟨g, 0, none⟩) s.size cc, lst s), (.slice Ap n cp, l)] w3 ⟨hr3, fun x hx => by
  simp only [List.mem_cons, List.mem_nil_iff, or_false] at hx
  rcases hx with rfl | rfl
  ·exact H2.out.1.below hb23
  ·exact (HB.out.1.below H2.out.2.1).below hb23⟩ (by have := HB.out.2.2.2.2.1; have := HB.out.2.1; simp [total, lst_len]; omega) (by simp))
 have HX := hide (H2.out.2.1.trans (hb23.mono H2.out.2.1.size))
 clear hb23 hr3 b3 QC HAB
 go_wp2_with (go_at_call 113; refine QR.out.mono ?_; rintro e w4 ⟨v4, rfl, o4, b4⟩)
 go_ret2
 refine ⟨_, rfl, own_lower o4 HX.out.size, HX.out.trans (b4.mono HX.out.size)⟩
end Go.Proofs.YtdohebhbiokljaaGreatDoor
namespace Go.Proofs.YtdohebhbiokljaaGreatDoor
open Go.RowKit
def xo (a b : UInt32) : UInt32 := a ^^^ b
def an (a b : UInt32) : UInt32 := a &&& b
def ad (a b : UInt32) : UInt32 := a + b
def nt (a : UInt32) : UInt32 := 4294967295 ^^^ a
def sr (a : UInt32) (n : Nat) : UInt32 := UInt32.ofNat (a.toNat / 2 ^ n)
def rr (a : UInt32) (n : Nat) : UInt32 := UInt32.ofNat (a.toNat / 2 ^ n ||| a.toNat * 2 ^ (32 - n) % 4294967296)
theorem w_lt (a : UInt32) : a.toNat < 4294967296 := a.toNat_lt
theorem w_xor (a b : UInt32) : bits .xor .u32 (a.toNat : Int) (b.toNat : Int) = ((xo a b).toNat : Int) := by
 rw [u32_xor_nat _ _ (w_lt a) (w_lt b)]; unfold xo; rw [UInt32.toNat_xor]
theorem w_and (a b : UInt32) : bits .and .u32 (a.toNat : Int) (b.toNat : Int) = ((an a b).toNat : Int) := by
 rw [u32_and_nat _ _ (w_lt a) (w_lt b)]; unfold an; rw [UInt32.toNat_and]
theorem w_add (a b : UInt32) : IntKind.u32.wrap ((a.toNat : Int) + (b.toNat : Int)) = ((ad a b).toNat : Int) := by
 unfold ad
 rw [IntKind.wrap_u32', UInt32.toNat_add]
 omega
theorem w_add' (a b : UInt32) : ((a.toNat : Int) + (b.toNat : Int)) % 4294967296 = ((ad a b).toNat : Int) := by
 rw [← w_add, IntKind.wrap_u32']
theorem w_not (a : UInt32) : bits .xor .u32 4294967295 (a.toNat : Int) = ((nt a).toNat : Int) := by
 rw [show (4294967295 : Int) = ((4294967295 : Nat) : Int) from rfl, u32_xor_nat _ _ (by omega) (w_lt a)]; unfold nt; rw [UInt32.toNat_xor]; rfl
theorem w_not' (a : UInt32) : bits .xor .u32 IntKind.u32.max (a.toNat : Int) = ((nt a).toNat : Int) := w_not a
theorem ofNat_lt {n : Nat} (h : n < 4294967296) : (UInt32.ofNat n).toNat = n := by rw [UInt32.toNat_ofNat']; exact Nat.mod_eq_of_lt h
theorem w_shr (a : UInt32) (n : Nat) : (a.toNat : Int) / 2 ^ n = ((sr a n).toNat : Int) := by
 unfold sr
 rw [ofNat_lt (Nat.lt_of_le_of_lt (Nat.div_le_self _ _) (w_lt a))]
 simp
theorem w_rr (x : UInt32) (n m : Nat) (h : n + m = 32) : bits .or .u32 ((x.toNat : Int) / 2 ^ n) ((x.toNat : Int) * 2 ^ m % 4294967296) = ((rr x n).toNat : Int) := by
 have e1 : (x.toNat : Int) / 2 ^ n = ((x.toNat / 2 ^ n : Nat) : Int) := by simp
 have e2 : (x.toNat : Int) * 2 ^ m % 4294967296 = ((x.toNat * 2 ^ m % 4294967296 : Nat) : Int) := by simp
 have h1 : x.toNat / 2 ^ n < 4294967296 := Nat.lt_of_le_of_lt (Nat.div_le_self _ _) (w_lt x)
 have h2 : x.toNat * 2 ^ m % 4294967296 < 4294967296 := Nat.mod_lt _ (by omega)
 rw [e1, e2, u32_or_nat _ _ h1 h2]
 unfold rr
 rw [show 32 - n = m by omega, ofNat_lt (Nat.or_lt_two_pow (n := 32) h1 h2)]
theorem w_rr' (x : UInt32) (n m : Nat) (h : n + m = 32) : bits .or .u32 ((x.toNat : Int) * 2 ^ m % 4294967296) ((x.toNat : Int) / 2 ^ n) = ((rr x n).toNat : Int) := by
 rw [← w_rr x n m h]
 have e1 : (x.toNat : Int) / 2 ^ n = ((x.toNat / 2 ^ n : Nat) : Int) := by simp
 have e2 : (x.toNat : Int) * 2 ^ m % 4294967296 = ((x.toNat * 2 ^ m % 4294967296 : Nat) : Int) := by simp
 have h1 : x.toNat / 2 ^ n < 4294967296 := Nat.lt_of_le_of_lt (Nat.div_le_self _ _) (w_lt x)
 have h2 : x.toNat * 2 ^ m % 4294967296 < 4294967296 := Nat.mod_lt _ (by omega)
 rw [e1, e2, u32_or_nat _ _ h1 h2, u32_or_nat _ _ h2 h1, Nat.or_comm]
theorem ad_assoc (a b c : UInt32) : ad (ad a b) c = ad a (ad b c) := UInt32.add_assoc a b c
theorem neg_and (n : Nat) (h : 1 ≤ n ∧ n ≤ 31) : bits .and .u64 (IntKind.u64.wrap (-(n : Int))) 31 = ((32 - n : Nat) : Int) := by
 have e : IntKind.u64.wrap (-(n : Int)) = ((18446744073709551616 - n : Nat) : Int) := by
  simp [IntKind.wrap, IntKind.bits, IntKind.signed]
  omega
 rw [e, show (31 : Int) = ((31 : Nat) : Int) from rfl, u64_and_nat _ _ (by omega) (by omega)]
 have h2 : (18446744073709551616 - n) &&& 31 = (18446744073709551616 - n) % 32 := Nat.and_two_pow_sub_one_eq_mod (n := 5) _
 rw [h2]
 omega
set_option maxHeartbeats 400000 in
theorem turn_any (x : UInt32) (n : Nat) (w : World) (h : 1 ≤ n ∧ n ≤ 31) :
  Calls Tryz.prog 85 #[.int .u32 (x.toNat : Int), .int .u64 (n : Int)] w fun e w' => e = .returned (.int .u32 ((rr x n).toNat : Int)) ∧ w = w' := by
 have hr := w_rr x n (32 - n) (by omega)
 go_enter Tryz.func85, Tryz.ntmps85
 go_wp2
 go_ret
 exact ⟨ret_int (by first | rfl | exact hr), rfl⟩
set_option maxHeartbeats 400000 in
theorem rotl_any (x : UInt32) (n : Nat) (w : World) (h : 1 ≤ n ∧ n ≤ 31) :
  Calls Tryz.prog 154 #[.int .u32 (x.toNat : Int), .int .i64 (-(n : Int))] w fun e w' => e = .returned (.int .u32 ((rr x n).toNat : Int)) ∧ w = w' := by
 have hn := neg_and n h
 obtain ⟨m, hm⟩ : ∃ m, m = 32 - n := ⟨_, rfl⟩
 rw [← hm] at hn
 have hr := w_rr' x n m (by omega)
 have h32 : 32 - (m : Int) = (n : Int) := by omega
 have hm1 : 1 ≤ m ∧ m ≤ 31 := by omega
 have HR := hide hr
 clear hm hr
 go_enter Tryz.func154, Tryz.ntmps154
 go_wp2
 go_ret
 exact ⟨ret_int HR.out, rfl⟩
def rkh (x : UInt32) (k : Int) : UInt32 := rr x k.natAbs
theorem rotl_k (x : UInt32) (k : Int) (w : World) (h : -31 ≤ k ∧ k ≤ -1) : Calls Tryz.prog 154 #[.int .u32 (x.toNat : Int), .int .i64 k] w fun e w' => e = .returned (.int .u32 ((rkh x k).toNat : Int)) ∧ w' = w := by
 have h1 := rotl_any x k.natAbs w (by omega)
 rw [show -((k.natAbs : Nat) : Int) = k by omega] at h1
 exact h1.mono fun _ _ ⟨a, b⟩ => ⟨a, b.symm⟩
theorem turn_k (x : UInt32) (k : Int) (w : World) (h : 1 ≤ k ∧ k ≤ 31) : Calls Tryz.prog 85 #[.int .u32 (x.toNat : Int), .int .u64 k] w fun e w' => e = .returned (.int .u32 ((rkh x k).toNat : Int)) ∧ w' = w := by
 have h1 := turn_any x k.natAbs w (by omega)
 rw [show ((k.natAbs : Nat) : Int) = k by omega] at h1
 exact h1.mono fun _ _ ⟨a, b⟩ => ⟨a, b.symm⟩
end Go.Proofs.YtdohebhbiokljaaGreatDoor
namespace Go.Proofs.YtdohebhbiokljaaGreatDoor
open Go.RowKit
structure H8 where
 (a b c d e f g h : UInt32)
def H8.cells (s : H8) : Array Value := #[.int .u32 (s.a.toNat : Int), .int .u32 (s.b.toNat : Int), .int .u32 (s.c.toNat : Int), .int .u32 (s.d.toNat : Int), .int .u32 (s.e.toNat : Int), .int .u32 (s.f.toNat : Int), .int .u32 (s.g.toNat : Int), .int .u32 (s.h.toNat : Int)]
def S1 (e : UInt32) : UInt32 := xo (xo (rr e 6) (rr e 11)) (rr e 25)
def S0 (a : UInt32) : UInt32 := xo (xo (rr a 2) (rr a 13)) (rr a 22)
def chf (e f g : UInt32) : UInt32 := xo (an e f) (an (nt e) g)
def mjf (a b c : UInt32) : UInt32 := xo (xo (an a b) (an a c)) (an b c)
def ru (s : H8) (k : UInt32) : UInt32 := ad (ad (ad s.h (S1 s.e)) (chf s.e s.f s.g)) k
def rv (s : H8) : UInt32 := ad (S0 s.a) (mjf s.a s.b s.c)
def rnd (s : H8) (k : UInt32) : H8 := ⟨ad (ru s k) (rv s), s.a, s.b, s.c, ad s.d (ru s k), s.e, s.f, s.g⟩
theorem quiet_add_same {P : Program} {f : FuncId} {args : Array Value} {w : World} {a n : Nat} {v : Value}
  (h : Calls P f args (w.drewN (a + n)) fun e w' => e = .returned v ∧ w' = w.drewN (a + n)) :
  Calls P f args (w.drewN (a + n)) fun e w'' => e = .returned v ∧ ∃ m, w'' = w.drewN (a + m) :=
 h.mono fun _ _ ⟨h1, h2⟩ => ⟨h1, n, h2⟩
set_option maxRecDepth 100000 in
set_option maxHeartbeats 4000000 in
theorem round_any (s : H8) (k : UInt32) (w : World) :
  Calls Tryz.prog 141 #[.agg s.cells, .int .u32 (k.toNat : Int)] w fun e w' => e = .returned (.agg (rnd s k).cells) ∧ Below w.heap.size w w' := by
 obtain ⟨a, b, c, d, e, f, g, hh⟩ := s
 unfold H8.cells
 obtain ⟨R, hR⟩ : ∃ R, R = rkh := ⟨_, rfl⟩
 obtain ⟨X, hX⟩ : ∃ X, X = xo := ⟨_, rfl⟩
 obtain ⟨A, hA⟩ : ∃ A, A = an := ⟨_, rfl⟩
 obtain ⟨D, hD⟩ : ∃ D, D = ad := ⟨_, rfl⟩
 obtain ⟨N, hN⟩ : ∃ N, N = nt := ⟨_, rfl⟩
 have x1 : ∀ a b : UInt32, bits .xor .u32 (a.toNat : Int) (b.toNat : Int) = ((X a b).toNat : Int) := by rw [hX]; exact w_xor
 have x2 : ∀ a b : UInt32, bits .and .u32 (a.toNat : Int) (b.toNat : Int) = ((A a b).toNat : Int) := by rw [hA]; exact w_and
 have x3 : ∀ a b : UInt32, IntKind.u32.wrap ((a.toNat : Int) + (b.toNat : Int)) = ((D a b).toNat : Int) := by rw [hD]; exact w_add
 have x4 : ∀ a b : UInt32, ((a.toNat : Int) + (b.toNat : Int)) % 4294967296 = ((D a b).toNat : Int) := by rw [hD]; exact w_add'
 have x5 : ∀ a : UInt32, bits .xor .u32 IntKind.u32.max (a.toNat : Int) = ((N a).toNat : Int) := by rw [hN]; exact w_not'
 have qr : ∀ (x : UInt32) (k : Int) (w : World), (-31 ≤ k ∧ k ≤ -1) → Calls Tryz.prog 154 #[.int .u32 (x.toNat : Int), .int .i64 k] w fun e w' => e = .returned (.int .u32 ((R x k).toNat : Int)) ∧ w' = w := by rw [hR]; exact rotl_k
 have QR := hide qr
 have HEQ := hide (And.intro hR (And.intro hX (And.intro hA (And.intro hD hN))))
 clear hR hX hA hD hN qr
 go_enter Tryz.func141, Tryz.ntmps141
 go_wp2
 go_quiet (fail)
 go_wp2
 go_quiet ((go_at_call 154; with_reducible exact quiet_add_same (QR.out _ _ _ (by omega))))
 go_wp2
 go_quiet ((go_at_call 154; with_reducible exact quiet_add_same (QR.out _ _ _ (by omega))))
 go_wp2
 have hE : rnd ⟨a, b, c, d, e, f, g, hh⟩ k = ⟨D (D (D (D hh (X (X (R e (-6)) (R e (-11))) (R e (-25)))) (X (A e f) (A (N e) g))) k) (D (X (X (R a (-2)) (R a (-13))) (R a (-22))) (X (X (A a b) (A a c)) (A b c))), a, b, c, D d (D (D (D hh (X (X (R e (-6)) (R e (-11))) (R e (-25)))) (X (A e f) (A (N e) g))) k), e, f, g⟩ := by
  obtain ⟨rfl, rfl, rfl, rfl, rfl⟩ := HEQ.out
  rfl
 have HE := hide hE
 clear hE
 refine bodyPost_ret (v := .agg (H8.cells ⟨D (D (D (D hh (X (X (R e (-6)) (R e (-11))) (R e (-25)))) (X (A e f) (A (N e) g))) k) (D (X (X (R a (-2)) (R a (-13))) (R a (-22))) (X (X (A a b) (A a c)) (A b c))), a, b, c, D d (D (D (D hh (X (X (R e (-6)) (R e (-11))) (R e (-25)))) (X (A e f) (A (N e) g))) k), e, f, g⟩)) ?_ rfl ⟨?_, ?_⟩
 ·clear x1 x2 x3 x4 x5
  simp [results, Tryz.results141, go_sem, H8.cells]
 ·rw [HE.out]; rfl
 ·(repeat (refine Below.setCell ?_ (by simp) _))
  exact below_drewN (((Below.refl _ w).alloc (Nat.le_refl _) _).alloc (by simp) _) _
end Go.Proofs.YtdohebhbiokljaaGreatDoor
