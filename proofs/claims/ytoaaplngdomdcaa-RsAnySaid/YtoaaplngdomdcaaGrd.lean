/- Rows in memory that a call reckons with, each in a block of its own, behind one row of slices; matrices as they are read. They hold of every program. -/
import Derived.Test.YtoaaplngdomdcaaLists
import Derived.Test.YtoaaplngdomdcaaMem3
import Derived.Test.YtoaaplngdomdcaaGauB
namespace Go.Proofs.Ytoaaplngdomdcaa
open Go.RowKit

/-- One element is another. -/
def upd {α : Type} (M : Nat → Nat → α) (i j : Nat) (x : α) : Nat → Nat → α := fun a b => if a = i ∧ b = j then x else M a b

/-- n rows of m elements, each in a block of its own, behind one row of slices (block g). -/
def Grid {α : Type} (tO tI : TypeId) (en : α → Value) (w : World) (base g n m : Nat) (M : Nat → Nat → α) : Prop :=
  ∃ (outer : Array Value) (G C : Nat → Nat), base ≤ g ∧ Blk w g tO outer ∧ (∀ i, i < n → outer[i]? = some (.slice (some ⟨G i, 0, none⟩) m (C i))) ∧
    (∀ i j, i < n → j < n → G i = G j → i = j) ∧
    ∀ i, i < n → base ≤ G i ∧ m ≤ C i ∧ C i ≤ maxLen ∧ ∃ cur, Blk w (G i) tI cur ∧ ∀ j, j < m → cur[j]? = some (en (M i j))
section
variable {α : Type} {tO tI : TypeId} {en : α → Value} {w w' : World} {base g n m : Nat} {M : Nat → Nat → α}
theorem Grid.congr {M' : Nat → Nat → α} (h : Grid tO tI en w base g n m M) (e : ∀ i j, i < n → j < m → M i j = M' i j) : Grid tO tI en w base g n m M' := by
  obtain ⟨outer, G, C, h1, h2, h3, h4, h5⟩ := h
  refine ⟨outer, G, C, h1, h2, h3, h4, fun i hi => ?_⟩
  obtain ⟨a, b, c, cur, hc, hj⟩ := h5 i hi
  exact ⟨a, b, c, cur, hc, fun j hjm => by rw [← e i j hi hjm]; exact hj j hjm⟩
theorem Grid.below (h : Grid tO tI en w base g n m M) (hb : Below w.heap.size w w') : Grid tO tI en w' base g n m M := by
  obtain ⟨outer, G, C, h1, h2, h3, h4, h5⟩ := h
  refine ⟨outer, G, C, h1, h2.below' hb, h3, h4, fun i hi => ?_⟩
  obtain ⟨a, b, c, cur, hc, hj⟩ := h5 i hi
  exact ⟨a, b, c, cur, hc.below' hb, hj⟩
theorem blk_ne {t t' : TypeId} {a b : Nat} {cs ds : Array Value} (h : Blk w a t cs) (h' : Blk w b t' ds) (hne : t ≠ t') : a ≠ b := by
  rintro rfl
  unfold Blk at h h'
  rw [h] at h'
  injection h' with h'
  injection h' with _ ht
  exact hne ht
theorem Grid.at_ (h : Grid tO tI en w base g n m M) (hne : tO ≠ tI) {i : Nat} (hi : i < n) :
    ∃ b c, w.cell? ⟨g, i, none⟩ = some (.slice (some ⟨b, 0, none⟩) m c) ∧ w.frozen? ⟨g, i, none⟩ = false ∧ base ≤ b ∧ b < w.heap.size ∧ m ≤ c ∧ c ≤ maxLen ∧
      ∀ j, j < m → w.cell? ⟨b, j, none⟩ = some (en (M i j)) ∧ w.frozen? ⟨b, j, none⟩ = false ∧ ∀ w' x, Below w.heap.size w w' → w'.frozen? ⟨b, j, none⟩ = false ∧ Grid tO tI en (w'.setCell ⟨b, j, none⟩ (en x)) base g n m (upd M i j x) := by
  obtain ⟨outer, G, C, h1, h2, h3, h4, h5⟩ := h
  obtain ⟨a, b, c, cur, hc, hj⟩ := h5 i hi
  refine ⟨G i, C i, by rw [h2.cell]; exact h3 i hi, h2.frozen i, a, hc.lt, b, c, fun j hjm => ⟨by rw [hc.cell]; exact hj j hjm, hc.frozen j, fun w' x hb => ⟨(hc.below' hb).frozen j, outer, G, C, h1, (h2.below' hb).far (fun e => blk_ne h2 hc hne e) _, h3, h4, fun k hk => ?_⟩⟩⟩
  obtain ⟨a', b', c', cur', hc', hj'⟩ := h5 k hk
  by_cases e : k = i
  · subst e
    refine ⟨a', b', c', _, (hc.below' hb).set_ j (en x), fun l hl => ?_⟩
    unfold upd
    by_cases el : l = j
    · subst el
      rw [if_pos ⟨rfl, rfl⟩]
      have : l < cur.size := by
        have := hj l hl
        exact (Array.getElem?_eq_some_iff.1 this).1
      simp [this]
    · rw [if_neg (fun q => el q.2), Array.getElem?_setIfInBounds_ne (fun q => el q.symm)]
      exact hj l hl
  · refine ⟨a', b', c', cur', (hc'.below' hb).far (fun q => e (h4 k i hk hi q)) _, fun l hl => ?_⟩
    unfold upd
    rw [if_neg (fun q => e q.1)]
    exact hj' l hl
theorem Grid.le_ (h : Grid tO tI en w base g n m M) : base ≤ g := by
  obtain ⟨_, _, _, h1, _⟩ := h
  exact h1
theorem Grid.some_set (h : Grid tO tI en w base g n m M) {i : Nat} (hi : i < n) (r : Nat) (V : Value) : ∃ z, (w.setCell ⟨g, r, none⟩ V).cell? ⟨g, i, none⟩ = some z := by
  obtain ⟨outer, G, C, h1, h2, h3, h4, h5⟩ := h
  have hs := (Array.getElem?_eq_some_iff.1 (h3 i hi)).1
  rw [(h2.set_ r V).cell]
  exact ⟨_, Array.getElem?_eq_getElem (by simpa using hs)⟩
/-- Two rows change places. -/
theorem Grid.swap (h : Grid tO tI en w base g n m M) (hne : tO ≠ tI) {r i : Nat} (hr : r < n) (hi : i < n) {vr vi : Value} (er : w.cell? ⟨g, r, none⟩ = some vr) (ei : w.cell? ⟨g, i, none⟩ = some vi) :
    Grid tO tI en ((w.setCell ⟨g, r, none⟩ vi).setCell ⟨g, i, none⟩ vr) base g n m (Fd.swapped M r i) := by
  obtain ⟨outer, G, C, h1, h2, h3, h4, h5⟩ := h
  rw [h2.cell, h3 r hr] at er
  rw [h2.cell, h3 i hi] at ei
  injection er with er
  injection ei with ei
  subst er ei
  have hsz : ∀ k, k < n → k < outer.size := fun k hk => (Array.getElem?_eq_some_iff.1 (h3 k hk)).1
  refine ⟨_, fun k => if k = i then G r else if k = r then G i else G k, fun k => if k = i then C r else if k = r then C i else C k, h1, (h2.set_ r _).set_ i _, fun k hk => ?_, fun a b ha hb e => ?_, fun k hk => ?_⟩
  · have s := hsz k hk
    simp only
    rw [Array.getElem?_setIfInBounds]
    by_cases e1 : i = k
    · subst e1
      simp [s]
    · rw [if_neg e1, if_neg (show ¬ k = i from fun q => e1 q.symm), if_neg (show ¬ k = i from fun q => e1 q.symm), Array.getElem?_setIfInBounds]
      by_cases e2 : r = k
      · subst e2
        simp [s]
      · rw [if_neg e2, if_neg (show ¬ k = r from fun q => e2 q.symm), if_neg (show ¬ k = r from fun q => e2 q.symm), h3 k hk]
  · have h := h4
    simp only at e
    clear h3 h5 hsz h2
    grind
  · have key : ∀ l, l < n → base ≤ G l ∧ m ≤ C l ∧ C l ≤ maxLen ∧ ∃ cur, Blk ((w.setCell ⟨g, r, none⟩ (.slice (some ⟨G i, 0, none⟩) m (C i))).setCell ⟨g, i, none⟩ (.slice (some ⟨G r, 0, none⟩) m (C r))) (G l) tI cur ∧ ∀ j, j < m → cur[j]? = some (en (M l j)) := fun l hl => by
      obtain ⟨a, b, c, cur, hc, hj⟩ := h5 l hl
      have := blk_ne h2 hc hne
      exact ⟨a, b, c, cur, (hc.far (fun e => this e.symm) _).far (fun e => this e.symm) _, hj⟩
    simp only
    unfold Fd.swapped
    by_cases e1 : k = i
    · rw [if_pos e1, if_pos e1]
      by_cases e2 : k = r
      · have : i = r := by omega
        subst this
        rw [if_pos e2]
        exact key i hi
      · rw [if_neg e2, if_pos e1]
        exact key r hr
    · rw [if_neg e1, if_neg e1]
      by_cases e2 : k = r
      · rw [if_pos e2, if_pos e2, if_pos e2]
        exact key i hi
      · rw [if_neg e2, if_neg e2, if_neg e2, if_neg e1]
        exact key k hk

/-- The same, the outer row still growing (value v): the first k rows. -/
def GridO (tO tI : TypeId) (en : α → Value) (w : World) (base : Nat) (v : Value) (k m : Nat) (M : Nat → Nat → α) : Prop :=
  ∃ (xs : List Value) (G C : Nat → Nat), w.ownsRow base tO 1 v k xs ∧ (∀ i, i < k → xs[i]? = some (.slice (some ⟨G i, 0, none⟩) m (C i))) ∧
    (∀ i j, i < k → j < k → G i = G j → i = j) ∧
    ∀ i, i < k → base ≤ G i ∧ m ≤ C i ∧ C i ≤ maxLen ∧ ∃ cur, Blk w (G i) tI cur ∧ ∀ j, j < m → cur[j]? = some (en (M i j))
theorem GridO.nil (tO tI : TypeId) (en : α → Value) (w : World) (base m : Nat) (M : Nat → Nat → α) : GridO tO tI en w base (.slice none 0 0) 0 m M :=
  ⟨[], fun _ => 0, fun _ => 0, World.ownsRow_nil w base tO 1, fun i h => absurd h (Nat.not_lt_zero _), fun i j h => absurd h (Nat.not_lt_zero _), fun i h => absurd h (Nat.not_lt_zero _)⟩
theorem own_blk {e : TypeId} {v : Value} {k : Nat} {xs : List Value} (h : w.ownsRow base e 1 v k xs) (hk : 0 < k) :
    ∃ g cap cur, v = .slice (some ⟨g, 0, none⟩) k cap ∧ base ≤ g ∧ Blk w g e cur ∧ k ≤ cap ∧ cap ≤ maxLen ∧ ∀ j, j < k → cur[j]? = xs[j]? := by
  obtain ⟨_, ⟨_, h0⟩ | ⟨g, cap, cur, hv, hg, hh, hn, hm, hs, ht⟩⟩ := h
  · omega
  · refine ⟨g, cap, cur, hv, hg, hh, hn, hm, fun j hj => ?_⟩
    rw [← ht, List.getElem?_take_of_lt (by omega), Array.getElem?_toList]
theorem GridO.form {w0 : World} {v : Value} {k : Nat} (h : GridO tO tI en w0 base v k m M) (hne : tO ≠ tI) (hb : Below w0.heap.size w0 w) :
    ∃ xs, w.ownsRow base tO 1 v k xs ∧ ∀ (b c : Nat) (cur : Array Value) (v' : Value) (w' : World), w0.heap.size ≤ b → base ≤ b → Blk w b tI cur → m ≤ c → c ≤ maxLen → (∀ j, j < m → cur[j]? = some (en (M k j))) →
      w'.ownsRow base tO 1 v' (k + 1) (xs ++ [.slice (some ⟨b, 0, none⟩) m c]) → w.grownBy w' v.ownBlock → GridO tO tI en w' base v' (k + 1) m M := by
  obtain ⟨xs, G, C, h1, h2, h3, h4⟩ := h
  have h1' := own_below' h1 hb
  have hl := h1.1
  refine ⟨xs, h1', fun b c cur v' w' hb0 hbb hblk hmc hcm hj ho hg => ?_⟩
  have keep : ∀ {q : Nat} {cs : Array Value}, Blk w q tI cs → Blk w' q tI cs := fun hq => hq.grown hg (by
    rcases own_blk_ne h1' hq hne with e | e
    · rw [e]; exact fun q => by cases q
    · exact fun q => e q.symm)
  refine ⟨_, fun i => if i < k then G i else b, fun i => if i < k then C i else c, ho, fun i hi => ?_, fun i j hi hjk e => ?_, fun i hi => ?_⟩
  · simp only
    by_cases hik : i < k
    · rw [List.getElem?_append_left (by omega), if_pos hik, if_pos hik]
      exact h2 i hik
    · rw [List.getElem?_append_right (by omega), if_neg hik, if_neg hik, show i - xs.length = 0 by omega]
      rfl
  · have lt : ∀ a, a < k → G a < w0.heap.size := fun a ha => by
      obtain ⟨_, _, _, cur, hc, _⟩ := h4 a ha
      exact hc.lt
    simp only at e
    split at e <;> split at e
    · exact h3 i j (by assumption) (by assumption) e
    · rename_i a _; have := lt i a; omega
    · rename_i _ a; have := lt j a; omega
    · omega
  · by_cases hik : i < k
    · obtain ⟨a1, a2, a3, cs, hc, hcj⟩ := h4 i hik
      simp only [if_pos hik]
      exact ⟨a1, a2, a3, cs, keep (hc.below' hb), hcj⟩
    · have : i = k := by omega
      subst this
      simp only [if_neg hik]
      exact ⟨hbb, hmc, hcm, cur, keep hblk, hj⟩
theorem GridO.grid {v : Value} (h : GridO tO tI en w base v n m M) (hn : 0 < n) : ∃ g c, v = .slice (some ⟨g, 0, none⟩) n c ∧ n ≤ c ∧ c ≤ maxLen ∧ Grid tO tI en w base g n m M := by
  obtain ⟨xs, G, C, h1, h2, h3, h4⟩ := h
  obtain ⟨g, cap, cur, hv, hg, hblk, hk, hm, hc⟩ := own_blk h1 hn
  exact ⟨g, cap, hv, hk, hm, cur, G, C, hg, hblk, fun i hi => by rw [hc i hi]; exact h2 i hi, h3, h4⟩
end

/-- Elements that read row by row: a slice of n slices of m elements. -/
def Rd {α : Type} (en : α → Value) (w : World) (v : Value) (n m : Nat) (M : Nat → Nat → α) : Prop :=
  ∃ A c, v = .slice A n c ∧ n ≤ c ∧ c ≤ maxLen ∧ ∀ i, i < n → ∃ b o B d, A = some ⟨b, o, none⟩ ∧ b < w.heap.size ∧ w.cell? ⟨b, o + i, none⟩ = some (.slice B m d) ∧ m ≤ d ∧ d ≤ maxLen ∧
    ∀ j, j < m → ∃ b2 o2, B = some ⟨b2, o2, none⟩ ∧ b2 < w.heap.size ∧ w.cell? ⟨b2, o2 + j, none⟩ = some (en (M i j))
/-- A matrix: its block holds the field and rows that read as M. -/
def Mt {α : Type} (t : TypeId) (fv : Value) (en : α → Value) (w : World) (g n m : Nat) (M : Nat → Nat → α) : Prop := ∃ v, Blk w g t #[fv, v] ∧ Rd en w v n m M
section
variable {α : Type} {en : α → Value} {w w' : World} {v : Value} {n m : Nat} {M : Nat → Nat → α}
theorem Rd.below (h : Rd en w v n m M) (hb : Below w.heap.size w w') : Rd en w' v n m M := by
  obtain ⟨A, c, hv, h1, h2, h3⟩ := h
  have := hb.size
  refine ⟨A, c, hv, h1, h2, fun i hi => ?_⟩
  obtain ⟨b, o, B, d, e1, e2, e3, e4, e5, e6⟩ := h3 i hi
  refine ⟨b, o, B, d, e1, by omega, (hb.cell (p := ⟨b, o + i, none⟩) e2).trans e3, e4, e5, fun j hj => ?_⟩
  obtain ⟨b2, o2, f1, f2, f3⟩ := e6 j hj
  exact ⟨b2, o2, f1, by omega, (hb.cell (p := ⟨b2, o2 + j, none⟩) f2).trans f3⟩
theorem Rd.congr {M' : Nat → Nat → α} (h : Rd en w v n m M) (e : ∀ i j, i < n → j < m → M i j = M' i j) : Rd en w v n m M' := by
  obtain ⟨A, c, hv, h1, h2, h3⟩ := h
  refine ⟨A, c, hv, h1, h2, fun i hi => ?_⟩
  obtain ⟨b, o, B, d, e1, e2, e3, e4, e5, e6⟩ := h3 i hi
  exact ⟨b, o, B, d, e1, e2, e3, e4, e5, fun j hj => by rw [← e i j hi hj]; exact e6 j hj⟩
theorem Mt.below {t : TypeId} {fv : Value} {g : Nat} (h : Mt t fv en w g n m M) (hb : Below w.heap.size w w') : Mt t fv en w' g n m M := by
  obtain ⟨v, h1, h2⟩ := h
  exact ⟨v, h1.below' hb, h2.below hb⟩
theorem Mt.congr {t : TypeId} {fv : Value} {g : Nat} {M' : Nat → Nat → α} (h : Mt t fv en w g n m M) (e : ∀ i j, i < n → j < m → M i j = M' i j) : Mt t fv en w g n m M' := by
  obtain ⟨v, h1, h2⟩ := h
  exact ⟨v, h1, h2.congr e⟩
theorem Mt.lt {t : TypeId} {fv : Value} {g : Nat} (h : Mt t fv en w g n m M) : g < w.heap.size := by
  obtain ⟨v, h1, _⟩ := h
  exact h1.lt
theorem Grid.rd {tO tI : TypeId} {base g c : Nat} (h : Grid tO tI en w base g n m M) (hn : n ≤ c) (hc : c ≤ maxLen) : Rd en w (.slice (some ⟨g, 0, none⟩) n c) n m M := by
  obtain ⟨outer, G, C, h1, h2, h3, h4, h5⟩ := h
  refine ⟨_, c, rfl, hn, hc, fun i hi => ?_⟩
  obtain ⟨a1, a2, a3, cur, hcur, hj⟩ := h5 i hi
  exact ⟨g, 0, some ⟨G i, 0, none⟩, C i, rfl, h2.lt, by rw [Nat.zero_add, h2.cell]; exact h3 i hi, a2, a3, fun j hjm => ⟨G i, 0, rfl, hcur.lt, by rw [Nat.zero_add, hcur.cell]; exact hj j hjm⟩⟩
end

/-- What is reckoned row by row, as far as row i, place j: B so far, A else. -/
def part {α : Type} (i j : Nat) (A B : Nat → Nat → α) : Nat → Nat → α := fun x y => if x < i ∨ (x = i ∧ y < j) then B x y else A x y
section
variable {α : Type} {i j : Nat} {A B : Nat → Nat → α}
theorem part_at : part i j A B i j = A i j := if_neg (by omega)
theorem part_row {y : Nat} : part i 0 A B i y = A i y := if_neg (by omega)
theorem part_far {x y : Nat} (h : i < x) : part i j A B x y = A x y := if_neg (by omega)
theorem part_upd : upd (part i j A B) i j (B i j) = part i (j + 1) A B := by
  funext x y
  unfold upd part
  by_cases h : x = i ∧ y = j
  · rw [if_pos h, if_pos (by omega), h.1, h.2]
  · rw [if_neg h]
    by_cases h2 : x < i ∨ (x = i ∧ y < j)
    · rw [if_pos h2, if_pos (by omega)]
    · rw [if_neg h2, if_neg (by omega)]
theorem part_next {m : Nat} : ∀ x y, y < m → part i m A B x y = part (i + 1) 0 A B x y := fun x y hy => by
  unfold part
  by_cases h : x < i ∨ (x = i ∧ y < m)
  · rw [if_pos h, if_pos (by omega)]
  · rw [if_neg h, if_neg (by omega)]
theorem part_skip (h : ∀ y, B i y = A i y) : part i 0 A B = part (i + 1) 0 A B := by
  funext x y
  unfold part
  by_cases h1 : x < i ∨ (x = i ∧ y < 0)
  · rw [if_pos h1, if_pos (by omega)]
  · rw [if_neg h1]
    by_cases h2 : x < i + 1 ∨ (x = i + 1 ∧ y < 0)
    · rw [if_pos h2, show x = i by omega, h]
    · rw [if_neg h2]
end

/-- 'append(out, s...)', out a row of the call's own. -/
theorem wpList_pushQ {P : Program} {t e : TypeId} {z : Value} {bytes : Nat} (T : Elem1 P t e z bytes) {w : World} {base : Nat} {v : Value} {n : Nat} {xs : List Value} (hown : w.ownsRow base e 1 v n xs)
    {w0 : World} (hb : Below base w0 w) (hbase : base ≤ w.heap.size) {u : Value} {m : Nat} {ys : List Value} (hu : Sl w 1 u m ys) (h63 : n + m ≤ maxLen) (hbytes : (n + m) * bytes ≤ 140737488355328) (h1 : ∀ y ∈ ys, y.oneCell' = true)
    {ops : Array Oper} {rest : List Oper} {o : Oper} {a : Act} {Q : Exit → Act → World → Prop} (hgd : o.guard = none) (s y : Operand)
    (ho : o.op = .call { callee := .builtin .append, args := #[s, y], argTypes := #[t, t] }) (hs : a.eval s = v) (hx : a.eval y = u)
    (h : ∀ v' w', w'.ownsRow base e 1 v' (n + m) (xs ++ ys) → Below base w0 w' → wpList P ops Q rest (a.put o.dst v') w') :
    wpList P ops Q (o :: rest) a w := by
  refine wpList_plain hgd fun K hK => ?_
  obtain ⟨v', w', hrun, h3, h4, h6⟩ := run_pushS (P := P) T o.type hown hu h63 hbytes hbase h1
  unfold Oper.wp execOp
  simp only [ho, resolve, invoke, builtin, Sem.run_bind, Sem.run_pure, Result.andThen_ok, List.map_toArray, List.map_cons, List.map_nil, hs, hx, hrun]
  exact hK _ _ (h v' w' h3 (hb.grown h4 hbase fun k hk => (hown.lt k hk).1))

/-- The cells of e elements. -/
def rcells {α : Type} (en : α → Value) (r : Nat → α) (e : Nat) : List Value := (List.range e).map fun j => en (r j)
section
variable {α : Type} {en : α → Value} {r s : Nat → α} {m e j : Nat}
@[simp] theorem rcells_length : (rcells en r e).length = e := by simp [rcells]
theorem rcells_get (h : j < e) : (rcells en r e)[j]? = some (en (r j)) := by rw [rcells, List.getElem?_map, List.getElem?_range h]; rfl
theorem rcells_beside (h : j < m + e) : (rcells en r m ++ rcells en s e)[j]? = some (en (if j < m then r j else s (j - m))) := by
  by_cases hj : j < m
  · rw [List.getElem?_append_left (by rw [rcells_length]; exact hj), rcells_get hj, if_pos hj]
  · rw [List.getElem?_append_right (by rw [rcells_length]; omega), rcells_length, rcells_get (by omega), if_neg hj]
theorem Rd.sl {w : World} {v : Value} {n : Nat} {M : Nat → Nat → α} (h : Rd en w v n m M) : ∃ A c, v = .slice A n c ∧ n ≤ c ∧ c ≤ maxLen ∧ ∀ i, i < n → ∃ b o B d, A = some ⟨b, o, none⟩ ∧ b < w.heap.size ∧ w.cell? ⟨b, o + i, none⟩ = some (.slice B m d) ∧ Sl w 1 (.slice B m d) m (rcells en (M i) m) := by
  obtain ⟨A, c, hv, h1, h2, h3⟩ := h
  refine ⟨A, c, hv, h1, h2, fun i hi => ?_⟩
  obtain ⟨b, o, B, d, e1, e2, e3, e4, e5, e6⟩ := h3 i hi
  refine ⟨b, o, B, d, e1, e2, e3, by simp, B, d, rfl, e4, e5, fun h0 => ?_⟩
  obtain ⟨b2, o2, f1, f2, _⟩ := e6 0 h0
  refine ⟨b2, o2, f1, f2, fun j hj => ?_⟩
  rw [Nat.mul_one] at hj
  obtain ⟨b3, o3, g1, _, g3⟩ := e6 j hj
  rw [f1] at g1
  injection g1 with g1
  injection g1 with q1 q2 _
  rw [q1, q2, g3, rcells_get hj]
end
end Go.Proofs.Ytoaaplngdomdcaa
