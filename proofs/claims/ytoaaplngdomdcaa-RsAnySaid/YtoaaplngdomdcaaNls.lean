/- Lists of numbers of one kind, and lists of such lists, of the call's own. They hold of every program. -/
import Derived.Test.YtoaaplngdomdcaaLists
namespace Go.Proofs.Ytoaaplngdomdcaa
open Go.RowKit

/-- The cells of a list of numbers. -/
def ncells (k : IntKind) (l : List Nat) : List Value := l.map fun n : Nat => .int k (n : Int)
@[simp] theorem ncells_length (k : IntKind) (l : List Nat) : (ncells k l).length = l.length := by simp [ncells]
theorem ncells_append (k : IntKind) (l r : List Nat) : ncells k (l ++ r) = ncells k l ++ ncells k r := by simp [ncells]
theorem ncells_get (k : IntKind) (l : List Nat) (i : Nat) : (ncells k l)[i]? = (l[i]?).map fun n : Nat => .int k (n : Int) := by simp [ncells]
/-- A slice of numbers that reads as l. -/
def Ny (w : World) (k : IntKind) (v : Value) (l : List Nat) : Prop := Sl w 1 v l.length (ncells k l)
theorem Ny.below {w w' : World} {k : IntKind} {v : Value} {l : List Nat} (h : Ny w k v l) (hb : Below w.heap.size w w') : Ny w' k v l := Sl.below h hb
theorem Ny.nil (w : World) (k : IntKind) : Ny w k (.slice none 0 0) [] := Sl.nil w 1
theorem Ny.form {w : World} {k : IntKind} {v : Value} {l : List Nat} (h : Ny w k v l) :
    ∃ A c, v = .slice A l.length c ∧ l.length ≤ c ∧ c ≤ maxLen ∧
      (∀ (i x : Nat), l[i]? = some x → ∃ b o, A = some ⟨b, o, none⟩ ∧ b < w.heap.size ∧ w.cell? ⟨b, o + i, none⟩ = some (.int k (x : Int))) := by
  obtain ⟨A, c, hv, hn, hc, h2⟩ := Sl.form h
  refine ⟨A, c, hv, hn, hc, fun i x hx => ?_⟩
  have hi : i < l.length := (List.getElem?_eq_some_iff.1 hx).1
  obtain ⟨b, o, hA, hlt, hcell⟩ := h2 (by omega)
  refine ⟨b, o, hA, hlt, ?_⟩
  rw [hcell i (by omega), ncells_get, hx]; rfl
/-- A row of numbers of the call's own. -/
def OwnN (w : World) (base : Nat) (e : TypeId) (k : IntKind) (v : Value) (l : List Nat) : Prop := w.ownsRow base e 1 v l.length (ncells k l)
section
variable {w w' : World} {base : Nat} {e : TypeId} {k : IntKind} {v : Value} {l : List Nat}
theorem OwnN.ny (h : OwnN w base e k v l) : Ny w k v l := Sl.of_own h
theorem OwnN.below (h : OwnN w base e k v l) (hb : Below w.heap.size w w') : OwnN w' base e k v l := own_below' h hb
theorem OwnN.nil (w : World) (base : Nat) (e : TypeId) (k : IntKind) : OwnN w base e k (.slice none 0 0) [] := World.ownsRow_nil w base e 1
theorem OwnN.mono_ {b' : Nat} (h : OwnN w base e k v l) (hb : b' ≤ base) : OwnN w b' e k v l := by
  refine ⟨h.1, h.2.imp id ?_⟩
  rintro ⟨g, cap, cur, hv, hg, r⟩
  exact ⟨g, cap, cur, hv, by omega, r⟩
theorem OwnN.alloc (h : OwnN w base e k v l) (o : Obj) : OwnN (w.alloc o) base e k v l := World.ownsRow.alloc h o
theorem OwnN.push {v' : Value} {x : Nat} (h : w'.ownsRow base e 1 v' (l.length + 1) (ncells k l ++ [.int k (x : Int)])) : OwnN w' base e k v' (l ++ [x]) := by
  unfold OwnN
  rw [ncells_append]
  simpa [ncells] using h
theorem OwnN.store {g n cap : Nat} (h : OwnN w base e k (.slice (some ⟨g, 0, none⟩) n cap) l) (i : Nat) (x : Nat) :
    OwnN (w.setCell ⟨g, i, none⟩ (.int k (x : Int))) base e k (.slice (some ⟨g, 0, none⟩) n cap) (l.set i x) := by
  have hn : n = l.length := by
    rcases h.2 with ⟨h0, _⟩ | ⟨g', cap', cur, hv, _⟩
    · cases h0
    · injection hv
  unfold OwnN at *
  subst hn
  have := (h.stored i (.int k (x : Int))).1
  have e : (ncells k l).set i (.int k (x : Int)) = ncells k (l.set i x) := by simp [ncells, List.map_set]
  rw [e] at this
  simpa using this
theorem OwnN.form (h : OwnN w base e k v l) (hn : 0 < l.length) : ∃ g cap, v = .slice (some ⟨g, 0, none⟩) l.length cap ∧ base ≤ g ∧ g < w.heap.size := World.ownsRow.form h hn
theorem OwnN.slice (h : OwnN w base e k v l) : ∃ A c, v = .slice A l.length c := by
  obtain ⟨A, c, hv, _⟩ := h.ny.form
  exact ⟨A, c, hv⟩
end

/-- A list of lists of numbers of the call's own (e: the number's type, E: the list's). -/
def OwnNL (w : World) (base : Nat) (e E : TypeId) (k : IntKind) (v : Value) (L : List (List Nat)) : Prop :=
  ∃ xs, w.ownsRow base E 1 v L.length xs ∧ ∀ (i : Nat) (l : List Nat), L[i]? = some l → ∃ x, xs[i]? = some x ∧ OwnN w base e k x l
section
variable {w w' : World} {base : Nat} {e E : TypeId} {k : IntKind} {v : Value} {L : List (List Nat)}
theorem OwnNL.nil (w : World) (base : Nat) (e E : TypeId) (k : IntKind) : OwnNL w base e E k (.slice none 0 0) [] := ⟨[], World.ownsRow_nil w base E 1, fun i l h => by simp at h⟩
theorem OwnNL.below (h : OwnNL w base e E k v L) (hb : Below w.heap.size w w') : OwnNL w' base e E k v L := by
  obtain ⟨xs, h1, h2⟩ := h
  refine ⟨xs, own_below' h1 hb, fun i l hl => ?_⟩
  obtain ⟨x, hx, ho⟩ := h2 i l hl
  exact ⟨x, hx, ho.below hb⟩
theorem OwnNL.kept (h : OwnNL w base e E k v L) {g : Nat} {t : TypeId} {cs : Array Value} (hb : Blk w g t cs) (he : e ≠ t) (hE : E ≠ t)
    (hg : w.grownBy w' (some g)) : OwnNL w' base e E k v L := by
  obtain ⟨xs, h1, h2⟩ := h
  refine ⟨xs, h1.kept hg (own_blk_ne h1 hb hE), fun i l hl => ?_⟩
  obtain ⟨x, hx, ho⟩ := h2 i l hl
  exact ⟨x, hx, World.ownsRow.kept ho hg (own_blk_ne ho hb he)⟩
/-- One list more, as 'wpList_push1' gives it. -/
theorem OwnNL.pushed (he : e ≠ E) {v' u : Value} {l : List Nat} {xs : List Value} (h1 : w.ownsRow base E 1 v L.length xs)
    (h2 : ∀ (i : Nat) (l : List Nat), L[i]? = some l → ∃ x, xs[i]? = some x ∧ OwnN w base e k x l) (hu : OwnN w base e k u l) (h' : w'.ownsRow base E 1 v' (L.length + 1) (xs ++ [u])) (hg : w.grownBy w' v.ownBlock) : OwnNL w' base e E k v' (L ++ [l]) := by
  have hl := h1.1
  refine ⟨xs ++ [u], by simpa using h', fun i m hm => ?_⟩
  by_cases hi : i < L.length
  · rw [List.getElem?_append_left hi] at hm
    obtain ⟨x, hx, ho⟩ := h2 i m hm
    exact ⟨x, by rw [List.getElem?_append_left (by omega)]; exact hx, World.ownsRow.kept ho hg (own_ne' ho h1 he)⟩
  · rw [List.getElem?_append_right (by omega)] at hm
    have hi2 : i = L.length := by
      rcases Nat.lt_or_ge L.length i with h | h
      · rw [List.getElem?_eq_none (by simp; omega)] at hm; cases hm
      · omega
    subst hi2
    rw [Nat.sub_self] at hm
    injection hm with hm
    subst hm
    exact ⟨u, by rw [List.getElem?_append_right (by omega), show L.length - xs.length = 0 by omega]; rfl, World.ownsRow.kept hu hg (own_ne' hu h1 he)⟩
end

/-- A list of lists of numbers that reads as L. -/
def Nls (w : World) (k : IntKind) (v : Value) (L : List (List Nat)) : Prop :=
  ∃ xs, Sl w 1 v L.length xs ∧ ∀ (i : Nat) (l : List Nat), L[i]? = some l → ∃ x, xs[i]? = some x ∧ Ny w k x l
theorem OwnNL.ls {w : World} {base : Nat} {e E : TypeId} {k : IntKind} {v : Value} {L : List (List Nat)} (h : OwnNL w base e E k v L) : Nls w k v L := by
  obtain ⟨xs, h1, h2⟩ := h
  refine ⟨xs, Sl.of_own h1, fun i l hl => ?_⟩
  obtain ⟨x, hx, ho⟩ := h2 i l hl
  exact ⟨x, hx, ho.ny⟩
theorem Nls.form {w : World} {k : IntKind} {v : Value} {L : List (List Nat)} (h : Nls w k v L) :
    ∃ A c, v = .slice A L.length c ∧ L.length ≤ c ∧ c ≤ maxLen ∧
      (∀ (i : Nat) (l : List Nat), L[i]? = some l → ∃ b o x, A = some ⟨b, o, none⟩ ∧ b < w.heap.size ∧ w.cell? ⟨b, o + i, none⟩ = some x ∧ Ny w k x l) := by
  obtain ⟨xs, h1, h2⟩ := h
  obtain ⟨A, c, hv, hn, hc, h3⟩ := Sl.form h1
  refine ⟨A, c, hv, hn, hc, fun i l hl => ?_⟩
  have hi : i < L.length := (List.getElem?_eq_some_iff.1 hl).1
  obtain ⟨b, o, hA, hlt, hcell⟩ := h3 (by omega)
  obtain ⟨x, hx, hb⟩ := h2 i l hl
  exact ⟨b, o, x, hA, hlt, by rw [hcell i (by omega), hx], hb⟩

/-- A row of cols numbers of which the first j are reckoned. -/
def fillN (cols j : Nat) (f : Nat → Nat) : List Nat := (List.range j).map f ++ List.replicate (cols - j) 0
theorem fillN_zero (cols : Nat) (f : Nat → Nat) : fillN cols 0 f = List.replicate cols 0 := by simp [fillN]
theorem fillN_full (cols : Nat) (f : Nat → Nat) : fillN cols cols f = (List.range cols).map f := by simp [fillN]
theorem fillN_length {cols j : Nat} (f : Nat → Nat) (h : j ≤ cols) : (fillN cols j f).length = cols := by simp [fillN]; omega
theorem fillN_set {cols j : Nat} (f : Nat → Nat) (h : j < cols) : (fillN cols j f).set j (f j) = fillN cols (j + 1) f := by
  unfold fillN
  rw [List.set_append_right _ _ (by simp), List.length_map, List.length_range, Nat.sub_self, show cols - j = (cols - (j + 1)) + 1 by omega, List.replicate_succ, List.set_cons_zero, List.range_succ, List.map_append, List.append_assoc]
  rfl
theorem made_nums (k : IntKind) (n : Nat) : (madeCells (Value.int k 0).cells (n * 1)).toList = ncells k (List.replicate n 0) := by
  unfold ncells
  rw [List.map_replicate]
  have h1 : (madeCells (Value.int k 0).cells (n * 1)).toList = List.replicate n (.int k 0) := by
    apply List.ext_getElem?
    intro i
    have hm : ∀ x : Nat, x % 1 = 0 := fun x => Nat.mod_one x
    simp only [madeCells, Value.cells, Nat.mul_one, Array.toList_map, Array.toList_range, List.getElem?_map, List.getElem?_replicate]
    by_cases h : i < n
    · rw [List.getElem?_range h, if_pos h]; simp [Nat.mod_one]
    · rw [List.getElem?_eq_none (by simp; omega), if_neg h]; rfl
  rw [h1]
  rfl
/-- The rows of a matrix, by its elements. -/
def rowsN (cols : Nat) (E : Nat → Nat → Nat) (rows : Nat) : List (List Nat) := (List.range rows).map fun i => (List.range cols).map (E i)
theorem rowsN_succ (cols : Nat) (E : Nat → Nat → Nat) (k : Nat) : rowsN cols E (k + 1) = rowsN cols E k ++ [(List.range cols).map (E k)] := by simp [rowsN, List.range_succ]
@[simp] theorem rowsN_length (cols : Nat) (E : Nat → Nat → Nat) (k : Nat) : (rowsN cols E k).length = k := by simp [rowsN]
end Go.Proofs.Ytoaaplngdomdcaa
