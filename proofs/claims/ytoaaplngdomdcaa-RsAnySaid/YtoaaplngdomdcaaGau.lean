/- Plain algebra: rows over a field, reckoned with till columns have a single one. -/
namespace Go.Proofs.Ytoaaplngdomdcaa

/-- What a field reckons with. -/
structure Fd (α : Type) where
  zero : α
  one : α
  add : α → α → α
  sub : α → α → α
  mul : α → α → α
  inv : α → Option α

structure Fd.Ok {α : Type} (F : Fd α) : Prop where
  add_comm : ∀ a b, F.add a b = F.add b a
  add_assoc : ∀ a b c, F.add (F.add a b) c = F.add a (F.add b c)
  zero_add : ∀ a, F.add F.zero a = a
  mul_comm : ∀ a b, F.mul a b = F.mul b a
  mul_assoc : ∀ a b c, F.mul (F.mul a b) c = F.mul a (F.mul b c)
  one_mul : ∀ a, F.mul F.one a = a
  distrib : ∀ a b c, F.mul a (F.add b c) = F.add (F.mul a b) (F.mul a c)
  sub_add : ∀ a b, F.add (F.sub a b) b = a
  inv_some : ∀ a b, F.inv a = some b → F.mul a b = F.one
  inv_none : ∀ a, F.inv a = none ↔ a = F.zero
  one_ne : F.one ≠ F.zero

namespace Fd
variable {α : Type} {F : Fd α}

theorem Ok.add_zero (h : F.Ok) (a : α) : F.add a F.zero = a := by rw [h.add_comm, h.zero_add]
theorem Ok.add_right (h : F.Ok) {a b c : α} (e : F.add a c = F.add b c) : a = b := by
  have h0 : F.add (F.sub F.zero c) c = F.zero := h.sub_add _ _
  have h1 : ∀ x, F.add (F.add x c) (F.sub F.zero c) = x := fun x => by rw [h.add_assoc, h.add_comm c, h0, h.add_zero]
  rw [← h1 a, e, h1]
theorem Ok.mul_zero (h : F.Ok) (a : α) : F.mul a F.zero = F.zero := by
  refine h.add_right (c := F.mul a F.zero) ?_
  rw [← h.distrib, h.zero_add, h.zero_add]
theorem Ok.zero_mul (h : F.Ok) (a : α) : F.mul F.zero a = F.zero := by rw [h.mul_comm, h.mul_zero]
theorem Ok.mul_one (h : F.Ok) (a : α) : F.mul a F.one = a := by rw [h.mul_comm, h.one_mul]
theorem Ok.sub_self (h : F.Ok) (a : α) : F.sub a a = F.zero := by
  refine h.add_right (c := a) ?_
  rw [h.sub_add, h.zero_add]
theorem Ok.sub_zero (h : F.Ok) (a : α) : F.sub a F.zero = a := by
  have := h.sub_add a F.zero
  rwa [h.add_zero] at this
theorem Ok.sub_eq_zero (h : F.Ok) {a b : α} (e : F.sub a b = F.zero) : a = b := by
  have := h.sub_add a b
  rwa [e, h.zero_add, eq_comm] at this
theorem Ok.mul_sub (h : F.Ok) (a b c : α) : F.mul a (F.sub b c) = F.sub (F.mul a b) (F.mul a c) := by
  refine h.add_right (c := F.mul a c) ?_
  rw [h.sub_add, ← h.distrib, h.sub_add]
theorem Ok.add_mid (h : F.Ok) (a b c d : α) : F.add (F.add a b) (F.add c d) = F.add (F.add a c) (F.add b d) := by
  rw [h.add_assoc, h.add_assoc, ← h.add_assoc b, h.add_comm b, h.add_assoc c]
theorem Ok.sub_mid (h : F.Ok) (a b c d : α) : F.sub (F.add a c) (F.add b d) = F.add (F.sub a b) (F.sub c d) := by
  refine h.add_right (c := F.add b d) ?_
  rw [h.sub_add, h.add_mid, h.sub_add, h.sub_add]

/-- The sum of the first n. -/
def sum (F : Fd α) : Nat → (Nat → α) → α
  | 0, _ => F.zero
  | n + 1, f => F.add (F.sum n f) (f n)
theorem sum_congr {n : Nat} {f g : Nat → α} (h : ∀ i, i < n → f i = g i) : F.sum n f = F.sum n g := by
  induction n with
  | zero => rfl
  | succ n ih => unfold sum; rw [ih fun i hi => h i (by omega), h n (by omega)]
theorem Ok.sum_zero (h : F.Ok) {n : Nat} {f : Nat → α} (h0 : ∀ i, i < n → f i = F.zero) : F.sum n f = F.zero := by
  induction n with
  | zero => rfl
  | succ n ih => unfold sum; rw [ih fun i hi => h0 i (by omega), h0 n (by omega), h.zero_add]
theorem Ok.sum_add (h : F.Ok) (n : Nat) (f g : Nat → α) : F.sum n (fun i => F.add (f i) (g i)) = F.add (F.sum n f) (F.sum n g) := by
  induction n with
  | zero => unfold sum; rw [h.zero_add]
  | succ n ih => unfold sum; rw [ih, h.add_mid]
theorem Ok.sum_sub (h : F.Ok) (n : Nat) (f g : Nat → α) : F.sum n (fun i => F.sub (f i) (g i)) = F.sub (F.sum n f) (F.sum n g) := by
  induction n with
  | zero => unfold sum; rw [h.sub_self]
  | succ n ih => unfold sum; rw [ih, h.sub_mid]
theorem Ok.sum_mul (h : F.Ok) (n : Nat) (a : α) (f : Nat → α) : F.sum n (fun i => F.mul a (f i)) = F.mul a (F.sum n f) := by
  induction n with
  | zero => unfold sum; rw [h.mul_zero]
  | succ n ih => unfold sum; rw [ih, h.distrib]
theorem Ok.sum_single (h : F.Ok) {n k : Nat} (hk : k < n) (f : Nat → α) (h0 : ∀ i, i < n → i ≠ k → f i = F.zero) : F.sum n f = f k := by
  induction n with
  | zero => omega
  | succ n ih =>
    unfold sum
    by_cases e : k = n
    · subst e
      rw [h.sum_zero fun i hi => h0 i (by omega) (by omega), h.zero_add]
    · rw [ih (by omega) fun i hi => h0 i (by omega), h0 n (by omega) (by omega), h.add_zero]
theorem Ok.sum_swap (h : F.Ok) (m n : Nat) (f : Nat → Nat → α) : F.sum m (fun i => F.sum n (f i)) = F.sum n fun j => F.sum m fun i => f i j := by
  induction m with
  | zero => exact (h.sum_zero fun _ _ => rfl).symm
  | succ m ih =>
    have : (F.sum n fun j => F.sum (m + 1) fun i => f i j) = F.sum n fun j => F.add (F.sum m fun i => f i j) (f m j) := rfl
    rw [this, h.sum_add, ← ih]
    rfl

/-- Rows, by number and place. -/
abbrev Mat (α : Type) := Nat → Nat → α
def swapped (A : Mat α) (a b : Nat) : Mat α := fun i => if i = a then A b else if i = b then A a else A i
def scaled (F : Fd α) (A : Mat α) (r : Nat) (by_ : α) : Mat α := fun i => if i = r then fun j => F.mul (A r j) by_ else A i
def cleared (F : Fd α) (A : Mat α) (own c : Nat) : Mat α := fun i => if i = own then A i else fun j => F.sub (A i j) (F.mul (A i c) (A own j))
/-- The first row from the rank on that has an element with an inverse in a column. -/
def pivot (F : Fd α) (A : Mat α) (n rank c : Nat) : Option Nat := (List.range n).find? fun i => decide (rank ≤ i) && (F.inv (A i c)).isSome
def step (F : Fd α) (n : Nat) (S : Mat α × Nat) (c : Nat) : Mat α × Nat := match F.pivot S.1 n S.2 c with
  | none => S
  | some i => (F.cleared (F.scaled (swapped S.1 S.2 i) S.2 ((F.inv (S.1 i c)).getD F.zero)) S.2 c, S.2 + 1)
def red (F : Fd α) (n : Nat) (A : Mat α) : Nat → Mat α × Nat
  | 0 => (A, 0)
  | c + 1 => F.step n (F.red n A c) c

theorem pivot_none {A : Mat α} {n rank c i : Nat} (h : F.pivot A n rank c = none) (hi : i < n) (hr : rank ≤ i) : F.inv (A i c) = none := by
  unfold pivot at h
  rw [List.find?_eq_none] at h
  have := h i (List.mem_range.2 hi)
  simpa [hr] using this
theorem pivot_some {A : Mat α} {n rank c i : Nat} (h : F.pivot A n rank c = some i) : i < n ∧ rank ≤ i ∧ ∃ b, F.inv (A i c) = some b := by
  unfold pivot at h
  have h1 := List.find?_some h
  have h2 := List.mem_of_find?_eq_some h
  simp only [Bool.and_eq_true, decide_eq_true_eq, Option.isSome_iff_exists] at h1
  exact ⟨List.mem_range.1 h2, h1.1, h1.2⟩
theorem red_rank (n : Nat) (A : Mat α) (c : Nat) : (F.red n A c).2 ≤ c ∧ (F.red n A c).2 ≤ n := by
  induction c with
  | zero => exact ⟨Nat.le_refl _, Nat.zero_le _⟩
  | succ c ih =>
    have e : F.red n A (c + 1) = F.step n (F.red n A c) c := rfl
    rw [e]
    unfold step
    split
    · omega
    · rename_i i hi
      have := pivot_some hi
      simp only
      omega

/-- What is reckoned of a row, linear. -/
structure Lin (F : Fd α) (φ : (Nat → α) → α) : Prop where
  mul : ∀ r b, φ (fun j => F.mul (r j) b) = F.mul (φ r) b
  sub : ∀ r s b, φ (fun j => F.sub (r j) (F.mul b (s j))) = F.sub (φ r) (F.mul b (φ s))
theorem Ok.lin_dot (h : F.Ok) (n k : Nat) (y : Nat → α) : Lin F fun r => F.sum n fun t => F.mul (r (k + t)) (y t) where
  mul r b := by
    rw [h.mul_comm _ b, ← h.sum_mul]
    refine sum_congr fun i _ => ?_
    show F.mul (F.mul (r (k + i)) b) (y i) = _
    rw [h.mul_comm _ b, h.mul_assoc]
  sub r s b := by
    rw [← h.sum_mul, ← h.sum_sub]
    refine sum_congr fun i _ => ?_
    show F.mul (F.sub (r (k + i)) (F.mul b (s (k + i)))) (y i) = _
    rw [h.mul_comm (F.sub _ _), h.mul_sub, h.mul_comm (y i), h.mul_comm (y i), h.mul_assoc]
theorem Ok.lin_at (h : F.Ok) (j : Nat) : Lin F fun r => r j where
  mul _ _ := rfl
  sub _ _ _ := rfl
theorem Ok.sub_mid' (h : F.Ok) (a b c d : α) : F.sub (F.sub a b) (F.sub c d) = F.sub (F.sub a c) (F.sub b d) := by
  refine h.add_right (c := F.sub c d) ?_
  rw [h.sub_add]
  refine h.add_right (c := b) ?_
  rw [h.sub_add, h.add_assoc, h.add_comm (F.sub c d), ← h.add_assoc, h.add_comm (F.sub (F.sub a c) (F.sub b d)), h.add_assoc]
  have h2 : F.add (F.add b (F.sub (F.sub a c) (F.sub b d))) (F.sub c d) = a := by
    refine h.add_right (c := d) ?_
    rw [h.add_assoc, h.sub_add]
    have h3 : F.add (F.sub (F.sub a c) (F.sub b d)) (F.sub b d) = F.sub a c := h.sub_add _ _
    have h4 : F.add (F.sub b d) d = b := h.sub_add _ _
    have h5 : F.add (F.sub a c) c = a := h.sub_add _ _
    generalize F.sub (F.sub a c) (F.sub b d) = p at *
    generalize F.sub b d = q at *
    rw [← h5, ← h3, ← h4, h.add_assoc (F.add p q), h.add_comm c d, ← h.add_assoc, h.add_comm (F.add q d) p, ← h.add_assoc]
  rw [← h.add_assoc, h2]
theorem Ok.lin_diff (h : F.Ok) {φ ψ : (Nat → α) → α} (a : Lin F φ) (b : Lin F ψ) : Lin F fun r => F.sub (φ r) (ψ r) where
  mul r x := by rw [a.mul, b.mul, h.mul_comm (φ r), h.mul_comm (ψ r), h.mul_comm (F.sub _ _), h.mul_sub]
  sub r s x := by rw [a.sub, b.sub, h.mul_sub, h.sub_mid']

theorem swapped_all {A : Mat α} {n a b : Nat} (ha : a < n) (hb : b < n) {p : (Nat → α) → Prop} : (∀ i, i < n → p (swapped A a b i)) ↔ ∀ i, i < n → p (A i) := by
  constructor
  · intro h i hi
    by_cases e : i = a
    · by_cases e2 : b = a
      · have := h b hb
        unfold swapped at this
        rw [if_pos e2, e2, ← e] at this
        exact this
      · have := h b hb
        unfold swapped at this
        rw [if_neg e2, if_pos rfl, ← e] at this
        exact this
    · by_cases e2 : i = b
      · have := h a ha
        unfold swapped at this
        rw [if_pos rfl, ← e2] at this
        exact this
      · have := h i hi
        unfold swapped at this
        rwa [if_neg e, if_neg e2] at this
  · intro h i hi
    unfold swapped
    split
    · exact h b hb
    · split
      · exact h a ha
      · exact h i hi
theorem Ok.scaled_all (h : F.Ok) {φ : (Nat → α) → α} (hφ : Lin F φ) {A : Mat α} {n r : Nat} {x b : α} (hb : F.mul x b = F.one) :
    (∀ i, i < n → φ (F.scaled A r b i) = F.zero) ↔ ∀ i, i < n → φ (A i) = F.zero := by
  have key : φ (fun j => F.mul (A r j) b) = F.zero ↔ φ (A r) = F.zero := by
    rw [hφ.mul]
    constructor
    · intro e
      have : F.mul (F.mul (φ (A r)) b) x = F.mul F.zero x := by rw [e]
      rwa [h.mul_assoc, h.mul_comm b, hb, h.mul_one, h.zero_mul] at this
    · intro e; rw [e, h.zero_mul]
  constructor
  · intro g i hi
    have := g i hi
    unfold scaled at this
    split at this
    · rename_i e; rw [e]; exact key.1 this
    · exact this
  · intro g i hi
    unfold scaled
    split
    · rename_i e; exact key.2 (by rw [← e]; exact g i hi)
    · exact g i hi
theorem Ok.cleared_all (h : F.Ok) {φ : (Nat → α) → α} (hφ : Lin F φ) {A : Mat α} {n own c : Nat} (ho : own < n) :
    (∀ i, i < n → φ (F.cleared A own c i) = F.zero) ↔ ∀ i, i < n → φ (A i) = F.zero := by
  constructor
  · intro g i hi
    have h1 : φ (A own) = F.zero := by
      have := g own ho
      unfold cleared at this
      rwa [if_pos rfl] at this
    have := g i hi
    unfold cleared at this
    split at this
    · exact this
    · rw [hφ.sub, h1, h.mul_zero, h.sub_zero] at this
      exact this
  · intro g i hi
    unfold cleared
    split
    · exact g i hi
    · rw [hφ.sub, g own ho, h.mul_zero, h.sub_zero, g i hi]
theorem Ok.step_all (h : F.Ok) {φ : (Nat → α) → α} (hφ : Lin F φ) (n : Nat) (S : Mat α × Nat) (c : Nat) :
    (∀ i, i < n → φ ((F.step n S c).1 i) = F.zero) ↔ ∀ i, i < n → φ (S.1 i) = F.zero := by
  unfold step
  split
  · exact Iff.rfl
  · rename_i i hi
    obtain ⟨h1, h2, b, hb⟩ := pivot_some hi
    rw [hb]
    show (∀ k, k < n → φ (F.cleared (F.scaled (swapped S.1 S.2 i) S.2 b) S.2 c k) = F.zero) ↔ _
    rw [h.cleared_all hφ (by omega), h.scaled_all hφ (h.inv_some _ _ hb)]
    exact swapped_all (p := fun r => φ r = F.zero) (by omega) h1
theorem Ok.red_all (h : F.Ok) {φ : (Nat → α) → α} (hφ : Lin F φ) (n : Nat) (A : Mat α) (c : Nat) :
    (∀ i, i < n → φ ((F.red n A c).1 i) = F.zero) ↔ ∀ i, i < n → φ (A i) = F.zero := by
  induction c with
  | zero => exact Iff.rfl
  | succ c ih => rw [← ih]; exact h.step_all hφ n _ c
end Fd
end Go.Proofs.Ytoaaplngdomdcaa
