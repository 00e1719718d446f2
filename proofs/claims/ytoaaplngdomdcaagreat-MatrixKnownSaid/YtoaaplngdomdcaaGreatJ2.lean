/- Joined texts: Gau, GauB, Grd, Gf, FpA, MvF, MvA, MvC, MvD, MvE, Last, Grk. -/
import Derived.Test.YtoaaplngdomdcaaGreatJ1
import Derived.WalkKit
import Derived.Deep.RegionHeld3
import Derived.Shelf.Abstract
import Derived.OrdersHeld
import Derived.StillTail
import Derived.Deep.RegionHeld

/- Plain algebra: rows over a field, reckoned with till columns have a single one. -/
namespace Go.Proofs.YtoaaplngdomdcaaGreat

/-- What a field reckons with. -/
structure Fd (α : Type) where
  zero : α
  one : α
  add : α → α → α
  sub : α → α → α
  mul : α → α → α
  inv : α → Option α

structure Fd.Ok {α : Type} (F : Fd α) : Prop where
  add_comm : ∀ a b, F.add a b = F.add b a
  add_assoc : ∀ a b c, F.add (F.add a b) c = F.add a (F.add b c)
  zero_add : ∀ a, F.add F.zero a = a
  mul_comm : ∀ a b, F.mul a b = F.mul b a
  mul_assoc : ∀ a b c, F.mul (F.mul a b) c = F.mul a (F.mul b c)
  one_mul : ∀ a, F.mul F.one a = a
  distrib : ∀ a b c, F.mul a (F.add b c) = F.add (F.mul a b) (F.mul a c)
  sub_add : ∀ a b, F.add (F.sub a b) b = a
  inv_some : ∀ a b, F.inv a = some b → F.mul a b = F.one
  inv_none : ∀ a, F.inv a = none ↔ a = F.zero
  one_ne : F.one ≠ F.zero

namespace Fd
variable {α : Type} {F : Fd α}

theorem Ok.add_zero (h : F.Ok) (a : α) : F.add a F.zero = a := by rw [h.add_comm, h.zero_add]
theorem Ok.add_right (h : F.Ok) {a b c : α} (e : F.add a c = F.add b c) : a = b := by
  have h0 : F.add (F.sub F.zero c) c = F.zero := h.sub_add _ _
  have h1 : ∀ x, F.add (F.add x c) (F.sub F.zero c) = x := fun x => by rw [h.add_assoc, h.add_comm c, h0, h.add_zero]
  rw [← h1 a, e, h1]
theorem Ok.mul_zero (h : F.Ok) (a : α) : F.mul a F.zero = F.zero := by
  refine h.add_right (c := F.mul a F.zero) ?_
  rw [← h.distrib, h.zero_add, h.zero_add]
theorem Ok.zero_mul (h : F.Ok) (a : α) : F.mul F.zero a = F.zero := by rw [h.mul_comm, h.mul_zero]
theorem Ok.mul_one (h : F.Ok) (a : α) : F.mul a F.one = a := by rw [h.mul_comm, h.one_mul]
theorem Ok.sub_self (h : F.Ok) (a : α) : F.sub a a = F.zero := by
  refine h.add_right (c := a) ?_
  rw [h.sub_add, h.zero_add]
theorem Ok.sub_zero (h : F.Ok) (a : α) : F.sub a F.zero = a := by
  have := h.sub_add a F.zero
  rwa [h.add_zero] at this
theorem Ok.sub_eq_zero (h : F.Ok) {a b : α} (e : F.sub a b = F.zero) : a = b := by
  have := h.sub_add a b
  rwa [e, h.zero_add, eq_comm] at this
theorem Ok.mul_sub (h : F.Ok) (a b c : α) : F.mul a (F.sub b c) = F.sub (F.mul a b) (F.mul a c) := by
  refine h.add_right (c := F.mul a c) ?_
  rw [h.sub_add, ← h.distrib, h.sub_add]
theorem Ok.add_mid (h : F.Ok) (a b c d : α) : F.add (F.add a b) (F.add c d) = F.add (F.add a c) (F.add b d) := by
  rw [h.add_assoc, h.add_assoc, ← h.add_assoc b, h.add_comm b, h.add_assoc c]
theorem Ok.sub_mid (h : F.Ok) (a b c d : α) : F.sub (F.add a c) (F.add b d) = F.add (F.sub a b) (F.sub c d) := by
  refine h.add_right (c := F.add b d) ?_
  rw [h.sub_add, h.add_mid, h.sub_add, h.sub_add]

/-- The sum of the first n. -/
def sum (F : Fd α) : Nat → (Nat → α) → α
  | 0, _ => F.zero
  | n + 1, f => F.add (F.sum n f) (f n)
theorem sum_congr {n : Nat} {f g : Nat → α} (h : ∀ i, i < n → f i = g i) : F.sum n f = F.sum n g := by
  induction n with
  | zero => rfl
  | succ n ih => unfold sum; rw [ih fun i hi => h i (by omega), h n (by omega)]
theorem Ok.sum_zero (h : F.Ok) {n : Nat} {f : Nat → α} (h0 : ∀ i, i < n → f i = F.zero) : F.sum n f = F.zero := by
  induction n with
  | zero => rfl
  | succ n ih => unfold sum; rw [ih fun i hi => h0 i (by omega), h0 n (by omega), h.zero_add]
theorem Ok.sum_add (h : F.Ok) (n : Nat) (f g : Nat → α) : F.sum n (fun i => F.add (f i) (g i)) = F.add (F.sum n f) (F.sum n g) := by
  induction n with
  | zero => unfold sum; rw [h.zero_add]
  | succ n ih => unfold sum; rw [ih, h.add_mid]
theorem Ok.sum_sub (h : F.Ok) (n : Nat) (f g : Nat → α) : F.sum n (fun i => F.sub (f i) (g i)) = F.sub (F.sum n f) (F.sum n g) := by
  induction n with
  | zero => unfold sum; rw [h.sub_self]
  | succ n ih => unfold sum; rw [ih, h.sub_mid]
theorem Ok.sum_mul (h : F.Ok) (n : Nat) (a : α) (f : Nat → α) : F.sum n (fun i => F.mul a (f i)) = F.mul a (F.sum n f) := by
  induction n with
  | zero => unfold sum; rw [h.mul_zero]
  | succ n ih => unfold sum; rw [ih, h.distrib]
theorem Ok.sum_single (h : F.Ok) {n k : Nat} (hk : k < n) (f : Nat → α) (h0 : ∀ i, i < n → i ≠ k → f i = F.zero) : F.sum n f = f k := by
  induction n with
  | zero => omega
  | succ n ih =>
    unfold sum
    by_cases e : k = n
    · subst e
      rw [h.sum_zero fun i hi => h0 i (by omega) (by omega), h.zero_add]
    · rw [ih (by omega) fun i hi => h0 i (by omega), h0 n (by omega) (by omega), h.add_zero]
theorem Ok.sum_swap (h : F.Ok) (m n : Nat) (f : Nat → Nat → α) : F.sum m (fun i => F.sum n (f i)) = F.sum n fun j => F.sum m fun i => f i j := by
  induction m with
  | zero => exact (h.sum_zero fun _ _ => rfl).symm
  | succ m ih =>
    have : (F.sum n fun j => F.sum (m + 1) fun i => f i j) = F.sum n fun j => F.add (F.sum m fun i => f i j) (f m j) := rfl
    rw [this, h.sum_add, ← ih]
    rfl

/-- Rows, by number and place. -/
abbrev Mat (α : Type) := Nat → Nat → α
def swapped (A : Mat α) (a b : Nat) : Mat α := fun i => if i = a then A b else if i = b then A a else A i
def scaled (F : Fd α) (A : Mat α) (r : Nat) (by_ : α) : Mat α := fun i => if i = r then fun j => F.mul (A r j) by_ else A i
def cleared (F : Fd α) (A : Mat α) (own c : Nat) : Mat α := fun i => if i = own then A i else fun j => F.sub (A i j) (F.mul (A i c) (A own j))
/-- The first row from the rank on that has an element with an inverse in a column. -/
def pivot (F : Fd α) (A : Mat α) (n rank c : Nat) : Option Nat := (List.range n).find? fun i => decide (rank ≤ i) && (F.inv (A i c)).isSome
def step (F : Fd α) (n : Nat) (S : Mat α × Nat) (c : Nat) : Mat α × Nat := match F.pivot S.1 n S.2 c with
  | none => S
  | some i => (F.cleared (F.scaled (swapped S.1 S.2 i) S.2 ((F.inv (S.1 i c)).getD F.zero)) S.2 c, S.2 + 1)
def red (F : Fd α) (n : Nat) (A : Mat α) : Nat → Mat α × Nat
  | 0 => (A, 0)
  | c + 1 => F.step n (F.red n A c) c

theorem pivot_none {A : Mat α} {n rank c i : Nat} (h : F.pivot A n rank c = none) (hi : i < n) (hr : rank ≤ i) : F.inv (A i c) = none := by
  unfold pivot at h
  rw [List.find?_eq_none] at h
  have := h i (List.mem_range.2 hi)
  simpa [hr] using this
theorem pivot_some {A : Mat α} {n rank c i : Nat} (h : F.pivot A n rank c = some i) : i < n ∧ rank ≤ i ∧ ∃ b, F.inv (A i c) = some b := by
  unfold pivot at h
  have h1 := List.find?_some h
  have h2 := List.mem_of_find?_eq_some h
  simp only [Bool.and_eq_true, decide_eq_true_eq, Option.isSome_iff_exists] at h1
  exact ⟨List.mem_range.1 h2, h1.1, h1.2⟩
theorem red_rank (n : Nat) (A : Mat α) (c : Nat) : (F.red n A c).2 ≤ c ∧ (F.red n A c).2 ≤ n := by
  induction c with
  | zero => exact ⟨Nat.le_refl _, Nat.zero_le _⟩
  | succ c ih =>
    have e : F.red n A (c + 1) = F.step n (F.red n A c) c := rfl
    rw [e]
    unfold step
    split
    · omega
    · rename_i i hi
      have := pivot_some hi
      simp only
      omega

/-- What is reckoned of a row, linear. -/
structure Lin (F : Fd α) (φ : (Nat → α) → α) : Prop where
  mul : ∀ r b, φ (fun j => F.mul (r j) b) = F.mul (φ r) b
  sub : ∀ r s b, φ (fun j => F.sub (r j) (F.mul b (s j))) = F.sub (φ r) (F.mul b (φ s))
theorem Ok.lin_dot (h : F.Ok) (n k : Nat) (y : Nat → α) : Lin F fun r => F.sum n fun t => F.mul (r (k + t)) (y t) where
  mul r b := by
    rw [h.mul_comm _ b, ← h.sum_mul]
    refine sum_congr fun i _ => ?_
    show F.mul (F.mul (r (k + i)) b) (y i) = _
    rw [h.mul_comm _ b, h.mul_assoc]
  sub r s b := by
    rw [← h.sum_mul, ← h.sum_sub]
    refine sum_congr fun i _ => ?_
    show F.mul (F.sub (r (k + i)) (F.mul b (s (k + i)))) (y i) = _
    rw [h.mul_comm (F.sub _ _), h.mul_sub, h.mul_comm (y i), h.mul_comm (y i), h.mul_assoc]
theorem Ok.lin_at (h : F.Ok) (j : Nat) : Lin F fun r => r j where
  mul _ _ := rfl
  sub _ _ _ := rfl
theorem Ok.sub_mid' (h : F.Ok) (a b c d : α) : F.sub (F.sub a b) (F.sub c d) = F.sub (F.sub a c) (F.sub b d) := by
  refine h.add_right (c := F.sub c d) ?_
  rw [h.sub_add]
  refine h.add_right (c := b) ?_
  rw [h.sub_add, h.add_assoc, h.add_comm (F.sub c d), ← h.add_assoc, h.add_comm (F.sub (F.sub a c) (F.sub b d)), h.add_assoc]
  have h2 : F.add (F.add b (F.sub (F.sub a c) (F.sub b d))) (F.sub c d) = a := by
    refine h.add_right (c := d) ?_
    rw [h.add_assoc, h.sub_add]
    have h3 : F.add (F.sub (F.sub a c) (F.sub b d)) (F.sub b d) = F.sub a c := h.sub_add _ _
    have h4 : F.add (F.sub b d) d = b := h.sub_add _ _
    have h5 : F.add (F.sub a c) c = a := h.sub_add _ _
    generalize F.sub (F.sub a c) (F.sub b d) = p at *
    generalize F.sub b d = q at *
    rw [← h5, ← h3, ← h4, h.add_assoc (F.add p q), h.add_comm c d, ← h.add_assoc, h.add_comm (F.add q d) p, ← h.add_assoc]
  rw [← h.add_assoc, h2]
theorem Ok.lin_diff (h : F.Ok) {φ ψ : (Nat → α) → α} (a : Lin F φ) (b : Lin F ψ) : Lin F fun r => F.sub (φ r) (ψ r) where
  mul r x := by rw [a.mul, b.mul, h.mul_comm (φ r), h.mul_comm (ψ r), h.mul_comm (F.sub _ _), h.mul_sub]
  sub r s x := by rw [a.sub, b.sub, h.mul_sub, h.sub_mid']

theorem swapped_all {A : Mat α} {n a b : Nat} (ha : a < n) (hb : b < n) {p : (Nat → α) → Prop} : (∀ i, i < n → p (swapped A a b i)) ↔ ∀ i, i < n → p (A i) := by
  constructor
  · intro h i hi
    by_cases e : i = a
    · by_cases e2 : b = a
      · have := h b hb
        unfold swapped at this
        rw [if_pos e2, e2, ← e] at this
        exact this
      · have := h b hb
        unfold swapped at this
        rw [if_neg e2, if_pos rfl, ← e] at this
        exact this
    · by_cases e2 : i = b
      · have := h a ha
        unfold swapped at this
        rw [if_pos rfl, ← e2] at this
        exact this
      · have := h i hi
        unfold swapped at this
        rwa [if_neg e, if_neg e2] at this
  · intro h i hi
    unfold swapped
    split
    · exact h b hb
    · split
      · exact h a ha
      · exact h i hi
theorem Ok.scaled_all (h : F.Ok) {φ : (Nat → α) → α} (hφ : Lin F φ) {A : Mat α} {n r : Nat} {x b : α} (hb : F.mul x b = F.one) :
    (∀ i, i < n → φ (F.scaled A r b i) = F.zero) ↔ ∀ i, i < n → φ (A i) = F.zero := by
  have key : φ (fun j => F.mul (A r j) b) = F.zero ↔ φ (A r) = F.zero := by
    rw [hφ.mul]
    constructor
    · intro e
      have : F.mul (F.mul (φ (A r)) b) x = F.mul F.zero x := by rw [e]
      rwa [h.mul_assoc, h.mul_comm b, hb, h.mul_one, h.zero_mul] at this
    · intro e; rw [e, h.zero_mul]
  constructor
  · intro g i hi
    have := g i hi
    unfold scaled at this
    split at this
    · rename_i e; rw [e]; exact key.1 this
    · exact this
  · intro g i hi
    unfold scaled
    split
    · rename_i e; exact key.2 (by rw [← e]; exact g i hi)
    · exact g i hi
theorem Ok.cleared_all (h : F.Ok) {φ : (Nat → α) → α} (hφ : Lin F φ) {A : Mat α} {n own c : Nat} (ho : own < n) :
    (∀ i, i < n → φ (F.cleared A own c i) = F.zero) ↔ ∀ i, i < n → φ (A i) = F.zero := by
  constructor
  · intro g i hi
    have h1 : φ (A own) = F.zero := by
      have := g own ho
      unfold cleared at this
      rwa [if_pos rfl] at this
    have := g i hi
    unfold cleared at this
    split at this
    · exact this
    · rw [hφ.sub, h1, h.mul_zero, h.sub_zero] at this
      exact this
  · intro g i hi
    unfold cleared
    split
    · exact g i hi
    · rw [hφ.sub, g own ho, h.mul_zero, h.sub_zero, g i hi]
theorem Ok.step_all (h : F.Ok) {φ : (Nat → α) → α} (hφ : Lin F φ) (n : Nat) (S : Mat α × Nat) (c : Nat) :
    (∀ i, i < n → φ ((F.step n S c).1 i) = F.zero) ↔ ∀ i, i < n → φ (S.1 i) = F.zero := by
  unfold step
  split
  · exact Iff.rfl
  · rename_i i hi
    obtain ⟨h1, h2, b, hb⟩ := pivot_some hi
    rw [hb]
    show (∀ k, k < n → φ (F.cleared (F.scaled (swapped S.1 S.2 i) S.2 b) S.2 c k) = F.zero) ↔ _
    rw [h.cleared_all hφ (by omega), h.scaled_all hφ (h.inv_some _ _ hb)]
    exact swapped_all (p := fun r => φ r = F.zero) (by omega) h1
theorem Ok.red_all (h : F.Ok) {φ : (Nat → α) → α} (hφ : Lin F φ) (n : Nat) (A : Mat α) (c : Nat) :
    (∀ i, i < n → φ ((F.red n A c).1 i) = F.zero) ↔ ∀ i, i < n → φ (A i) = F.zero := by
  induction c with
  | zero => exact Iff.rfl
  | succ c ih => rw [← ih]; exact h.step_all hφ n _ c
end Fd
end Go.Proofs.YtoaaplngdomdcaaGreat

/- Plain algebra: what is left of rows that were reckoned with; inverses, solutions, rank, products. -/
namespace Go.Proofs.YtoaaplngdomdcaaGreat
namespace Fd
variable {α : Type} {F : Fd α}

/-- Rows of which r have a single one in a column before c, and the others nothing there. -/
def Shape (F : Fd α) (n : Nat) (B : Mat α) (r c : Nat) (p : Nat → Nat) : Prop :=
  (∀ k, k < r → p k < c) ∧ (∀ k l, k < l → l < r → p k < p l) ∧ (∀ i, i < n → ∀ k, k < r → B i (p k) = if i = k then F.one else F.zero) ∧ ∀ i, i < n → r ≤ i → ∀ j, j < c → B i j = F.zero
theorem Ok.step_shape (h : F.Ok) {n : Nat} {S : Mat α × Nat} {c : Nat} {p : Nat → Nat} (hr : S.2 ≤ n) (hs : F.Shape n S.1 S.2 c p) : ∃ q, F.Shape n (F.step n S c).1 (F.step n S c).2 (c + 1) q := by
  obtain ⟨B, r⟩ := S
  obtain ⟨h1, h2, h3, h4⟩ := hs
  simp only at h1 h2 h3 h4 hr
  unfold step
  split
  · rename_i hp
    refine ⟨p, fun k hk => Nat.lt_succ_of_lt (h1 k hk), h2, h3, fun i hi hri j hj => ?_⟩
    by_cases e : j < c
    · exact h4 i hi hri j e
    · have : j = c := by omega
      subst this
      exact (h.inv_none _).1 (pivot_none hp hi hri)
  · rename_i i0 hp
    obtain ⟨i1, i2, b, hb⟩ := pivot_some hp
    simp only at i1 i2 hb
    simp only [hb, Option.getD_some]
    have hx := h.inv_some _ _ hb
    -- rows from r on have nothing in the columns of those before
    have z3 : ∀ i, i < n → r ≤ i → ∀ k, k < r → B i (p k) = F.zero := fun i hi hri k hk => by rw [h3 i hi k hk, if_neg (by omega)]
    have w3 : ∀ i, i < n → ∀ k, k < r → swapped B r i0 i (p k) = if i = k then F.one else F.zero := fun i hi k hk => by
      unfold swapped
      by_cases e1 : i = r
      · rw [if_pos e1, z3 i0 i1 i2 k hk, if_neg (by omega)]
      · rw [if_neg e1]
        by_cases e2 : i = i0
        · rw [if_pos e2, z3 r (by omega) (Nat.le_refl _) k hk, if_neg (by omega)]
        · rw [if_neg e2, h3 i hi k hk]
    have w4 : ∀ i, i < n → r ≤ i → ∀ j, j < c → swapped B r i0 i j = F.zero := fun i hi hri j hj => by
      unfold swapped
      by_cases e1 : i = r
      · rw [if_pos e1, h4 i0 i1 i2 j hj]
      · rw [if_neg e1]
        by_cases e2 : i = i0
        · rw [if_pos e2, h4 r (by omega) (Nat.le_refl _) j hj]
        · rw [if_neg e2, h4 i hi hri j hj]
    have s3 : ∀ i, i < n → ∀ k, k < r → F.scaled (swapped B r i0) r b i (p k) = if i = k then F.one else F.zero := fun i hi k hk => by
      unfold scaled
      by_cases e1 : i = r
      · rw [if_pos e1, w3 r (by omega) k hk, if_neg (by omega), if_neg (by omega), h.zero_mul]
      · rw [if_neg e1, w3 i hi k hk]
    have s4 : ∀ i, i < n → r ≤ i → ∀ j, j < c → F.scaled (swapped B r i0) r b i j = F.zero := fun i hi hri j hj => by
      unfold scaled
      by_cases e1 : i = r
      · rw [if_pos e1, w4 r (by omega) (Nat.le_refl _) j hj, h.zero_mul]
      · rw [if_neg e1, w4 i hi hri j hj]
    have s5 : F.scaled (swapped B r i0) r b r c = F.one := by
      unfold scaled
      rw [if_pos rfl]
      unfold swapped
      rw [if_pos rfl]
      exact hx
    generalize F.scaled (swapped B r i0) r b = C at s3 s4 s5
    refine ⟨fun k => if k < r then p k else c, fun k hk => ?_, fun k l hkl hl => ?_, fun i hi k hk => ?_, fun i hi hri j hj => ?_⟩
    · simp only
      split
      · have := h1 k (by omega); omega
      · omega
    · simp only
      rw [if_pos (show k < r by omega)]
      split
      · exact h2 k l hkl (by omega)
      · exact h1 k (by omega)
    · show F.cleared C r c i (if k < r then p k else c) = _
      unfold cleared
      by_cases ek : k < r
      · rw [if_pos ek]
        by_cases e1 : i = r
        · rw [if_pos e1, s3 i hi k ek]
        · rw [if_neg e1]
          show F.sub (C i (p k)) (F.mul (C i c) (C r (p k))) = _
          rw [s3 i hi k ek, s3 r (by omega) k ek, if_neg (show ¬ r = k by omega), h.mul_zero, h.sub_zero]
      · rw [if_neg ek]
        have hkr : k = r := by omega
        subst hkr
        by_cases e1 : i = k
        · rw [if_pos e1, if_pos e1, e1, s5]
        · rw [if_neg e1, if_neg e1]
          show F.sub (C i c) (F.mul (C i c) (C k c)) = _
          rw [s5, h.mul_one, h.sub_self]
    · show F.cleared C r c i j = _
      unfold cleared
      rw [if_neg (show ¬ i = r by omega)]
      show F.sub (C i j) (F.mul (C i c) (C r j)) = _
      by_cases e : j < c
      · rw [s4 i hi (by omega) j e, s4 r (by omega) (Nat.le_refl _) j e, h.mul_zero, h.sub_zero]
      · have : j = c := by omega
        subst this
        rw [s5, h.mul_one, h.sub_self]
theorem Ok.red_shape (h : F.Ok) (n : Nat) (A : Mat α) (c : Nat) : ∃ p, F.Shape n (F.red n A c).1 (F.red n A c).2 c p := by
  induction c with
  | zero => exact ⟨id, fun k hk => absurd hk (Nat.not_lt_zero _), fun k l _ hl => absurd hl (Nat.not_lt_zero _), fun i _ k hk => absurd hk (Nat.not_lt_zero _), fun i _ _ j hj => absurd hj (Nat.not_lt_zero _)⟩
  | succ c ih =>
    obtain ⟨p, hp⟩ := ih
    exact h.step_shape (red_rank n A c).2 hp
theorem Shape.le {n : Nat} {B : Mat α} {r c : Nat} {p : Nat → Nat} (hs : F.Shape n B r c p) : ∀ k, k < r → k ≤ p k := by
  intro k
  induction k with
  | zero => intro _; exact Nat.zero_le _
  | succ k ih => intro hk; have := ih (by omega); have := hs.2.1 k (k + 1) (by omega) hk; omega
theorem Shape.ge {n : Nat} {B : Mat α} {r c : Nat} {p : Nat → Nat} (hs : F.Shape n B r c p) : ∀ d k, k + d + 1 = r → p k + d < c := by
  intro d
  induction d with
  | zero => intro k hk; have := hs.1 k (by omega); omega
  | succ d ih => intro k hk; have := ih (k + 1) (by omega); have := hs.2.1 k (k + 1) (by omega) (by omega); omega
/-- All rows have their one: the ones go from corner to corner. -/
theorem Shape.full {n : Nat} {B : Mat α} {p : Nat → Nat} (hs : F.Shape n B n n p) {i j : Nat} (hi : i < n) (hj : j < n) : B i j = if i = j then F.one else F.zero := by
  have h1 := hs.le j hj
  have h2 := hs.ge (n - 1 - j) j (by omega)
  have h3 : p j = j := by omega
  have := hs.2.2.1 i hi j hj
  rwa [h3] at this
/-- Fewer rows than columns have their one: a column has none. -/
theorem Shape.gap {n : Nat} {B : Mat α} {r m : Nat} {p : Nat → Nat} (hs : F.Shape n B r m p) (hr : r < m) : ∃ c, c < m ∧ ∀ k, k < r → p k ≠ c := by
  by_cases hall : ∀ k, k < r → p k = k
  · exact ⟨r, hr, fun k hk => by rw [hall k hk]; omega⟩
  · have key : ∀ t, (∀ k, k < t → k < r → p k = k) ∨ ∃ k, k < r ∧ p k ≠ k ∧ ∀ l, l < k → p l = l := by
      intro t
      induction t with
      | zero => exact .inl fun k hk => absurd hk (Nat.not_lt_zero _)
      | succ t ih =>
        rcases ih with ih | ih
        · by_cases htr : t < r
          · by_cases e : p t = t
            · refine .inl fun k hk hkr => ?_
              by_cases e2 : k = t
              · rw [e2, e]
              · exact ih k (by omega) hkr
            · exact .inr ⟨t, htr, e, fun l hl => ih l hl (by omega)⟩
          · exact .inl fun k hk hkr => ih k (by omega) hkr
        · exact .inr ih
    rcases key r with hk | ⟨k, hk, hne, hl⟩
    · exact absurd (fun k h => hk k h h) hall
    · refine ⟨k, by omega, fun l hlr e => ?_⟩
      have h1 := hs.le k hk
      rcases Nat.lt_trichotomy l k with h | h | h
      · rw [hl l h] at e; omega
      · rw [h] at e; exact hne e
      · have := hs.2.1 k l h hlr; omega

/-- A row times a column. -/
def dot (F : Fd α) (n : Nat) (r y : Nat → α) : α := F.sum n fun t => F.mul (r t) (y t)
theorem dot_congr {n : Nat} {r r' y y' : Nat → α} (h : ∀ i, i < n → r i = r' i) (h2 : ∀ i, i < n → y i = y' i) : F.dot n r y = F.dot n r' y' := sum_congr fun i hi => by rw [h i hi, h2 i hi]
/-- A column with a single one. -/
def unit (F : Fd α) (k : Nat) : Nat → α := fun i => if i = k then F.one else F.zero
theorem Ok.dot_unit (h : F.Ok) {n k : Nat} (hk : k < n) (r : Nat → α) : F.dot n r (F.unit k) = r k := by
  unfold dot unit
  rw [h.sum_single hk]
  · simp only [if_pos]; exact h.mul_one _
  · intro i _ hi; rw [if_neg hi, h.mul_zero]
theorem Ok.unit_dot (h : F.Ok) {n k : Nat} (hk : k < n) (y : Nat → α) : F.dot n (fun t => if k = t then F.one else F.zero) y = y k := by
  unfold dot
  rw [h.sum_single hk]
  · simp only [if_pos]; exact h.one_mul _
  · intro i _ hi; simp only []; rw [if_neg (fun e => hi (Eq.symm e)), h.zero_mul]
/-- The product of matrices. -/
def mulm (F : Fd α) (m : Nat) (A B : Mat α) : Mat α := fun i j => F.dot m (A i) fun k => B k j
theorem Ok.mulm_dot (h : F.Ok) (m n : Nat) (A B : Mat α) (y : Nat → α) (i : Nat) : F.dot n (F.mulm m A B i) y = F.dot m (A i) fun k => F.dot n (B k) y := by
  unfold dot mulm
  have e1 : ∀ t, F.mul (F.dot m (A i) fun k => B k t) (y t) = F.sum m fun k => F.mul (A i k) (F.mul (B k t) (y t)) := fun t => by
    unfold dot
    rw [h.mul_comm, ← h.sum_mul]
    refine sum_congr fun k _ => ?_
    show F.mul (y t) (F.mul (A i k) (B k t)) = _
    rw [h.mul_comm (y t), h.mul_assoc]
  rw [sum_congr fun t _ => e1 t, h.sum_swap]
  refine sum_congr fun k _ => ?_
  rw [← h.sum_mul]
/-- Products go together in any grouping. -/
theorem Ok.mulm_assoc (h : F.Ok) (m n : Nat) (A B C : Mat α) (i j : Nat) : F.mulm n (F.mulm m A B) C i j = F.mulm m A (F.mulm n B C) i j := h.mulm_dot m n A B (fun k => C k j) i
def ident (F : Fd α) : Mat α := fun i j => if i = j then F.one else F.zero
theorem Ok.mulm_ident (h : F.Ok) {n : Nat} (A : Mat α) {i j : Nat} (hj : j < n) : F.mulm n A F.ident i j = A i j := h.dot_unit hj _
theorem Ok.ident_mulm (h : F.Ok) {n : Nat} (A : Mat α) {i : Nat} (j : Nat) (hi : i < n) : F.mulm n F.ident A i j = A i j := h.unit_dot hi fun k => A k j

/-- X is the inverse of M: columns go there and back. -/
def IsInv (F : Fd α) (n : Nat) (M X : Mat α) : Prop := ∀ z w : Nat → α, (∀ i, i < n → F.dot n (M i) z = w i) ↔ ∀ i, i < n → F.dot n (X i) w = z i
theorem IsInv.symm {n : Nat} {M X : Mat α} (h : F.IsInv n M X) : F.IsInv n X M := fun z w => (h w z).symm
theorem IsInv.mul_right {n : Nat} {M X : Mat α} (h : F.Ok) (hi : F.IsInv n M X) {i j : Nat} (h1 : i < n) (hj : j < n) : F.mulm n M X i j = F.ident i j := by
  have := (hi (fun k => X k j) (F.unit j)).2 fun i _ => h.dot_unit hj _
  exact this i h1
theorem IsInv.unique {n : Nat} {M X Y : Mat α} (h : F.Ok) (h1 : F.IsInv n M X) (h2 : F.IsInv n M Y) {i j : Nat} (hi : i < n) (hj : j < n) : X i j = Y i j := by
  have e1 := (h1 (fun k => X k j) (F.unit j)).2 fun i _ => h.dot_unit hj _
  have e2 := (h2 (fun k => X k j) (F.unit j)).1 e1 i hi
  rw [h.dot_unit hj] at e2
  exact e2.symm
theorem IsInv.of_eq {n : Nat} {M X M' X' : Mat α} (h : F.IsInv n M X) (e1 : ∀ i j, i < n → j < n → M i j = M' i j) (e2 : ∀ i j, i < n → j < n → X i j = X' i j) : F.IsInv n M' X' := fun z w => by
  have a1 : ∀ i, i < n → F.dot n (M' i) z = F.dot n (M i) z := fun i hi => dot_congr (fun j hj => (e1 i j hi hj).symm) fun _ _ => rfl
  have a2 : ∀ i, i < n → F.dot n (X' i) w = F.dot n (X i) w := fun i hi => dot_congr (fun j hj => (e2 i j hi hj).symm) fun _ _ => rfl
  constructor
  · intro g i hi; rw [a2 i hi]; exact (h z w).1 (fun i hi => by rw [← a1 i hi]; exact g i hi) i hi
  · intro g i hi; rw [a1 i hi]; exact (h z w).2 (fun i hi => by rw [← a2 i hi]; exact g i hi) i hi
theorem IsInv.mulm {n : Nat} {A B I J : Mat α} (h : F.Ok) (ha : F.IsInv n A I) (hb : F.IsInv n B J) : F.IsInv n (F.mulm n A B) (F.mulm n J I) := fun z w => by
  constructor
  · intro g i hi
    rw [h.mulm_dot]
    refine (hb z _).1 (fun k hk => ?_) i hi
    exact ((ha (fun k => F.dot n (B k) z) w).1 (fun i hi => by rw [← h.mulm_dot]; exact g i hi) k hk).symm
  · intro g i hi
    rw [h.mulm_dot]
    refine (ha _ w).2 (fun k hk => ?_) i hi
    exact ((hb z fun k => F.dot n (I k) w).2 (fun i hi => by rw [← h.mulm_dot]; exact g i hi) k hk).symm
theorem IsInv.ident (h : F.Ok) (n : Nat) : F.IsInv n F.ident F.ident := fun z w => by
  constructor
  · intro g i hi; rw [show F.dot n (F.ident i) w = w i from h.unit_dot hi w, ← g i hi]; exact h.unit_dot hi z
  · intro g i hi; rw [show F.dot n (F.ident i) z = z i from h.unit_dot hi z, ← g i hi]; exact h.unit_dot hi w
/-- No column but that of noughts is made into noughts. -/
def Inj (F : Fd α) (n : Nat) (M : Mat α) : Prop := ∀ y : Nat → α, (∀ i, i < n → F.dot n (M i) y = F.zero) → ∀ i, i < n → y i = F.zero
theorem Ok.dot_zero (h : F.Ok) (n : Nat) (r : Nat → α) : F.dot n r (fun _ => F.zero) = F.zero := h.sum_zero fun _ _ => h.mul_zero _
theorem IsInv.inj {n : Nat} {M X : Mat α} (h : F.Ok) (hi : F.IsInv n M X) : F.Inj n M := fun y hy i hi2 => by
  rw [← (hi y fun _ => F.zero).1 hy i hi2, h.dot_zero]

/-- A matrix, more behind each row. -/
def beside (n : Nat) (M N : Mat α) : Mat α := fun i j => if j < n then M i j else N i (j - n)
theorem Ok.red_beside (h : F.Ok) (n m : Nat) (M N : Mat α) (z w : Nat → α) (hr : (F.red n (beside n M N) n).2 = n) :
    (∀ i, i < n → F.dot n (M i) z = F.dot m (N i) w) ↔ ∀ i, i < n → z i = F.dot m (fun t => (F.red n (beside n M N) n).1 i (n + t)) w := by
  have hφ := h.lin_diff (h.lin_dot n 0 z) (h.lin_dot m n w)
  have key := h.red_all hφ n (beside n M N) n
  obtain ⟨p, hs⟩ := h.red_shape n (beside n M N) n
  rw [hr] at hs
  have a1 : ∀ i, i < n → (F.sum n fun t => F.mul ((F.red n (beside n M N) n).1 i (0 + t)) (z t)) = z i := fun i hi => by
    rw [← h.unit_dot hi z]
    unfold dot
    refine sum_congr fun t ht => ?_
    rw [Nat.zero_add, hs.full hi ht]
  have a2 : ∀ i, (F.sum n fun t => F.mul (beside n M N i (0 + t)) (z t)) = F.dot n (M i) z := fun i => by
    unfold dot
    refine sum_congr fun t ht => ?_
    unfold beside
    rw [Nat.zero_add, if_pos ht]
  have a3 : ∀ i, (F.sum m fun t => F.mul (beside n M N i (n + t)) (w t)) = F.dot m (N i) w := fun i => by
    unfold dot
    refine sum_congr fun t _ => ?_
    unfold beside
    rw [if_neg (by omega), Nat.add_sub_cancel_left]
  constructor
  · intro g i hi
    have := key.2 (fun i hi => by rw [a2 i, a3 i, g i hi, h.sub_self]) i hi
    rw [a1 i hi] at this
    exact h.sub_eq_zero this
  · intro g i hi
    have := key.1 (fun i hi => by rw [a1 i hi, g i hi]; exact h.sub_self _) i hi
    rw [a2 i, a3 i] at this
    exact h.sub_eq_zero this
/-- What stands behind the identity, once that stands in front, is the inverse. -/
theorem Ok.inverse (h : F.Ok) (n : Nat) (M : Mat α) (hr : (F.red n (beside n M F.ident) n).2 = n) : F.IsInv n M fun i j => (F.red n (beside n M F.ident) n).1 i (n + j) := fun z w => by
  have := h.red_beside n n M F.ident z w hr
  constructor
  · intro g i hi
    exact (this.1 (fun i hi => by rw [g i hi]; exact (h.unit_dot hi w).symm) i hi).symm
  · intro g i hi
    rw [this.2 (fun i hi => (g i hi).symm) i hi]
    exact h.unit_dot hi w
/-- The rank is not full: some column but that of noughts is made into noughts. -/
theorem Ok.low (h : F.Ok) (n m : Nat) (A : Mat α) (hr : (F.red n A m).2 < m) : ∃ y : Nat → α, (∀ i, i < n → F.dot m (A i) y = F.zero) ∧ ∃ c, c < m ∧ y c = F.one := by
  obtain ⟨p, hs⟩ := h.red_shape n A m
  obtain ⟨c, hc, hp⟩ := hs.gap hr
  have key := fun y => h.red_all (h.lin_dot m 0 y) n A m
  have hrn := (red_rank (F := F) n A m).2
  generalize (F.red n A m).1 = B at hs key
  generalize (F.red n A m).2 = r at hs hp hr hrn
  -- the column: one at c, and what undoes it where a row has its one
  obtain ⟨f, hf⟩ : ∃ f : Nat → Option Nat, ∀ j, (∀ k, f j = some k → k < r ∧ p k = j) ∧ (f j = none → ∀ k, k < r → p k ≠ j) :=
    ⟨fun j => (List.range r).find? fun k => decide (p k = j), fun j => ⟨fun k hk => by
      have a := List.find?_some hk
      have b := List.mem_of_find?_eq_some hk
      exact ⟨List.mem_range.1 b, by simpa using a⟩, fun hn k hk => by
      rw [List.find?_eq_none] at hn
      simpa using hn k (List.mem_range.2 hk)⟩⟩
  have hpinj : ∀ k l, k < r → l < r → p k = p l → k = l := fun k l hk hl e => by
    rcases Nat.lt_trichotomy k l with g | g | g
    · have := hs.2.1 k l g hl; omega
    · exact g
    · have := hs.2.1 l k g hk; omega
  let y : Nat → α := fun j => if j = c then F.one else match f j with
    | some k => F.sub F.zero (B k c)
    | none => F.zero
  have yp : ∀ k, k < r → y (p k) = F.sub F.zero (B k c) := fun k hk => by
    show (if p k = c then F.one else match f (p k) with | some k => F.sub F.zero (B k c) | none => F.zero) = _
    rw [if_neg (hp k hk)]
    cases e : f (p k) with
    | none => exact absurd rfl ((hf (p k)).2 e k hk)
    | some l =>
      obtain ⟨hl, e2⟩ := (hf (p k)).1 l e
      rw [hpinj l k hl hk e2]
  have yc : y c = F.one := if_pos rfl
  have y0 : ∀ j, j ≠ c → (∀ k, k < r → p k ≠ j) → y j = F.zero := fun j hj hk => by
    show (if j = c then F.one else match f j with | some k => F.sub F.zero (B k c) | none => F.zero) = _
    rw [if_neg hj]
    cases e : f j with
    | none => rfl
    | some l => exact absurd ((hf j).1 l e).2 (hk l ((hf j).1 l e).1)
  clear_value y
  refine ⟨y, fun i hi => ?_, c, hc, yc⟩
  have hdot : ∀ R : Nat → α, (F.sum m fun t => F.mul (R (0 + t)) (y t)) = F.dot m R y := fun R => by unfold dot; refine sum_congr fun t _ => ?_; rw [Nat.zero_add]
  refine (hdot (A i)).symm.trans ((key y).1 (fun i hi => ?_) i hi)
  rw [hdot]
  -- a row of what is left: nothing, or its one and what stands at c
  by_cases hir : i < r
  · have h1 : ∀ t, t < m → F.mul (B i t) (y t) = F.add (if t = p i then F.sub F.zero (B i c) else F.zero) (if t = c then B i c else F.zero) := fun t _ => by
      by_cases e1 : t = c
      · rw [e1, if_neg (fun e => hp i hir e.symm), if_pos rfl, yc, h.mul_one, h.zero_add]
      · rw [if_neg e1]
        by_cases e2 : ∃ k, k < r ∧ p k = t
        · obtain ⟨k, hk, e2⟩ := e2
          rw [← e2, hs.2.2.1 i hi k hk, yp k hk]
          by_cases e3 : i = k
          · rw [if_pos e3, if_pos (by rw [e3]), e3, h.one_mul, h.add_zero]
          · rw [if_neg e3, if_neg (fun e => e3 (hpinj i k hir hk e.symm)), h.zero_mul, h.zero_add]
        · rw [y0 t e1 fun k hk e => e2 ⟨k, hk, e⟩, if_neg (fun e => e2 ⟨i, hir, e.symm⟩), h.mul_zero, h.zero_add]
    unfold dot
    rw [sum_congr h1, h.sum_add, h.sum_single (show p i < m from hs.1 i hir) _ (fun j _ hj => if_neg hj), h.sum_single hc _ (fun j _ hj => if_neg hj), if_pos rfl, if_pos rfl, h.sub_add]
  · unfold dot
    refine h.sum_zero fun t ht => ?_
    rw [hs.2.2.2 i hi (by omega) t ht, h.zero_mul]
/-- What is reckoned hangs on the first columns alone. -/
theorem red_left (n m : Nat) (A A' : Mat α) (h : ∀ i j, j < m → A i j = A' i j) : ∀ c, c ≤ m → (F.red n A c).2 = (F.red n A' c).2 ∧ ∀ i j, j < m → (F.red n A c).1 i j = (F.red n A' c).1 i j := by
  intro c
  induction c with
  | zero => intro _; exact ⟨rfl, h⟩
  | succ c ih =>
    intro hc
    obtain ⟨e1, e2⟩ := ih (by omega)
    show (F.step n (F.red n A c) c).2 = (F.step n (F.red n A' c) c).2 ∧ ∀ i j, j < m → (F.step n (F.red n A c) c).1 i j = (F.step n (F.red n A' c) c).1 i j
    generalize F.red n A c = S at e1 e2
    generalize F.red n A' c = S' at e1 e2
    obtain ⟨B, r⟩ := S
    obtain ⟨B', r'⟩ := S'
    simp only at e1 e2
    subst e1
    have hpv : F.pivot B n r c = F.pivot B' n r c := by
      unfold pivot
      congr 1
      funext i
      rw [e2 i c (by omega)]
    unfold step
    simp only
    rw [hpv]
    cases F.pivot B' n r c with
    | none => exact ⟨rfl, e2⟩
    | some i0 =>
      refine ⟨rfl, fun i j hj => ?_⟩
      simp only
      rw [e2 i0 c (by omega)]
      have hsw : ∀ i j, j < m → swapped B r i0 i j = swapped B' r i0 i j := fun i j hj => by unfold swapped; split; exact e2 _ _ hj; split; exact e2 _ _ hj; exact e2 _ _ hj
      generalize (F.inv (B' i0 c)).getD F.zero = b
      have hsc : ∀ i j, j < m → F.scaled (swapped B r i0) r b i j = F.scaled (swapped B' r i0) r b i j := fun i j hj => by
        unfold scaled
        split
        · show F.mul _ _ = F.mul _ _
          rw [hsw r j hj]
        · exact hsw i j hj
      unfold cleared
      split
      · exact hsc i j hj
      · show F.sub _ (F.mul _ _) = F.sub _ (F.mul _ _)
        rw [hsc i j hj, hsc i c (by omega), hsc r j hj]
theorem red_beside_rank (n : Nat) (M N : Mat α) : (F.red n (beside n M N) n).2 = (F.red n M n).2 := (red_left n n (beside n M N) M (fun i j hj => if_pos hj) n (Nat.le_refl _)).1
/-- The rank of a square is full just if no other column is made into noughts. -/
theorem Ok.rank_inj (h : F.Ok) (n : Nat) (M : Mat α) : (F.red n M n).2 = n ↔ F.Inj n M := by
  constructor
  · intro hr
    exact (h.inverse n M (by rw [red_beside_rank, hr])).inj h
  · intro hi
    refine Nat.le_antisymm (red_rank (F := F) n M n).2 (Nat.le_of_not_lt fun hlt => ?_)
    obtain ⟨y, hy, c, hc, e⟩ := h.low n n M hlt
    exact h.one_ne (by rw [← e]; exact hi y hy c hc)
theorem Ok.inj_mulm (h : F.Ok) {n : Nat} (A B : Mat α) : F.Inj n (F.mulm n A B) ↔ F.Inj n A ∧ F.Inj n B := by
  constructor
  · intro g
    have hb : F.Inj n B := fun y hy => g y fun i hi => by
      rw [h.mulm_dot]
      exact (dot_congr (fun _ _ => rfl) hy).trans (h.dot_zero n _)
    refine ⟨fun y hy i hi => ?_, hb⟩
    have hJ := h.inverse n B (by rw [red_beside_rank]; exact (h.rank_inj n B).2 hb)
    generalize (fun i j => (F.red n (beside n B F.ident) n).1 i (n + j)) = J at hJ
    have e1 := (hJ (fun k => F.dot n (J k) y) y).2 fun _ _ => rfl
    have e2 := g (fun k => F.dot n (J k) y) fun i hi => by
      rw [h.mulm_dot]
      exact (dot_congr (fun _ _ => rfl) e1).trans (hy i hi)
    rw [← e1 i hi]
    exact (dot_congr (fun _ _ => rfl) e2).trans (h.dot_zero n _)
  · intro ⟨ga, gb⟩ y hy
    exact gb y (ga _ fun i hi => by rw [← h.mulm_dot]; exact hy i hi)
end Fd
end Go.Proofs.YtoaaplngdomdcaaGreat

/- Rows in memory that a call reckons with, each in a block of its own, behind one row of slices; matrices as they are read. They hold of every program. -/
namespace Go.Proofs.YtoaaplngdomdcaaGreat
open Go.RowKit

/-- One element is another. -/
def upd {α : Type} (M : Nat → Nat → α) (i j : Nat) (x : α) : Nat → Nat → α := fun a b => if a = i ∧ b = j then x else M a b

/-- n rows of m elements, each in a block of its own, behind one row of slices (block g). -/
def Grid {α : Type} (tO tI : TypeId) (en : α → Value) (w : World) (base g n m : Nat) (M : Nat → Nat → α) : Prop :=
  ∃ (outer : Array Value) (G C : Nat → Nat), base ≤ g ∧ Blk w g tO outer ∧ (∀ i, i < n → outer[i]? = some (.slice (some ⟨G i, 0, none⟩) m (C i))) ∧
    (∀ i j, i < n → j < n → G i = G j → i = j) ∧
    ∀ i, i < n → base ≤ G i ∧ m ≤ C i ∧ C i ≤ maxLen ∧ ∃ cur, Blk w (G i) tI cur ∧ ∀ j, j < m → cur[j]? = some (en (M i j))
section
variable {α : Type} {tO tI : TypeId} {en : α → Value} {w w' : World} {base g n m : Nat} {M : Nat → Nat → α}
theorem Grid.congr {M' : Nat → Nat → α} (h : Grid tO tI en w base g n m M) (e : ∀ i j, i < n → j < m → M i j = M' i j) : Grid tO tI en w base g n m M' := by
  obtain ⟨outer, G, C, h1, h2, h3, h4, h5⟩ := h
  refine ⟨outer, G, C, h1, h2, h3, h4, fun i hi => ?_⟩
  obtain ⟨a, b, c, cur, hc, hj⟩ := h5 i hi
  exact ⟨a, b, c, cur, hc, fun j hjm => by rw [← e i j hi hjm]; exact hj j hjm⟩
theorem Grid.below (h : Grid tO tI en w base g n m M) (hb : Below w.heap.size w w') : Grid tO tI en w' base g n m M := by
  obtain ⟨outer, G, C, h1, h2, h3, h4, h5⟩ := h
  refine ⟨outer, G, C, h1, h2.below' hb, h3, h4, fun i hi => ?_⟩
  obtain ⟨a, b, c, cur, hc, hj⟩ := h5 i hi
  exact ⟨a, b, c, cur, hc.below' hb, hj⟩
theorem blk_ne {t t' : TypeId} {a b : Nat} {cs ds : Array Value} (h : Blk w a t cs) (h' : Blk w b t' ds) (hne : t ≠ t') : a ≠ b := by
  rintro rfl
  unfold Blk at h h'
  rw [h] at h'
  injection h' with h'
  injection h' with _ ht
  exact hne ht
theorem Grid.at_ (h : Grid tO tI en w base g n m M) (hne : tO ≠ tI) {i : Nat} (hi : i < n) :
    ∃ b c, w.cell? ⟨g, i, none⟩ = some (.slice (some ⟨b, 0, none⟩) m c) ∧ w.frozen? ⟨g, i, none⟩ = false ∧ base ≤ b ∧ b < w.heap.size ∧ m ≤ c ∧ c ≤ maxLen ∧
      ∀ j, j < m → w.cell? ⟨b, j, none⟩ = some (en (M i j)) ∧ w.frozen? ⟨b, j, none⟩ = false ∧ ∀ w' x, Below w.heap.size w w' → w'.frozen? ⟨b, j, none⟩ = false ∧ Grid tO tI en (w'.setCell ⟨b, j, none⟩ (en x)) base g n m (upd M i j x) := by
  obtain ⟨outer, G, C, h1, h2, h3, h4, h5⟩ := h
  obtain ⟨a, b, c, cur, hc, hj⟩ := h5 i hi
  refine ⟨G i, C i, by rw [h2.cell]; exact h3 i hi, h2.frozen i, a, hc.lt, b, c, fun j hjm => ⟨by rw [hc.cell]; exact hj j hjm, hc.frozen j, fun w' x hb => ⟨(hc.below' hb).frozen j, outer, G, C, h1, (h2.below' hb).far (fun e => blk_ne h2 hc hne e) _, h3, h4, fun k hk => ?_⟩⟩⟩
  obtain ⟨a', b', c', cur', hc', hj'⟩ := h5 k hk
  by_cases e : k = i
  · subst e
    refine ⟨a', b', c', _, (hc.below' hb).set_ j (en x), fun l hl => ?_⟩
    unfold upd
    by_cases el : l = j
    · subst el
      rw [if_pos ⟨rfl, rfl⟩]
      have : l < cur.size := by
        have := hj l hl
        exact (Array.getElem?_eq_some_iff.1 this).1
      simp [this]
    · rw [if_neg (fun q => el q.2), Array.getElem?_setIfInBounds_ne (fun q => el q.symm)]
      exact hj l hl
  · refine ⟨a', b', c', cur', (hc'.below' hb).far (fun q => e (h4 k i hk hi q)) _, fun l hl => ?_⟩
    unfold upd
    rw [if_neg (fun q => e q.1)]
    exact hj' l hl
theorem Grid.le_ (h : Grid tO tI en w base g n m M) : base ≤ g := by
  obtain ⟨_, _, _, h1, _⟩ := h
  exact h1
theorem Grid.some_set (h : Grid tO tI en w base g n m M) {i : Nat} (hi : i < n) (r : Nat) (V : Value) : ∃ z, (w.setCell ⟨g, r, none⟩ V).cell? ⟨g, i, none⟩ = some z := by
  obtain ⟨outer, G, C, h1, h2, h3, h4, h5⟩ := h
  have hs := (Array.getElem?_eq_some_iff.1 (h3 i hi)).1
  rw [(h2.set_ r V).cell]
  exact ⟨_, Array.getElem?_eq_getElem (by simpa using hs)⟩
/-- Two rows change places. -/
theorem Grid.swap (h : Grid tO tI en w base g n m M) (hne : tO ≠ tI) {r i : Nat} (hr : r < n) (hi : i < n) {vr vi : Value} (er : w.cell? ⟨g, r, none⟩ = some vr) (ei : w.cell? ⟨g, i, none⟩ = some vi) :
    Grid tO tI en ((w.setCell ⟨g, r, none⟩ vi).setCell ⟨g, i, none⟩ vr) base g n m (Fd.swapped M r i) := by
  obtain ⟨outer, G, C, h1, h2, h3, h4, h5⟩ := h
  rw [h2.cell, h3 r hr] at er
  rw [h2.cell, h3 i hi] at ei
  injection er with er
  injection ei with ei
  subst er ei
  have hsz : ∀ k, k < n → k < outer.size := fun k hk => (Array.getElem?_eq_some_iff.1 (h3 k hk)).1
  refine ⟨_, fun k => if k = i then G r else if k = r then G i else G k, fun k => if k = i then C r else if k = r then C i else C k, h1, (h2.set_ r _).set_ i _, fun k hk => ?_, fun a b ha hb e => ?_, fun k hk => ?_⟩
  · have s := hsz k hk
    simp only
    rw [Array.getElem?_setIfInBounds]
    by_cases e1 : i = k
    · subst e1
      simp [s]
    · rw [if_neg e1, if_neg (show ¬ k = i from fun q => e1 q.symm), if_neg (show ¬ k = i from fun q => e1 q.symm), Array.getElem?_setIfInBounds]
      by_cases e2 : r = k
      · subst e2
        simp [s]
      · rw [if_neg e2, if_neg (show ¬ k = r from fun q => e2 q.symm), if_neg (show ¬ k = r from fun q => e2 q.symm), h3 k hk]
  · have h := h4
    simp only at e
    clear h3 h5 hsz h2
    grind
  · have key : ∀ l, l < n → base ≤ G l ∧ m ≤ C l ∧ C l ≤ maxLen ∧ ∃ cur, Blk ((w.setCell ⟨g, r, none⟩ (.slice (some ⟨G i, 0, none⟩) m (C i))).setCell ⟨g, i, none⟩ (.slice (some ⟨G r, 0, none⟩) m (C r))) (G l) tI cur ∧ ∀ j, j < m → cur[j]? = some (en (M l j)) := fun l hl => by
      obtain ⟨a, b, c, cur, hc, hj⟩ := h5 l hl
      have := blk_ne h2 hc hne
      exact ⟨a, b, c, cur, (hc.far (fun e => this e.symm) _).far (fun e => this e.symm) _, hj⟩
    simp only
    unfold Fd.swapped
    by_cases e1 : k = i
    · rw [if_pos e1, if_pos e1]
      by_cases e2 : k = r
      · have : i = r := by omega
        subst this
        rw [if_pos e2]
        exact key i hi
      · rw [if_neg e2, if_pos e1]
        exact key r hr
    · rw [if_neg e1, if_neg e1]
      by_cases e2 : k = r
      · rw [if_pos e2, if_pos e2, if_pos e2]
        exact key i hi
      · rw [if_neg e2, if_neg e2, if_neg e2, if_neg e1]
        exact key k hk

/-- The same, the outer row still growing (value v): the first k rows. -/
def GridO (tO tI : TypeId) (en : α → Value) (w : World) (base : Nat) (v : Value) (k m : Nat) (M : Nat → Nat → α) : Prop :=
  ∃ (xs : List Value) (G C : Nat → Nat), w.ownsRow base tO 1 v k xs ∧ (∀ i, i < k → xs[i]? = some (.slice (some ⟨G i, 0, none⟩) m (C i))) ∧
    (∀ i j, i < k → j < k → G i = G j → i = j) ∧
    ∀ i, i < k → base ≤ G i ∧ m ≤ C i ∧ C i ≤ maxLen ∧ ∃ cur, Blk w (G i) tI cur ∧ ∀ j, j < m → cur[j]? = some (en (M i j))
theorem GridO.nil (tO tI : TypeId) (en : α → Value) (w : World) (base m : Nat) (M : Nat → Nat → α) : GridO tO tI en w base (.slice none 0 0) 0 m M :=
  ⟨[], fun _ => 0, fun _ => 0, World.ownsRow_nil w base tO 1, fun i h => absurd h (Nat.not_lt_zero _), fun i j h => absurd h (Nat.not_lt_zero _), fun i h => absurd h (Nat.not_lt_zero _)⟩
theorem own_blk {e : TypeId} {v : Value} {k : Nat} {xs : List Value} (h : w.ownsRow base e 1 v k xs) (hk : 0 < k) :
    ∃ g cap cur, v = .slice (some ⟨g, 0, none⟩) k cap ∧ base ≤ g ∧ Blk w g e cur ∧ k ≤ cap ∧ cap ≤ maxLen ∧ ∀ j, j < k → cur[j]? = xs[j]? := by
  obtain ⟨_, ⟨_, h0⟩ | ⟨g, cap, cur, hv, hg, hh, hn, hm, hs, ht⟩⟩ := h
  · omega
  · refine ⟨g, cap, cur, hv, hg, hh, hn, hm, fun j hj => ?_⟩
    rw [← ht, List.getElem?_take_of_lt (by omega), Array.getElem?_toList]
theorem GridO.form {w0 : World} {v : Value} {k : Nat} (h : GridO tO tI en w0 base v k m M) (hne : tO ≠ tI) (hb : Below w0.heap.size w0 w) :
    ∃ xs, w.ownsRow base tO 1 v k xs ∧ ∀ (b c : Nat) (cur : Array Value) (v' : Value) (w' : World), w0.heap.size ≤ b → base ≤ b → Blk w b tI cur → m ≤ c → c ≤ maxLen → (∀ j, j < m → cur[j]? = some (en (M k j))) →
      w'.ownsRow base tO 1 v' (k + 1) (xs ++ [.slice (some ⟨b, 0, none⟩) m c]) → w.grownBy w' v.ownBlock → GridO tO tI en w' base v' (k + 1) m M := by
  obtain ⟨xs, G, C, h1, h2, h3, h4⟩ := h
  have h1' := own_below' h1 hb
  have hl := h1.1
  refine ⟨xs, h1', fun b c cur v' w' hb0 hbb hblk hmc hcm hj ho hg => ?_⟩
  have keep : ∀ {q : Nat} {cs : Array Value}, Blk w q tI cs → Blk w' q tI cs := fun hq => hq.grown hg (by
    rcases own_blk_ne h1' hq hne with e | e
    · rw [e]; exact fun q => by cases q
    · exact fun q => e q.symm)
  refine ⟨_, fun i => if i < k then G i else b, fun i => if i < k then C i else c, ho, fun i hi => ?_, fun i j hi hjk e => ?_, fun i hi => ?_⟩
  · simp only
    by_cases hik : i < k
    · rw [List.getElem?_append_left (by omega), if_pos hik, if_pos hik]
      exact h2 i hik
    · rw [List.getElem?_append_right (by omega), if_neg hik, if_neg hik, show i - xs.length = 0 by omega]
      rfl
  · have lt : ∀ a, a < k → G a < w0.heap.size := fun a ha => by
      obtain ⟨_, _, _, cur, hc, _⟩ := h4 a ha
      exact hc.lt
    simp only at e
    split at e <;> split at e
    · exact h3 i j (by assumption) (by assumption) e
    · rename_i a _; have := lt i a; omega
    · rename_i _ a; have := lt j a; omega
    · omega
  · by_cases hik : i < k
    · obtain ⟨a1, a2, a3, cs, hc, hcj⟩ := h4 i hik
      simp only [if_pos hik]
      exact ⟨a1, a2, a3, cs, keep (hc.below' hb), hcj⟩
    · have : i = k := by omega
      subst this
      simp only [if_neg hik]
      exact ⟨hbb, hmc, hcm, cur, keep hblk, hj⟩
theorem GridO.grid {v : Value} (h : GridO tO tI en w base v n m M) (hn : 0 < n) : ∃ g c, v = .slice (some ⟨g, 0, none⟩) n c ∧ n ≤ c ∧ c ≤ maxLen ∧ Grid tO tI en w base g n m M := by
  obtain ⟨xs, G, C, h1, h2, h3, h4⟩ := h
  obtain ⟨g, cap, cur, hv, hg, hblk, hk, hm, hc⟩ := own_blk h1 hn
  exact ⟨g, cap, hv, hk, hm, cur, G, C, hg, hblk, fun i hi => by rw [hc i hi]; exact h2 i hi, h3, h4⟩
end

/-- Elements that read row by row: a slice of n slices of m elements. -/
def Rd {α : Type} (en : α → Value) (w : World) (v : Value) (n m : Nat) (M : Nat → Nat → α) : Prop :=
  ∃ A c, v = .slice A n c ∧ n ≤ c ∧ c ≤ maxLen ∧ ∀ i, i < n → ∃ b o B d, A = some ⟨b, o, none⟩ ∧ b < w.heap.size ∧ w.cell? ⟨b, o + i, none⟩ = some (.slice B m d) ∧ m ≤ d ∧ d ≤ maxLen ∧
    ∀ j, j < m → ∃ b2 o2, B = some ⟨b2, o2, none⟩ ∧ b2 < w.heap.size ∧ w.cell? ⟨b2, o2 + j, none⟩ = some (en (M i j))
/-- A matrix: its block holds the field and rows that read as M. -/
def Mt {α : Type} (t : TypeId) (fv : Value) (en : α → Value) (w : World) (g n m : Nat) (M : Nat → Nat → α) : Prop := ∃ v, Blk w g t #[fv, v] ∧ Rd en w v n m M
section
variable {α : Type} {en : α → Value} {w w' : World} {v : Value} {n m : Nat} {M : Nat → Nat → α}
theorem Rd.below (h : Rd en w v n m M) (hb : Below w.heap.size w w') : Rd en w' v n m M := by
  obtain ⟨A, c, hv, h1, h2, h3⟩ := h
  have := hb.size
  refine ⟨A, c, hv, h1, h2, fun i hi => ?_⟩
  obtain ⟨b, o, B, d, e1, e2, e3, e4, e5, e6⟩ := h3 i hi
  refine ⟨b, o, B, d, e1, by omega, (hb.cell (p := ⟨b, o + i, none⟩) e2).trans e3, e4, e5, fun j hj => ?_⟩
  obtain ⟨b2, o2, f1, f2, f3⟩ := e6 j hj
  exact ⟨b2, o2, f1, by omega, (hb.cell (p := ⟨b2, o2 + j, none⟩) f2).trans f3⟩
theorem Rd.congr {M' : Nat → Nat → α} (h : Rd en w v n m M) (e : ∀ i j, i < n → j < m → M i j = M' i j) : Rd en w v n m M' := by
  obtain ⟨A, c, hv, h1, h2, h3⟩ := h
  refine ⟨A, c, hv, h1, h2, fun i hi => ?_⟩
  obtain ⟨b, o, B, d, e1, e2, e3, e4, e5, e6⟩ := h3 i hi
  exact ⟨b, o, B, d, e1, e2, e3, e4, e5, fun j hj => by rw [← e i j hi hj]; exact e6 j hj⟩
theorem Mt.below {t : TypeId} {fv : Value} {g : Nat} (h : Mt t fv en w g n m M) (hb : Below w.heap.size w w') : Mt t fv en w' g n m M := by
  obtain ⟨v, h1, h2⟩ := h
  exact ⟨v, h1.below' hb, h2.below hb⟩
theorem Mt.congr {t : TypeId} {fv : Value} {g : Nat} {M' : Nat → Nat → α} (h : Mt t fv en w g n m M) (e : ∀ i j, i < n → j < m → M i j = M' i j) : Mt t fv en w g n m M' := by
  obtain ⟨v, h1, h2⟩ := h
  exact ⟨v, h1, h2.congr e⟩
theorem Mt.lt {t : TypeId} {fv : Value} {g : Nat} (h : Mt t fv en w g n m M) : g < w.heap.size := by
  obtain ⟨v, h1, _⟩ := h
  exact h1.lt
theorem Grid.rd {tO tI : TypeId} {base g c : Nat} (h : Grid tO tI en w base g n m M) (hn : n ≤ c) (hc : c ≤ maxLen) : Rd en w (.slice (some ⟨g, 0, none⟩) n c) n m M := by
  obtain ⟨outer, G, C, h1, h2, h3, h4, h5⟩ := h
  refine ⟨_, c, rfl, hn, hc, fun i hi => ?_⟩
  obtain ⟨a1, a2, a3, cur, hcur, hj⟩ := h5 i hi
  exact ⟨g, 0, some ⟨G i, 0, none⟩, C i, rfl, h2.lt, by rw [Nat.zero_add, h2.cell]; exact h3 i hi, a2, a3, fun j hjm => ⟨G i, 0, rfl, hcur.lt, by rw [Nat.zero_add, hcur.cell]; exact hj j hjm⟩⟩
end

/-- What is reckoned row by row, as far as row i, place j: B so far, A else. -/
def part {α : Type} (i j : Nat) (A B : Nat → Nat → α) : Nat → Nat → α := fun x y => if x < i ∨ (x = i ∧ y < j) then B x y else A x y
section
variable {α : Type} {i j : Nat} {A B : Nat → Nat → α}
theorem part_at : part i j A B i j = A i j := if_neg (by omega)
theorem part_row {y : Nat} : part i 0 A B i y = A i y := if_neg (by omega)
theorem part_far {x y : Nat} (h : i < x) : part i j A B x y = A x y := if_neg (by omega)
theorem part_upd : upd (part i j A B) i j (B i j) = part i (j + 1) A B := by
  funext x y
  unfold upd part
  by_cases h : x = i ∧ y = j
  · rw [if_pos h, if_pos (by omega), h.1, h.2]
  · rw [if_neg h]
    by_cases h2 : x < i ∨ (x = i ∧ y < j)
    · rw [if_pos h2, if_pos (by omega)]
    · rw [if_neg h2, if_neg (by omega)]
theorem part_next {m : Nat} : ∀ x y, y < m → part i m A B x y = part (i + 1) 0 A B x y := fun x y hy => by
  unfold part
  by_cases h : x < i ∨ (x = i ∧ y < m)
  · rw [if_pos h, if_pos (by omega)]
  · rw [if_neg h, if_neg (by omega)]
theorem part_skip (h : ∀ y, B i y = A i y) : part i 0 A B = part (i + 1) 0 A B := by
  funext x y
  unfold part
  by_cases h1 : x < i ∨ (x = i ∧ y < 0)
  · rw [if_pos h1, if_pos (by omega)]
  · rw [if_neg h1]
    by_cases h2 : x < i + 1 ∨ (x = i + 1 ∧ y < 0)
    · rw [if_pos h2, show x = i by omega, h]
    · rw [if_neg h2]
end

/-- 'append(out, s...)', out a row of the call's own. -/
theorem wpList_pushQ {P : Program} {t e : TypeId} {z : Value} {bytes : Nat} (T : Elem1 P t e z bytes) {w : World} {base : Nat} {v : Value} {n : Nat} {xs : List Value} (hown : w.ownsRow base e 1 v n xs)
    {w0 : World} (hb : Below base w0 w) (hbase : base ≤ w.heap.size) {u : Value} {m : Nat} {ys : List Value} (hu : Sl w 1 u m ys) (h63 : n + m ≤ maxLen) (hbytes : (n + m) * bytes ≤ 140737488355328) (h1 : ∀ y ∈ ys, y.oneCell' = true)
    {ops : Array Oper} {rest : List Oper} {o : Oper} {a : Act} {Q : Exit → Act → World → Prop} (hgd : o.guard = none) (s y : Operand)
    (ho : o.op = .call { callee := .builtin .append, args := #[s, y], argTypes := #[t, t] }) (hs : a.eval s = v) (hx : a.eval y = u)
    (h : ∀ v' w', w'.ownsRow base e 1 v' (n + m) (xs ++ ys) → Below base w0 w' → wpList P ops Q rest (a.put o.dst v') w') :
    wpList P ops Q (o :: rest) a w := by
  refine wpList_plain hgd fun K hK => ?_
  obtain ⟨v', w', hrun, h3, h4, h6⟩ := run_pushS (P := P) T o.type hown hu h63 hbytes hbase h1
  unfold Oper.wp execOp
  simp only [ho, resolve, invoke, builtin, Sem.run_bind, Sem.run_pure, Result.andThen_ok, List.map_toArray, List.map_cons, List.map_nil, hs, hx, hrun]
  exact hK _ _ (h v' w' h3 (hb.grown h4 hbase fun k hk => (hown.lt k hk).1))

/-- The cells of e elements. -/
def rcells {α : Type} (en : α → Value) (r : Nat → α) (e : Nat) : List Value := (List.range e).map fun j => en (r j)
section
variable {α : Type} {en : α → Value} {r s : Nat → α} {m e j : Nat}
@[simp] theorem rcells_length : (rcells en r e).length = e := by simp [rcells]
theorem rcells_get (h : j < e) : (rcells en r e)[j]? = some (en (r j)) := by rw [rcells, List.getElem?_map, List.getElem?_range h]; rfl
theorem rcells_beside (h : j < m + e) : (rcells en r m ++ rcells en s e)[j]? = some (en (if j < m then r j else s (j - m))) := by
  by_cases hj : j < m
  · rw [List.getElem?_append_left (by rw [rcells_length]; exact hj), rcells_get hj, if_pos hj]
  · rw [List.getElem?_append_right (by rw [rcells_length]; omega), rcells_length, rcells_get (by omega), if_neg hj]
theorem Rd.sl {w : World} {v : Value} {n : Nat} {M : Nat → Nat → α} (h : Rd en w v n m M) : ∃ A c, v = .slice A n c ∧ n ≤ c ∧ c ≤ maxLen ∧ ∀ i, i < n → ∃ b o B d, A = some ⟨b, o, none⟩ ∧ b < w.heap.size ∧ w.cell? ⟨b, o + i, none⟩ = some (.slice B m d) ∧ Sl w 1 (.slice B m d) m (rcells en (M i) m) := by
  obtain ⟨A, c, hv, h1, h2, h3⟩ := h
  refine ⟨A, c, hv, h1, h2, fun i hi => ?_⟩
  obtain ⟨b, o, B, d, e1, e2, e3, e4, e5, e6⟩ := h3 i hi
  refine ⟨b, o, B, d, e1, e2, e3, by simp, B, d, rfl, e4, e5, fun h0 => ?_⟩
  obtain ⟨b2, o2, f1, f2, _⟩ := e6 0 h0
  refine ⟨b2, o2, f1, f2, fun j hj => ?_⟩
  rw [Nat.mul_one] at hj
  obtain ⟨b3, o3, g1, _, g3⟩ := e6 j hj
  rw [f1] at g1
  injection g1 with g1
  injection g1 with q1 q2 _
  rw [q1, q2, g3, rcells_get hj]
end
end Go.Proofs.YtoaaplngdomdcaaGreat

/- The field of 256 elements: its product and inverse as the program reckons them, and the laws of a field. -/
namespace Go.Proofs.YtoaaplngdomdcaaGreat

/-- Times the generator. -/
def gx (a : Nat) : Nat := if a < 128 then 2 * a else (2 * a - 256) ^^^ 29
/-- The loop of the product. -/
def gm : Nat → Nat → Nat → Nat → Nat
  | 0, p, _, _ => p
  | n + 1, p, a, b => gm n (if b % 2 = 0 then p else p ^^^ a) (gx a) (b / 2)
def gmul (a b : Nat) : Nat := gm 8 0 a b
/-- The loop of the inverse. -/
def gpw : Nat → Nat → Nat → Nat
  | 0, _, p => p
  | n + 1, a, p => gpw n (gmul a a) (gmul p (gmul a a))
def ginv (a : Nat) : Nat := if a = 0 then 0 else gpw 7 a 1

theorem xor_lt {a b : Nat} (ha : a < 256) (hb : b < 256) : a ^^^ b < 256 := Nat.xor_lt_two_pow (n := 8) ha hb
theorem gx_lt : ∀ a, a < 256 → gx a < 256 := by decide +kernel
theorem gm_lt (n : Nat) : ∀ p a b, p < 256 → a < 256 → gm n p a b < 256 := by
  induction n with
  | zero => intro p a b hp _; exact hp
  | succ n ih =>
    intro p a b hp ha
    refine ih _ _ _ ?_ (gx_lt a ha)
    split
    · exact hp
    · exact xor_lt hp ha
theorem gmul_lt {a : Nat} (b : Nat) (ha : a < 256) : gmul a b < 256 := gm_lt 8 0 a b (by omega) ha
theorem gm_b0 (n : Nat) : ∀ p a, gm n p a 0 = p := by
  induction n with
  | zero => intro p a; rfl
  | succ n ih => intro p a; exact ih _ _
theorem gx_xor_dec : ∀ a, a < 256 → ∀ i, i < 8 → gx (a ^^^ 2 ^ i) = gx a ^^^ gx (2 ^ i) := by decide +kernel
theorem top_bit : ∀ a, a < 256 → ∀ k, k < 8 → 2 ^ k ≤ a → a < 2 ^ (k + 1) → (a - 2 ^ k) ^^^ 2 ^ k = a := by decide +kernel

/-- What holds of 0 and of a number with one bit more holds of all. -/
theorem bits_ind {P : Nat → Prop} (h0 : P 0) (hx : ∀ a i, a < 256 → i < 8 → P a → P (a ^^^ 2 ^ i)) : ∀ a, a < 256 → P a := by
  have key : ∀ k, k ≤ 8 → ∀ a, a < 2 ^ k → P a := by
    intro k
    induction k with
    | zero => intro _ a ha; rw [show a = 0 by simpa using ha]; exact h0
    | succ k ih =>
      intro hk a ha
      by_cases h : a < 2 ^ k
      · exact ih (by omega) a h
      · have h2 : 2 ^ (k + 1) ≤ 2 ^ 8 := Nat.pow_le_pow_right (by omega) hk
        have ha8 : a < 256 := by omega
        rw [← top_bit a ha8 k (by omega) (by omega) ha]
        refine hx _ k (by omega) (by omega) (ih (by omega) _ ?_)
        rw [Nat.pow_succ] at ha
        omega
  exact fun a ha => key 8 (by omega) a ha

theorem gx_xor (a b : Nat) (ha : a < 256) (hb : b < 256) : gx (a ^^^ b) = gx a ^^^ gx b := by
  revert b
  refine bits_ind (P := fun b => gx (a ^^^ b) = gx a ^^^ gx b) (by rw [Nat.xor_zero, show gx 0 = 0 from rfl, Nat.xor_zero]) ?_
  intro b i hb hi h
  rw [← Nat.xor_assoc, gx_xor_dec _ (xor_lt ha hb) i hi, h, gx_xor_dec b hb i hi, Nat.xor_assoc]

theorem gm_p (n : Nat) : ∀ p a b, gm n p a b = p ^^^ gm n 0 a b := by
  induction n with
  | zero => intro p a b; simp [gm]
  | succ n ih =>
    intro p a b
    simp only [gm]
    rw [ih, ih (if b % 2 = 0 then 0 else 0 ^^^ a)]
    split
    · simp
    · simp [Nat.xor_assoc]
theorem gm_succ (n a b : Nat) : gm (n + 1) 0 a b = (if b % 2 = 0 then 0 else a) ^^^ gm n 0 (gx a) (b / 2) := by
  simp only [gm]
  rw [gm_p]
  simp
theorem gm_addl (n : Nat) : ∀ a c b, a < 256 → c < 256 → gm n 0 (a ^^^ c) b = gm n 0 a b ^^^ gm n 0 c b := by
  induction n with
  | zero => intro a c b _ _; simp [gm]
  | succ n ih =>
    intro a c b ha hc
    rw [gm_succ, gm_succ, gm_succ, gx_xor a c ha hc, ih _ _ _ (gx_lt a ha) (gx_lt c hc)]
    split
    · simp
    · generalize gm n 0 (gx a) (b / 2) = x
      generalize gm n 0 (gx c) (b / 2) = y
      rw [Nat.xor_assoc, Nat.xor_assoc, ← Nat.xor_assoc c x y, Nat.xor_comm c x, Nat.xor_assoc]
theorem xor_half (a b : Nat) : (a ^^^ b) / 2 = a / 2 ^^^ b / 2 := by
  have := Nat.xor_div_two_pow (a := a) (b := b) (n := 1)
  simpa using this
theorem gm_addr (n : Nat) : ∀ a b c, gm n 0 a (b ^^^ c) = gm n 0 a b ^^^ gm n 0 a c := by
  induction n with
  | zero => intro a b c; simp [gm]
  | succ n ih =>
    intro a b c
    rw [gm_succ, gm_succ, gm_succ, xor_half, ih]
    generalize gm n 0 (gx a) (b / 2) = x
    generalize gm n 0 (gx a) (c / 2) = y
    have hm : (b ^^^ c) % 2 = (b % 2 + c % 2) % 2 := by
      have := Nat.xor_mod_two_pow (a := b) (b := c) (n := 1)
      rw [Nat.pow_one] at this
      rw [this]
      rcases Nat.mod_two_eq_zero_or_one b with hb | hb <;> rcases Nat.mod_two_eq_zero_or_one c with hc | hc <;> rw [hb, hc]
      all_goals rfl
    rcases Nat.mod_two_eq_zero_or_one b with hb | hb <;> rcases Nat.mod_two_eq_zero_or_one c with hc | hc
    · rw [if_pos (by omega), if_pos hb, if_pos hc]; simp
    · rw [if_neg (by omega), if_pos hb, if_neg (by omega)]
      rw [Nat.zero_xor, ← Nat.xor_assoc, ← Nat.xor_assoc, Nat.xor_comm a x]
    · rw [if_neg (by omega), if_neg (by omega), if_pos hc]
      rw [Nat.zero_xor, Nat.xor_assoc]
    · rw [if_pos (by omega), if_neg (by omega), if_neg (by omega)]
      rw [Nat.zero_xor, Nat.xor_assoc, ← Nat.xor_assoc x a y, Nat.xor_comm x a, Nat.xor_assoc, ← Nat.xor_assoc a a, Nat.xor_self, Nat.zero_xor]

theorem gmul_addl {a c : Nat} (b : Nat) (ha : a < 256) (hc : c < 256) : gmul (a ^^^ c) b = gmul a b ^^^ gmul c b := gm_addl 8 a c b ha hc
theorem gmul_addr (a b c : Nat) : gmul a (b ^^^ c) = gmul a b ^^^ gmul a c := gm_addr 8 a b c
theorem gmul_zero (a : Nat) : gmul a 0 = 0 := gm_b0 8 0 a
theorem zero_gmul (b : Nat) : gmul 0 b = 0 := by
  have := gmul_addl (a := 0) (c := 0) b (by omega) (by omega)
  rw [Nat.xor_self, Nat.xor_self] at this
  exact this
theorem comm_dec : ∀ i, i < 8 → ∀ j, j < 8 → gmul (2 ^ i) (2 ^ j) = gmul (2 ^ j) (2 ^ i) := by decide +kernel
theorem pow_lt8 {i : Nat} (h : i < 8) : 2 ^ i < 256 := Nat.pow_lt_pow_right (a := 2) (n := 8) (by omega) h
theorem gmul_comm {a b : Nat} (ha : a < 256) (hb : b < 256) : gmul a b = gmul b a := by
  have h1 : ∀ j, j < 8 → ∀ a, a < 256 → gmul a (2 ^ j) = gmul (2 ^ j) a := by
    intro j hj
    refine bits_ind (by rw [zero_gmul, gmul_zero]) ?_
    intro a i ha hi h
    rw [gmul_addl _ ha (pow_lt8 hi), gmul_addr, h, comm_dec i hi j hj]
  refine bits_ind (P := fun b => gmul a b = gmul b a) (by rw [zero_gmul, gmul_zero]) ?_ b hb
  intro b i hb hi h
  rw [gmul_addl _ hb (pow_lt8 hi), gmul_addr, h, h1 i hi a ha]
theorem assoc_dec : ∀ i, i < 8 → ∀ j, j < 8 → ∀ k, k < 8 → gmul (gmul (2 ^ i) (2 ^ j)) (2 ^ k) = gmul (2 ^ i) (gmul (2 ^ j) (2 ^ k)) := by decide +kernel
theorem gmul_assoc {a b c : Nat} (ha : a < 256) (hb : b < 256) (hc : c < 256) : gmul (gmul a b) c = gmul a (gmul b c) := by
  have h1 : ∀ j, j < 8 → ∀ k, k < 8 → ∀ a, a < 256 → gmul (gmul a (2 ^ j)) (2 ^ k) = gmul a (gmul (2 ^ j) (2 ^ k)) := by
    intro j hj k hk
    refine bits_ind (by rw [zero_gmul, zero_gmul, zero_gmul]) ?_
    intro a i ha hi h
    rw [gmul_addl _ ha (pow_lt8 hi), gmul_addl _ (gmul_lt _ ha) (gmul_lt _ (pow_lt8 hi)), gmul_addl _ ha (pow_lt8 hi), h, assoc_dec i hi j hj k hk]
  have h2 : ∀ k, k < 8 → ∀ b, b < 256 → gmul (gmul a b) (2 ^ k) = gmul a (gmul b (2 ^ k)) := by
    intro k hk
    refine bits_ind (by rw [gmul_zero, zero_gmul, gmul_zero]) ?_
    intro b i hb hi h
    rw [gmul_addr, gmul_addl _ (gmul_lt _ ha) (gmul_lt _ ha), gmul_addl _ hb (pow_lt8 hi), gmul_addr, h, h1 i hi k hk a ha]
  refine bits_ind (P := fun c => gmul (gmul a b) c = gmul a (gmul b c)) (by rw [gmul_zero, gmul_zero, gmul_zero]) ?_ c hc
  intro c i hc hi h
  rw [gmul_addr, gmul_addr, gmul_addr, h, h2 i hi b hb]
theorem ginv_lt : ∀ a, a < 256 → ginv a < 256 := by decide +kernel
theorem ginv_mul : ∀ a, a < 256 → a ≠ 0 → gmul a (ginv a) = 1 := by decide +kernel
theorem one_dec : ∀ a, a < 256 → gmul a 1 = a := by decide +kernel

/-! ### As bytes -/
def bmul (x y : UInt8) : UInt8 := UInt8.ofNat (gmul x.toNat y.toNat)
def binv (x : UInt8) : UInt8 := UInt8.ofNat (ginv x.toNat)
theorem bmul_toNat (x y : UInt8) : (bmul x y).toNat = gmul x.toNat y.toNat := by
  rw [bmul, UInt8.toNat_ofNat']
  exact Nat.mod_eq_of_lt (gmul_lt _ x.toNat_lt)
theorem binv_toNat (x : UInt8) : (binv x).toNat = ginv x.toNat := by
  rw [binv, UInt8.toNat_ofNat']
  exact Nat.mod_eq_of_lt (ginv_lt _ x.toNat_lt)
theorem bmul_comm (x y : UInt8) : bmul x y = bmul y x := by
  apply UInt8.toNat_inj.1
  rw [bmul_toNat, bmul_toNat, gmul_comm x.toNat_lt y.toNat_lt]
theorem bmul_assoc (x y z : UInt8) : bmul (bmul x y) z = bmul x (bmul y z) := by
  apply UInt8.toNat_inj.1
  rw [bmul_toNat, bmul_toNat, bmul_toNat, bmul_toNat, gmul_assoc x.toNat_lt y.toNat_lt z.toNat_lt]
theorem bmul_xor (x y z : UInt8) : bmul x (y ^^^ z) = bmul x y ^^^ bmul x z := by
  apply UInt8.toNat_inj.1
  rw [UInt8.toNat_xor, bmul_toNat, bmul_toNat, bmul_toNat, UInt8.toNat_xor, gmul_addr]
theorem xor_bmul (x y z : UInt8) : bmul (x ^^^ y) z = bmul x z ^^^ bmul y z := by
  rw [bmul_comm, bmul_xor, bmul_comm z x, bmul_comm z y]
theorem bmul_one (x : UInt8) : bmul x 1 = x := by
  apply UInt8.toNat_inj.1
  rw [bmul_toNat]
  exact one_dec _ x.toNat_lt
theorem one_bmul (x : UInt8) : bmul 1 x = x := by rw [bmul_comm, bmul_one]
theorem bmul_zero (x : UInt8) : bmul x 0 = 0 := by
  apply UInt8.toNat_inj.1
  rw [bmul_toNat]
  exact gmul_zero _
theorem zero_bmul (x : UInt8) : bmul 0 x = 0 := by rw [bmul_comm, bmul_zero]
theorem bmul_inv {x : UInt8} (h : x ≠ 0) : bmul x (binv x) = 1 := by
  apply UInt8.toNat_inj.1
  rw [bmul_toNat, binv_toNat]
  refine ginv_mul _ x.toNat_lt fun h0 => h (UInt8.toNat_inj.1 h0)
theorem bmul_eq_zero {x y : UInt8} (h : bmul x y = 0) (hx : x ≠ 0) : y = 0 := by
  have h1 := congrArg (bmul (binv x)) h
  rw [← bmul_assoc, bmul_comm (binv x) x, bmul_inv hx, one_bmul, bmul_zero] at h1
  exact h1
theorem binv_ne {x : UInt8} (h : x ≠ 0) : binv x ≠ 0 := by
  intro h0
  have := bmul_inv h
  rw [h0, bmul_zero] at this
  exact absurd this (by decide)

end Go.Proofs.YtoaaplngdomdcaaGreat

/- Plain: the numbers below a prime are a field (Fermat's little theorem), and the bytes are one. -/
namespace Go.Proofs.YtoaaplngdomdcaaGreat
open Go.RowKit

theorem prime_dvd {p : Nat} (h : PrimeN p) {e : Nat} (h2 : 2 ≤ e) (he : e < p) : p % e ≠ 0 := by
  intro h0
  obtain ⟨c, hc⟩ := Nat.dvd_of_mod_eq_zero h0
  have hp := h.1
  have hc2 : 2 ≤ c := by
    rcases c with _ | _ | c
    · omega
    · rw [Nat.mul_one] at hc; omega
    · omega
  by_cases hle : e ≤ c
  · exact h.2 e h2 (by rw [hc]; exact Nat.mul_le_mul_left e hle) h0
  · exact h.2 c hc2 (by rw [hc]; exact Nat.mul_le_mul_right c (by omega)) (by rw [hc]; exact Nat.mul_mod_left e c)
theorem prime_cop {p a : Nat} (h : PrimeN p) (ha : a % p ≠ 0) : Nat.Coprime p a := by
  have hp := h.1
  have h1 := Nat.gcd_dvd_left p a
  have h2 := Nat.gcd_dvd_right p a
  unfold Nat.Coprime
  have h3 := Nat.le_of_dvd (by omega) h1
  by_cases e : Nat.gcd p a = p
  · rw [e] at h2
    exact absurd (Nat.mod_eq_zero_of_dvd h2) ha
  · have h4 : Nat.gcd p a ≠ 0 := fun h0 => by rw [h0] at h1; have := Nat.eq_zero_of_zero_dvd h1; omega
    rcases Nat.lt_or_ge (Nat.gcd p a) 2 with h5 | h5
    · omega
    · exact absurd (Nat.mod_eq_zero_of_dvd h1) (prime_dvd h h5 (by omega))
theorem prime_cancel {p a x y : Nat} (h : PrimeN p) (ha : a % p ≠ 0) (e : a * x % p = a * y % p) : x % p = y % p := by
  have key : ∀ u v, u ≤ v → a * u % p = a * v % p → u % p = v % p := fun u v huv e => by
    have hd : p ∣ a * (v - u) := by
      rw [Nat.mul_sub]
      exact Nat.dvd_of_mod_eq_zero (Nat.sub_mod_eq_zero_of_mod_eq e.symm)
    obtain ⟨c, hc⟩ := (prime_cop h ha).dvd_of_dvd_mul_left hd
    rw [show v = u + p * c by omega, Nat.add_mul_mod_self_left]
  rcases Nat.le_total x y with h1 | h1
  · exact key x y h1 e
  · exact (key y x h1 e.symm).symm

/-- The product of a list. -/
def prd (l : List Nat) : Nat := l.foldr (· * ·) 1
theorem prd_perm {l m : List Nat} (h : l.Perm m) : prd l = prd m := by
  induction h with
  | nil => rfl
  | cons x _ ih => show x * _ = x * _; unfold prd at ih; rw [ih]
  | swap x y l => show y * (x * _) = x * (y * _); rw [Nat.mul_left_comm]
  | trans _ _ a b => exact a.trans b
theorem perm_of (l : List Nat) : ∀ m : List Nat, l.Nodup → (∀ x ∈ l, x ∈ m) → m.length ≤ l.length → l.Perm m := by
  induction l with
  | nil => intro m _ _ hl; have : m = [] := List.eq_nil_of_length_eq_zero (by simpa using hl); subst this; exact List.Perm.nil
  | cons a l ih =>
    intro m hn hs hl
    rw [List.nodup_cons] at hn
    have ha := hs a (by simp)
    have h1 := List.length_erase_of_mem ha
    simp only [List.length_cons] at hl
    refine List.Perm.trans (List.Perm.cons a (ih (m.erase a) hn.2 (fun x hx => (List.mem_erase_of_ne (a := x) (b := a) (fun e => by subst e; exact hn.1 hx)).2 (hs x (by simp [hx]))) (by omega))) (List.perm_cons_erase ha).symm
theorem prd_map (p a : Nat) (l : List Nat) : prd (l.map fun x => a * x % p) % p = a ^ l.length * prd l % p := by
  induction l with
  | nil => simp [prd]
  | cons x l ih =>
    show (a * x % p) * prd (l.map fun x => a * x % p) % p = a ^ (l.length + 1) * (x * prd l) % p
    rw [Nat.mul_mod, Nat.mod_mod, ih, ← Nat.mul_mod, Nat.pow_succ]
    congr 1
    simp only [Nat.mul_assoc, Nat.mul_left_comm, Nat.mul_comm]
theorem prd_ne {p : Nat} (h : PrimeN p) (l : List Nat) (hl : ∀ x ∈ l, x % p ≠ 0) : prd l % p ≠ 0 := by
  induction l with
  | nil => show 1 % p ≠ 0; rw [Nat.mod_eq_of_lt h.1]; omega
  | cons x l ih =>
    intro h0
    have h1 : x * prd l % p = x * 0 % p := by rw [Nat.mul_zero, Nat.zero_mod]; exact h0
    have := prime_cancel h (hl x (by simp)) h1
    rw [Nat.zero_mod] at this
    exact ih (fun y hy => hl y (by simp [hy])) this
/-- Fermat's little theorem. -/
theorem fermat {p a : Nat} (h : PrimeN p) (ha : a % p ≠ 0) : a ^ (p - 1) % p = 1 := by
  have hp := h.1
  have hS : ∀ x, x ∈ (List.range (p - 1)).map (· + 1) ↔ 1 ≤ x ∧ x < p := fun x => by
    rw [List.mem_map]
    constructor
    · rintro ⟨y, hy, rfl⟩; have := List.mem_range.1 hy; omega
    · intro hx; exact ⟨x - 1, List.mem_range.2 (by omega), by omega⟩
  have hSn : ((List.range (p - 1)).map (· + 1)).Nodup := by
    rw [List.nodup_iff_pairwise_ne, List.pairwise_map]
    exact (List.nodup_iff_pairwise_ne.1 List.nodup_range).imp fun hne e => hne (by omega)
  have hlen : ((List.range (p - 1)).map (· + 1)).length = p - 1 := by simp
  generalize (List.range (p - 1)).map (· + 1) = S at hS hSn hlen
  have hnz : ∀ x ∈ S, x % p ≠ 0 := fun x hx => by
    have := (hS x).1 hx
    rw [Nat.mod_eq_of_lt this.2]; omega
  have hTn : (S.map fun x => a * x % p).Nodup := by
    rw [List.nodup_iff_pairwise_ne, List.pairwise_map]
    refine List.Pairwise.imp_of_mem (fun {x y} hx hy hne e => hne ?_) (List.nodup_iff_pairwise_ne.1 hSn)
    have := prime_cancel h ha e
    rwa [Nat.mod_eq_of_lt ((hS x).1 hx).2, Nat.mod_eq_of_lt ((hS y).1 hy).2] at this
  have hperm := perm_of (S.map fun x => a * x % p) S hTn (fun y hy => by
    obtain ⟨x, hx, rfl⟩ := List.mem_map.1 hy
    refine (hS _).2 ⟨?_, Nat.mod_lt _ (by omega)⟩
    have h0 : a * x % p ≠ 0 := fun h0 => by
      have := prime_cancel h ha (show a * x % p = a * 0 % p by rw [Nat.mul_zero, Nat.zero_mod]; exact h0)
      rw [Nat.zero_mod] at this
      exact hnz x hx this
    omega) (by simp)
  have e1 := prd_map p a S
  rw [prd_perm hperm, hlen] at e1
  have e2 : prd S * (a ^ (p - 1)) % p = prd S * 1 % p := by rw [Nat.mul_one, Nat.mul_comm, ← e1]
  have := prime_cancel h (prd_ne h S hnz) e2
  rwa [Nat.mod_eq_of_lt hp] at this
theorem pw_mod (p : Nat) : ∀ n x y, pw p n x y % p = x * y ^ n % p := by
  intro n
  induction n using Nat.strongRecOn with
  | ind n ih =>
    intro x y
    by_cases h0 : n = 0
    · subst h0; rw [pw_zero, Nat.pow_zero, Nat.mul_one]
    · rcases Nat.mod_two_eq_zero_or_one n with hm | hm
      · rw [pw_even p n x y (by omega) hm, ih (n / 2) (by omega)]
        unfold fmul
        rw [Nat.mul_mod, ← Nat.pow_mod, ← Nat.mul_mod, ← Nat.pow_two, ← Nat.pow_mul, show 2 * (n / 2) = n by omega]
      · rw [pw_odd p n x y hm, ih (n / 2) (by omega)]
        unfold fmul
        rw [Nat.mul_mod, Nat.mod_mod, ← Nat.pow_mod, ← Nat.mul_mod, ← Nat.pow_two, ← Nat.pow_mul, Nat.mul_assoc, ← Nat.pow_succ', show (2 * (n / 2)).succ = n by omega]
theorem finv_mul {p a : Nat} (h : PrimeN p) (ha : a % p ≠ 0) : fmul p a (finv p a) = 1 := by
  have hp := h.1
  unfold fmul finv
  rw [pw_mod, Nat.one_mul, ← Nat.pow_mod, ← Nat.mul_mod_mod, Nat.mod_mod, Nat.mul_mod_mod, Nat.mul_comm, ← Nat.pow_succ, show (p - 2).succ = p - 1 by omega]
  exact fermat h ha

/-- The numbers below p. -/
def Fp (p : Nat) (hp : 0 < p) : Fd (Fin p) where
  zero := ⟨0, hp⟩
  one := ⟨1 % p, Nat.mod_lt _ hp⟩
  add a b := ⟨fadd p a.1 b.1, Nat.mod_lt _ hp⟩
  sub a b := ⟨fsub p a.1 b.1, Nat.mod_lt _ hp⟩
  mul a b := ⟨fmul p a.1 b.1, Nat.mod_lt _ hp⟩
  inv a := if a.1 % p = 0 then none else some ⟨finv p a.1, Nat.mod_lt _ hp⟩
theorem Fp_ok {p : Nat} (hp : 0 < p) (h : PrimeN p) : (Fp p hp).Ok where
  add_comm a b := Fin.ext (by show (a.1 + b.1) % p = (b.1 + a.1) % p; rw [Nat.add_comm])
  add_assoc a b c := Fin.ext (by show ((a.1 + b.1) % p + c.1) % p = (a.1 + (b.1 + c.1) % p) % p; rw [Nat.mod_add_mod, Nat.add_mod_mod, Nat.add_assoc])
  zero_add a := Fin.ext (by show (0 + a.1) % p = a.1; rw [Nat.zero_add, Nat.mod_eq_of_lt a.2])
  mul_comm a b := Fin.ext (by show a.1 * b.1 % p = b.1 * a.1 % p; rw [Nat.mul_comm])
  mul_assoc a b c := Fin.ext (by show (a.1 * b.1 % p) * c.1 % p = a.1 * (b.1 * c.1 % p) % p; rw [Nat.mod_mul_mod, Nat.mul_mod_mod, Nat.mul_assoc])
  one_mul a := Fin.ext (by show (1 % p) * a.1 % p = a.1; rw [Nat.mod_mul_mod, Nat.one_mul, Nat.mod_eq_of_lt a.2])
  distrib a b c := Fin.ext (by show a.1 * ((b.1 + c.1) % p) % p = (a.1 * b.1 % p + a.1 * c.1 % p) % p; rw [Nat.mul_mod_mod, Nat.mul_add, ← Nat.add_mod])
  sub_add a b := Fin.ext (by
    show ((a.1 + p - b.1 % p) % p + b.1) % p = a.1
    have := a.2
    have := b.2
    rw [Nat.mod_add_mod, Nat.mod_eq_of_lt b.2, show a.1 + p - b.1 + b.1 = a.1 + p by omega, Nat.add_mod_right, Nat.mod_eq_of_lt a.2])
  inv_some a b e := Fin.ext (by
    have e : (if a.1 % p = 0 then none else some (⟨finv p a.1, Nat.mod_lt _ hp⟩ : Fin p)) = some b := e
    split at e
    · cases e
    · rename_i h0
      injection e with e
      subst e
      show fmul p a.1 (finv p a.1) = 1 % p
      rw [finv_mul h h0, Nat.mod_eq_of_lt h.1])
  inv_none a := by
    show (if a.1 % p = 0 then none else some (⟨finv p a.1, Nat.mod_lt _ hp⟩ : Fin p)) = none ↔ _
    have hm := Nat.mod_eq_of_lt a.2
    constructor
    · intro e
      split at e
      · rename_i h0; exact Fin.ext (hm.symm.trans h0)
      · cases e
    · intro e
      exact if_pos (hm.trans (congrArg Fin.val e))
  one_ne e := by
    have := congrArg Fin.val e
    have h1 : 1 % p = 0 := this
    rw [Nat.mod_eq_of_lt h.1] at h1
    omega

/-- The field of 256 elements. -/
def F8 : Fd UInt8 where
  zero := 0
  one := 1
  add a b := a ^^^ b
  sub a b := a ^^^ b
  mul := bmul
  inv a := if a = 0 then none else some (binv a)
theorem F8_ok : F8.Ok where
  add_comm := UInt8.xor_comm
  add_assoc := UInt8.xor_assoc
  zero_add a := UInt8.zero_xor
  mul_comm := bmul_comm
  mul_assoc := bmul_assoc
  one_mul := one_bmul
  distrib := bmul_xor
  sub_add a b := by show a ^^^ b ^^^ b = a; rw [UInt8.xor_assoc, UInt8.xor_self, UInt8.xor_zero]
  inv_some a b e := by
    have e : (if a = 0 then none else some (binv a)) = some b := e
    split at e
    · cases e
    · rename_i h0
      injection e with e
      subst e
      exact bmul_inv h0
  inv_none a := by
    show (if a = 0 then none else some (binv a)) = none ↔ a = 0
    constructor
    · intro e
      split at e
      · assumption
      · cases e
    · intro e; rw [if_pos e]
  one_ne := by show ¬ (1 : UInt8) = 0; decide
end Go.Proofs.YtoaaplngdomdcaaGreat

/- The field of the numbers below a prime as matrices of words call it: its methods' contracts. -/
namespace Go.Proofs.YtoaaplngdomdcaaGreat.MV
open Go.RowKit

/-- The Mod of the prime p lies in block gm. -/
def Fk (p gm : Nat) (w : World) : Prop := PrimeN p ∧ p ≤ 2147483648 ∧ MP w (.pointer (some ⟨gm, 0, none⟩)) p
section
variable {p gm : Nat} {hp : 0 < p}
theorem Fk.below {w w' : World} (h : Fk p gm w) (hb : Below w.heap.size w w') : Fk p gm w' := ⟨h.1, h.2.1, h.2.2.below hb⟩
theorem Fk.keep {w w' : World} {base : Nat} (h : Fk p gm w) (hl : gm < base) (hb : Below base w w') : Fk p gm w' := by
  obtain ⟨h1, h2, g, e, h3, h4⟩ := h
  injection e with e
  injection e with e
  injection e with e _ _
  subst e
  have := hb.size
  refine ⟨h1, h2, gm, rfl, by omega, ?_⟩
  rw [World.cell?_of_block (hb.block gm hl)]
  exact h4
def en (x : Fin p) : Value := .int .u32 ((Fin.val x : Nat) : Int)
theorem en_inj {x y : Fin p} : ((Fin.val x : Nat) : Int) = ((Fin.val y : Nat) : Int) ↔ x = y := ⟨fun h => Fin.ext (by omega), fun h => by rw [h]⟩
theorem le32 {p : Nat} (h : p ≤ 2147483648) (x : Fin p) : ((Fin.val x : Nat) : Int) ≤ 4294967295 := by have := x.2; omega

theorem fzero_c (w : World) (_ : Fk p gm w) : Calls Tryz.prog 165 #[.pointer (some ⟨gm, 0, none⟩)] w fun e w' => e = .returned (.int .u32 ((Fin.val (Fp p hp).zero : Nat) : Int)) ∧ w = w' := by
  refine (mzero_any _ w).mono ?_
  rintro e w' ⟨rfl, rfl⟩
  exact ⟨rfl, rfl⟩
theorem fone_c (w : World) (h : Fk p gm w) : Calls Tryz.prog 164 #[.pointer (some ⟨gm, 0, none⟩)] w fun e w' => e = .returned (.int .u32 ((Fin.val (Fp p hp).one : Nat) : Int)) ∧ w = w' := by
  have h1 := h.1.1
  refine (mone_any _ p w h.2.2 h1 h.2.1).mono ?_
  rintro e w' ⟨rfl, rfl⟩
  refine ⟨?_, rfl⟩
  show _ = Ending.returned (.int .u32 ((1 % p : Nat) : Int))
  rw [Nat.mod_eq_of_lt h1]
  rfl
theorem fadd_c (x y : Fin p) (w : World) (h : Fk p gm w) : Calls Tryz.prog 22 #[.pointer (some ⟨gm, 0, none⟩), .int .u32 ((Fin.val x : Nat) : Int), .int .u32 ((Fin.val y : Nat) : Int)] w fun e w' => e = .returned (.int .u32 ((Fin.val ((Fp p hp).add x y) : Nat) : Int)) ∧ w = w' := by
  refine (madd_any _ p x.1 y.1 w h.2.2 hp h.2.1 (le32 h.2.1 x) (le32 h.2.1 y)).mono ?_
  rintro e w' ⟨rfl, rfl⟩
  exact ⟨rfl, rfl⟩
theorem fsub_c (x y : Fin p) (w : World) (h : Fk p gm w) : Calls Tryz.prog 23 #[.pointer (some ⟨gm, 0, none⟩), .int .u32 ((Fin.val x : Nat) : Int), .int .u32 ((Fin.val y : Nat) : Int)] w fun e w' => e = .returned (.int .u32 ((Fin.val ((Fp p hp).sub x y) : Nat) : Int)) ∧ ∃ q, w' = w.drewN q := by
  refine (msub_any _ p x.1 y.1 w h.2.2 hp h.2.1 (le32 h.2.1 x) (le32 h.2.1 y)).mono ?_
  rintro e w' ⟨rfl, q, rfl⟩
  exact ⟨rfl, q, rfl⟩
theorem fmul_c (x y : Fin p) (w : World) (h : Fk p gm w) : Calls Tryz.prog 24 #[.pointer (some ⟨gm, 0, none⟩), .int .u32 ((Fin.val x : Nat) : Int), .int .u32 ((Fin.val y : Nat) : Int)] w fun e w' => e = .returned (.int .u32 ((Fin.val ((Fp p hp).mul x y) : Nat) : Int)) ∧ w = w' := by
  refine (mmul_any _ p x.1 y.1 w h.2.2 hp h.2.1 (le32 h.2.1 x) (le32 h.2.1 y)).mono ?_
  rintro e w' ⟨rfl, rfl⟩
  refine ⟨?_, rfl⟩
  show _ = Ending.returned (.int .u32 ((fmul p x.1 y.1 : Nat) : Int))
  rw [fmul_mod]
theorem finv_some {x y : Fin p} (e0 : (Fp p hp).inv x = some y) (w : World) (h : Fk p gm w) : Calls Tryz.prog 21 #[.pointer (some ⟨gm, 0, none⟩), .int .u32 ((Fin.val x : Nat) : Int)] w fun e w' => e = .returned (.tuple #[.int .u32 ((Fin.val y : Nat) : Int), .bool true]) ∧ w = w' := by
  have e1 : (if x.1 % p = 0 then none else some (⟨finv p x.1, Nat.mod_lt _ hp⟩ : Fin p)) = some y := e0
  split at e1
  · cases e1
  · rename_i h0
    injection e1 with e1
    subst e1
    refine (minverse_any _ p x.1 w h.2.2 h.1.1 h.2.1 (le32 h.2.1 x)).mono ?_
    rintro e w' ⟨rfl, rfl⟩
    rw [if_neg h0]
    exact ⟨rfl, rfl⟩
theorem finv_none {x : Fin p} (e0 : (Fp p hp).inv x = none) (w : World) (h : Fk p gm w) : Calls Tryz.prog 21 #[.pointer (some ⟨gm, 0, none⟩), .int .u32 ((Fin.val x : Nat) : Int)] w fun e w' => e = .returned (.tuple #[.int .u32 0, .bool false]) ∧ w = w' := by
  have h0 : x.1 % p = 0 := by
    have := ((Fp_ok hp h.1).inv_none x).1 e0
    rw [this]
    exact Nat.zero_mod p
  refine (minverse_any _ p x.1 w h.2.2 h.1.1 h.2.1 (le32 h.2.1 x)).mono ?_
  rintro e w' ⟨rfl, rfl⟩
  rw [if_pos h0]
  exact ⟨rfl, rfl⟩
theorem mt_of {w : World} {base g rows cols : Nat} {E : Nat → Nat → Fin p} (h : Mw (modF gm) w base g (rowsN cols (fun i j => (E i j).val) rows)) : Mt 141 (modF gm) en w g rows cols E := by
  obtain ⟨_, v, hb, ho⟩ := h
  obtain ⟨A, c, rfl, hc, hm, hcell⟩ := ho.ls.form
  rw [rowsN_length] at hc hb
  refine ⟨_, hb, A, c, rfl, hc, hm, fun i hi => ?_⟩
  obtain ⟨b, o, x, hA, hlt, hcx, hby⟩ := hcell i ((List.range cols).map fun j => (E i j).val) (by rw [rowsN, List.getElem?_map, List.getElem?_range hi]; rfl)
  obtain ⟨B, d, rfl, hd, hdm, h2⟩ := hby.form
  rw [List.length_map, List.length_range] at hd hcx
  exact ⟨b, o, B, d, hA, hlt, hcx, hd, hdm, fun j hj => h2 j _ (by rw [List.getElem?_map, List.getElem?_range hj]; rfl)⟩
/-- What lays a matrix out of a function of places. -/
theorem laid_c (rows cols : Nat) (K : FuncId) (cap : Array Value) (M : Nat → Nat → Fin p) (w : World) (hr : rows ≤ 256) (hc : cols ≤ 256)
    (hent : ∀ (args : Array Value) (w : World), (callFunc K args).run Tryz.prog w = .ok (.enter K args) w)
    (hcl : ∀ (i j : Nat) (w' : World), i < rows → j < cols → Below w.heap.size w w' → Calls Tryz.prog K (#[.int .i64 (i : Int), .int .i64 (j : Int)] ++ cap) w' fun e w'' => e = .returned (.int .u32 ((Fin.val (M i j) : Nat) : Int)) ∧ Below w'.heap.size w' w'') :
    Calls Tryz.prog 85 #[modF gm, .int .i64 (rows : Int), .int .i64 (cols : Int), .func (.func K) #[] cap] w fun e w' => ∃ g, e = .returned (.pointer (some ⟨g, 0, none⟩)) ∧ Mt 141 (modF gm) en w' g rows cols M ∧ Below w.heap.size w w' := by
  refine (laidw_any 25 (.pointer (some ⟨gm, 0, none⟩)) rows cols K cap (fun i j => (M i j).val) w hr hc hent hcl).mono ?_
  rintro e w' ⟨g, rfl, hmx, hb⟩
  exact ⟨g, rfl, mt_of hmx, hb⟩
end
end Go.Proofs.YtoaaplngdomdcaaGreat.MV

/- Matrices of words: made, Rows, Cols, At, dot. -/
namespace Go.Proofs.YtoaaplngdomdcaaGreat.MV
open Go.RowKit
section
variable {p gm : Nat} {hp : 0 < p}

theorem meth_zero (n : Nat) (w : World) : (method (n + 1) 25 (.pointer (some ⟨gm, 0, none⟩)) "Zero").run Tryz.prog w = .ok (165, (.pointer (some ⟨gm, 0, none⟩))) w := by kernel_rfl
theorem meth_one (n : Nat) (w : World) : (method (n + 1) 25 (.pointer (some ⟨gm, 0, none⟩)) "One").run Tryz.prog w = .ok (164, (.pointer (some ⟨gm, 0, none⟩))) w := by kernel_rfl
theorem meth_add (n : Nat) (w : World) : (method (n + 1) 25 (.pointer (some ⟨gm, 0, none⟩)) "Add").run Tryz.prog w = .ok (22, (.pointer (some ⟨gm, 0, none⟩))) w := by kernel_rfl
theorem meth_sub (n : Nat) (w : World) : (method (n + 1) 25 (.pointer (some ⟨gm, 0, none⟩)) "Sub").run Tryz.prog w = .ok (23, (.pointer (some ⟨gm, 0, none⟩))) w := by kernel_rfl
theorem meth_mul (n : Nat) (w : World) : (method (n + 1) 25 (.pointer (some ⟨gm, 0, none⟩)) "Mul").run Tryz.prog w = .ok (24, (.pointer (some ⟨gm, 0, none⟩))) w := by kernel_rfl
theorem meth_inv (n : Nat) (w : World) : (method (n + 1) 25 (.pointer (some ⟨gm, 0, none⟩)) "Inverse").run Tryz.prog w = .ok (21, (.pointer (some ⟨gm, 0, none⟩))) w := by kernel_rfl
theorem ahead_zero (n : Nat) (w : World) : (nilAhead (n + 1) 25 (.pointer (some ⟨gm, 0, none⟩)) "Zero").run Tryz.prog w = .ok (some false) w := by kernel_rfl
theorem ahead_one (n : Nat) (w : World) : (nilAhead (n + 1) 25 (.pointer (some ⟨gm, 0, none⟩)) "One").run Tryz.prog w = .ok (some false) w := by kernel_rfl
theorem ahead_add (n : Nat) (w : World) : (nilAhead (n + 1) 25 (.pointer (some ⟨gm, 0, none⟩)) "Add").run Tryz.prog w = .ok (some false) w := by kernel_rfl
theorem ahead_sub (n : Nat) (w : World) : (nilAhead (n + 1) 25 (.pointer (some ⟨gm, 0, none⟩)) "Sub").run Tryz.prog w = .ok (some false) w := by kernel_rfl
theorem ahead_mul (n : Nat) (w : World) : (nilAhead (n + 1) 25 (.pointer (some ⟨gm, 0, none⟩)) "Mul").run Tryz.prog w = .ok (some false) w := by kernel_rfl
theorem ahead_inv (n : Nat) (w : World) : (nilAhead (n + 1) 25 (.pointer (some ⟨gm, 0, none⟩)) "Inverse").run Tryz.prog w = .ok (some false) w := by kernel_rfl

/-- A matrix of words. -/
abbrev Mtx (gm : Nat) {p : Nat} (w : World) (g n m : Nat) (M : Nat → Nat → Fin p) : Prop := Mt 141 (modF gm) en w g n m M
variable {w : World} {g n m : Nat} {M : Nat → Nat → (Fin p)}
theorem Mt.form (h : Mtx gm w g n m M) : ∃ A c, w.cell? ⟨g, 0, none⟩ = some (modF gm) ∧ w.cell? ⟨g, 1, none⟩ = some (.slice A n c) ∧ n ≤ c ∧ c ≤ maxLen ∧ ∀ i, i < n → ∃ b o B d, A = some ⟨b, o, none⟩ ∧ b < w.heap.size ∧ w.cell? ⟨b, o + i, none⟩ = some (.slice B m d) ∧ m ≤ d ∧ d ≤ maxLen ∧
    ∀ j, j < m → ∃ b2 o2, B = some ⟨b2, o2, none⟩ ∧ b2 < w.heap.size ∧ w.cell? ⟨b2, o2 + j, none⟩ = some (.int .u32 ((Fin.val (M i j) : Nat) : Int)) := by
  obtain ⟨v, hb, A, c, rfl, h1, h2, h3⟩ := h
  exact ⟨A, c, by rw [hb.cell]; rfl, by rw [hb.cell]; rfl, h1, h2, h3⟩

theorem made_c (h : Mtx gm w g n m M) : Calls Tryz.prog 92 #[.pointer (some ⟨g, 0, none⟩)] w fun e w' => e = .returned (.bool true) ∧ w = w' := by
  obtain ⟨A, c, h0, _⟩ := Mt.form h
  clear h
  go_enter Tryz.func92, Tryz.ntmps92
  go_wp2
  go_ret
  exact ⟨rfl, rfl⟩
theorem rows_c (h : Mtx gm w g n m M) : Calls Tryz.prog 39 #[.pointer (some ⟨g, 0, none⟩)] w fun e w' => e = .returned (.int .i64 (n : Int)) ∧ w = w' := by
  have q := made_c h
  obtain ⟨A, c, _, h1, _⟩ := Mt.form h
  clear h
  go_enter Tryz.func39, Tryz.ntmps39
  go_wp2_with fail
  refine q.mono ?_
  rintro e w' ⟨rfl, rfl⟩
  go_wp2
  go_ret
  exact ⟨rfl, rfl⟩
theorem cols_c (h : Mtx gm w g n m M) (hn : 0 < n) : Calls Tryz.prog 40 #[.pointer (some ⟨g, 0, none⟩)] w fun e w' => e = .returned (.int .i64 (m : Int)) ∧ w = w' := by
  have q := made_c h
  obtain ⟨A, c, _, h1, _, _, h2⟩ := Mt.form h
  obtain ⟨b, o, B, d, rfl, _, h3, _⟩ := h2 0 hn
  rw [Nat.add_zero] at h3
  have i0 : (0 : Int) < (n : Int) := by omega
  clear h h2
  go_enter Tryz.func40, Tryz.ntmps40
  go_wp2_with fail
  refine q.mono ?_
  rintro e w' ⟨rfl, rfl⟩
  go_wp2
  go_ret
  exact ⟨rfl, rfl⟩
set_option maxHeartbeats 800000 in
theorem at_c (h : Mtx gm w g n m M) {i j : Nat} (hi : i < n) (hj : j < m) : Calls Tryz.prog 43 #[.pointer (some ⟨g, 0, none⟩), .int .i64 (i : Int), .int .i64 (j : Int)] w fun e w' => e = .returned (.tuple #[.int .u32 ((Fin.val (M i j) : Nat) : Int), .int .i64 0]) ∧ w = w' := by
  have q1 := made_c h
  have q2 := rows_c h
  have q3 := cols_c h (by omega)
  obtain ⟨A, c, _, h1, _, _, h2⟩ := Mt.form h
  obtain ⟨b, o, B, d, rfl, _, h3, _, _, h4⟩ := h2 i hi
  obtain ⟨b2, o2, rfl, _, h5⟩ := h4 j hj
  have i1 : (i : Int) < (n : Int) := by omega
  have i2 : (j : Int) < (m : Int) := by omega
  have i3 : (0 : Int) ≤ (i : Int) := by omega
  have i4 : (0 : Int) ≤ (j : Int) := by omega
  generalize M i j = x at *
  clear h h2 h4
  go_enter Tryz.func43, Tryz.ntmps43
  go_wp2_with fail
  refine q1.mono ?_
  rintro e w' ⟨rfl, rfl⟩
  go_wp2_with fail
  refine q2.mono ?_
  rintro e w' ⟨rfl, rfl⟩
  go_wp2_with fail
  refine q3.mono ?_
  rintro e w' ⟨rfl, rfl⟩
  go_wp2
  go_ret2
  exact ⟨rfl, rfl⟩
end
end Go.Proofs.YtoaaplngdomdcaaGreat.MV

/- The library's Grow and Concat at lists of words: two lists laid behind one another. -/
namespace Go.Proofs.YtoaaplngdomdcaaGreat.MV
open Go.RowKit

theorem elemI : Elem1 Tryz.prog 23 22 (.int .u32 0) 4 := ⟨Tryz.underlying23, by kernel_rfl, rfl⟩
theorem elemO : Elem1 Tryz.prog 61 23 (.slice none 0 0) 24 := ⟨Tryz.underlying61, by kernel_rfl, rfl⟩
theorem own_new (w : World) (n c : Nat) (h1 : n ≤ c) (h2 : c ≤ maxLen) :
    (w.alloc (.cells (Builtin.zeroCells #[.int .u32 0] n ++ Builtin.zeroCells #[.int .u32 0] (c - n)) 22)).drew.ownsRow w.heap.size 22 1 (.slice (some ⟨w.heap.size, 0, none⟩) 0 c) 0 [] := by
  have := (Blk.new w 22 (Builtin.zeroCells #[.int .u32 0] n ++ Builtin.zeroCells #[.int .u32 0] (c - n))).drew.own (base := w.heap.size) (e := 22) (n := 0) (cap := c) (sz := 1) rfl (Nat.le_refl _) (by simp [size_zeroCells]; omega) (Nat.zero_le _) h2
  simpa using this
set_option maxRecDepth 100000 in
set_option maxHeartbeats 1000000 in
theorem grow_c (n : Nat) (w : World) (hn : n ≤ 1048576) :
    Calls Tryz.prog 144 #[.slice none 0 0, .int .i64 (n : Int)] w fun e w' => ∃ v, e = .returned v ∧ w'.ownsRow w.heap.size 22 1 v 0 [] ∧ Below w.heap.size w w' := by
  by_cases h0 : n = 0
  · have g1 : (n : Int) = 0 := by omega
    rw [g1]
    go_enter Tryz.func144, Tryz.ntmps144
    go_wp2
    go_ret
    exact ⟨_, rfl, World.ownsRow_nil _ _ _ _, Below.refl _ _⟩
  · have g1 : ¬ (n : Int) < 0 := by omega
    have g2 : (0 : Int) < (n : Int) := by omega
    have g3 : ¬ (281474976710656 : Int) < (n : Int) * ((Tryz.t22).bytes : Int) := by
      have : ((Tryz.t22).bytes : Int) = 4 := by kernel_rfl
      rw [this]; omega
    have g4 : ¬ 281474976710656 < Builtin.nextslicecap n 0 * (Tryz.t22).bytes := by
      have h1 : (Tryz.t22).bytes = 4 := by kernel_rfl
      have h2 : Builtin.nextslicecap n 0 = n := by unfold Builtin.nextslicecap; simp; omega
      rw [h1, h2]; omega
    go_enter Tryz.func144, Tryz.ntmps144
    go_wp2
    go_ret
    refine ⟨_, rfl, ?_, ?_⟩
    · exact own_new w n _ (grownCap_ge w n 0 22) (grownCap_le_maxLen w n 0 22 (by unfold maxLen; omega))
    · exact ((Below.refl _ w).alloc (Nat.le_refl _) _).drew
set_option maxRecDepth 100000 in
set_option maxHeartbeats 2000000 in
/-- Two lists laid behind one another. -/
theorem concat_c (g a b : Nat) (u v : Value) (xs ys : List Value) (w : World) (h0 : w.cell? ⟨g, 0, none⟩ = some u) (h1 : w.cell? ⟨g, 1, none⟩ = some v) (hg : g < w.heap.size) (hu : Sl w 1 u a xs) (hv : Sl w 1 v b ys) (ha : a ≤ 4096) (hb : b ≤ 4096) (hx : ∀ x ∈ xs, x.oneCell' = true) (hy : ∀ y ∈ ys, y.oneCell' = true) :
    Calls Tryz.prog 132 #[.slice (some ⟨g, 0, none⟩) 2 2] w fun e w' => ∃ r, e = .returned r ∧ w'.ownsRow w.heap.size 22 1 r (a + b) (xs ++ ys) ∧ Below w.heap.size w w' := by
  obtain ⟨Au, cu, rfl, -, -, -⟩ := hu.form
  obtain ⟨Av, cv, rfl, -, -, -⟩ := hv.form
  have HG := hide (grow_c (a + b))
  have HU := hide (And.intro hu (And.intro hv (And.intro hx hy)))
  have HB := hide (And.intro ha hb)
  have e1 : (a : Int) + (b : Int) = ((a + b : Nat) : Int) := by omega
  obtain ⟨s, hs⟩ : ∃ s, s = a + b := ⟨_, rfl⟩
  rw [← hs] at HG e1
  have HS := hide hs
  have l1 : (s : Int) ≤ 8192 := by omega
  have l2 : (a : Int) ≤ 4096 := by omega
  clear hu hv hx hy hs
  go_enter Tryz.func132, Tryz.ntmps132
  go_wp2
  go_loopw [3, 11] (fun u3 u11 wr => ((u11 = .int .i64 0 ∧ u3 = .int .i64 0) ∨ (u11 = .int .i64 1 ∧ u3 = .int .i64 (a : Int)) ∨ (u11 = .int .i64 2 ∧ u3 = .int .i64 (s : Int))) ∧ w = wr) (fun _ i _ => 2 - (intOf i).toNat)
  case atStart => exact ⟨.inl ⟨rfl, rfl⟩, rfl⟩
  case round =>
    obtain ⟨⟨rfl, rfl⟩ | ⟨rfl, rfl⟩ | ⟨rfl, rfl⟩, rfl⟩ := hrel
    · go_wp2
      go_roundw
      case rel => simp
      case measure => simp [intOf]
    · go_wp2
      go_roundw
      case rel => simp [e1]
      case measure => simp [intOf]
    · have HG2 := hide (show Calls Tryz.prog 144 #[.slice none 0 0, .int .i64 (s : Int)] w _ from HG.out w (by omega))
      go_wp2_with (go_at_call 144; refine HG2.out.mono ?_; rintro e w1 ⟨v0, rfl, o1, b1⟩)
      have HI := hide (And.intro o1 b1)
      clear o1 b1
      go_loopw [6, 27] (fun u6 u27 wr => ((u27 = .int .i64 0 ∧ wr.ownsRow w.heap.size 22 1 u6 0 []) ∨ (u27 = .int .i64 1 ∧ wr.ownsRow w.heap.size 22 1 u6 a xs) ∨ (u27 = .int .i64 2 ∧ wr.ownsRow w.heap.size 22 1 u6 (a + b) (xs ++ ys))) ∧ Below w.heap.size w wr) (fun _ i _ => 2 - (intOf i).toNat)
      case atStart => exact ⟨.inl ⟨rfl, HI.out.1⟩, HI.out.2⟩
      case round =>
        clear HI
        obtain ⟨⟨rfl, ho⟩ | ⟨rfl, ho⟩ | ⟨rfl, ho⟩, hb⟩ := hrel
        · have HO := hide ho
          have c0 : wr.cell? ⟨g, 0, none⟩ = some (.slice Au a cu) := (hb.cell (p := ⟨g, 0, none⟩) hg).trans h0
          clear ho
          go_wp2_with (at_builtin; go_loud (refine wpList_pushQ elemI HO.out hb hb.size (HU.out.1.below hb) (by have := HB.out; unfold maxLen; omega) (by have := HB.out; omega) HU.out.2.2.1 rfl _ _ rfl rfl rfl ?_); intro v2 w2 o2 b2)
          go_roundw
          case rel => exact ⟨.inr (.inl ⟨rfl, by simpa using o2⟩), b2⟩
          case measure => simp [intOf]
        · have HO := hide ho
          have c0 : wr.cell? ⟨g, 1, none⟩ = some (.slice Av b cv) := (hb.cell (p := ⟨g, 1, none⟩) hg).trans h1
          clear ho
          go_wp2_with (at_builtin; go_loud (refine wpList_pushQ elemI HO.out hb hb.size (HU.out.2.1.below hb) (by have := HB.out; unfold maxLen; omega) (by have := HB.out; omega) HU.out.2.2.2 rfl _ _ rfl rfl rfl ?_); intro v2 w2 o2 b2)
          go_roundw
          case rel => exact ⟨.inr (.inr ⟨rfl, o2⟩), b2⟩
          case measure => simp [intOf]
        · go_wp2
          go_ret
          exact ⟨_, rfl, ho, hb⟩
end Go.Proofs.YtoaaplngdomdcaaGreat.MV

/- Matrices of words: a row times a column; a row taken from the others; rows with more behind them. -/
namespace Go.Proofs.YtoaaplngdomdcaaGreat.MV
open Go.RowKit
section
variable {p gm : Nat} {hp : 0 < p}
variable {w : World} {g n m : Nat} {M : Nat → Nat → (Fin p)}

set_option maxRecDepth 100000 in
set_option maxHeartbeats 4000000 in
theorem dot_c (h : Mtx gm w g n m M) (hk : (Fk p gm) w) {r : Nat} (hr : r < n) (hm : m ≤ 4096) (K : FuncId) (cap : Array Value) (y : Nat → (Fin p))
    (hent : ∀ (args : Array Value) (w : World), (callFunc K args).run Tryz.prog w = .ok (.enter K args) w)
    (hcl : ∀ (k : Nat) (w' : World), k < m → Below w.heap.size w w' → Calls Tryz.prog K (#[.int .i64 (k : Int)] ++ cap) w' fun e w'' => e = .returned (.int .u32 ((Fin.val (y k) : Nat) : Int)) ∧ Below w'.heap.size w' w'') :
    Calls Tryz.prog 106 #[.pointer (some ⟨g, 0, none⟩), .int .i64 (r : Int), .func (.func K) #[] cap] w fun e w' => e = .returned (.int .u32 ((Fin.val ((Fp p hp).dot m (M r) y) : Nat) : Int)) ∧ Below w.heap.size w w' := by
  have m1 := meth_zero (gm := gm)
  have m2 := meth_add (gm := gm)
  have m3 := ahead_add (gm := gm)
  have m4 := meth_mul (gm := gm)
  have m5 := ahead_mul (gm := gm)
  have HK := hide hk
  have hgl := Mt.lt h
  have HS : Hid (∀ W, Below w.heap.size w W → W.cell? ⟨g, 0, none⟩ = some (modF gm)) := fun W hW => by
    obtain ⟨_, _, c0, _⟩ := Mt.form (h.below hW)
    exact c0
  have s0 := HS.out w (Below.refl _ _)
  obtain ⟨A, c, _, h1, hnc, hcm, h2⟩ := Mt.form h
  obtain ⟨b, o, B, d, rfl, hbl, h3, hmd, hdm, h4⟩ := h2 r hr
  have H4 := hide h4
  have i1 : (r : Int) < (n : Int) := by omega
  have i2 : (0 : Int) ≤ (r : Int) := by omega
  have HCL := hide hcl
  have HZ := hide (show ∀ k, k ≤ m → ∃ Z, (Fp p hp).sum k (fun t => (Fp p hp).mul (M r t) (y t)) = Z from fun k _ => ⟨_, rfl⟩)
  unfold Fd.dot
  clear h hk h2 h4 hcl hnc hcm hdm
  have q0 := fzero_c (hp := hp) w HK.out
  go_enter Tryz.func106, Tryz.ntmps106
  go_wp2_with fail
  refine q0.mono ?_
  rintro e w1 ⟨rfl, rfl⟩
  clear q0
  have hb1 : Below w.heap.size w w := Below.refl _ _
  go_wp2_with fail
  go_loopw [7, 8, 9, 23] (fun u7 _ _ u23 wr => ∃ k : Nat, k ≤ m ∧ u23 = .int .i64 (k : Int) ∧ u7 = .int .u32 ((Fin.val ((Fp p hp).sum k fun t => (Fp p hp).mul (M r t) (y t)) : Nat) : Int) ∧ Below w.heap.size w wr) (fun _ _ _ u23 _ => m - (intOf u23).toNat)
  case atStart => exact ⟨0, by omega, rfl, rfl, hb1⟩
  case round =>
    clear hb1
    obtain ⟨k, hk, rfl, rfl, hbel⟩ := hrel
    by_cases hlt : k < m
    · have j1 : (k : Int) < (m : Int) := by omega
      have j2 : (0 : Int) ≤ (k : Int) := by omega
      obtain ⟨b2, o2, rfl, hl2, hc2⟩ := H4.out k hlt
      have hc3 := (hbel.cell (p := ⟨b2, o2 + k, none⟩) hl2).trans hc2
      have hg0 := HS.out wr hbel
      obtain ⟨x, hx⟩ : ∃ x, x = M r k := ⟨_, rfl⟩
      obtain ⟨s, hs⟩ : ∃ s, s = (Fp p hp).sum k fun t => (Fp p hp).mul (M r t) (y t) := ⟨_, rfl⟩
      obtain ⟨Y, hY⟩ : ∃ Y, Y = y k := ⟨_, rfl⟩
      have HE := hide (show ((Fp p hp).sum (k + 1) fun t => (Fp p hp).mul (M r t) (y t)) = (Fp p hp).add s ((Fp p hp).mul x Y) by rw [hs, hx, hY]; rfl)
      have Q1 : Hid (∀ W, Below wr.heap.size wr W → Calls Tryz.prog K (#[.int .i64 (k : Int)] ++ cap) W fun e w'' => e = .returned (.int .u32 ((Fin.val Y : Nat) : Int)) ∧ Below wr.heap.size wr w'') := fun W hW => by
        rw [hY]
        exact (HCL.out k W hlt (hbel.trans (hW.mono hbel.size))).mono fun e w'' ⟨a, b⟩ => ⟨a, hW.trans (b.mono hW.size)⟩
      have Q2 : Hid (∀ W, Below wr.heap.size wr W → Calls Tryz.prog 24 #[(.pointer (some ⟨gm, 0, none⟩)), .int .u32 ((Fin.val x : Nat) : Int), .int .u32 ((Fin.val Y : Nat) : Int)] W fun e w'' => e = .returned (.int .u32 ((Fin.val ((Fp p hp).mul x Y) : Nat) : Int)) ∧ Below wr.heap.size wr w'') := fun W hW =>
        (fmul_c (hp := hp) x Y W ((HK.out.below hbel).below hW)).mono fun e w'' ⟨a, b⟩ => ⟨a, by subst b; first | exact hW | exact hW.alloc hW.size _⟩
      have Q3 : Hid (∀ z W, Below wr.heap.size wr W → Calls Tryz.prog 22 #[(.pointer (some ⟨gm, 0, none⟩)), .int .u32 ((Fin.val s : Nat) : Int), .int .u32 ((Fin.val z : Nat) : Int)] W fun e w'' => e = .returned (.int .u32 ((Fin.val ((Fp p hp).add s z) : Nat) : Int)) ∧ Below wr.heap.size wr w'') := fun z W hW =>
        (fadd_c (hp := hp) s z W ((HK.out.below hbel).below hW)).mono fun e w'' ⟨a, b⟩ => ⟨a, by subst b; first | exact hW | exact hW.alloc hW.size _⟩
      have HS2 : Hid (∀ W, Below wr.heap.size wr W → W.cell? ⟨g, 0, none⟩ = some (modF gm)) := fun W hW => HS.out W (hbel.trans (hW.mono hbel.size))
      have hE := hent #[.int .i64 (k : Int)]
      rw [← hx] at hc3
      rw [← hs]
      clear hx hs hY hc2 HCL
      go_wp2_with fail
      go_region_held3 (fun w' => w'.cell? ⟨g, 0, none⟩ = some (modF gm)) (first | go_keep | exact HS2.out _ (by assumption) | exact HS2.out _ (Below.drew (by assumption)))
        (first
          | (go_at_call 24; (with_reducible refine (Q2.out _ ?bb).mono ?_); (case bb => (repeat (first | with_reducible exact Below.refl _ _ | with_reducible assumption | with_reducible refine Below.drew ?_))); rintro e w2 ⟨rfl, q2⟩)
          | (go_at_call 22; (with_reducible refine (Q3.out _ _ ?bb).mono ?_); (case bb => (repeat (first | with_reducible exact Below.refl _ _ | with_reducible assumption | with_reducible refine Below.drew ?_))); rintro e w3 ⟨rfl, q3⟩)
          | ((with_reducible refine (Q1.out _ ?bb).mono ?_); (case bb => (repeat (first | with_reducible exact Below.refl _ _ | with_reducible assumption | with_reducible refine Below.drew ?_))); rintro e w1 ⟨rfl, q1⟩))
      all_goals
        go_wp2
        go_roundw
        case rel => exact ⟨k + 1, by omega, by go_num, by rw [HE.out], hbel.trans (Below.mono (by repeat (first | with_reducible exact q3 | with_reducible refine Below.drew ?_)) hbel.size)⟩
        case measure => simp [intOf]; omega
    · have hkm : k = m := by omega
      subst hkm
      go_wp2
      go_ret
      exact ⟨rfl, hbel⟩
end
end Go.Proofs.YtoaaplngdomdcaaGreat.MV

/- Matrices of words: rows with more behind them. -/
namespace Go.Proofs.YtoaaplngdomdcaaGreat.MV
open Go.RowKit
section
variable {p gm : Nat} {hp : 0 < p}
variable {w : World} {g n m : Nat} {M : Nat → Nat → (Fin p)}

abbrev Gr {p : Nat} (w : World) (base g n m : Nat) (M : Nat → Nat → Fin p) : Prop := Grid 23 22 en w base g n m M
abbrev GrO {p : Nat} (w : World) (base : Nat) (v : Value) (n m : Nat) (M : Nat → Nat → Fin p) : Prop := GridO 23 22 en w base v n m M
theorem rcells_one (r : Nat → (Fin p)) (e : Nat) : ∀ x ∈ rcells en r e, x.oneCell' = true := fun x hx => by
  obtain ⟨_, _, rfl⟩ := List.mem_map.1 hx
  rfl

set_option maxRecDepth 100000 in
set_option maxHeartbeats 4000000 in
theorem beside_c (h : Mtx gm w g n m M) (hn : n ≤ 256) (hm : 0 < m ∧ m ≤ 1024) (e : Nat) (he : e ≤ 1024) (N : Nat → Nat → (Fin p)) (K : FuncId) (cap : Array Value)
    (hent : ∀ (args : Array Value) (w : World), (callFunc K args).run Tryz.prog w = .ok (.enter K args) w)
    (hcl : ∀ (i : Nat) (w' : World), i < n → Below w.heap.size w w' → Calls Tryz.prog K (#[.int .i64 (i : Int)] ++ cap) w' fun x w'' => ∃ v, x = .returned v ∧ Sl w'' 1 v e (rcells en (N i) e) ∧ Below w'.heap.size w' w'') :
    Calls Tryz.prog 93 #[.pointer (some ⟨g, 0, none⟩), .func (.func K) #[] cap] w fun x w' => ∃ v, x = .returned v ∧ GrO w' w.heap.size v n (m + e) (Fd.beside m M N) ∧ Below w.heap.size w w' := by
  obtain ⟨_, hblk, hrd⟩ := h
  obtain ⟨A, c, rfl, hnc, hcm, hcell⟩ := hrd.sl
  have h1 : w.cell? ⟨g, 1, none⟩ = some (.slice A n c) := by rw [hblk.cell]; rfl
  have HC := hide hcell
  have HCL := hide hcl
  have HN := hide (And.intro hn (And.intro hm he))
  clear hcell hcl hblk hrd hnc hcm hm he
  go_enter Tryz.func93, Tryz.ntmps93
  go_wp2_with fail
  go_loopw [5, 6, 7, 13] (fun u5 _ _ u13 wr => ∃ k : Nat, k ≤ n ∧ u13 = .int .i64 (k : Int) ∧ GrO wr w.heap.size u5 k (m + e) (Fd.beside m M N) ∧ Below w.heap.size w wr) (fun _ _ _ u13 _ => n - (intOf u13).toNat)
  case atStart => exact ⟨0, by omega, rfl, GridO.nil _ _ _ _ _ _ _, Below.refl _ _⟩
  case round =>
    obtain ⟨k, hk, rfl, hg, hbel⟩ := hrel
    have HG := hide hg
    clear hg
    by_cases hlt : k < n
    · have i1 : (k : Int) < (n : Int) := by omega
      have i2 : (0 : Int) ≤ (k : Int) := by omega
      obtain ⟨b, o, B, d, rfl, hbl, hcx, hsl⟩ := HC.out k hlt
      have hcx2 := (hbel.cell (p := ⟨b, o + k, none⟩) hbl).trans hcx
      have q := HCL.out k wr hlt hbel
      have hE := hent #[.int .i64 (k : Int)]
      have HSL := hide hsl
      clear hsl hcx
      go_wp2_with fail
      refine q.mono ?_
      rintro x w2 ⟨v, rfl, hs2, hb2⟩
      obtain ⟨A2, c2, rfl, -, -, -⟩ := hs2.form
      have hbel2 := hbel.trans (hb2.mono hbel.size)
      have n3 := Blk.new w2 23 #[.slice B m d, .slice A2 e c2]
      have b3 := (Below.refl w2.heap.size w2).alloc (Nat.le_refl _) (.cells #[.slice B m d, .slice A2 e c2] 23)
      have s1 := (HSL.out.below hbel2).below b3
      have s2 := hs2.below b3
      have H2 := hide (And.intro hbel2 (And.intro b3 hb2))
      clear q hE hs2 hb2 hbel2 b3
      go_wp2_with fail
      generalize hW3 : w2.alloc (.cells #[.slice B m d, .slice A2 e c2] 23) = W3 at *
      have q4 := concat_c w2.heap.size m e (.slice B m d) (.slice A2 e c2) _ _ W3 (by rw [n3.cell]; rfl) (by rw [n3.cell]; rfl) n3.lt s1 s2 (by have := HN.out; omega) (by have := HN.out; omega) (rcells_one _ _) (rcells_one _ _)
      clear hW3
      refine q4.mono ?_
      rintro x w4 ⟨r, rfl, ho4, hb4⟩
      obtain ⟨b4, cap4, cur, rfl, hbb, hblk4, hmc, hcm, hcur⟩ := own_blk ho4 (by have := HN.out; omega)
      have hbel4 := (H2.out.1.trans (H2.out.2.1.mono H2.out.1.size)).trans (hb4.mono (Nat.le_trans H2.out.1.size H2.out.2.1.size))
      have hbw := (H2.out.2.2.trans (H2.out.2.1.mono H2.out.2.2.size)).trans (hb4.mono (Nat.le_trans H2.out.2.2.size H2.out.2.1.size))
      have hle : wr.heap.size ≤ b4 := Nat.le_trans (Nat.le_trans H2.out.2.2.size H2.out.2.1.size) hbb
      obtain ⟨xs, hxs, hnext⟩ := GridO.form (w := w4) HG.out (by decide) hbw
      have HX := hide (hnext b4 cap4 cur)
      have HY := hide (show wr.heap.size ≤ b4 ∧ w.heap.size ≤ b4 ∧ Blk w4 b4 22 cur ∧ m + e ≤ cap4 ∧ cap4 ≤ maxLen ∧ ∀ j, j < m + e → cur[j]? = some (en (Fd.beside m M N k j)) from
        ⟨hle, Nat.le_trans hbel.size hle, hblk4, hmc, hcm, fun j hj => by rw [hcur j hj, rcells_beside hj]; rfl⟩)
      have HXS := hide hxs
      have HB4 := hide hbel4
      have hk2 : k + 1 ≤ 257 := by omega
      clear q4 s1 s2 n3 ho4 hb4 hblk4 hcur hbb hmc hcm hnext hxs hbw hle H2 hbel4 HG
      go_wp2_with (at_builtin; go_loud (refine wpList_push1 elemO HXS.out HB4.out HB4.out.size (by unfold maxLen; omega) (by omega) (.slice (some ⟨b4, 0, none⟩) (m + e) cap4) rfl rfl _ _ rfl rfl rfl ?_); intro v5 w5 ho5 hb5 _ hg5 _; have HG5 := hide (HX.out v5 w5 HY.out.1 HY.out.2.1 HY.out.2.2.1 HY.out.2.2.2.1 HY.out.2.2.2.2.1 HY.out.2.2.2.2.2 ho5 hg5); clear ho5 hg5)
      go_roundw
      case rel => exact ⟨k + 1, by omega, by go_num, HG5.out, hb5⟩
      case measure => simp [intOf]; omega
    · have hkn : k = n := by omega
      subst hkn
      go_wp2
      go_ret
      exact ⟨_, rfl, HG.out, hbel⟩
end
end Go.Proofs.YtoaaplngdomdcaaGreat.MV

/- A region that draws its order, whose last operation waits for all the others: these in any order, then that one. It holds of every program. -/
namespace Go.Proofs.YtoaaplngdomdcaaGreat
open Go

section
variable {P : Program} {Q : Exit → Act → World → Prop} {md : Region.Mode} {ops hd : Array Oper} {o : Oper}

/-- What is asked behind the others: the last one's step. -/
def Behind (P : Program) (o : Oper) (Q : Exit → Act → World → Prop) : Exit → Act → World → Prop
  | .normal, a, w => o.wp P a w (Q .normal) Q
  | e, a, w => Q e a w
theorem push_getD (l : Array Bool) (k : Nat) : (l.push false).getD k false = l.getD k false := by
  rcases Nat.lt_trichotomy k l.size with h | h | h
  · simp [Array.getD, h, Nat.lt_succ_of_lt h, Array.getElem_push_lt h]
  · subst h; simp [Array.getD]
  · simp [Array.getD, Nat.not_lt.2 (Nat.le_of_lt h), show ¬ k < l.size + 1 by omega]
theorem push_getD' (l : Array Bool) (k : Nat) (h : k < l.size) : (l.push false).getD k true = l.getD k true := by
  simp [Array.getD, h, Nat.lt_succ_of_lt h, Array.getElem_push_lt h]
theorem push_set (l : Array Bool) (k : Nat) (h : k < l.size) : (l.push false).setIfInBounds k true = (l.setIfInBounds k true).push false := by
  apply Array.ext_getElem?
  intro i
  rw [Array.getElem?_setIfInBounds, Array.getElem?_push, Array.getElem?_push, Array.getElem?_setIfInBounds, Array.size_push, Array.size_setIfInBounds]
  by_cases e : k = i
  · subst e
    rw [if_pos rfl, if_pos (by omega), if_neg (by omega), if_pos rfl, if_pos h]
  · rw [if_neg e, if_neg e]
theorem hd_at (hops : ops = hd.push o) {i : Nat} (hi : i < hd.size) : ops[i]? = hd[i]? := by
  rw [hops, Array.getElem?_push, if_neg (by omega)]
theorem ready_hd (hops : ops = hd.push o) {l : Array Bool} (hl : l.size = hd.size) {i : Nat} (hi : i < hd.size) : i ∈ Region.ready md ops (l.push false) ↔ i ∈ Region.ready md hd l := by
  rw [mem_ready, mem_ready, push_getD' l i (by omega), hd_at hops hi]
  simp only [push_getD]
theorem wpOp_hd (hops : ops = hd.push o) (hg : (ops.all fun x => x.guard.isNone) = true) {i : Nat} (hi : i < hd.size) {K : Act → World → Prop} {a : Act} {w : World} (h : wpOp P hd (Behind P o Q) i K a w) : wpOp P ops Q i K a w := by
  unfold wpOp at *
  rw [hd_at hops hi]
  obtain ⟨x, hx⟩ : ∃ x, hd[i]? = some x := ⟨_, Array.getElem?_eq_getElem hi⟩
  rw [hx] at h ⊢
  have hgx : x.guard = none := by
    rw [Array.all_eq_true_iff_forall_mem] at hg
    have hm : x ∈ ops := by rw [hops]; exact Array.mem_push_of_mem o (Array.mem_of_getElem? hx)
    simpa using hg x hm
  have hw : ∀ y, Region.wanted x y = true := fun y => by simp [Region.wanted, hgx]
  simp only [hw, if_true] at h ⊢
  exact h.imp (fun h => h) (fun ⟨h1, h2⟩ => ⟨h1, h2⟩)
/-- Each operation waits for earlier ones alone. -/
def lowB (ops : Array Oper) : Bool := (List.range ops.size).all fun i => ((ops[i]?).map fun o => o.after.all fun e => decide (e.on < i)).getD true
theorem lowB_spec (h : lowB ops = true) {i : Nat} {x : Oper} (hx : ops[i]? = some x) : ∀ e ∈ x.after, e.on < i := fun e he => by
  have h1 := List.all_eq_true.1 h i (List.mem_range.2 (Array.getElem?_eq_some_iff.1 hx).1)
  rw [hx] at h1
  simp only [Option.map_some, Option.getD_some] at h1
  rw [Array.all_eq_true_iff_forall_mem] at h1
  simpa using h1 e he
theorem wpAny_last (hops : ops = hd.push o) (hg : (ops.all fun x => x.guard.isNone) = true) (hs : Region.sinkB md ops hd.size = true) (hlow : lowB ops = true) :
    ∀ (f : Nat) (l : Array Bool) (a : Act) (w : World), HeadInv md ops hd.size (l.push false) → l.size = hd.size → wpAny P md hd (Behind P o Q) f l a w → wpAny P md ops Q (f + 1) (l.push false) a w := by
  have hn : hd.size < ops.size := by rw [hops]; simp
  have hc : Region.chainB md ops hd.size = true := by
    unfold Region.chainB
    rw [List.all_eq_true]
    intro t ht
    have := List.mem_range.1 ht
    rw [hops, Array.size_push] at this
    simp only [Bool.or_eq_true, decide_eq_true_eq]
    exact .inl (by omega)
  have hon : ops[hd.size]? = some o := by rw [hops]; simp
  have hgo : ∀ y, Region.wanted o y = true := fun y => by
    rw [Array.all_eq_true_iff_forall_mem] at hg
    have := hg o (by rw [hops]; simp)
    simp [Region.wanted, show o.guard = none by simpa using this]
  -- nothing of the others may come up any more: the last one does
  have fin : ∀ (g : Nat) (l : Array Bool) (a : Act) (w : World), l.size = hd.size → Region.ready md hd l = [] → Behind P o Q .normal a w → wpAny P md ops Q (g + 1) (l.push false) a w := by
    intro g l a w hl hr hb
    have all : ∀ i, i < hd.size → l.getD i false = true := by
      intro i
      induction i using Nat.strongRecOn with
      | ind i ih =>
        intro hi
        rcases hbl : l.getD i false with _ | _
        · exfalso
          have hmem : i ∈ Region.ready md hd l := by
            obtain ⟨x, hx⟩ : ∃ x, hd[i]? = some x := ⟨_, Array.getElem?_eq_getElem hi⟩
            refine mem_ready.2 ⟨getD_in (by omega) hbl, x, hx, fun e he _ => ?_⟩
            have := lowB_spec hlow ((hd_at hops hi).trans hx) e he
            exact ih e.on this (by omega)
          rw [hr] at hmem
          cases hmem
        · rfl
    have none_ : ∀ i, i < hd.size → (l.push false).getD i true = true := fun i hi => by
      rw [push_getD' l i (by omega)]
      have := all i hi
      simp [Array.getD, show i < l.size by omega] at this ⊢
      exact this
    have hmem : hd.size ∈ Region.ready md ops (l.push false) := by
      refine mem_ready.2 ⟨by rw [← hl]; simp [Array.getD], o, hon, fun e he _ => ?_⟩
      rw [push_getD]
      exact all e.on (lowB_spec hlow hon e he)
    refine ⟨fun h0 => (by rw [h0] at hmem; cases hmem), fun i hi => ?_⟩
    have hie : i = hd.size := by
      obtain ⟨h1, x, hx, _⟩ := mem_ready.1 hi
      have := (Array.getElem?_eq_some_iff.1 hx).1
      rw [hops, Array.size_push] at this
      rcases Nat.lt_or_ge i hd.size with h | h
      · rw [none_ i h] at h1; cases h1
      · omega
    subst hie
    have hfull : Region.ready md ops ((l.push false).setIfInBounds hd.size true) = [] := by
      rw [List.eq_nil_iff_forall_not_mem]
      intro i hi
      obtain ⟨h1, x, hx, _⟩ := mem_ready.1 hi
      have := (Array.getElem?_eq_some_iff.1 hx).1
      rw [hops, Array.size_push] at this
      rcases Nat.lt_or_ge i hd.size with h | h
      · rw [getD_set_ne true (by omega), none_ i h] at h1; cases h1
      · have : i = hd.size := by omega
        subst this
        simp [Array.getD, hl] at h1
    unfold wpOp
    simp only [hon, hgo, if_true]
    refine .inl (Oper.wp_mono (fun a w hq => ?_) hb)
    cases g with
    | zero => exact ⟨hfull, hq⟩
    | succ g => exact ⟨fun _ => hq, fun i hi => by rw [hfull] at hi; cases hi⟩
  intro f
  induction f with
  | zero => intro l a w inv hl h; exact fin 0 l a w hl h.1 h.2
  | succ f ih =>
    intro l a w inv hl h
    by_cases hr : Region.ready md hd l = []
    · exact fin (f + 1) l a w hl hr (h.1 hr)
    · obtain ⟨i, hi⟩ := List.exists_mem_of_ne_nil _ hr
      have hi2 : i < hd.size := by
        obtain ⟨_, x, hx, _⟩ := mem_ready.1 hi
        exact (Array.getElem?_eq_some_iff.1 hx).1
      have hun : (l.push false).getD i true = false := by
        rw [push_getD' l i (by omega)]
        exact (mem_ready.1 hi).1
      have hi' := (ready_hd hops hl hi2).2 hi
      refine ⟨fun h0 => (by rw [h0] at hi'; cases hi'), fun j hj => ?_⟩
      have hjn : j < hd.size := by
        rcases Nat.lt_or_ge j hd.size with h | h
        · exact h
        · exact absurd hj (tail_waits hs hc hn inv _ i rfl hi2 hun j h)
      refine wpOp_mono (fun a' w' h' => ?_) (wpOp_hd hops hg hjn (h.2 j ((ready_hd hops hl hjn).1 hj)))
      rw [push_set l j (by omega)]
      exact ih _ a' w' (by rw [← push_set l j (by omega)]; exact inv.set hj hjn) (by simpa using hl) h'

/-- A region whose last operation waits for all the others. -/
theorem region_last {S : World → Prop} {id : Nat} {a : Act} {w : World} (hm : P.follows .mixedOrders = true) (hops : ops = hd.push o) (hg : (ops.all fun x => x.guard.isNone) = true) (hs : Region.sinkB .any ops hd.size = true) (hlow : lowB ops = true)
    (hS : S w.drew) (h : S w.drew → wpAnyH P .any hd (Behind P o Q) S hd.size (Array.replicate hd.size false) a w.drew) : (Code.region id ops true).wp P Q a w := by
  refine wp_region_any hm ?_
  have e : Array.replicate ops.size false = (Array.replicate hd.size false).push false := by rw [hops, Array.size_push, Array.replicate_succ]
  rw [e, show ops.size = hd.size + 1 by rw [hops, Array.size_push]]
  refine wpAny_last hops hg hs hlow _ _ _ _ ?_ (by simp) (wpAny_of_held _ _ _ _ (h hS))
  refine ⟨by rw [hops]; simp, fun j oj _ hl => ?_, fun t ht ht' => ?_⟩
  · rw [push_getD, getD_replicate_false] at hl; cases hl
  · rw [hops, Array.size_push] at ht'
    have : t = hd.size := by omega
    subst this
    have hx : (Array.replicate hd.size false).size = hd.size := by simp
    generalize Array.replicate hd.size false = z at hx
    rw [← hx]
    simp [Array.getD]
/-- The same, the last one by its number. -/
theorem region_last_at {S : World → Prop} {id : Nat} {a : Act} {w : World} (n : Nat) (ho : ops[n]? = some o) (hn : ops.size = n + 1) (hm : P.follows .mixedOrders = true) (hg : (ops.all fun x => x.guard.isNone) = true) (hs : Region.sinkB .any ops n = true) (hlow : lowB ops = true)
    (hS : S w.drew) (h : S w.drew → wpAnyH P .any (ops.toList.take n).toArray (Behind P o Q) S n (Array.replicate n false) a w.drew) : (Code.region id ops true).wp P Q a w := by
  have hsz : (ops.toList.take n).toArray.size = n := by simp; omega
  have hops : ops = (ops.toList.take n).toArray.push o := by
    apply Array.ext_getElem?
    intro i
    rw [Array.getElem?_push, hsz]
    by_cases e : i = n
    · rw [if_pos e, e, ho]
    · rw [if_neg e, ← Array.getElem?_toList, ← Array.getElem?_toList, List.toList_toArray]
      rcases Nat.lt_or_ge i n with h | h
      · rw [List.getElem?_take_of_lt h]
      · rw [List.getElem?_eq_none (by simp; omega), List.getElem?_eq_none (by simp; omega)]
  refine region_last hm hops hg (by rw [hsz]; exact hs) hlow hS ?_
  rw [hsz]
  exact h
theorem Behind.run {a : Act} {w : World} (h : o.wp P a w (Q .normal) Q) : Behind P o Q .normal a w := h
end
end Go.Proofs.YtoaaplngdomdcaaGreat

/- Rows reckoned with: blocks of other types stay. It holds of every program. -/
namespace Go.Proofs.YtoaaplngdomdcaaGreat
open Go.RowKit

/-- Blocks of other types than these two stay as they were. -/
def Kt (tO tI : TypeId) (w w' : World) : Prop := ∀ (k : Nat) (t : TypeId) (cs : Array Value), Blk w k t cs → t ≠ tO → t ≠ tI → Blk w' k t cs
section
variable {α : Type} {tO tI : TypeId} {en : α → Value} {w w' w2 : World} {base g n m : Nat} {M : Nat → Nat → α}
theorem Kt.refl (tO tI : TypeId) (w : World) : Kt tO tI w w := fun _ _ _ h _ _ => h
theorem Kt.trans (h : Kt tO tI w w') (k : Kt tO tI w' w2) : Kt tO tI w w2 := fun b t cs hb h1 h2 => k b t cs (h b t cs hb h1 h2) h1 h2
theorem Kt.below (h : Kt tO tI w w') (hb : Below w'.heap.size w' w2) : Kt tO tI w w2 := h.trans fun _ _ _ hb' _ _ => hb'.below' hb
theorem Grid.kt_store (h : Grid tO tI en w base g n m M) {i b c : Nat} (hi : i < n) (hc : w.cell? ⟨g, i, none⟩ = some (.slice (some ⟨b, 0, none⟩) m c)) (hb : Below w.heap.size w w') (j : Nat) (x : Value) : Kt tO tI w (w'.setCell ⟨b, j, none⟩ x) := by
  obtain ⟨outer, G, C, h1, h2, h3, h4, h5⟩ := h
  rw [h2.cell, h3 i hi] at hc
  injection hc with hc
  injection hc with hc _ _
  injection hc with hc
  injection hc with hc _ _
  obtain ⟨_, _, _, cur, hcur, _⟩ := h5 i hi
  rw [hc] at hcur
  exact fun k t cs hk _ ht => (hk.below' hb).far (fun e => blk_ne hk hcur ht e) _
theorem Grid.kt_swap (h : Grid tO tI en w base g n m M) (r i : Nat) (u v : Value) : Kt tO tI w ((w.setCell ⟨g, r, none⟩ u).setCell ⟨g, i, none⟩ v) := by
  obtain ⟨outer, G, C, h1, h2, h3, h4, h5⟩ := h
  exact fun k t cs hk ht _ => (hk.far (fun e => blk_ne hk h2 ht e) _).far (fun e => blk_ne hk h2 ht e) _
end
end Go.Proofs.YtoaaplngdomdcaaGreat
