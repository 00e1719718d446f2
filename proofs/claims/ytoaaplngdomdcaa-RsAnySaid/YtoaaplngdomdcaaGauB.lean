/- Plain algebra: what is left of rows that were reckoned with; inverses, solutions, rank, products. -/
import Derived.Test.YtoaaplngdomdcaaGau
namespace Go.Proofs.Ytoaaplngdomdcaa
namespace Fd
variable {α : Type} {F : Fd α}

/-- Rows of which r have a single one in a column before c, and the others nothing there. -/
def Shape (F : Fd α) (n : Nat) (B : Mat α) (r c : Nat) (p : Nat → Nat) : Prop :=
  (∀ k, k < r → p k < c) ∧ (∀ k l, k < l → l < r → p k < p l) ∧ (∀ i, i < n → ∀ k, k < r → B i (p k) = if i = k then F.one else F.zero) ∧ ∀ i, i < n → r ≤ i → ∀ j, j < c → B i j = F.zero
theorem Ok.step_shape (h : F.Ok) {n : Nat} {S : Mat α × Nat} {c : Nat} {p : Nat → Nat} (hr : S.2 ≤ n) (hs : F.Shape n S.1 S.2 c p) : ∃ q, F.Shape n (F.step n S c).1 (F.step n S c).2 (c + 1) q := by
  obtain ⟨B, r⟩ := S
  obtain ⟨h1, h2, h3, h4⟩ := hs
  simp only at h1 h2 h3 h4 hr
  unfold step
  split
  · rename_i hp
    refine ⟨p, fun k hk => Nat.lt_succ_of_lt (h1 k hk), h2, h3, fun i hi hri j hj => ?_⟩
    by_cases e : j < c
    · exact h4 i hi hri j e
    · have : j = c := by omega
      subst this
      exact (h.inv_none _).1 (pivot_none hp hi hri)
  · rename_i i0 hp
    obtain ⟨i1, i2, b, hb⟩ := pivot_some hp
    simp only at i1 i2 hb
    simp only [hb, Option.getD_some]
    have hx := h.inv_some _ _ hb
    -- rows from r on have nothing in the columns of those before
    have z3 : ∀ i, i < n → r ≤ i → ∀ k, k < r → B i (p k) = F.zero := fun i hi hri k hk => by rw [h3 i hi k hk, if_neg (by omega)]
    have w3 : ∀ i, i < n → ∀ k, k < r → swapped B r i0 i (p k) = if i = k then F.one else F.zero := fun i hi k hk => by
      unfold swapped
      by_cases e1 : i = r
      · rw [if_pos e1, z3 i0 i1 i2 k hk, if_neg (by omega)]
      · rw [if_neg e1]
        by_cases e2 : i = i0
        · rw [if_pos e2, z3 r (by omega) (Nat.le_refl _) k hk, if_neg (by omega)]
        · rw [if_neg e2, h3 i hi k hk]
    have w4 : ∀ i, i < n → r ≤ i → ∀ j, j < c → swapped B r i0 i j = F.zero := fun i hi hri j hj => by
      unfold swapped
      by_cases e1 : i = r
      · rw [if_pos e1, h4 i0 i1 i2 j hj]
      · rw [if_neg e1]
        by_cases e2 : i = i0
        · rw [if_pos e2, h4 r (by omega) (Nat.le_refl _) j hj]
        · rw [if_neg e2, h4 i hi hri j hj]
    have s3 : ∀ i, i < n → ∀ k, k < r → F.scaled (swapped B r i0) r b i (p k) = if i = k then F.one else F.zero := fun i hi k hk => by
      unfold scaled
      by_cases e1 : i = r
      · rw [if_pos e1, w3 r (by omega) k hk, if_neg (by omega), if_neg (by omega), h.zero_mul]
      · rw [if_neg e1, w3 i hi k hk]
    have s4 : ∀ i, i < n → r ≤ i → ∀ j, j < c → F.scaled (swapped B r i0) r b i j = F.zero := fun i hi hri j hj => by
      unfold scaled
      by_cases e1 : i = r
      · rw [if_pos e1, w4 r (by omega) (Nat.le_refl _) j hj, h.zero_mul]
      · rw [if_neg e1, w4 i hi hri j hj]
    have s5 : F.scaled (swapped B r i0) r b r c = F.one := by
      unfold scaled
      rw [if_pos rfl]
      unfold swapped
      rw [if_pos rfl]
      exact hx
    generalize F.scaled (swapped B r i0) r b = C at s3 s4 s5
    refine ⟨fun k => if k < r then p k else c, fun k hk => ?_, fun k l hkl hl => ?_, fun i hi k hk => ?_, fun i hi hri j hj => ?_⟩
    · simp only
      split
      · have := h1 k (by omega); omega
      · omega
    · simp only
      rw [if_pos (show k < r by omega)]
      split
      · exact h2 k l hkl (by omega)
      · exact h1 k (by omega)
    · show F.cleared C r c i (if k < r then p k else c) = _
      unfold cleared
      by_cases ek : k < r
      · rw [if_pos ek]
        by_cases e1 : i = r
        · rw [if_pos e1, s3 i hi k ek]
        · rw [if_neg e1]
          show F.sub (C i (p k)) (F.mul (C i c) (C r (p k))) = _
          rw [s3 i hi k ek, s3 r (by omega) k ek, if_neg (show ¬ r = k by omega), h.mul_zero, h.sub_zero]
      · rw [if_neg ek]
        have hkr : k = r := by omega
        subst hkr
        by_cases e1 : i = k
        · rw [if_pos e1, if_pos e1, e1, s5]
        · rw [if_neg e1, if_neg e1]
          show F.sub (C i c) (F.mul (C i c) (C k c)) = _
          rw [s5, h.mul_one, h.sub_self]
    · show F.cleared C r c i j = _
      unfold cleared
      rw [if_neg (show ¬ i = r by omega)]
      show F.sub (C i j) (F.mul (C i c) (C r j)) = _
      by_cases e : j < c
      · rw [s4 i hi (by omega) j e, s4 r (by omega) (Nat.le_refl _) j e, h.mul_zero, h.sub_zero]
      · have : j = c := by omega
        subst this
        rw [s5, h.mul_one, h.sub_self]
theorem Ok.red_shape (h : F.Ok) (n : Nat) (A : Mat α) (c : Nat) : ∃ p, F.Shape n (F.red n A c).1 (F.red n A c).2 c p := by
  induction c with
  | zero => exact ⟨id, fun k hk => absurd hk (Nat.not_lt_zero _), fun k l _ hl => absurd hl (Nat.not_lt_zero _), fun i _ k hk => absurd hk (Nat.not_lt_zero _), fun i _ _ j hj => absurd hj (Nat.not_lt_zero _)⟩
  | succ c ih =>
    obtain ⟨p, hp⟩ := ih
    exact h.step_shape (red_rank n A c).2 hp
theorem Shape.le {n : Nat} {B : Mat α} {r c : Nat} {p : Nat → Nat} (hs : F.Shape n B r c p) : ∀ k, k < r → k ≤ p k := by
  intro k
  induction k with
  | zero => intro _; exact Nat.zero_le _
  | succ k ih => intro hk; have := ih (by omega); have := hs.2.1 k (k + 1) (by omega) hk; omega
theorem Shape.ge {n : Nat} {B : Mat α} {r c : Nat} {p : Nat → Nat} (hs : F.Shape n B r c p) : ∀ d k, k + d + 1 = r → p k + d < c := by
  intro d
  induction d with
  | zero => intro k hk; have := hs.1 k (by omega); omega
  | succ d ih => intro k hk; have := ih (k + 1) (by omega); have := hs.2.1 k (k + 1) (by omega) (by omega); omega
/-- All rows have their one: the ones go from corner to corner. -/
theorem Shape.full {n : Nat} {B : Mat α} {p : Nat → Nat} (hs : F.Shape n B n n p) {i j : Nat} (hi : i < n) (hj : j < n) : B i j = if i = j then F.one else F.zero := by
  have h1 := hs.le j hj
  have h2 := hs.ge (n - 1 - j) j (by omega)
  have h3 : p j = j := by omega
  have := hs.2.2.1 i hi j hj
  rwa [h3] at this
/-- Fewer rows than columns have their one: a column has none. -/
theorem Shape.gap {n : Nat} {B : Mat α} {r m : Nat} {p : Nat → Nat} (hs : F.Shape n B r m p) (hr : r < m) : ∃ c, c < m ∧ ∀ k, k < r → p k ≠ c := by
  by_cases hall : ∀ k, k < r → p k = k
  · exact ⟨r, hr, fun k hk => by rw [hall k hk]; omega⟩
  · have key : ∀ t, (∀ k, k < t → k < r → p k = k) ∨ ∃ k, k < r ∧ p k ≠ k ∧ ∀ l, l < k → p l = l := by
      intro t
      induction t with
      | zero => exact .inl fun k hk => absurd hk (Nat.not_lt_zero _)
      | succ t ih =>
        rcases ih with ih | ih
        · by_cases htr : t < r
          · by_cases e : p t = t
            · refine .inl fun k hk hkr => ?_
              by_cases e2 : k = t
              · rw [e2, e]
              · exact ih k (by omega) hkr
            · exact .inr ⟨t, htr, e, fun l hl => ih l hl (by omega)⟩
          · exact .inl fun k hk hkr => ih k (by omega) hkr
        · exact .inr ih
    rcases key r with hk | ⟨k, hk, hne, hl⟩
    · exact absurd (fun k h => hk k h h) hall
    · refine ⟨k, by omega, fun l hlr e => ?_⟩
      have h1 := hs.le k hk
      rcases Nat.lt_trichotomy l k with h | h | h
      · rw [hl l h] at e; omega
      · rw [h] at e; exact hne e
      · have := hs.2.1 k l h hlr; omega

/-- A row times a column. -/
def dot (F : Fd α) (n : Nat) (r y : Nat → α) : α := F.sum n fun t => F.mul (r t) (y t)
theorem dot_congr {n : Nat} {r r' y y' : Nat → α} (h : ∀ i, i < n → r i = r' i) (h2 : ∀ i, i < n → y i = y' i) : F.dot n r y = F.dot n r' y' := sum_congr fun i hi => by rw [h i hi, h2 i hi]
/-- A column with a single one. -/
def unit (F : Fd α) (k : Nat) : Nat → α := fun i => if i = k then F.one else F.zero
theorem Ok.dot_unit (h : F.Ok) {n k : Nat} (hk : k < n) (r : Nat → α) : F.dot n r (F.unit k) = r k := by
  unfold dot unit
  rw [h.sum_single hk]
  · simp only [if_pos]; exact h.mul_one _
  · intro i _ hi; rw [if_neg hi, h.mul_zero]
theorem Ok.unit_dot (h : F.Ok) {n k : Nat} (hk : k < n) (y : Nat → α) : F.dot n (fun t => if k = t then F.one else F.zero) y = y k := by
  unfold dot
  rw [h.sum_single hk]
  · simp only [if_pos]; exact h.one_mul _
  · intro i _ hi; simp only []; rw [if_neg (fun e => hi (Eq.symm e)), h.zero_mul]
/-- The product of matrices. -/
def mulm (F : Fd α) (m : Nat) (A B : Mat α) : Mat α := fun i j => F.dot m (A i) fun k => B k j
theorem Ok.mulm_dot (h : F.Ok) (m n : Nat) (A B : Mat α) (y : Nat → α) (i : Nat) : F.dot n (F.mulm m A B i) y = F.dot m (A i) fun k => F.dot n (B k) y := by
  unfold dot mulm
  have e1 : ∀ t, F.mul (F.dot m (A i) fun k => B k t) (y t) = F.sum m fun k => F.mul (A i k) (F.mul (B k t) (y t)) := fun t => by
    unfold dot
    rw [h.mul_comm, ← h.sum_mul]
    refine sum_congr fun k _ => ?_
    show F.mul (y t) (F.mul (A i k) (B k t)) = _
    rw [h.mul_comm (y t), h.mul_assoc]
  rw [sum_congr fun t _ => e1 t, h.sum_swap]
  refine sum_congr fun k _ => ?_
  rw [← h.sum_mul]
/-- Products go together in any grouping. -/
theorem Ok.mulm_assoc (h : F.Ok) (m n : Nat) (A B C : Mat α) (i j : Nat) : F.mulm n (F.mulm m A B) C i j = F.mulm m A (F.mulm n B C) i j := h.mulm_dot m n A B (fun k => C k j) i
def ident (F : Fd α) : Mat α := fun i j => if i = j then F.one else F.zero
theorem Ok.mulm_ident (h : F.Ok) {n : Nat} (A : Mat α) {i j : Nat} (hj : j < n) : F.mulm n A F.ident i j = A i j := h.dot_unit hj _
theorem Ok.ident_mulm (h : F.Ok) {n : Nat} (A : Mat α) {i : Nat} (j : Nat) (hi : i < n) : F.mulm n F.ident A i j = A i j := h.unit_dot hi fun k => A k j

/-- X is the inverse of M: columns go there and back. -/
def IsInv (F : Fd α) (n : Nat) (M X : Mat α) : Prop := ∀ z w : Nat → α, (∀ i, i < n → F.dot n (M i) z = w i) ↔ ∀ i, i < n → F.dot n (X i) w = z i
theorem IsInv.symm {n : Nat} {M X : Mat α} (h : F.IsInv n M X) : F.IsInv n X M := fun z w => (h w z).symm
theorem IsInv.mul_right {n : Nat} {M X : Mat α} (h : F.Ok) (hi : F.IsInv n M X) {i j : Nat} (h1 : i < n) (hj : j < n) : F.mulm n M X i j = F.ident i j := by
  have := (hi (fun k => X k j) (F.unit j)).2 fun i _ => h.dot_unit hj _
  exact this i h1
theorem IsInv.unique {n : Nat} {M X Y : Mat α} (h : F.Ok) (h1 : F.IsInv n M X) (h2 : F.IsInv n M Y) {i j : Nat} (hi : i < n) (hj : j < n) : X i j = Y i j := by
  have e1 := (h1 (fun k => X k j) (F.unit j)).2 fun i _ => h.dot_unit hj _
  have e2 := (h2 (fun k => X k j) (F.unit j)).1 e1 i hi
  rw [h.dot_unit hj] at e2
  exact e2.symm
theorem IsInv.of_eq {n : Nat} {M X M' X' : Mat α} (h : F.IsInv n M X) (e1 : ∀ i j, i < n → j < n → M i j = M' i j) (e2 : ∀ i j, i < n → j < n → X i j = X' i j) : F.IsInv n M' X' := fun z w => by
  have a1 : ∀ i, i < n → F.dot n (M' i) z = F.dot n (M i) z := fun i hi => dot_congr (fun j hj => (e1 i j hi hj).symm) fun _ _ => rfl
  have a2 : ∀ i, i < n → F.dot n (X' i) w = F.dot n (X i) w := fun i hi => dot_congr (fun j hj => (e2 i j hi hj).symm) fun _ _ => rfl
  constructor
  · intro g i hi; rw [a2 i hi]; exact (h z w).1 (fun i hi => by rw [← a1 i hi]; exact g i hi) i hi
  · intro g i hi; rw [a1 i hi]; exact (h z w).2 (fun i hi => by rw [← a2 i hi]; exact g i hi) i hi
theorem IsInv.mulm {n : Nat} {A B I J : Mat α} (h : F.Ok) (ha : F.IsInv n A I) (hb : F.IsInv n B J) : F.IsInv n (F.mulm n A B) (F.mulm n J I) := fun z w => by
  constructor
  · intro g i hi
    rw [h.mulm_dot]
    refine (hb z _).1 (fun k hk => ?_) i hi
    exact ((ha (fun k => F.dot n (B k) z) w).1 (fun i hi => by rw [← h.mulm_dot]; exact g i hi) k hk).symm
  · intro g i hi
    rw [h.mulm_dot]
    refine (ha _ w).2 (fun k hk => ?_) i hi
    exact ((hb z fun k => F.dot n (I k) w).2 (fun i hi => by rw [← h.mulm_dot]; exact g i hi) k hk).symm
theorem IsInv.ident (h : F.Ok) (n : Nat) : F.IsInv n F.ident F.ident := fun z w => by
  constructor
  · intro g i hi; rw [show F.dot n (F.ident i) w = w i from h.unit_dot hi w, ← g i hi]; exact h.unit_dot hi z
  · intro g i hi; rw [show F.dot n (F.ident i) z = z i from h.unit_dot hi z, ← g i hi]; exact h.unit_dot hi w
/-- No column but that of noughts is made into noughts. -/
def Inj (F : Fd α) (n : Nat) (M : Mat α) : Prop := ∀ y : Nat → α, (∀ i, i < n → F.dot n (M i) y = F.zero) → ∀ i, i < n → y i = F.zero
theorem Ok.dot_zero (h : F.Ok) (n : Nat) (r : Nat → α) : F.dot n r (fun _ => F.zero) = F.zero := h.sum_zero fun _ _ => h.mul_zero _
theorem IsInv.inj {n : Nat} {M X : Mat α} (h : F.Ok) (hi : F.IsInv n M X) : F.Inj n M := fun y hy i hi2 => by
  rw [← (hi y fun _ => F.zero).1 hy i hi2, h.dot_zero]

/-- A matrix, more behind each row. -/
def beside (n : Nat) (M N : Mat α) : Mat α := fun i j => if j < n then M i j else N i (j - n)
theorem Ok.red_beside (h : F.Ok) (n m : Nat) (M N : Mat α) (z w : Nat → α) (hr : (F.red n (beside n M N) n).2 = n) :
    (∀ i, i < n → F.dot n (M i) z = F.dot m (N i) w) ↔ ∀ i, i < n → z i = F.dot m (fun t => (F.red n (beside n M N) n).1 i (n + t)) w := by
  have hφ := h.lin_diff (h.lin_dot n 0 z) (h.lin_dot m n w)
  have key := h.red_all hφ n (beside n M N) n
  obtain ⟨p, hs⟩ := h.red_shape n (beside n M N) n
  rw [hr] at hs
  have a1 : ∀ i, i < n → (F.sum n fun t => F.mul ((F.red n (beside n M N) n).1 i (0 + t)) (z t)) = z i := fun i hi => by
    rw [← h.unit_dot hi z]
    unfold dot
    refine sum_congr fun t ht => ?_
    rw [Nat.zero_add, hs.full hi ht]
  have a2 : ∀ i, (F.sum n fun t => F.mul (beside n M N i (0 + t)) (z t)) = F.dot n (M i) z := fun i => by
    unfold dot
    refine sum_congr fun t ht => ?_
    unfold beside
    rw [Nat.zero_add, if_pos ht]
  have a3 : ∀ i, (F.sum m fun t => F.mul (beside n M N i (n + t)) (w t)) = F.dot m (N i) w := fun i => by
    unfold dot
    refine sum_congr fun t _ => ?_
    unfold beside
    rw [if_neg (by omega), Nat.add_sub_cancel_left]
  constructor
  · intro g i hi
    have := key.2 (fun i hi => by rw [a2 i, a3 i, g i hi, h.sub_self]) i hi
    rw [a1 i hi] at this
    exact h.sub_eq_zero this
  · intro g i hi
    have := key.1 (fun i hi => by rw [a1 i hi, g i hi]; exact h.sub_self _) i hi
    rw [a2 i, a3 i] at this
    exact h.sub_eq_zero this
/-- What stands behind the identity, once that stands in front, is the inverse. -/
theorem Ok.inverse (h : F.Ok) (n : Nat) (M : Mat α) (hr : (F.red n (beside n M F.ident) n).2 = n) : F.IsInv n M fun i j => (F.red n (beside n M F.ident) n).1 i (n + j) := fun z w => by
  have := h.red_beside n n M F.ident z w hr
  constructor
  · intro g i hi
    exact (this.1 (fun i hi => by rw [g i hi]; exact (h.unit_dot hi w).symm) i hi).symm
  · intro g i hi
    rw [this.2 (fun i hi => (g i hi).symm) i hi]
    exact h.unit_dot hi w
/-- The rank is not full: some column but that of noughts is made into noughts. -/
theorem Ok.low (h : F.Ok) (n m : Nat) (A : Mat α) (hr : (F.red n A m).2 < m) : ∃ y : Nat → α, (∀ i, i < n → F.dot m (A i) y = F.zero) ∧ ∃ c, c < m ∧ y c = F.one := by
  obtain ⟨p, hs⟩ := h.red_shape n A m
  obtain ⟨c, hc, hp⟩ := hs.gap hr
  have key := fun y => h.red_all (h.lin_dot m 0 y) n A m
  have hrn := (red_rank (F := F) n A m).2
  generalize (F.red n A m).1 = B at hs key
  generalize (F.red n A m).2 = r at hs hp hr hrn
  -- the column: one at c, and what undoes it where a row has its one
  obtain ⟨f, hf⟩ : ∃ f : Nat → Option Nat, ∀ j, (∀ k, f j = some k → k < r ∧ p k = j) ∧ (f j = none → ∀ k, k < r → p k ≠ j) :=
    ⟨fun j => (List.range r).find? fun k => decide (p k = j), fun j => ⟨fun k hk => by
      have a := List.find?_some hk
      have b := List.mem_of_find?_eq_some hk
      exact ⟨List.mem_range.1 b, by simpa using a⟩, fun hn k hk => by
      rw [List.find?_eq_none] at hn
      simpa using hn k (List.mem_range.2 hk)⟩⟩
  have hpinj : ∀ k l, k < r → l < r → p k = p l → k = l := fun k l hk hl e => by
    rcases Nat.lt_trichotomy k l with g | g | g
    · have := hs.2.1 k l g hl; omega
    · exact g
    · have := hs.2.1 l k g hk; omega
  let y : Nat → α := fun j => if j = c then F.one else match f j with
    | some k => F.sub F.zero (B k c)
    | none => F.zero
  have yp : ∀ k, k < r → y (p k) = F.sub F.zero (B k c) := fun k hk => by
    show (if p k = c then F.one else match f (p k) with | some k => F.sub F.zero (B k c) | none => F.zero) = _
    rw [if_neg (hp k hk)]
    cases e : f (p k) with
    | none => exact absurd rfl ((hf (p k)).2 e k hk)
    | some l =>
      obtain ⟨hl, e2⟩ := (hf (p k)).1 l e
      rw [hpinj l k hl hk e2]
  have yc : y c = F.one := if_pos rfl
  have y0 : ∀ j, j ≠ c → (∀ k, k < r → p k ≠ j) → y j = F.zero := fun j hj hk => by
    show (if j = c then F.one else match f j with | some k => F.sub F.zero (B k c) | none => F.zero) = _
    rw [if_neg hj]
    cases e : f j with
    | none => rfl
    | some l => exact absurd ((hf j).1 l e).2 (hk l ((hf j).1 l e).1)
  clear_value y
  refine ⟨y, fun i hi => ?_, c, hc, yc⟩
  have hdot : ∀ R : Nat → α, (F.sum m fun t => F.mul (R (0 + t)) (y t)) = F.dot m R y := fun R => by unfold dot; refine sum_congr fun t _ => ?_; rw [Nat.zero_add]
  refine (hdot (A i)).symm.trans ((key y).1 (fun i hi => ?_) i hi)
  rw [hdot]
  -- a row of what is left: nothing, or its one and what stands at c
  by_cases hir : i < r
  · have h1 : ∀ t, t < m → F.mul (B i t) (y t) = F.add (if t = p i then F.sub F.zero (B i c) else F.zero) (if t = c then B i c else F.zero) := fun t _ => by
      by_cases e1 : t = c
      · rw [e1, if_neg (fun e => hp i hir e.symm), if_pos rfl, yc, h.mul_one, h.zero_add]
      · rw [if_neg e1]
        by_cases e2 : ∃ k, k < r ∧ p k = t
        · obtain ⟨k, hk, e2⟩ := e2
          rw [← e2, hs.2.2.1 i hi k hk, yp k hk]
          by_cases e3 : i = k
          · rw [if_pos e3, if_pos (by rw [e3]), e3, h.one_mul, h.add_zero]
          · rw [if_neg e3, if_neg (fun e => e3 (hpinj i k hir hk e.symm)), h.zero_mul, h.zero_add]
        · rw [y0 t e1 fun k hk e => e2 ⟨k, hk, e⟩, if_neg (fun e => e2 ⟨i, hir, e.symm⟩), h.mul_zero, h.zero_add]
    unfold dot
    rw [sum_congr h1, h.sum_add, h.sum_single (show p i < m from hs.1 i hir) _ (fun j _ hj => if_neg hj), h.sum_single hc _ (fun j _ hj => if_neg hj), if_pos rfl, if_pos rfl, h.sub_add]
  · unfold dot
    refine h.sum_zero fun t ht => ?_
    rw [hs.2.2.2 i hi (by omega) t ht, h.zero_mul]
/-- What is reckoned hangs on the first columns alone. -/
theorem red_left (n m : Nat) (A A' : Mat α) (h : ∀ i j, j < m → A i j = A' i j) : ∀ c, c ≤ m → (F.red n A c).2 = (F.red n A' c).2 ∧ ∀ i j, j < m → (F.red n A c).1 i j = (F.red n A' c).1 i j := by
  intro c
  induction c with
  | zero => intro _; exact ⟨rfl, h⟩
  | succ c ih =>
    intro hc
    obtain ⟨e1, e2⟩ := ih (by omega)
    show (F.step n (F.red n A c) c).2 = (F.step n (F.red n A' c) c).2 ∧ ∀ i j, j < m → (F.step n (F.red n A c) c).1 i j = (F.step n (F.red n A' c) c).1 i j
    generalize F.red n A c = S at e1 e2
    generalize F.red n A' c = S' at e1 e2
    obtain ⟨B, r⟩ := S
    obtain ⟨B', r'⟩ := S'
    simp only at e1 e2
    subst e1
    have hpv : F.pivot B n r c = F.pivot B' n r c := by
      unfold pivot
      congr 1
      funext i
      rw [e2 i c (by omega)]
    unfold step
    simp only
    rw [hpv]
    cases F.pivot B' n r c with
    | none => exact ⟨rfl, e2⟩
    | some i0 =>
      refine ⟨rfl, fun i j hj => ?_⟩
      simp only
      rw [e2 i0 c (by omega)]
      have hsw : ∀ i j, j < m → swapped B r i0 i j = swapped B' r i0 i j := fun i j hj => by unfold swapped; split; exact e2 _ _ hj; split; exact e2 _ _ hj; exact e2 _ _ hj
      generalize (F.inv (B' i0 c)).getD F.zero = b
      have hsc : ∀ i j, j < m → F.scaled (swapped B r i0) r b i j = F.scaled (swapped B' r i0) r b i j := fun i j hj => by
        unfold scaled
        split
        · show F.mul _ _ = F.mul _ _
          rw [hsw r j hj]
        · exact hsw i j hj
      unfold cleared
      split
      · exact hsc i j hj
      · show F.sub _ (F.mul _ _) = F.sub _ (F.mul _ _)
        rw [hsc i j hj, hsc i c (by omega), hsc r j hj]
theorem red_beside_rank (n : Nat) (M N : Mat α) : (F.red n (beside n M N) n).2 = (F.red n M n).2 := (red_left n n (beside n M N) M (fun i j hj => if_pos hj) n (Nat.le_refl _)).1
/-- The rank of a square is full just if no other column is made into noughts. -/
theorem Ok.rank_inj (h : F.Ok) (n : Nat) (M : Mat α) : (F.red n M n).2 = n ↔ F.Inj n M := by
  constructor
  · intro hr
    exact (h.inverse n M (by rw [red_beside_rank, hr])).inj h
  · intro hi
    refine Nat.le_antisymm (red_rank (F := F) n M n).2 (Nat.le_of_not_lt fun hlt => ?_)
    obtain ⟨y, hy, c, hc, e⟩ := h.low n n M hlt
    exact h.one_ne (by rw [← e]; exact hi y hy c hc)
theorem Ok.inj_mulm (h : F.Ok) {n : Nat} (A B : Mat α) : F.Inj n (F.mulm n A B) ↔ F.Inj n A ∧ F.Inj n B := by
  constructor
  · intro g
    have hb : F.Inj n B := fun y hy => g y fun i hi => by
      rw [h.mulm_dot]
      exact (dot_congr (fun _ _ => rfl) hy).trans (h.dot_zero n _)
    refine ⟨fun y hy i hi => ?_, hb⟩
    have hJ := h.inverse n B (by rw [red_beside_rank]; exact (h.rank_inj n B).2 hb)
    generalize (fun i j => (F.red n (beside n B F.ident) n).1 i (n + j)) = J at hJ
    have e1 := (hJ (fun k => F.dot n (J k) y) y).2 fun _ _ => rfl
    have e2 := g (fun k => F.dot n (J k) y) fun i hi => by
      rw [h.mulm_dot]
      exact (dot_congr (fun _ _ => rfl) e1).trans (hy i hi)
    rw [← e1 i hi]
    exact (dot_congr (fun _ _ => rfl) e2).trans (h.dot_zero n _)
  · intro ⟨ga, gb⟩ y hy
    exact gb y (ga _ fun i hi => by rw [← h.mulm_dot]; exact hy i hi)
end Fd
end Go.Proofs.Ytoaaplngdomdcaa
