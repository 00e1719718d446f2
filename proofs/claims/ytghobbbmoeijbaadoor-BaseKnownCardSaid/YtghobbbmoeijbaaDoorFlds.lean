/- Texts cut at colons, in plain words; the library's own words on Split are these. -/
import Derived.Lib.Split
import Derived.Lib.SplitLaws
namespace Go.Proofs.YtghobbbmoeijbaaDoor

/-- The pieces of a text between its colons. -/
def flds : List UInt8 → List (List UInt8)
  | [] => [[]]
  | c :: l => if c = 58 then [] :: flds l else match flds l with
    | f :: r => (c :: f) :: r
    | [] => [[c]]
theorem flds_ne (l : List UInt8) : flds l ≠ [] := by
  cases l with
  | nil => simp [flds]
  | cons c l =>
    simp only [flds]
    split
    · simp
    · split <;> simp
theorem flds_colon (l : List UInt8) : flds (58 :: l) = [] :: flds l := by simp [flds]
theorem flds_other {c : UInt8} (h : c ≠ 58) (l : List UInt8) : ∃ f r, flds l = f :: r ∧ flds (c :: l) = (c :: f) :: r := by
  rcases hf : flds l with _ | ⟨f, r⟩
  · exact absurd hf (flds_ne l)
  · exact ⟨f, r, rfl, by simp [flds, h, hf]⟩

/-- The texts with a colon between each two. -/
def joinC : List (List UInt8) → List UInt8
  | [] => []
  | [f] => f
  | f :: g :: r => f ++ 58 :: joinC (g :: r)
theorem joinC_cons (c : UInt8) (f : List UInt8) (r : List (List UInt8)) : joinC ((c :: f) :: r) = c :: joinC (f :: r) := by
  cases r <;> simp [joinC]
theorem joinC_nil (r : List (List UInt8)) (h : r ≠ []) : joinC ([] :: r) = 58 :: joinC r := by
  cases r with
  | nil => exact absurd rfl h
  | cons g r => simp [joinC]
theorem joinC_snoc (l : List (List UInt8)) (f : List UInt8) : joinC (l ++ [f]) = if l = [] then f else joinC l ++ 58 :: f := by
  induction l with
  | nil => simp [joinC]
  | cons a l ih =>
    cases l with
    | nil => simp [joinC]
    | cons b l =>
      rw [if_neg (by simp), List.cons_append, List.cons_append, joinC, ← List.cons_append, ih, if_neg (by simp), joinC]
      simp
theorem join_flds (l : List UInt8) : joinC (flds l) = l := by
  induction l with
  | nil => rfl
  | cons c l ih =>
    by_cases h : c = 58
    · subst h
      rw [flds_colon, joinC_nil _ (flds_ne l), ih]
    · obtain ⟨f, r, h1, h2⟩ := flds_other h l
      rw [h2, joinC_cons, ← h1, ih]
theorem flds_clean (l : List UInt8) : ∀ f ∈ flds l, (58 : UInt8) ∉ f := by
  induction l with
  | nil => simp [flds]
  | cons c l ih =>
    by_cases h : c = 58
    · subst h
      rw [flds_colon]
      intro f hf
      rcases List.mem_cons.1 hf with rfl | hf
      · simp
      · exact ih f hf
    · obtain ⟨f, r, h1, h2⟩ := flds_other h l
      rw [h2]
      rw [h1] at ih
      intro g hg
      rcases List.mem_cons.1 hg with rfl | hg
      · have := ih f (by simp)
        simp only [List.mem_cons, not_or]
        exact ⟨fun e => h e.symm, this⟩
      · exact ih g (by simp [hg])
/-- What has no colon is one piece. -/
theorem flds_one (p : List UInt8) (h : (58 : UInt8) ∉ p) : flds p = [p] := by
  induction p with
  | nil => rfl
  | cons c l ih =>
    simp only [List.mem_cons, not_or] at h
    obtain ⟨f, r, h1, h2⟩ := flds_other (c := c) (fun e => h.1 e.symm) l
    rw [ih h.2] at h1
    injection h1 with h1 h3
    subst h1 h3
    exact h2
theorem flds_step (p l : List UInt8) (h : (58 : UInt8) ∉ p) : flds (p ++ 58 :: l) = p :: flds l := by
  induction p with
  | nil => exact flds_colon l
  | cons c p ih =>
    simp only [List.mem_cons, not_or] at h
    obtain ⟨f, r, h1, h2⟩ := flds_other (c := c) (fun e => h.1 e.symm) (p ++ 58 :: l)
    rw [ih h.2] at h1
    injection h1 with h1 h3
    subst h1 h3
    exact h2

/-! ### The library's own words -/
theorem index_cons_eq (c : UInt8) (l : List UInt8) : Lib.index (c :: l) [c] = ((0 : Nat) : Int) := by rw [Lib.index]; simp [List.isPrefixOf]
theorem index_cons_ne {b c : UInt8} (l : List UInt8) (h : b ≠ c) : Lib.index (b :: l) [c] = if Lib.index l [c] == -1 then -1 else Lib.index l [c] + 1 := by
  have hp : ([c] : List UInt8).isPrefixOf (b :: l) = false := by simp [List.isPrefixOf, Ne.symm h]
  rw [Lib.index, hp]; simp
theorem splitK_ne {b : UInt8} (h : b ≠ 58) (k : Nat) (l : List UInt8) : ∃ f r, Lib.splitK [58] 0 k l = f :: r ∧ Lib.splitK [58] 0 k (b :: l) = (b :: f) :: r := by
  cases k with
  | zero => exact ⟨l, [], rfl, rfl⟩
  | succ k =>
    unfold Lib.splitK
    have hi := index_cons_ne l h
    by_cases hm : Lib.index l [58] = -1
    · rw [if_pos (beq_iff_eq.2 hm), hi, if_pos (beq_iff_eq.2 hm), if_pos (by decide)]
      exact ⟨l, [], rfl, rfl⟩
    · have hge := Lib.index_ge l [58]
      obtain ⟨j, hj⟩ : ∃ j : Nat, Lib.index l [58] = (j : Int) := ⟨(Lib.index l [58]).toNat, by omega⟩
      have hne : ¬ (Lib.index l [58] == -1) = true := fun e => hm (beq_iff_eq.1 e)
      rw [hi, if_neg hne, if_neg hne, hj]
      have h2 : ¬ ((j : Int) + 1 == -1) = true := fun e => by have := beq_iff_eq.1 e; omega
      rw [if_neg h2]
      have h3 : ((j : Int) + 1).toNat = j + 1 := by omega
      have h4 : (j : Int).toNat = j := by omega
      rw [h3, h4]
      refine ⟨_, _, rfl, ?_⟩
      simp [Nat.add_right_comm]
theorem splitK_flds (s : List UInt8) : Lib.splitK [58] 0 (Lib.count s [58]) s = flds s := by
  induction s with
  | nil => rw [Lib.count_one]; rfl
  | cons b l ih =>
    by_cases h : b = 58
    · subst h
      rw [Lib.count_cons_eq, Nat.add_comm, flds_colon, ← ih]
      conv => lhs; unfold Lib.splitK
      rw [index_cons_eq, if_neg (by decide)]
      simp
    · rw [Lib.count_cons_ne b 58 l h]
      obtain ⟨f, r, h1, h2⟩ := splitK_ne h (Lib.count l [58]) l
      obtain ⟨f', r', h3, h4⟩ := flds_other h l
      rw [h2, h4]
      rw [ih, h3] at h1
      injection h1 with h1 h5
      rw [h1, h5]
end Go.Proofs.YtghobbbmoeijbaaDoor
