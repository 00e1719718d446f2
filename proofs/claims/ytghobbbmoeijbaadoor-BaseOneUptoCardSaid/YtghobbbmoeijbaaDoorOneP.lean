/- Plain facts: what is read is no longer than its text. -/
import Derived.Test.YtghobbbmoeijbaaDoorB10E
namespace Go.Proofs.YtghobbbmoeijbaaDoor

theorem decode_len (l : List UInt8) : (decode l).1.length ≤ l.length := by
  unfold decode
  split
  · simp
  · split
    · simp
    · simp; omega

theorem unescL_len (n : Nat) : ∀ (s : List UInt8) (i : Nat) (acc : List UInt8), s.length ≤ n → (unescL s i acc).1.length ≤ acc.length + s.length := by
  induction n with
  | zero =>
    intro s i acc hn
    have : s = [] := List.eq_nil_of_length_eq_zero (by omega)
    subst this
    rw [unescL_nil]; simp
  | succ n ih =>
    intro s i acc hn
    rcases s with _ | ⟨c, r⟩
    · rw [unescL_nil]; simp
    · simp only [List.length_cons] at hn ⊢
      by_cases hp : plainN c.toNat = true
      · rw [unescL_plain _ _ _ _ hp]
        have := ih r (i + 1) (acc ++ [c]) (by omega)
        simp only [List.length_append, List.length_singleton] at this
        omega
      · by_cases h37 : c.toNat = 37
        · rcases r with _ | ⟨x, _ | ⟨y, r⟩⟩
          · rw [unescL_short _ _ _ _ h37 (by simp)]; simp
          · rw [unescL_short _ _ _ _ h37 (by simp)]; simp
          · rw [unescL_pair _ _ _ _ _ _ h37]
            rcases digN x.toNat with _ | a
            · simp
            · rcases digN y.toNat with _ | b
              · simp
              · simp only [List.length_cons] at hn ⊢
                split
                · simp
                · have := ih r (i + 3) (acc ++ [UInt8.ofNat (16 * a + b)]) (by omega)
                  simp only [List.length_append, List.length_singleton] at this
                  omega
        · rw [unescL_other _ _ _ _ (by simpa using hp) h37]; simp
theorem unescape_len (s : List UInt8) : (unescape s).1.length ≤ s.length := by
  unfold unescape
  split
  · simp
  · split
    · simp
    · have := unescL_len s.length s 0 [] (Nat.le_refl _)
      simpa using this

end Go.Proofs.YtghobbbmoeijbaaDoor
