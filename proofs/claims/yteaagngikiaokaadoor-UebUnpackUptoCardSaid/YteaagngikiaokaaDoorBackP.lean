/- Plain facts of letters, escaped names and numbers: none has a colon or a stroke, and when they are empty. -/
import Derived.Test.YteaagngikiaokaaDoorB10E
import Derived.Test.YteaagngikiaokaaDoorNumP
namespace Go.Proofs.YteaagngikiaokaaDoor
open Go.Lib

/-- Neither a colon nor a stroke. -/
def okc (c : UInt8) : Bool := c.toNat != 58 && c.toNat != 47
theorem okc_all : ∀ c : Fin 256, (worthN (UInt8.ofNat c.1)).isSome = true → okc (UInt8.ofNat c.1) = true := by decide +kernel
theorem okc_letter (d : Nat) (h : d < 32) : okc (letterN d) = true := by
  have := letterN_toNat d h
  unfold okc
  rw [this]
  split <;> simp <;> omega
theorem letters_okc (l : List UInt8) : ∀ c ∈ letters l, okc c = true := by
  intro c hc
  unfold letters at hc
  rw [List.mem_map] at hc
  obtain ⟨d, hd, rfl⟩ := hc
  exact okc_letter d (dig_lt 32 _ _ (by decide) d hd)
theorem letters_nil (l : List UInt8) : letters l = [] ↔ l.length = 0 := by
  rw [← List.length_eq_zero_iff, letters_length]
  unfold lets
  omega
theorem okc_plain (c : UInt8) (h : plainN c.toNat = true) : okc c = true := by
  unfold plainN at h
  unfold okc
  simp only [Bool.or_eq_true, Bool.and_eq_true, decide_eq_true_eq, beq_iff_eq] at h
  simp only [Bool.and_eq_true, bne_iff_ne]
  omega
theorem okc_hex (d : Nat) (h : d < 16) : okc (hexN d) = true := by
  have := hexN_toNat d h
  unfold okc
  rw [this]
  split <;> simp <;> omega
theorem escape_okc (l : List UInt8) : ∀ c ∈ escape l, okc c = true := by
  intro c hc
  unfold escape at hc
  split at hc
  · simp at hc; subst hc; decide
  · unfold escBody at hc
    rw [List.mem_flatMap] at hc
    obtain ⟨x, _, hx⟩ := hc
    unfold esc1 at hx
    have h256 : x.toNat < 256 := x.toNat_lt
    split at hx
    · rename_i hp
      simp at hx; subst hx; exact okc_plain _ hp
    · simp at hx
      rcases hx with rfl | rfl | rfl
      · decide
      · exact okc_hex _ (by omega)
      · exact okc_hex _ (by omega)
theorem escape_nil (l : List UInt8) : escape l ≠ [] := by
  unfold escape
  split
  · simp
  · rename_i h
    exact (escape_ne l h).2
theorem itoa_okc (x : Int) (h : 0 ≤ x) : ∀ c ∈ itoa x, okc c = true := by
  obtain ⟨n, rfl⟩ := Int.eq_ofNat_of_zero_le h
  rw [itoa_nonneg]
  intro c hc
  have hd := decFrom_digits n
  have : ∀ (l : List UInt8) (a b : Nat), decFrom a l = some b → ∀ c ∈ l, okc c = true := by
    intro l
    induction l with
    | nil => intro a b _ c hc; cases hc
    | cons y r ih =>
      intro a b hab c hc
      unfold decFrom at hab
      cases hy : digitVal y with
      | none => simp [hy] at hab
      | some d =>
        simp only [hy] at hab
        rcases List.mem_cons.1 hc with rfl | hc
        · obtain ⟨hd, rfl⟩ := digit_back hy
          unfold okc
          rw [UInt8.toNat_ofNat']
          simp
          omega
        · exact ih _ _ hab c hc
  exact this _ _ _ hd c hc
theorem itoa_nil (x : Int) (h : 0 ≤ x) : itoa x ≠ [] := by
  obtain ⟨n, rfl⟩ := Int.eq_ofNat_of_zero_le h
  rw [itoa_nonneg]
  exact digits_ne n
/-- A number's text, read with the number itself as the bound, and with a bound below it. -/
theorem rd_self (x : Int) (h0 : 0 ≤ x) (hm : x ≤ 9223372036854775807) : rd (itoa x) x = some x.toNat := rd_ok h0 (Int.le_refl _) hm rfl
theorem rd_below (x : Int) (h0 : 0 ≤ x) (hm : x ≤ 9223372036854775807) : rd (itoa x) (x - 1) = none := by
  cases h : rd (itoa x) (x - 1) with
  | none => rfl
  | some y =>
    obtain ⟨h1, h2, _⟩ := rd_some h (by omega)
    obtain ⟨n, rfl⟩ := Int.eq_ofNat_of_zero_le h0
    rw [itoa_nonneg, atoi_digits (by omega)] at h1
    injection h1 with h1
    omega
end Go.Proofs.YteaagngikiaokaaDoor
