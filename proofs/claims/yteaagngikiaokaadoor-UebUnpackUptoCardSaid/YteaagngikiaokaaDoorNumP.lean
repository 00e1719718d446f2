/- Decimal numbers in plain words: the one text of a number, and how it is read. -/
import Derived.Lib.AtoiTie
import Derived.Lib.ItoaNum
import Derived.Lib.ItoaMem
namespace Go.Proofs.YteaagngikiaokaaDoor
open Go.Lib

theorem decFrom_snoc (l : List UInt8) (b : UInt8) : ∀ acc, decFrom acc (l ++ [b]) = (decFrom acc l).bind fun n => (digitVal b).map fun d => n * 10 + d := by
  induction l with
  | nil => intro acc; simp only [List.nil_append, decFrom]; cases digitVal b <;> rfl
  | cons c l ih =>
    intro acc
    simp only [List.cons_append, decFrom]
    cases digitVal c with
    | none => rfl
    | some d => exact ih _
theorem digit_of {d : Nat} (h : d < 10) : digitVal (UInt8.ofNat (48 + d)) = some d := by
  have e : (UInt8.ofNat (48 + d)).toNat = 48 + d := by rw [UInt8.toNat_ofNat']; omega
  unfold digitVal
  rw [e, if_pos (by omega)]
  congr
  omega
theorem digit_back {b : UInt8} {d : Nat} (h : digitVal b = some d) : d < 10 ∧ b = UInt8.ofNat (48 + d) := by
  obtain ⟨h1, h2, h3⟩ := digitVal_eq h
  refine ⟨by omega, UInt8.toNat_inj.1 ?_⟩
  rw [UInt8.toNat_ofNat']
  omega
theorem decFrom_digits (x : Nat) : decFrom 0 (decDigits x) = some x := by
  induction x using Nat.strongRecOn with
  | _ x ih =>
    rw [decDigits]
    split
    · rename_i h
      simp only [decFrom, digit_of h]
      simp
    · rename_i h
      rw [decFrom_snoc, ih (x / 10) (by omega), digit_of (Nat.mod_lt _ (by omega))]
      simp only [Option.bind_some, Option.map_some]
      congr
      omega
theorem digits_ne (x : Nat) : decDigits x ≠ [] := by
  rw [decDigits]
  split
  · simp
  · simp
theorem digits_head {x : Nat} (h : 1 ≤ x) : (decDigits x)[0]? ≠ some 48 := by
  induction x using Nat.strongRecOn with
  | _ x ih =>
    rw [decDigits]
    split
    · rename_i hx
      simp only [List.getElem?_cons_zero, ne_eq, Option.some.injEq]
      intro e
      have := congrArg UInt8.toNat e
      rw [UInt8.toNat_ofNat'] at this
      have h48 : (48 : UInt8).toNat = 48 := rfl
      rw [h48] at this
      omega
    · rename_i hx
      have hl : 0 < (decDigits (x / 10)).length := List.length_pos_iff.2 (digits_ne _)
      rw [List.getElem?_append_left hl]
      exact ih (x / 10) (by omega) (by omega)
theorem digits_length_le : ∀ (k x : Nat), x < 10 ^ (k + 1) → (decDigits x).length ≤ k + 1 := by
  intro k
  induction k with
  | zero =>
    intro x h
    rw [decDigits, dif_pos (by simpa using h)]
    simp
  | succ k ih =>
    intro x h
    rw [decDigits]
    split
    · simp
    · have := ih (x / 10) (by rw [Nat.pow_succ] at h; omega)
      simp only [List.length_append, List.length_singleton]
      omega
theorem digits_long {x : Nat} (h : 1 < (decDigits x).length) : 10 ≤ x := by
  rcases Nat.lt_or_ge x 10 with h1 | h1
  · rw [decDigits, dif_pos h1] at h
    simp at h
  · exact h1

/-- How the document reads a text, its bound aside. -/
def rdv (l : List UInt8) : Option Nat := if l.length = 0 ∨ 19 < l.length ∨ (1 < l.length ∧ l[0]? = some 48) then none else decFrom 0 l
theorem rdv_digits {x : Nat} (h : x < 10000000000000000000) : rdv (decDigits x) = some x := by
  unfold rdv
  have h1 := digits_length_le 18 x h
  rw [if_neg, decFrom_digits]
  rintro (h0 | h0 | ⟨h0, h2⟩)
  · exact digits_ne x (List.eq_nil_of_length_eq_zero h0)
  · omega
  · exact digits_head (by have := digits_long h0; omega) h2
theorem digits_of (n : Nat) : ∀ (l : List UInt8) (x : Nat), l.length = n + 1 → (1 < l.length → l[0]? ≠ some 48) → decFrom 0 l = some x → decDigits x = l := by
  induction n with
  | zero =>
    intro l x hl _ hd
    match l, hl with
    | [b], _ =>
      simp only [decFrom] at hd
      cases hb : digitVal b with
      | none => rw [hb] at hd; cases hd
      | some d =>
        rw [hb] at hd
        obtain ⟨h1, h2⟩ := digit_back hb
        simp at hd
        subst hd
        rw [decDigits, dif_pos h1, h2]
  | succ n ih =>
    intro l x hl h0 hd
    have hne : l ≠ [] := by intro e; rw [e] at hl; simp at hl
    have hs := List.dropLast_concat_getLast hne
    generalize l.getLast hne = b at hs
    have hml : l.dropLast.length = n + 1 := by rw [List.length_dropLast, hl]; rfl
    generalize l.dropLast = m at hs hml
    subst hs
    rw [decFrom_snoc] at hd
    cases hm : decFrom 0 m with
    | none => rw [hm] at hd; cases hd
    | some y =>
      rw [hm] at hd
      cases hb : digitVal b with
      | none => rw [hb] at hd; cases hd
      | some d =>
        rw [hb] at hd
        simp only [Option.bind_some, Option.map_some, Option.some.injEq] at hd
        obtain ⟨h1, h2⟩ := digit_back hb
        have hm0 : (m ++ [b])[0]? = m[0]? := List.getElem?_append_left (by omega)
        have hh : m[0]? ≠ some 48 := by rw [← hm0]; exact h0 (by rw [List.length_append, hml]; simp)
        have hy := ih m y hml (fun _ => hh) hm
        have hy1 : 1 ≤ y := by
          rcases Nat.eq_zero_or_pos y with h | h
          · exfalso
            rw [h, decDigits, dif_pos (by omega)] at hy
            rw [← hy] at hh
            exact hh rfl
          · exact h
        rw [← hd, decDigits, dif_neg (by omega), show (y * 10 + d) / 10 = y by omega, show (y * 10 + d) % 10 = d by omega, hy, h2]
theorem rdv_some {l : List UInt8} {x : Nat} (h : rdv l = some x) : l = decDigits x ∧ x < 10000000000000000000 := by
  unfold rdv at h
  split at h
  · cases h
  · rename_i hc
    have h1 : ¬ l.length = 0 := fun e => hc (.inl e)
    have h2 : ¬ 19 < l.length := fun e => hc (.inr (.inl e))
    have h3 : 1 < l.length → l[0]? ≠ some 48 := fun e f => hc (.inr (.inr ⟨e, f⟩))
    refine ⟨(digits_of (l.length - 1) l x (by omega) h3 h).symm, ?_⟩
    have := decFrom_lt l 0 x h
    have hp : 10 ^ l.length ≤ 10 ^ 19 := Nat.pow_le_pow_right (by decide) (by omega)
    have e19 : (10 : Nat) ^ 19 = 10000000000000000000 := by decide
    omega

theorem decFrom_ge : ∀ (l : List UInt8) (acc n : Nat), decFrom acc l = some n → acc ≤ n := by
  intro l
  induction l with
  | nil => intro acc n h; simp only [decFrom, Option.some.injEq] at h; omega
  | cons b l ih =>
    intro acc n h
    simp only [decFrom] at h
    cases hb : digitVal b with
    | none => rw [hb] at h; cases h
    | some d =>
      rw [hb] at h
      have := ih _ _ h
      omega
theorem parse_of : ∀ (l : List UInt8) (acc n : Nat), decFrom acc l = some n → n < 18446744073709551616 → parseUint10 acc l = .ok n := by
  intro l
  induction l with
  | nil => intro acc n h _; simp only [decFrom, Option.some.injEq] at h; simp only [parseUint10, h]
  | cons b l ih =>
    intro acc n h hn
    simp only [decFrom] at h
    cases hb : digitVal b with
    | none => rw [hb] at h; cases h
    | some d =>
      rw [hb] at h
      obtain ⟨h1, h2, h3⟩ := digitVal_eq hb
      have hge := decFrom_ge _ _ _ h
      simp only [parseUint10]
      rw [if_pos ⟨h1, h2⟩, if_neg (by omega), if_neg (by omega), ← h3]
      exact ih _ _ h hn
theorem atoi_digits {x : Nat} (h : x ≤ 9223372036854775807) : atoiAll (decDigits x) = .ok (x : Int) := by
  have hd := decFrom_digits x
  have hp := parse_of _ 0 x hd (by omega)
  have hne := digits_ne x
  generalize decDigits x = l at *
  match l, hne with
  | c :: r, _ =>
    simp only [decFrom] at hd
    cases hb : digitVal c with
    | none => rw [hb] at hd; cases hd
    | some d =>
      obtain ⟨h1, h2, _⟩ := digitVal_eq hb
      simp only [atoiAll]
      rw [if_neg (by omega)]
      have hm : parseMag (c :: r) = .ok x := by
        unfold parseMag
        rw [if_neg (by simp)]
        exact hp
      rw [hm]
      simp only
      rw [if_neg (by omega), if_neg (by omega), if_neg (by omega)]

/-- How a text is read, up to a bound. -/
def rd (l : List UInt8) (most : Int) : Option Nat := match rdv l with
  | some x => if (x : Int) ≤ most then some x else none
  | none => none
theorem rd_ok {l : List UInt8} {most v : Int} (h0 : 0 ≤ v) (h1 : v ≤ most) (hm : most ≤ 9223372036854775807) (hl : l = itoa v) : rd l most = some v.toNat := by
  obtain ⟨x, rfl⟩ : ∃ x : Nat, v = (x : Int) := ⟨v.toNat, by omega⟩
  rw [itoa_nonneg] at hl
  unfold rd
  rw [hl, rdv_digits (by omega)]
  simp only
  rw [if_pos h1]
  rfl
theorem rd_some {l : List UInt8} {most : Int} {x : Nat} (h : rd l most = some x) (hm : most ≤ 9223372036854775807) : atoiAll l = .ok (x : Int) ∧ (x : Int) ≤ most ∧ l = itoa (x : Int) := by
  unfold rd at h
  cases hr : rdv l with
  | none => rw [hr] at h; cases h
  | some y =>
    rw [hr] at h
    simp only at h
    split at h
    · rename_i hy
      injection h with h
      subst h
      obtain ⟨h1, _⟩ := rdv_some hr
      refine ⟨?_, hy, by rw [itoa_nonneg]; exact h1⟩
      rw [h1]
      exact atoi_digits (by omega)
    · cases h
end Go.Proofs.YteaagngikiaokaaDoor
