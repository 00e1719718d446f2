/- Plain: the numbers below a prime are a field (Fermat's little theorem), and the bytes are one. -/
import Derived.Test.YtoaaplngdomdcaaMatD
import Derived.Test.YtoaaplngdomdcaaGauB
import Derived.Test.YtoaaplngdomdcaaGf
namespace Go.Proofs.Ytoaaplngdomdcaa
open Go.RowKit

theorem prime_dvd {p : Nat} (h : PrimeN p) {e : Nat} (h2 : 2 ≤ e) (he : e < p) : p % e ≠ 0 := by
  intro h0
  obtain ⟨c, hc⟩ := Nat.dvd_of_mod_eq_zero h0
  have hp := h.1
  have hc2 : 2 ≤ c := by
    rcases c with _ | _ | c
    · omega
    · rw [Nat.mul_one] at hc; omega
    · omega
  by_cases hle : e ≤ c
  · exact h.2 e h2 (by rw [hc]; exact Nat.mul_le_mul_left e hle) h0
  · exact h.2 c hc2 (by rw [hc]; exact Nat.mul_le_mul_right c (by omega)) (by rw [hc]; exact Nat.mul_mod_left e c)
theorem prime_cop {p a : Nat} (h : PrimeN p) (ha : a % p ≠ 0) : Nat.Coprime p a := by
  have hp := h.1
  have h1 := Nat.gcd_dvd_left p a
  have h2 := Nat.gcd_dvd_right p a
  unfold Nat.Coprime
  have h3 := Nat.le_of_dvd (by omega) h1
  by_cases e : Nat.gcd p a = p
  · rw [e] at h2
    exact absurd (Nat.mod_eq_zero_of_dvd h2) ha
  · have h4 : Nat.gcd p a ≠ 0 := fun h0 => by rw [h0] at h1; have := Nat.eq_zero_of_zero_dvd h1; omega
    rcases Nat.lt_or_ge (Nat.gcd p a) 2 with h5 | h5
    · omega
    · exact absurd (Nat.mod_eq_zero_of_dvd h1) (prime_dvd h h5 (by omega))
theorem prime_cancel {p a x y : Nat} (h : PrimeN p) (ha : a % p ≠ 0) (e : a * x % p = a * y % p) : x % p = y % p := by
  have key : ∀ u v, u ≤ v → a * u % p = a * v % p → u % p = v % p := fun u v huv e => by
    have hd : p ∣ a * (v - u) := by
      rw [Nat.mul_sub]
      exact Nat.dvd_of_mod_eq_zero (Nat.sub_mod_eq_zero_of_mod_eq e.symm)
    obtain ⟨c, hc⟩ := (prime_cop h ha).dvd_of_dvd_mul_left hd
    rw [show v = u + p * c by omega, Nat.add_mul_mod_self_left]
  rcases Nat.le_total x y with h1 | h1
  · exact key x y h1 e
  · exact (key y x h1 e.symm).symm

/-- The product of a list. -/
def prd (l : List Nat) : Nat := l.foldr (· * ·) 1
theorem prd_perm {l m : List Nat} (h : l.Perm m) : prd l = prd m := by
  induction h with
  | nil => rfl
  | cons x _ ih => show x * _ = x * _; unfold prd at ih; rw [ih]
  | swap x y l => show y * (x * _) = x * (y * _); rw [Nat.mul_left_comm]
  | trans _ _ a b => exact a.trans b
theorem perm_of (l : List Nat) : ∀ m : List Nat, l.Nodup → (∀ x ∈ l, x ∈ m) → m.length ≤ l.length → l.Perm m := by
  induction l with
  | nil => intro m _ _ hl; have : m = [] := List.eq_nil_of_length_eq_zero (by simpa using hl); subst this; exact List.Perm.nil
  | cons a l ih =>
    intro m hn hs hl
    rw [List.nodup_cons] at hn
    have ha := hs a (by simp)
    have h1 := List.length_erase_of_mem ha
    simp only [List.length_cons] at hl
    refine List.Perm.trans (List.Perm.cons a (ih (m.erase a) hn.2 (fun x hx => (List.mem_erase_of_ne (a := x) (b := a) (fun e => by subst e; exact hn.1 hx)).2 (hs x (by simp [hx]))) (by omega))) (List.perm_cons_erase ha).symm
theorem prd_map (p a : Nat) (l : List Nat) : prd (l.map fun x => a * x % p) % p = a ^ l.length * prd l % p := by
  induction l with
  | nil => simp [prd]
  | cons x l ih =>
    show (a * x % p) * prd (l.map fun x => a * x % p) % p = a ^ (l.length + 1) * (x * prd l) % p
    rw [Nat.mul_mod, Nat.mod_mod, ih, ← Nat.mul_mod, Nat.pow_succ]
    congr 1
    simp only [Nat.mul_assoc, Nat.mul_left_comm, Nat.mul_comm]
theorem prd_ne {p : Nat} (h : PrimeN p) (l : List Nat) (hl : ∀ x ∈ l, x % p ≠ 0) : prd l % p ≠ 0 := by
  induction l with
  | nil => show 1 % p ≠ 0; rw [Nat.mod_eq_of_lt h.1]; omega
  | cons x l ih =>
    intro h0
    have h1 : x * prd l % p = x * 0 % p := by rw [Nat.mul_zero, Nat.zero_mod]; exact h0
    have := prime_cancel h (hl x (by simp)) h1
    rw [Nat.zero_mod] at this
    exact ih (fun y hy => hl y (by simp [hy])) this
/-- Fermat's little theorem. -/
theorem fermat {p a : Nat} (h : PrimeN p) (ha : a % p ≠ 0) : a ^ (p - 1) % p = 1 := by
  have hp := h.1
  have hS : ∀ x, x ∈ (List.range (p - 1)).map (· + 1) ↔ 1 ≤ x ∧ x < p := fun x => by
    rw [List.mem_map]
    constructor
    · rintro ⟨y, hy, rfl⟩; have := List.mem_range.1 hy; omega
    · intro hx; exact ⟨x - 1, List.mem_range.2 (by omega), by omega⟩
  have hSn : ((List.range (p - 1)).map (· + 1)).Nodup := by
    rw [List.nodup_iff_pairwise_ne, List.pairwise_map]
    exact (List.nodup_iff_pairwise_ne.1 List.nodup_range).imp fun hne e => hne (by omega)
  have hlen : ((List.range (p - 1)).map (· + 1)).length = p - 1 := by simp
  generalize (List.range (p - 1)).map (· + 1) = S at hS hSn hlen
  have hnz : ∀ x ∈ S, x % p ≠ 0 := fun x hx => by
    have := (hS x).1 hx
    rw [Nat.mod_eq_of_lt this.2]; omega
  have hTn : (S.map fun x => a * x % p).Nodup := by
    rw [List.nodup_iff_pairwise_ne, List.pairwise_map]
    refine List.Pairwise.imp_of_mem (fun {x y} hx hy hne e => hne ?_) (List.nodup_iff_pairwise_ne.1 hSn)
    have := prime_cancel h ha e
    rwa [Nat.mod_eq_of_lt ((hS x).1 hx).2, Nat.mod_eq_of_lt ((hS y).1 hy).2] at this
  have hperm := perm_of (S.map fun x => a * x % p) S hTn (fun y hy => by
    obtain ⟨x, hx, rfl⟩ := List.mem_map.1 hy
    refine (hS _).2 ⟨?_, Nat.mod_lt _ (by omega)⟩
    have h0 : a * x % p ≠ 0 := fun h0 => by
      have := prime_cancel h ha (show a * x % p = a * 0 % p by rw [Nat.mul_zero, Nat.zero_mod]; exact h0)
      rw [Nat.zero_mod] at this
      exact hnz x hx this
    omega) (by simp)
  have e1 := prd_map p a S
  rw [prd_perm hperm, hlen] at e1
  have e2 : prd S * (a ^ (p - 1)) % p = prd S * 1 % p := by rw [Nat.mul_one, Nat.mul_comm, ← e1]
  have := prime_cancel h (prd_ne h S hnz) e2
  rwa [Nat.mod_eq_of_lt hp] at this
theorem pw_mod (p : Nat) : ∀ n x y, pw p n x y % p = x * y ^ n % p := by
  intro n
  induction n using Nat.strongRecOn with
  | ind n ih =>
    intro x y
    by_cases h0 : n = 0
    · subst h0; rw [pw_zero, Nat.pow_zero, Nat.mul_one]
    · rcases Nat.mod_two_eq_zero_or_one n with hm | hm
      · rw [pw_even p n x y (by omega) hm, ih (n / 2) (by omega)]
        unfold fmul
        rw [Nat.mul_mod, ← Nat.pow_mod, ← Nat.mul_mod, ← Nat.pow_two, ← Nat.pow_mul, show 2 * (n / 2) = n by omega]
      · rw [pw_odd p n x y hm, ih (n / 2) (by omega)]
        unfold fmul
        rw [Nat.mul_mod, Nat.mod_mod, ← Nat.pow_mod, ← Nat.mul_mod, ← Nat.pow_two, ← Nat.pow_mul, Nat.mul_assoc, ← Nat.pow_succ', show (2 * (n / 2)).succ = n by omega]
theorem finv_mul {p a : Nat} (h : PrimeN p) (ha : a % p ≠ 0) : fmul p a (finv p a) = 1 := by
  have hp := h.1
  unfold fmul finv
  rw [pw_mod, Nat.one_mul, ← Nat.pow_mod, ← Nat.mul_mod_mod, Nat.mod_mod, Nat.mul_mod_mod, Nat.mul_comm, ← Nat.pow_succ, show (p - 2).succ = p - 1 by omega]
  exact fermat h ha

/-- The numbers below p. -/
def Fp (p : Nat) (hp : 0 < p) : Fd (Fin p) where
  zero := ⟨0, hp⟩
  one := ⟨1 % p, Nat.mod_lt _ hp⟩
  add a b := ⟨fadd p a.1 b.1, Nat.mod_lt _ hp⟩
  sub a b := ⟨fsub p a.1 b.1, Nat.mod_lt _ hp⟩
  mul a b := ⟨fmul p a.1 b.1, Nat.mod_lt _ hp⟩
  inv a := if a.1 % p = 0 then none else some ⟨finv p a.1, Nat.mod_lt _ hp⟩
theorem Fp_ok {p : Nat} (hp : 0 < p) (h : PrimeN p) : (Fp p hp).Ok where
  add_comm a b := Fin.ext (by show (a.1 + b.1) % p = (b.1 + a.1) % p; rw [Nat.add_comm])
  add_assoc a b c := Fin.ext (by show ((a.1 + b.1) % p + c.1) % p = (a.1 + (b.1 + c.1) % p) % p; rw [Nat.mod_add_mod, Nat.add_mod_mod, Nat.add_assoc])
  zero_add a := Fin.ext (by show (0 + a.1) % p = a.1; rw [Nat.zero_add, Nat.mod_eq_of_lt a.2])
  mul_comm a b := Fin.ext (by show a.1 * b.1 % p = b.1 * a.1 % p; rw [Nat.mul_comm])
  mul_assoc a b c := Fin.ext (by show (a.1 * b.1 % p) * c.1 % p = a.1 * (b.1 * c.1 % p) % p; rw [Nat.mod_mul_mod, Nat.mul_mod_mod, Nat.mul_assoc])
  one_mul a := Fin.ext (by show (1 % p) * a.1 % p = a.1; rw [Nat.mod_mul_mod, Nat.one_mul, Nat.mod_eq_of_lt a.2])
  distrib a b c := Fin.ext (by show a.1 * ((b.1 + c.1) % p) % p = (a.1 * b.1 % p + a.1 * c.1 % p) % p; rw [Nat.mul_mod_mod, Nat.mul_add, ← Nat.add_mod])
  sub_add a b := Fin.ext (by
    show ((a.1 + p - b.1 % p) % p + b.1) % p = a.1
    have := a.2
    have := b.2
    rw [Nat.mod_add_mod, Nat.mod_eq_of_lt b.2, show a.1 + p - b.1 + b.1 = a.1 + p by omega, Nat.add_mod_right, Nat.mod_eq_of_lt a.2])
  inv_some a b e := Fin.ext (by
    have e : (if a.1 % p = 0 then none else some (⟨finv p a.1, Nat.mod_lt _ hp⟩ : Fin p)) = some b := e
    split at e
    · cases e
    · rename_i h0
      injection e with e
      subst e
      show fmul p a.1 (finv p a.1) = 1 % p
      rw [finv_mul h h0, Nat.mod_eq_of_lt h.1])
  inv_none a := by
    show (if a.1 % p = 0 then none else some (⟨finv p a.1, Nat.mod_lt _ hp⟩ : Fin p)) = none ↔ _
    have hm := Nat.mod_eq_of_lt a.2
    constructor
    · intro e
      split at e
      · rename_i h0; exact Fin.ext (hm.symm.trans h0)
      · cases e
    · intro e
      exact if_pos (hm.trans (congrArg Fin.val e))
  one_ne e := by
    have := congrArg Fin.val e
    have h1 : 1 % p = 0 := this
    rw [Nat.mod_eq_of_lt h.1] at h1
    omega

/-- The field of 256 elements. -/
def F8 : Fd UInt8 where
  zero := 0
  one := 1
  add a b := a ^^^ b
  sub a b := a ^^^ b
  mul := bmul
  inv a := if a = 0 then none else some (binv a)
theorem F8_ok : F8.Ok where
  add_comm := UInt8.xor_comm
  add_assoc := UInt8.xor_assoc
  zero_add a := UInt8.zero_xor
  mul_comm := bmul_comm
  mul_assoc := bmul_assoc
  one_mul := one_bmul
  distrib := bmul_xor
  sub_add a b := by show a ^^^ b ^^^ b = a; rw [UInt8.xor_assoc, UInt8.xor_self, UInt8.xor_zero]
  inv_some a b e := by
    have e : (if a = 0 then none else some (binv a)) = some b := e
    split at e
    · cases e
    · rename_i h0
      injection e with e
      subst e
      exact bmul_inv h0
  inv_none a := by
    show (if a = 0 then none else some (binv a)) = none ↔ a = 0
    constructor
    · intro e
      split at e
      · assumption
      · cases e
    · intro e; rw [if_pos e]
  one_ne := by show ¬ (1 : UInt8) = 0; decide
end Go.Proofs.Ytoaaplngdomdcaa
