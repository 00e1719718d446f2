/- The field of 256 elements: its product and inverse as the program reckons them, and the laws of a field. -/
import Derived.WalkKit
namespace Go.Proofs.Ytoaaplngdomdcaa

/-- Times the generator. -/
def gx (a : Nat) : Nat := if a < 128 then 2 * a else (2 * a - 256) ^^^ 29
/-- The loop of the product. -/
def gm : Nat → Nat → Nat → Nat → Nat
  | 0, p, _, _ => p
  | n + 1, p, a, b => gm n (if b % 2 = 0 then p else p ^^^ a) (gx a) (b / 2)
def gmul (a b : Nat) : Nat := gm 8 0 a b
/-- The loop of the inverse. -/
def gpw : Nat → Nat → Nat → Nat
  | 0, _, p => p
  | n + 1, a, p => gpw n (gmul a a) (gmul p (gmul a a))
def ginv (a : Nat) : Nat := if a = 0 then 0 else gpw 7 a 1

theorem xor_lt {a b : Nat} (ha : a < 256) (hb : b < 256) : a ^^^ b < 256 := Nat.xor_lt_two_pow (n := 8) ha hb
theorem gx_lt : ∀ a, a < 256 → gx a < 256 := by decide +kernel
theorem gm_lt (n : Nat) : ∀ p a b, p < 256 → a < 256 → gm n p a b < 256 := by
  induction n with
  | zero => intro p a b hp _; exact hp
  | succ n ih =>
    intro p a b hp ha
    refine ih _ _ _ ?_ (gx_lt a ha)
    split
    · exact hp
    · exact xor_lt hp ha
theorem gmul_lt {a : Nat} (b : Nat) (ha : a < 256) : gmul a b < 256 := gm_lt 8 0 a b (by omega) ha
theorem gm_b0 (n : Nat) : ∀ p a, gm n p a 0 = p := by
  induction n with
  | zero => intro p a; rfl
  | succ n ih => intro p a; exact ih _ _
theorem gx_xor_dec : ∀ a, a < 256 → ∀ i, i < 8 → gx (a ^^^ 2 ^ i) = gx a ^^^ gx (2 ^ i) := by decide +kernel
theorem top_bit : ∀ a, a < 256 → ∀ k, k < 8 → 2 ^ k ≤ a → a < 2 ^ (k + 1) → (a - 2 ^ k) ^^^ 2 ^ k = a := by decide +kernel

/-- What holds of 0 and of a number with one bit more holds of all. -/
theorem bits_ind {P : Nat → Prop} (h0 : P 0) (hx : ∀ a i, a < 256 → i < 8 → P a → P (a ^^^ 2 ^ i)) : ∀ a, a < 256 → P a := by
  have key : ∀ k, k ≤ 8 → ∀ a, a < 2 ^ k → P a := by
    intro k
    induction k with
    | zero => intro _ a ha; rw [show a = 0 by simpa using ha]; exact h0
    | succ k ih =>
      intro hk a ha
      by_cases h : a < 2 ^ k
      · exact ih (by omega) a h
      · have h2 : 2 ^ (k + 1) ≤ 2 ^ 8 := Nat.pow_le_pow_right (by omega) hk
        have ha8 : a < 256 := by omega
        rw [← top_bit a ha8 k (by omega) (by omega) ha]
        refine hx _ k (by omega) (by omega) (ih (by omega) _ ?_)
        rw [Nat.pow_succ] at ha
        omega
  exact fun a ha => key 8 (by omega) a ha

theorem gx_xor (a b : Nat) (ha : a < 256) (hb : b < 256) : gx (a ^^^ b) = gx a ^^^ gx b := by
  revert b
  refine bits_ind (P := fun b => gx (a ^^^ b) = gx a ^^^ gx b) (by rw [Nat.xor_zero, show gx 0 = 0 from rfl, Nat.xor_zero]) ?_
  intro b i hb hi h
  rw [← Nat.xor_assoc, gx_xor_dec _ (xor_lt ha hb) i hi, h, gx_xor_dec b hb i hi, Nat.xor_assoc]

theorem gm_p (n : Nat) : ∀ p a b, gm n p a b = p ^^^ gm n 0 a b := by
  induction n with
  | zero => intro p a b; simp [gm]
  | succ n ih =>
    intro p a b
    simp only [gm]
    rw [ih, ih (if b % 2 = 0 then 0 else 0 ^^^ a)]
    split
    · simp
    · simp [Nat.xor_assoc]
theorem gm_succ (n a b : Nat) : gm (n + 1) 0 a b = (if b % 2 = 0 then 0 else a) ^^^ gm n 0 (gx a) (b / 2) := by
  simp only [gm]
  rw [gm_p]
  simp
theorem gm_addl (n : Nat) : ∀ a c b, a < 256 → c < 256 → gm n 0 (a ^^^ c) b = gm n 0 a b ^^^ gm n 0 c b := by
  induction n with
  | zero => intro a c b _ _; simp [gm]
  | succ n ih =>
    intro a c b ha hc
    rw [gm_succ, gm_succ, gm_succ, gx_xor a c ha hc, ih _ _ _ (gx_lt a ha) (gx_lt c hc)]
    split
    · simp
    · generalize gm n 0 (gx a) (b / 2) = x
      generalize gm n 0 (gx c) (b / 2) = y
      rw [Nat.xor_assoc, Nat.xor_assoc, ← Nat.xor_assoc c x y, Nat.xor_comm c x, Nat.xor_assoc]
theorem xor_half (a b : Nat) : (a ^^^ b) / 2 = a / 2 ^^^ b / 2 := by
  have := Nat.xor_div_two_pow (a := a) (b := b) (n := 1)
  simpa using this
theorem gm_addr (n : Nat) : ∀ a b c, gm n 0 a (b ^^^ c) = gm n 0 a b ^^^ gm n 0 a c := by
  induction n with
  | zero => intro a b c; simp [gm]
  | succ n ih =>
    intro a b c
    rw [gm_succ, gm_succ, gm_succ, xor_half, ih]
    generalize gm n 0 (gx a) (b / 2) = x
    generalize gm n 0 (gx a) (c / 2) = y
    have hm : (b ^^^ c) % 2 = (b % 2 + c % 2) % 2 := by
      have := Nat.xor_mod_two_pow (a := b) (b := c) (n := 1)
      rw [Nat.pow_one] at this
      rw [this]
      rcases Nat.mod_two_eq_zero_or_one b with hb | hb <;> rcases Nat.mod_two_eq_zero_or_one c with hc | hc <;> rw [hb, hc]
      all_goals rfl
    rcases Nat.mod_two_eq_zero_or_one b with hb | hb <;> rcases Nat.mod_two_eq_zero_or_one c with hc | hc
    · rw [if_pos (by omega), if_pos hb, if_pos hc]; simp
    · rw [if_neg (by omega), if_pos hb, if_neg (by omega)]
      rw [Nat.zero_xor, ← Nat.xor_assoc, ← Nat.xor_assoc, Nat.xor_comm a x]
    · rw [if_neg (by omega), if_neg (by omega), if_pos hc]
      rw [Nat.zero_xor, Nat.xor_assoc]
    · rw [if_pos (by omega), if_neg (by omega), if_neg (by omega)]
      rw [Nat.zero_xor, Nat.xor_assoc, ← Nat.xor_assoc x a y, Nat.xor_comm x a, Nat.xor_assoc, ← Nat.xor_assoc a a, Nat.xor_self, Nat.zero_xor]

theorem gmul_addl {a c : Nat} (b : Nat) (ha : a < 256) (hc : c < 256) : gmul (a ^^^ c) b = gmul a b ^^^ gmul c b := gm_addl 8 a c b ha hc
theorem gmul_addr (a b c : Nat) : gmul a (b ^^^ c) = gmul a b ^^^ gmul a c := gm_addr 8 a b c
theorem gmul_zero (a : Nat) : gmul a 0 = 0 := gm_b0 8 0 a
theorem zero_gmul (b : Nat) : gmul 0 b = 0 := by
  have := gmul_addl (a := 0) (c := 0) b (by omega) (by omega)
  rw [Nat.xor_self, Nat.xor_self] at this
  exact this
theorem comm_dec : ∀ i, i < 8 → ∀ j, j < 8 → gmul (2 ^ i) (2 ^ j) = gmul (2 ^ j) (2 ^ i) := by decide +kernel
theorem pow_lt8 {i : Nat} (h : i < 8) : 2 ^ i < 256 := Nat.pow_lt_pow_right (a := 2) (n := 8) (by omega) h
theorem gmul_comm {a b : Nat} (ha : a < 256) (hb : b < 256) : gmul a b = gmul b a := by
  have h1 : ∀ j, j < 8 → ∀ a, a < 256 → gmul a (2 ^ j) = gmul (2 ^ j) a := by
    intro j hj
    refine bits_ind (by rw [zero_gmul, gmul_zero]) ?_
    intro a i ha hi h
    rw [gmul_addl _ ha (pow_lt8 hi), gmul_addr, h, comm_dec i hi j hj]
  refine bits_ind (P := fun b => gmul a b = gmul b a) (by rw [zero_gmul, gmul_zero]) ?_ b hb
  intro b i hb hi h
  rw [gmul_addl _ hb (pow_lt8 hi), gmul_addr, h, h1 i hi a ha]
theorem assoc_dec : ∀ i, i < 8 → ∀ j, j < 8 → ∀ k, k < 8 → gmul (gmul (2 ^ i) (2 ^ j)) (2 ^ k) = gmul (2 ^ i) (gmul (2 ^ j) (2 ^ k)) := by decide +kernel
theorem gmul_assoc {a b c : Nat} (ha : a < 256) (hb : b < 256) (hc : c < 256) : gmul (gmul a b) c = gmul a (gmul b c) := by
  have h1 : ∀ j, j < 8 → ∀ k, k < 8 → ∀ a, a < 256 → gmul (gmul a (2 ^ j)) (2 ^ k) = gmul a (gmul (2 ^ j) (2 ^ k)) := by
    intro j hj k hk
    refine bits_ind (by rw [zero_gmul, zero_gmul, zero_gmul]) ?_
    intro a i ha hi h
    rw [gmul_addl _ ha (pow_lt8 hi), gmul_addl _ (gmul_lt _ ha) (gmul_lt _ (pow_lt8 hi)), gmul_addl _ ha (pow_lt8 hi), h, assoc_dec i hi j hj k hk]
  have h2 : ∀ k, k < 8 → ∀ b, b < 256 → gmul (gmul a b) (2 ^ k) = gmul a (gmul b (2 ^ k)) := by
    intro k hk
    refine bits_ind (by rw [gmul_zero, zero_gmul, gmul_zero]) ?_
    intro b i hb hi h
    rw [gmul_addr, gmul_addl _ (gmul_lt _ ha) (gmul_lt _ ha), gmul_addl _ hb (pow_lt8 hi), gmul_addr, h, h1 i hi k hk a ha]
  refine bits_ind (P := fun c => gmul (gmul a b) c = gmul a (gmul b c)) (by rw [gmul_zero, gmul_zero, gmul_zero]) ?_ c hc
  intro c i hc hi h
  rw [gmul_addr, gmul_addr, gmul_addr, h, h2 i hi b hb]
theorem ginv_lt : ∀ a, a < 256 → ginv a < 256 := by decide +kernel
theorem ginv_mul : ∀ a, a < 256 → a ≠ 0 → gmul a (ginv a) = 1 := by decide +kernel
theorem one_dec : ∀ a, a < 256 → gmul a 1 = a := by decide +kernel

/-! ### As bytes -/
def bmul (x y : UInt8) : UInt8 := UInt8.ofNat (gmul x.toNat y.toNat)
def binv (x : UInt8) : UInt8 := UInt8.ofNat (ginv x.toNat)
theorem bmul_toNat (x y : UInt8) : (bmul x y).toNat = gmul x.toNat y.toNat := by
  rw [bmul, UInt8.toNat_ofNat']
  exact Nat.mod_eq_of_lt (gmul_lt _ x.toNat_lt)
theorem binv_toNat (x : UInt8) : (binv x).toNat = ginv x.toNat := by
  rw [binv, UInt8.toNat_ofNat']
  exact Nat.mod_eq_of_lt (ginv_lt _ x.toNat_lt)
theorem bmul_comm (x y : UInt8) : bmul x y = bmul y x := by
  apply UInt8.toNat_inj.1
  rw [bmul_toNat, bmul_toNat, gmul_comm x.toNat_lt y.toNat_lt]
theorem bmul_assoc (x y z : UInt8) : bmul (bmul x y) z = bmul x (bmul y z) := by
  apply UInt8.toNat_inj.1
  rw [bmul_toNat, bmul_toNat, bmul_toNat, bmul_toNat, gmul_assoc x.toNat_lt y.toNat_lt z.toNat_lt]
theorem bmul_xor (x y z : UInt8) : bmul x (y ^^^ z) = bmul x y ^^^ bmul x z := by
  apply UInt8.toNat_inj.1
  rw [UInt8.toNat_xor, bmul_toNat, bmul_toNat, bmul_toNat, UInt8.toNat_xor, gmul_addr]
theorem xor_bmul (x y z : UInt8) : bmul (x ^^^ y) z = bmul x z ^^^ bmul y z := by
  rw [bmul_comm, bmul_xor, bmul_comm z x, bmul_comm z y]
theorem bmul_one (x : UInt8) : bmul x 1 = x := by
  apply UInt8.toNat_inj.1
  rw [bmul_toNat]
  exact one_dec _ x.toNat_lt
theorem one_bmul (x : UInt8) : bmul 1 x = x := by rw [bmul_comm, bmul_one]
theorem bmul_zero (x : UInt8) : bmul x 0 = 0 := by
  apply UInt8.toNat_inj.1
  rw [bmul_toNat]
  exact gmul_zero _
theorem zero_bmul (x : UInt8) : bmul 0 x = 0 := by rw [bmul_comm, bmul_zero]
theorem bmul_inv {x : UInt8} (h : x ≠ 0) : bmul x (binv x) = 1 := by
  apply UInt8.toNat_inj.1
  rw [bmul_toNat, binv_toNat]
  refine ginv_mul _ x.toNat_lt fun h0 => h (UInt8.toNat_inj.1 h0)
theorem bmul_eq_zero {x y : UInt8} (h : bmul x y = 0) (hx : x ≠ 0) : y = 0 := by
  have h1 := congrArg (bmul (binv x)) h
  rw [← bmul_assoc, bmul_comm (binv x) x, bmul_inv hx, one_bmul, bmul_zero] at h1
  exact h1
theorem binv_ne {x : UInt8} (h : x ≠ 0) : binv x ≠ 0 := by
  intro h0
  have := bmul_inv h
  rw [h0, bmul_zero] at this
  exact absurd this (by decide)

end Go.Proofs.Ytoaaplngdomdcaa
