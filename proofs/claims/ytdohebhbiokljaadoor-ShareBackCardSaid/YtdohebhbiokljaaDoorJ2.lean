/- Joined texts: B10, B10E, NumP, BackP, UebP, NumW, NumR, NumL, UebN. -/
import Derived.KernelRfl
import Derived.Lib.AtoiTie
import Derived.Lib.ItoaNum
import Derived.Lib.ItoaMem
import Derived.Test.YtdohebhbiokljaaDoorJ1
import Derived.Test.YtdohebhbiokljaaDoorShelf
import Derived.Lib.LaidTab
import Derived.Lib.QuietBelow
import Derived.Laws.BitsAll
import Derived.Test.YtdohebhbiokljaaDoorRows
import Derived.ProofKit
import Derived.Stop.LaidErr
import Derived.Deep.RegionHeld3
import Derived.Deep.DrawnRows
import Derived.Lib.ItoaLen
import Derived.Laws.Cover1
import Derived.Deep.RegionHeld

/- Plain lemmas on numbers, digits and letters: five bits a letter, eight bits a byte. No program in sight. -/
namespace Go.Proofs.YtdohebhbiokljaaDoor

theorem snoc_ind {α : Type} {p : List α → Prop} (h0 : p []) (h1 : ∀ l x, p l → p (l ++ [x])) (l : List α) : p l := by
  have h : ∀ l : List α, p l.reverse := fun l => by
    induction l with
    | nil => exact h0
    | cons x l ih => rw [List.reverse_cons]; exact h1 _ _ ih
  have := h l.reverse
  rwa [List.reverse_reverse] at this

/-- The number whose digits to a base are these. -/
def val (B : Nat) (l : List Nat) : Nat := l.foldl (fun a x => B * a + x) 0
theorem val_snoc (B : Nat) (l : List Nat) (x : Nat) : val B (l ++ [x]) = B * val B l + x := by simp [val]
@[simp] theorem val_nil (B : Nat) : val B [] = 0 := rfl
theorem mul_succ_le {B a b x : Nat} (h : a < b) (hx : x < B) : B * a + x < b * B := by
  have : B * (a + 1) ≤ B * b := Nat.mul_le_mul_left _ h
  rw [Nat.mul_add, Nat.mul_one] at this
  rw [Nat.mul_comm b B]
  omega
theorem val_lt (B : Nat) (l : List Nat) (h : ∀ x ∈ l, x < B) : val B l < B ^ l.length := by
  revert h
  refine snoc_ind (p := fun l => (∀ x ∈ l, x < B) → val B l < B ^ l.length) (by simp) (fun l x ih h => ?_) l
  rw [val_snoc, List.length_append]
  simp only [List.length_cons, List.length_nil, Nat.zero_add, Nat.pow_succ]
  exact mul_succ_le (ih fun y hy => h y (by simp [hy])) (h x (by simp))

/-- The last n digits of a number to a base. -/
def dig (B : Nat) : Nat → Nat → List Nat
  | 0, _ => []
  | n + 1, X => dig B n (X / B) ++ [X % B]
@[simp] theorem dig_length (B n X : Nat) : (dig B n X).length = n := by
  induction n generalizing X with
  | zero => rfl
  | succ n ih => simp [dig, ih]
theorem dig_val (B : Nat) (l : List Nat) (h : ∀ x ∈ l, x < B) : dig B l.length (val B l) = l := by
  revert h
  refine snoc_ind (p := fun l => (∀ x ∈ l, x < B) → dig B l.length (val B l) = l) (fun _ => rfl) (fun l x ih h => ?_) l
  have hx := h x (by simp)
  have hB : 0 < B := by omega
  rw [val_snoc, List.length_append]
  show dig B (l.length + 1) _ = _
  rw [dig, show (B * val B l + x) / B = val B l by rw [Nat.mul_add_div hB, Nat.div_eq_of_lt hx, Nat.add_zero], ih fun y hy => h y (by simp [hy]), Nat.mul_add_mod, Nat.mod_eq_of_lt hx]
theorem val_dig (B n X : Nat) : val B (dig B n X) = X % B ^ n := by
  induction n generalizing X with
  | zero => simp [dig, Nat.mod_one]
  | succ n ih => rw [dig, val_snoc, ih, Nat.pow_succ, Nat.mul_comm (B ^ n) B, Nat.mod_mul]; omega
theorem dig_lt (B n X : Nat) (hB : 0 < B) : ∀ x ∈ dig B n X, x < B := by
  induction n generalizing X with
  | zero => simp [dig]
  | succ n ih =>
    intro x hx
    rw [dig, List.mem_append] at hx
    rcases hx with hx | hx
    · exact ih _ x hx
    · rw [List.mem_singleton] at hx; subst hx; exact Nat.mod_lt _ hB
theorem dig_get (B n X i : Nat) (h : i < n) : (dig B n X)[i]? = some (X / B ^ (n - 1 - i) % B) := by
  induction n generalizing X with
  | zero => omega
  | succ n ih =>
    rw [dig]
    by_cases hi : i < n
    · rw [List.getElem?_append_left (by simpa using hi), ih _ hi, Nat.div_div_eq_div_mul, ← Nat.pow_succ', Nat.succ_eq_add_one, show n - 1 - i + 1 = n + 1 - 1 - i by omega]
    · have : i = n := by omega
      subst this
      rw [List.getElem?_append_right (by simp)]
      simp
theorem dig_mod (B n X : Nat) : dig B n (X % B ^ n) = dig B n X := by
  induction n generalizing X with
  | zero => rfl
  | succ n ih =>
    rw [dig, dig, Nat.pow_succ, Nat.mul_comm (B ^ n) B, Nat.mod_mul_right_div_self, ih, Nat.mod_mul_right_mod]
theorem dig_inj (B n X Y : Nat) (hX : X < B ^ n) (hY : Y < B ^ n) (h : dig B n X = dig B n Y) : X = Y := by
  have := congrArg (val B) h
  rwa [val_dig, val_dig, Nat.mod_eq_of_lt hX, Nat.mod_eq_of_lt hY] at this

/-- A number as 32 bits hold it. -/
@[irreducible] def m32 (n : Nat) : Nat := n % 4294967296
theorem m32_eq (n : Nat) : m32 n = n % 4294967296 := by unfold m32; rfl
theorem m32_lt (n : Nat) : m32 n < 4294967296 := by rw [m32_eq]; omega
theorem m32_byte (n x : Nat) (hx : x < 256) : m32 n * 256 % 4294967296 + x = m32 (256 * n + x) := by rw [m32_eq, m32_eq]; omega
theorem m32_five (n x : Nat) (hx : x < 32) : m32 n * 32 % 4294967296 + x = m32 (32 * n + x) := by rw [m32_eq, m32_eq]; omega
theorem m32_bits (n h c : Nat) (hh : h + c ≤ 32) : m32 n / 2 ^ h % 2 ^ c = n / 2 ^ h % 2 ^ c := by
  rw [m32_eq, show (4294967296 : Nat) = 2 ^ h * 2 ^ (32 - h) by rw [← Nat.pow_add, show h + (32 - h) = 32 by omega], Nat.mod_mul_right_div_self]
  exact Nat.mod_mod_of_dvd _ (Nat.pow_dvd_pow 2 (by omega))
theorem m32_low (n c : Nat) (hc : c ≤ 32) : m32 n % 2 ^ c = n % 2 ^ c := by
  have := m32_bits n 0 c (by omega)
  simpa using this
theorem or_low (a b k : Nat) (hb : b < 2 ^ k) : (a * 2 ^ k) ||| b = a * 2 ^ k + b := by
  rw [Nat.mul_comm, ← Nat.two_pow_add_eq_or_of_lt hb]
theorem or_byte32 (a b : Nat) (hb : b < 256) : (a * 256 % 4294967296) ||| b = a * 256 % 4294967296 + b := by
  have : a * 256 % 4294967296 = (a % 16777216) * 2 ^ 8 := by omega
  rw [this]; exact or_low _ _ 8 hb
theorem or_five32 (a b : Nat) (hb : b < 32) : (a * 32 % 4294967296) ||| b = a * 32 % 4294967296 + b := by
  have : a * 32 % 4294967296 = (a % 134217728) * 2 ^ 5 := by omega
  rw [this]; exact or_low _ _ 5 hb

/-! ### Letters -/
def letterN (d : Nat) : UInt8 := UInt8.ofNat (if d < 26 then 97 + d else 24 + d)
/-- What a letter stands for; none: it is no letter. -/
def worthN (c : UInt8) : Option Nat :=
  if 97 ≤ c.toNat ∧ c.toNat ≤ 122 then some (c.toNat - 97) else if 50 ≤ c.toNat ∧ c.toNat ≤ 55 then some (c.toNat - 50 + 26) else none
theorem letterN_toNat (d : Nat) (h : d < 32) : (letterN d).toNat = if d < 26 then 97 + d else 24 + d := by
  unfold letterN
  rw [UInt8.toNat_ofNat']
  split <;> omega
theorem worth_letter (d : Nat) (h : d < 32) : worthN (letterN d) = some d := by
  unfold worthN
  rw [letterN_toNat d h]
  by_cases h1 : d < 26
  · rw [if_pos h1, if_pos (by omega)]; congr 1; omega
  · rw [if_neg h1, if_neg (by omega), if_pos (by omega)]; congr 1; omega
theorem letter_worth (c : UInt8) (d : Nat) (h : worthN c = some d) : letterN d = c ∧ d < 32 := by
  unfold worthN at h
  split at h
  · injection h with h
    have hd : d < 32 := by omega
    refine ⟨UInt8.toNat_inj.1 ?_, hd⟩
    rw [letterN_toNat d hd, if_pos (by omega)]; omega
  · split at h
    · injection h with h
      have hd : d < 32 := by omega
      refine ⟨UInt8.toNat_inj.1 ?_, hd⟩
      rw [letterN_toNat d hd, if_neg (by omega)]; omega
    · cases h

def nats (b : List UInt8) : List Nat := b.map (·.toNat)
theorem nats_lt (b : List UInt8) : ∀ x ∈ nats b, x < 256 := by
  intro x hx
  obtain ⟨y, _, rfl⟩ := List.mem_map.1 hx
  exact y.toNat_lt
@[simp] theorem nats_length (b : List UInt8) : (nats b).length = b.length := by simp [nats]
theorem nats_snoc (b : List UInt8) (x : UInt8) : nats (b ++ [x]) = nats b ++ [x.toNat] := by simp [nats]
theorem nats_inj {a b : List UInt8} (h : nats a = nats b) : a = b := by
  unfold nats at h
  exact (List.map_inj_right (fun _ _ h => UInt8.toNat_inj.1 h)).1 h

/-- How many letters so many bytes have. -/
def lets (n : Nat) : Nat := (8 * n + 4) / 5
/-- The bytes as one number, moved up so far that the letters end with it. -/
def big (b : List UInt8) : Nat := val 256 (nats b) * 2 ^ (5 * lets b.length - 8 * b.length)
def letters (b : List UInt8) : List UInt8 := (dig 32 (lets b.length) (big b)).map letterN
@[simp] theorem letters_length (b : List UInt8) : (letters b).length = lets b.length := by simp [letters]

/-- The letters that are written when k bytes are read and e letters written. -/
def part (b : List UInt8) (k e : Nat) : List UInt8 := (dig 32 e (val 256 (nats (b.take k)) / 2 ^ (8 * k - 5 * e))).map letterN
@[simp] theorem part_length (b : List UInt8) (k e : Nat) : (part b k e).length = e := by simp [part]

theorem part_byte (b : List UInt8) (k e : Nat) (x : UInt8) (hx : b[k]? = some x) (he : 5 * e ≤ 8 * k) : part b (k + 1) e = part b k e := by
  unfold part
  congr 2
  rw [List.take_add_one, hx, show (some x).toList = [x] from rfl, nats_snoc, val_snoc, show 8 * (k + 1) - 5 * e = 8 + (8 * k - 5 * e) by omega, Nat.pow_add, ← Nat.div_div_eq_div_mul]
  congr 1
  have := x.toNat_lt
  omega
theorem part_letter (b : List UInt8) (k e : Nat) (he : 5 * (e + 1) ≤ 8 * k) :
    part b k (e + 1) = part b k e ++ [letterN (val 256 (nats (b.take k)) / 2 ^ (8 * k - 5 * (e + 1)) % 32)] := by
  unfold part
  rw [dig, List.map_append, Nat.div_div_eq_div_mul, show (32 : Nat) = 2 ^ 5 from rfl, ← Nat.pow_add, show 8 * k - 5 * (e + 1) + 5 = 8 * k - 5 * e by omega]
  rfl
theorem part_end (b : List UInt8) (e : Nat) (he : 5 * e ≤ 8 * b.length) (hd : 8 * b.length < 5 * (e + 1)) :
    letters b = if 8 * b.length = 5 * e then part b b.length e else part b b.length e ++ [letterN (val 256 (nats b) * 2 ^ (5 * (e + 1) - 8 * b.length) % 32)] := by
  unfold letters big part
  split
  · rename_i h
    have hl : lets b.length = e := by unfold lets; omega
    rw [hl, List.take_length]
    congr 2
    simp [h]
  · rename_i h
    have hl : lets b.length = e + 1 := by unfold lets; omega
    rw [hl, List.take_length, dig, List.map_append]
    congr 3
    generalize val 256 (nats b) = M
    have h1 : 8 * b.length - 5 * e + (5 * (e + 1) - 8 * b.length) = 5 := by omega
    rw [← Nat.mul_div_mul_right M (2 ^ (8 * b.length - 5 * e)) (Nat.two_pow_pos (5 * (e + 1) - 8 * b.length)), ← Nat.pow_add, h1]

/-! ### The same letters, bit by bit -/
/-- Bit n of the bytes, the first the highest; behind them noughts. -/
def bitAt (b : List UInt8) (n : Nat) : Nat := (b.getD (n / 8) 0).toNat / 2 ^ (7 - n % 8) % 2
theorem val_digit (l : List Nat) (B i : Nat) (h : ∀ x ∈ l, x < B) (hi : i < l.length) : l[i]? = some (val B l / B ^ (l.length - 1 - i) % B) := by
  have := dig_get B l.length (val B l) i hi
  rwa [dig_val B l h] at this
theorem bit_of_byte (M q r : Nat) (hr : r < 8) : M / 256 ^ q % 256 / 2 ^ (7 - r) % 2 = M / 2 ^ (8 * q + (7 - r)) % 2 := by
  rw [show (256 : Nat) = 2 ^ 8 from rfl, ← Nat.pow_mul, Nat.pow_add, ← Nat.div_div_eq_div_mul]
  generalize M / 2 ^ (8 * q) = Y
  have hs : (2 : Nat) ^ 8 = 2 ^ (7 - r) * 2 ^ (r + 1) := by rw [← Nat.pow_add]; congr 1; omega
  rw [hs, Nat.mod_mul_right_div_self, Nat.pow_succ, Nat.mul_comm (2 ^ r) 2, Nat.mod_mul_right_mod]
theorem bit_big (b : List UInt8) (n : Nat) (h : n < 5 * lets b.length) : (if n < 8 * b.length then bitAt b n else 0) = big b / 2 ^ (5 * lets b.length - 1 - n) % 2 := by
  unfold big
  have hl : 8 * b.length ≤ 5 * lets b.length := by unfold lets; omega
  split
  · rename_i hn
    unfold bitAt
    have hq : n / 8 < b.length := by omega
    have hv := val_digit (nats b) 256 (n / 8) (nats_lt b) (by simpa using hq)
    rw [List.getD_eq_getElem?_getD]
    have hg : (b[n / 8]?.getD 0).toNat = val 256 (nats b) / 256 ^ (b.length - 1 - n / 8) % 256 := by
      rw [nats_length] at hv
      unfold nats at hv
      rw [List.getElem?_map] at hv
      rw [List.getElem?_eq_getElem hq] at hv ⊢
      simpa [nats] using hv
    rw [hg, bit_of_byte _ _ _ (by omega)]
    have e : 5 * lets b.length - 1 - n = (5 * lets b.length - 8 * b.length) + (8 * (b.length - 1 - n / 8) + (7 - n % 8)) := by omega
    rw [e, Nat.pow_add 2 (5 * lets b.length - 8 * b.length) _, ← Nat.div_div_eq_div_mul, Nat.mul_div_cancel _ (Nat.two_pow_pos _)]
  · rename_i hn
    have e : 5 * lets b.length - 8 * b.length = (5 * lets b.length - 1 - n) + ((n - 8 * b.length) + 1) := by omega
    rw [e, Nat.pow_add, ← Nat.mul_assoc, Nat.mul_right_comm, Nat.mul_div_cancel _ (Nat.two_pow_pos _), Nat.pow_succ, ← Nat.mul_assoc, Nat.mul_mod_left]
theorem bits_step (T m k : Nat) (hm : 0 < m) : 2 * (T / 2 ^ m % 2 ^ k) + T / 2 ^ (m - 1) % 2 = T / 2 ^ (m - 1) % 2 ^ (k + 1) := by
  obtain ⟨p, rfl⟩ : ∃ p, m = p + 1 := ⟨m - 1, by omega⟩
  rw [Nat.add_sub_cancel, Nat.pow_succ, ← Nat.div_div_eq_div_mul, Nat.pow_succ, Nat.mul_comm (2 ^ k) 2, Nat.mod_mul]
  omega
theorem letters_get (b : List UInt8) (i : Nat) (h : i < lets b.length) : (letters b)[i]? = some (letterN (big b / 2 ^ (5 * lets b.length - 5 * i - 5) % 2 ^ 5)) := by
  unfold letters
  rw [List.getElem?_map, dig_get 32 _ _ i h, show (32 : Nat) = 2 ^ 5 from rfl, ← Nat.pow_mul]
  simp only [Option.map_some]
  congr 5
  omega

/-! ### Letters read -/
def worths (s : List UInt8) : List Nat := s.map fun c => (worthN c).getD 0
@[simp] theorem worths_length (s : List UInt8) : (worths s).length = s.length := by simp [worths]
theorem worth_lt (c : UInt8) : (worthN c).getD 0 < 32 := by
  rcases h : worthN c with _ | d
  · simp
  · exact (letter_worth c d h).2
theorem worths_lt (s : List UInt8) : ∀ x ∈ worths s, x < 32 := by
  intro x hx
  obtain ⟨c, _, rfl⟩ := List.mem_map.1 hx
  exact worth_lt c
theorem worths_snoc (s : List UInt8) (c : UInt8) : worths (s ++ [c]) = worths s ++ [(worthN c).getD 0] := by simp [worths]
/-- The place of the first sign that is no letter. -/
def bad (s : List UInt8) : Option Nat := s.findIdx? fun c => (worthN c).isNone
def good (s : List UInt8) (k : Nat) : Prop := ∀ (j : Nat) (c : UInt8), j < k → s[j]? = some c → (worthN c).isSome = true
theorem good_zero (s : List UInt8) : good s 0 := fun j c h => by omega
theorem good_succ (s : List UInt8) (k : Nat) (c : UInt8) (h : good s k) (hc : s[k]? = some c) (hw : (worthN c).isSome = true) : good s (k + 1) := fun j d hj hd => by
  by_cases hjk : j = k
  · subst hjk; rw [hc] at hd; injection hd with hd; subst hd; exact hw
  · exact h j d (by omega) hd
theorem bad_some (s : List UInt8) (k : Nat) (c : UInt8) (h : good s k) (hc : s[k]? = some c) (hw : worthN c = none) : bad s = some k := by
  obtain ⟨hk, he⟩ := List.getElem?_eq_some_iff.1 hc
  unfold bad
  rw [List.findIdx?_eq_some_iff_getElem]
  refine ⟨hk, by rw [he, hw]; rfl, fun j hj => ?_⟩
  have := h j _ hj (List.getElem?_eq_getElem (by omega))
  rcases hx : worthN (s[j]'(by omega)) with _ | d
  · rw [hx] at this; cases this
  · simp [hx]
theorem bad_none (s : List UInt8) (h : good s s.length) : bad s = none := by
  unfold bad
  rw [List.findIdx?_eq_none_iff]
  intro c hc
  obtain ⟨j, hj, rfl⟩ := List.getElem_of_mem hc
  have := h j _ hj (List.getElem?_eq_getElem hj)
  rcases hx : worthN s[j] with _ | d
  · rw [hx] at this; cases this
  · rfl

def bytesN (n X : Nat) : List UInt8 := (dig 256 n X).map UInt8.ofNat
@[simp] theorem bytesN_length (n X : Nat) : (bytesN n X).length = n := by simp [bytesN]
theorem nats_bytesN (n X : Nat) : nats (bytesN n X) = dig 256 n X := by
  unfold nats bytesN
  rw [List.map_map]
  conv => rhs; rw [← List.map_id (dig 256 n X)]
  refine List.map_congr_left fun x hx => ?_
  have := dig_lt 256 n X (by omega) x hx
  simp only [Function.comp, UInt8.toNat_ofNat', id]
  omega
theorem natsOf (l : List UInt8) : bytesN l.length (val 256 (nats l)) = l := by
  apply nats_inj
  rw [nats_bytesN]
  have := dig_val 256 (nats l) (nats_lt l)
  rwa [nats_length] at this

/-- What a text of letters is read as: the bytes, the place of the fault, the error. -/
def decode (s : List UInt8) : List UInt8 × Nat × Nat :=
  match bad s with
  | some i => ([], i, 100)
  | none => if 5 ≤ 5 * s.length % 8 ∨ val 32 (worths s) % 2 ^ (5 * s.length % 8) ≠ 0 then ([], s.length - 1, 101) else (bytesN (5 * s.length / 8) (val 32 (worths s) / 2 ^ (5 * s.length % 8)), 0, 0)

/-- The bytes that are written when k letters are read and e bytes written. -/
def part8 (s : List UInt8) (k e : Nat) : List UInt8 := bytesN e (val 32 (worths (s.take k)) / 2 ^ (5 * k - 8 * e))
@[simp] theorem part8_length (s : List UInt8) (k e : Nat) : (part8 s k e).length = e := by simp [part8]
theorem val_take_snoc (s : List UInt8) (k : Nat) (c : UInt8) (hc : s[k]? = some c) : val 32 (worths (s.take (k + 1))) = 32 * val 32 (worths (s.take k)) + (worthN c).getD 0 := by
  rw [List.take_add_one, hc, show (some c).toList = [c] from rfl, worths_snoc, val_snoc]
theorem part8_letter (s : List UInt8) (k e : Nat) (c : UInt8) (hc : s[k]? = some c) (he : 8 * e ≤ 5 * k) : part8 s (k + 1) e = part8 s k e := by
  unfold part8
  rw [val_take_snoc s k c hc, show 5 * (k + 1) - 8 * e = 5 + (5 * k - 8 * e) by omega, Nat.pow_add, ← Nat.div_div_eq_div_mul]
  congr 2
  have := worth_lt c
  omega
theorem part8_byte (s : List UInt8) (k e : Nat) (he : 8 * (e + 1) ≤ 5 * k) :
    part8 s k (e + 1) = part8 s k e ++ [UInt8.ofNat (val 32 (worths (s.take k)) / 2 ^ (5 * k - 8 * (e + 1)) % 256)] := by
  unfold part8 bytesN
  rw [dig, List.map_append, Nat.div_div_eq_div_mul, show (256 : Nat) = 2 ^ 8 from rfl, ← Nat.pow_add, show 5 * k - 8 * (e + 1) + 8 = 5 * k - 8 * e by omega]
  rfl
theorem part8_end (s : List UInt8) (e h : Nat) (he : 8 * e + h = 5 * s.length) (hh : h < 8) : part8 s s.length e = bytesN (5 * s.length / 8) (val 32 (worths s) / 2 ^ (5 * s.length % 8)) := by
  unfold part8
  rw [List.take_length, show 5 * s.length / 8 = e by omega, show 5 * s.length - 8 * e = h by omega, show 5 * s.length % 8 = h by omega]

/-! ### What the document asks for besides -/
theorem lets_back (L : Nat) : lets (5 * L / 8) = L ↔ 5 * L % 8 < 5 := by unfold lets; omega
theorem val_worths_lt (s : List UInt8) : val 32 (worths s) < 2 ^ (5 * s.length) := by
  have := val_lt 32 (worths s) (worths_lt s)
  rwa [worths_length, show (32 : Nat) = 2 ^ 5 from rfl, ← Nat.pow_mul] at this
theorem good_letters (s : List UInt8) (h : good s s.length) : (worths s).map letterN = s := by
  unfold worths
  rw [List.map_map]
  conv => rhs; rw [← List.map_id s]
  refine List.map_congr_left fun c hc => ?_
  obtain ⟨j, hj, rfl⟩ := List.getElem_of_mem hc
  have := h j _ hj (List.getElem?_eq_getElem hj)
  rcases hx : worthN s[j] with _ | d
  · rw [hx] at this; cases this
  · simp only [Function.comp, hx, Option.getD_some, id]
    exact (letter_worth _ d hx).1
theorem letterN_inj {a b : List Nat} (ha : ∀ x ∈ a, x < 32) (hb : ∀ x ∈ b, x < 32) (h : a.map letterN = b.map letterN) : a = b := by
  have h2 := congrArg (List.map fun c => (worthN c).getD 0) h
  rw [List.map_map, List.map_map] at h2
  have key : ∀ l : List Nat, (∀ x ∈ l, x < 32) → l.map ((fun c => (worthN c).getD 0) ∘ letterN) = l := fun l hl => by
    conv => rhs; rw [← List.map_id l]
    refine List.map_congr_left fun x hx => ?_
    simp only [Function.comp, worth_letter x (hl x hx), Option.getD_some, id]
  rwa [key a ha, key b hb] at h2
theorem big_bytesN (L N h : Nat) (hL : lets (5 * L / 8) = L) (hh : h = 5 * L % 8) (hN : N < 2 ^ (5 * L)) : big (bytesN (5 * L / 8) (N / 2 ^ h)) = N - N % 2 ^ h := by
  unfold big
  rw [nats_bytesN, bytesN_length, hL, val_dig, show (256 : Nat) = 2 ^ 8 from rfl, ← Nat.pow_mul, Nat.mod_eq_of_lt, show 5 * L - 8 * (5 * L / 8) = h by omega]
  · have := Nat.div_add_mod N (2 ^ h)
    rw [Nat.mul_comm] at this
    omega
  · rw [Nat.div_lt_iff_lt_mul (Nat.two_pow_pos _), ← Nat.pow_add, show 8 * (5 * L / 8) + h = 5 * L by omega]
    exact hN
theorem letters_back (s : List UInt8) (hg : good s s.length) (h5 : 5 * s.length % 8 < 5) :
    letters (bytesN (5 * s.length / 8) (val 32 (worths s) / 2 ^ (5 * s.length % 8))) = s ↔ val 32 (worths s) % 2 ^ (5 * s.length % 8) = 0 := by
  have hL := (lets_back s.length).2 h5
  have hN := val_worths_lt s
  unfold letters
  rw [bytesN_length, hL, big_bytesN s.length _ _ hL rfl hN]
  have hs := good_letters s hg
  have hd := dig_val 32 (worths s) (worths_lt s)
  rw [worths_length] at hd
  constructor
  · intro h
    have h1 : (dig 32 s.length (val 32 (worths s) - val 32 (worths s) % 2 ^ (5 * s.length % 8))).map letterN = (worths s).map letterN := by rw [h, hs]
    have h2 := letterN_inj (dig_lt _ _ _ (by omega)) (worths_lt s) h1
    rw [← hd] at h2
    rw [hd] at h2
    have e32 : (32 : Nat) ^ s.length = 2 ^ (5 * s.length) := by rw [Nat.pow_mul]
    have h3 := dig_inj 32 s.length _ _ (by rw [e32]; omega) (by rw [e32]; exact hN) (h2.trans hd.symm)
    have := Nat.mod_le (val 32 (worths s)) (2 ^ (5 * s.length % 8))
    omega
  · intro h
    rw [h, Nat.sub_zero, hd, hs]

/-- Bit n of the letters. -/
def bit5 (s : List UInt8) (n : Nat) : Nat := (worthN (s.getD (n / 5) 0)).getD 0 / 2 ^ (4 - n % 5) % 2
theorem bit5_val (s : List UInt8) (n : Nat) (h : n < 5 * s.length) : bit5 s n = val 32 (worths s) / 2 ^ (5 * s.length - 1 - n) % 2 := by
  have hq : n / 5 < s.length := by omega
  have hv := val_digit (worths s) 32 (n / 5) (worths_lt s) (by simpa using hq)
  unfold bit5
  rw [List.getD_eq_getElem?_getD, List.getElem?_eq_getElem hq, Option.getD_some]
  have hg : (worthN s[n / 5]).getD 0 = val 32 (worths s) / 32 ^ (s.length - 1 - n / 5) % 32 := by
    rw [worths_length] at hv
    have e : (worths s)[n / 5]? = some ((worthN s[n / 5]).getD 0) := by
      unfold worths
      rw [List.getElem?_map, List.getElem?_eq_getElem hq]; rfl
    rw [e] at hv
    injection hv
  rw [hg]
  generalize val 32 (worths s) = N
  rw [show (32 : Nat) = 2 ^ 5 from rfl, ← Nat.pow_mul, show 5 * s.length - 1 - n = 5 * (s.length - 1 - n / 5) + (4 - n % 5) by omega, Nat.pow_add 2 _ (4 - n % 5), ← Nat.div_div_eq_div_mul]
  generalize N / 2 ^ (5 * (s.length - 1 - n / 5)) = Y
  have hs : (2 : Nat) ^ 5 = 2 ^ (4 - n % 5) * 2 ^ (n % 5 + 1) := by rw [← Nat.pow_add]; congr 1; omega
  rw [hs, Nat.mod_mul_right_div_self, Nat.pow_succ, Nat.mul_comm (2 ^ (n % 5)) 2, Nat.mod_mul_right_mod]
theorem bytesN_get (n X i : Nat) (h : i < n) : (bytesN n X)[i]? = some (UInt8.ofNat (X / 2 ^ (8 * (n - 1 - i)) % 2 ^ 8)) := by
  unfold bytesN
  rw [List.getElem?_map, dig_get 256 _ _ i h, show (256 : Nat) = 2 ^ 8 from rfl, ← Nat.pow_mul]
  rfl

/-! ### There and back -/
theorem decode_letters (b : List UInt8) : decode (letters b) = (b, 0, 0) := by
  have hgood : good (letters b) (letters b).length := fun j c hj hc => by
    unfold letters at hc
    rw [List.getElem?_map] at hc
    obtain ⟨d, hd, rfl⟩ := Option.map_eq_some_iff.1 hc
    rw [worth_letter d (dig_lt 32 _ _ (by omega) d (List.mem_of_getElem? hd))]
    rfl
  have hw : worths (letters b) = dig 32 (lets b.length) (big b) := by
    unfold worths letters
    rw [List.map_map]
    conv => rhs; rw [← List.map_id (dig 32 _ _)]
    refine List.map_congr_left fun x hx => ?_
    simp only [Function.comp, worth_letter x (dig_lt 32 _ _ (by omega) x hx), Option.getD_some, id]
  have hbig : big b < 32 ^ lets b.length := by
    have h1 := val_lt 256 (nats b) (nats_lt b)
    rw [nats_length] at h1
    unfold big
    rw [show (32 : Nat) = 2 ^ 5 from rfl, ← Nat.pow_mul]
    have h2 : 5 * lets b.length = 8 * b.length + (5 * lets b.length - 8 * b.length) := by unfold lets; omega
    rw [h2, Nat.pow_add, ← h2, Nat.pow_mul]
    exact Nat.mul_lt_mul_of_pos_right h1 (Nat.two_pow_pos _)
  unfold decode
  rw [bad_none _ hgood, letters_length, hw, val_dig, Nat.mod_eq_of_lt hbig]
  have hh : 5 * lets b.length % 8 = 5 * lets b.length - 8 * b.length := by unfold lets; omega
  have h5 : 5 * lets b.length % 8 < 5 := by rw [hh]; unfold lets; omega
  have hn : 5 * lets b.length / 8 = b.length := by unfold lets; omega
  simp only []
  rw [hh, hn, if_neg]
  · unfold big
    rw [Nat.mul_div_cancel _ (Nat.two_pow_pos _), natsOf]
  · unfold big
    rw [Nat.mul_mod_left]
    omega
theorem letters_decode (s l : List UInt8) (i : Nat) (h : decode s = (l, i, 0)) : letters l = s := by
  unfold decode at h
  rcases hb : bad s with _ | j
  · rw [hb] at h
    simp only [] at h
    have hg : good s s.length := by
      intro j c hj hc
      unfold bad at hb
      rw [List.findIdx?_eq_none_iff] at hb
      have := hb c (List.mem_of_getElem? hc)
      rcases hx : worthN c with _ | d
      · rw [hx] at this; cases this
      · rfl
    split at h
    · cases h
    · rename_i hn
      injection h with h1 h2
      subst h1
      exact (letters_back s hg (by omega)).2 (by omega)
  · rw [hb] at h
    cases h

end Go.Proofs.YtdohebhbiokljaaDoor

/- Plain lemmas: names escaped and read again. -/
namespace Go.Proofs.YtdohebhbiokljaaDoor

/-- A byte that stands for itself. -/
def plainN (n : Nat) : Bool := (97 ≤ n && n ≤ 122) || (65 ≤ n && n ≤ 90) || (48 ≤ n && n ≤ 57) || n == 45 || n == 46 || n == 95
def sortN (n : Nat) : Nat := if plainN n then 1 else if n = 37 then 2 else 0
def hexN (d : Nat) : UInt8 := UInt8.ofNat (if d < 10 then 48 + d else 87 + d)
/-- What a hexadecimal digit is worth; none: it is none. -/
def digN (n : Nat) : Option Nat := if 48 ≤ n ∧ n ≤ 57 then some (n - 48) else if 97 ≤ n ∧ n ≤ 102 then some (n - 87) else none
theorem hexN_toNat (d : Nat) (h : d < 16) : (hexN d).toNat = if d < 10 then 48 + d else 87 + d := by
  unfold hexN; rw [UInt8.toNat_ofNat']; split <;> omega
theorem dig_hex (d : Nat) (h : d < 16) : digN (hexN d).toNat = some d := by
  unfold digN
  rw [hexN_toNat d h]
  by_cases h1 : d < 10
  · rw [if_pos h1, if_pos (by omega)]; congr 1; omega
  · rw [if_neg h1, if_neg (by omega), if_pos (by omega)]; congr 1; omega
theorem dig_lt16 (n d : Nat) (h : digN n = some d) : d < 16 := by
  unfold digN at h
  split at h
  · injection h with h; omega
  · split at h
    · injection h with h; omega
    · cases h
theorem hex_dig (c : UInt8) (d : Nat) (h : digN c.toNat = some d) : hexN d = c := by
  have hd := dig_lt16 _ _ h
  apply UInt8.toNat_inj.1
  rw [hexN_toNat d hd]
  unfold digN at h
  split at h
  · injection h with h; rw [if_pos (by omega)]; omega
  · split at h
    · injection h with h; rw [if_neg (by omega)]; omega
    · cases h

def esc1 (c : UInt8) : List UInt8 := if plainN c.toNat then [c] else [37, hexN (c.toNat / 16), hexN (c.toNat % 16)]
def escBody (b : List UInt8) : List UInt8 := b.flatMap esc1
def escape (b : List UInt8) : List UInt8 := if b = [] then [37] else escBody b
theorem escBody_snoc (b : List UInt8) (c : UInt8) : escBody (b ++ [c]) = escBody b ++ esc1 c := by simp [escBody]
theorem esc1_len (c : UInt8) : (esc1 c).length ≤ 3 := by unfold esc1; split <;> simp
theorem escBody_len (b : List UInt8) : (escBody b).length ≤ 3 * b.length := by
  induction b with
  | nil => simp [escBody]
  | cons c b ih =>
    have h1 := esc1_len c
    unfold escBody at *
    rw [List.flatMap_cons, List.length_append, List.length_cons]
    omega

/-- What a text from a place on is read as, behind what was read so far. -/
def unescL : List UInt8 → Nat → List UInt8 → List UInt8 × Nat × Nat
  | [], _, acc => (acc, 0, 0)
  | c :: r, i, acc =>
    if plainN c.toNat then unescL r (i + 1) (acc ++ [c])
    else if c.toNat = 37 then
      match r with
      | h :: l :: r' =>
        match digN h.toNat, digN l.toNat with
        | some x, some y => if plainN (16 * x + y) then ([], i, 103) else unescL r' (i + 3) (acc ++ [UInt8.ofNat (16 * x + y)])
        | _, _ => ([], i, 103)
      | _ => ([], i, 103)
    else ([], i, 103)
def unescape (s : List UInt8) : List UInt8 × Nat × Nat := if s = [37] then ([], 0, 0) else if s = [] then ([], 0, 103) else unescL s 0 []

theorem unescL_nil (i : Nat) (acc : List UInt8) : unescL [] i acc = (acc, 0, 0) := by rw [unescL]
theorem unescL_plain (c : UInt8) (r : List UInt8) (i : Nat) (acc : List UInt8) (h : plainN c.toNat = true) : unescL (c :: r) i acc = unescL r (i + 1) (acc ++ [c]) := by
  rw [unescL.eq_def]; simp only [h, if_true]
theorem unescL_other (c : UInt8) (r : List UInt8) (i : Nat) (acc : List UInt8) (h : plainN c.toNat = false) (h2 : c.toNat ≠ 37) : unescL (c :: r) i acc = ([], i, 103) := by
  rw [unescL.eq_def]; simp only [h, h2, if_false, Bool.false_eq_true]
theorem plain37 : plainN 37 = false := by decide
theorem unescL_short (c : UInt8) (r : List UInt8) (i : Nat) (acc : List UInt8) (h2 : c.toNat = 37) (h3 : r.length < 2) : unescL (c :: r) i acc = ([], i, 103) := by
  rw [unescL.eq_def]
  simp only [h2, plain37, Bool.false_eq_true, if_false, if_true]
  rcases r with _ | ⟨a, _ | ⟨b, r⟩⟩
  · rfl
  · rfl
  · simp only [List.length_cons] at h3; omega
theorem unescL_pair (c x y : UInt8) (r : List UInt8) (i : Nat) (acc : List UInt8) (h2 : c.toNat = 37) : unescL (c :: x :: y :: r) i acc =
    match digN x.toNat, digN y.toNat with
    | some x, some y => if plainN (16 * x + y) then ([], i, 103) else unescL r (i + 3) (acc ++ [UInt8.ofNat (16 * x + y)])
    | _, _ => ([], i, 103) := by
  rw [unescL.eq_def]
  simp only [h2, plain37, Bool.false_eq_true, if_false, if_true]

theorem unescL_escBody (b : List UInt8) : ∀ (i : Nat) (acc : List UInt8), unescL (escBody b) i acc = (acc ++ b, 0, 0) := by
  induction b with
  | nil => intro i acc; simp [escBody, unescL_nil]
  | cons c b ih =>
    intro i acc
    have e : escBody (c :: b) = esc1 c ++ escBody b := by simp [escBody]
    rw [e]
    unfold esc1
    by_cases h : plainN c.toNat = true
    · rw [if_pos h, List.singleton_append, unescL_plain _ _ _ _ h, ih]
      simp
    · have hc := c.toNat_lt
      rw [if_neg h]
      show unescL (37 :: hexN (c.toNat / 16) :: hexN (c.toNat % 16) :: escBody b) i acc = _
      rw [unescL_pair _ _ _ _ _ _ (by rfl), dig_hex _ (by omega), dig_hex _ (by omega)]
      simp only []
      rw [show 16 * (c.toNat / 16) + c.toNat % 16 = c.toNat by omega, if_neg h, ih, UInt8.ofNat_toNat]
      simp
theorem escape_ne (b : List UInt8) (hb : b ≠ []) : escBody b ≠ [37] ∧ escBody b ≠ [] := by
  rcases b with _ | ⟨c, b⟩
  · exact absurd rfl hb
  · have e : escBody (c :: b) = esc1 c ++ escBody b := by simp [escBody]
    rw [e]
    unfold esc1
    by_cases h : plainN c.toNat = true
    · rw [if_pos h]
      constructor
      · intro hh
        simp only [List.cons_append, List.cons.injEq] at hh
        rw [hh.1] at h
        exact absurd h (by decide)
      · simp
    · rw [if_neg h]; simp
theorem unescape_escape (b : List UInt8) : unescape (escape b) = (b, 0, 0) := by
  unfold escape unescape
  by_cases h : b = []
  · subst h; rfl
  · rw [if_neg h, if_neg (escape_ne b h).1, if_neg (escape_ne b h).2, unescL_escBody]
    simp
theorem escBody_unescL (n : Nat) : ∀ (s : List UInt8) (i : Nat) (acc l : List UInt8) (j : Nat), s.length ≤ n → unescL s i acc = (l, j, 0) → ∃ m, l = acc ++ m ∧ escBody m = s := by
  induction n with
  | zero =>
    intro s i acc l j hn h
    have : s = [] := List.eq_nil_of_length_eq_zero (by omega)
    subst this
    rw [unescL_nil] at h
    injection h with h
    exact ⟨[], by simp [h], rfl⟩
  | succ n ih =>
    intro s i acc l j hn h
    rcases s with _ | ⟨c, r⟩
    · rw [unescL_nil] at h
      injection h with h
      exact ⟨[], by simp [h], rfl⟩
    · simp only [List.length_cons] at hn
      by_cases hp : plainN c.toNat = true
      · rw [unescL_plain _ _ _ _ hp] at h
        obtain ⟨m, h1, h2⟩ := ih r _ _ l j (by omega) h
        refine ⟨c :: m, by rw [h1]; simp, ?_⟩
        have e : escBody (c :: m) = esc1 c ++ escBody m := by simp [escBody]
        rw [e, h2]
        unfold esc1
        rw [if_pos hp]; rfl
      · by_cases h37 : c.toNat = 37
        · rcases r with _ | ⟨x, _ | ⟨y, r⟩⟩
          · rw [unescL_short _ _ _ _ h37 (by simp)] at h; cases h
          · rw [unescL_short _ _ _ _ h37 (by simp)] at h; cases h
          · rw [unescL_pair _ _ _ _ _ _ h37] at h
            rcases hx : digN x.toNat with _ | a
            · rw [hx] at h; cases h
            · rcases hy : digN y.toNat with _ | b
              · rw [hx, hy] at h; cases h
              · rw [hx, hy] at h
                simp only [] at h
                have ha := dig_lt16 _ _ hx
                have hb := dig_lt16 _ _ hy
                by_cases hq : plainN (16 * a + b) = true
                · rw [if_pos hq] at h; cases h
                · rw [if_neg hq] at h
                  simp only [List.length_cons] at hn
                  obtain ⟨m, h1, h2⟩ := ih r _ _ l j (by omega) h
                  refine ⟨UInt8.ofNat (16 * a + b) :: m, by rw [h1]; simp, ?_⟩
                  have e : escBody (UInt8.ofNat (16 * a + b) :: m) = esc1 (UInt8.ofNat (16 * a + b)) ++ escBody m := by simp [escBody]
                  have ht : (UInt8.ofNat (16 * a + b)).toNat = 16 * a + b := by rw [UInt8.toNat_ofNat']; omega
                  rw [e, h2]
                  unfold esc1
                  rw [ht, if_neg hq, show (16 * a + b) / 16 = a by omega, show (16 * a + b) % 16 = b by omega, hex_dig x a hx, hex_dig y b hy]
                  have hc : c = 37 := UInt8.toNat_inj.1 h37
                  rw [hc]; rfl
        · rw [unescL_other _ _ _ _ (by simpa using hp) h37] at h; cases h
theorem escape_unescape (s l : List UInt8) (i : Nat) (h : unescape s = (l, i, 0)) : escape l = s := by
  unfold unescape at h
  by_cases h1 : s = [37]
  · rw [if_pos h1] at h; injection h with h; subst h; rw [h1]; rfl
  · rw [if_neg h1] at h
    by_cases h2 : s = []
    · rw [if_pos h2] at h; cases h
    · rw [if_neg h2] at h
      obtain ⟨m, e1, e2⟩ := escBody_unescL s.length s 0 [] l i (Nat.le_refl _) h
      simp only [List.nil_append] at e1
      subst e1
      unfold escape
      rw [if_neg, e2]
      rintro rfl
      exact h2 e2.symm

end Go.Proofs.YtdohebhbiokljaaDoor

/- Decimal numbers in plain words: the one text of a number, and how it is read. -/
namespace Go.Proofs.YtdohebhbiokljaaDoor
open Go.Lib

theorem decFrom_snoc (l : List UInt8) (b : UInt8) : ∀ acc, decFrom acc (l ++ [b]) = (decFrom acc l).bind fun n => (digitVal b).map fun d => n * 10 + d := by
  induction l with
  | nil => intro acc; simp only [List.nil_append, decFrom]; cases digitVal b <;> rfl
  | cons c l ih =>
    intro acc
    simp only [List.cons_append, decFrom]
    cases digitVal c with
    | none => rfl
    | some d => exact ih _
theorem digit_of {d : Nat} (h : d < 10) : digitVal (UInt8.ofNat (48 + d)) = some d := by
  have e : (UInt8.ofNat (48 + d)).toNat = 48 + d := by rw [UInt8.toNat_ofNat']; omega
  unfold digitVal
  rw [e, if_pos (by omega)]
  congr
  omega
theorem digit_back {b : UInt8} {d : Nat} (h : digitVal b = some d) : d < 10 ∧ b = UInt8.ofNat (48 + d) := by
  obtain ⟨h1, h2, h3⟩ := digitVal_eq h
  refine ⟨by omega, UInt8.toNat_inj.1 ?_⟩
  rw [UInt8.toNat_ofNat']
  omega
theorem decFrom_digits (x : Nat) : decFrom 0 (decDigits x) = some x := by
  induction x using Nat.strongRecOn with
  | _ x ih =>
    rw [decDigits]
    split
    · rename_i h
      simp only [decFrom, digit_of h]
      simp
    · rename_i h
      rw [decFrom_snoc, ih (x / 10) (by omega), digit_of (Nat.mod_lt _ (by omega))]
      simp only [Option.bind_some, Option.map_some]
      congr
      omega
theorem digits_ne (x : Nat) : decDigits x ≠ [] := by
  rw [decDigits]
  split
  · simp
  · simp
theorem digits_head {x : Nat} (h : 1 ≤ x) : (decDigits x)[0]? ≠ some 48 := by
  induction x using Nat.strongRecOn with
  | _ x ih =>
    rw [decDigits]
    split
    · rename_i hx
      simp only [List.getElem?_cons_zero, ne_eq, Option.some.injEq]
      intro e
      have := congrArg UInt8.toNat e
      rw [UInt8.toNat_ofNat'] at this
      have h48 : (48 : UInt8).toNat = 48 := rfl
      rw [h48] at this
      omega
    · rename_i hx
      have hl : 0 < (decDigits (x / 10)).length := List.length_pos_iff.2 (digits_ne _)
      rw [List.getElem?_append_left hl]
      exact ih (x / 10) (by omega) (by omega)
theorem digits_length_le : ∀ (k x : Nat), x < 10 ^ (k + 1) → (decDigits x).length ≤ k + 1 := by
  intro k
  induction k with
  | zero =>
    intro x h
    rw [decDigits, dif_pos (by simpa using h)]
    simp
  | succ k ih =>
    intro x h
    rw [decDigits]
    split
    · simp
    · have := ih (x / 10) (by rw [Nat.pow_succ] at h; omega)
      simp only [List.length_append, List.length_singleton]
      omega
theorem digits_long {x : Nat} (h : 1 < (decDigits x).length) : 10 ≤ x := by
  rcases Nat.lt_or_ge x 10 with h1 | h1
  · rw [decDigits, dif_pos h1] at h
    simp at h
  · exact h1

/-- How the document reads a text, its bound aside. -/
def rdv (l : List UInt8) : Option Nat := if l.length = 0 ∨ 19 < l.length ∨ (1 < l.length ∧ l[0]? = some 48) then none else decFrom 0 l
theorem rdv_digits {x : Nat} (h : x < 10000000000000000000) : rdv (decDigits x) = some x := by
  unfold rdv
  have h1 := digits_length_le 18 x h
  rw [if_neg, decFrom_digits]
  rintro (h0 | h0 | ⟨h0, h2⟩)
  · exact digits_ne x (List.eq_nil_of_length_eq_zero h0)
  · omega
  · exact digits_head (by have := digits_long h0; omega) h2
theorem digits_of (n : Nat) : ∀ (l : List UInt8) (x : Nat), l.length = n + 1 → (1 < l.length → l[0]? ≠ some 48) → decFrom 0 l = some x → decDigits x = l := by
  induction n with
  | zero =>
    intro l x hl _ hd
    match l, hl with
    | [b], _ =>
      simp only [decFrom] at hd
      cases hb : digitVal b with
      | none => rw [hb] at hd; cases hd
      | some d =>
        rw [hb] at hd
        obtain ⟨h1, h2⟩ := digit_back hb
        simp at hd
        subst hd
        rw [decDigits, dif_pos h1, h2]
  | succ n ih =>
    intro l x hl h0 hd
    have hne : l ≠ [] := by intro e; rw [e] at hl; simp at hl
    have hs := List.dropLast_concat_getLast hne
    generalize l.getLast hne = b at hs
    have hml : l.dropLast.length = n + 1 := by rw [List.length_dropLast, hl]; rfl
    generalize l.dropLast = m at hs hml
    subst hs
    rw [decFrom_snoc] at hd
    cases hm : decFrom 0 m with
    | none => rw [hm] at hd; cases hd
    | some y =>
      rw [hm] at hd
      cases hb : digitVal b with
      | none => rw [hb] at hd; cases hd
      | some d =>
        rw [hb] at hd
        simp only [Option.bind_some, Option.map_some, Option.some.injEq] at hd
        obtain ⟨h1, h2⟩ := digit_back hb
        have hm0 : (m ++ [b])[0]? = m[0]? := List.getElem?_append_left (by omega)
        have hh : m[0]? ≠ some 48 := by rw [← hm0]; exact h0 (by rw [List.length_append, hml]; simp)
        have hy := ih m y hml (fun _ => hh) hm
        have hy1 : 1 ≤ y := by
          rcases Nat.eq_zero_or_pos y with h | h
          · exfalso
            rw [h, decDigits, dif_pos (by omega)] at hy
            rw [← hy] at hh
            exact hh rfl
          · exact h
        rw [← hd, decDigits, dif_neg (by omega), show (y * 10 + d) / 10 = y by omega, show (y * 10 + d) % 10 = d by omega, hy, h2]
theorem rdv_some {l : List UInt8} {x : Nat} (h : rdv l = some x) : l = decDigits x ∧ x < 10000000000000000000 := by
  unfold rdv at h
  split at h
  · cases h
  · rename_i hc
    have h1 : ¬ l.length = 0 := fun e => hc (.inl e)
    have h2 : ¬ 19 < l.length := fun e => hc (.inr (.inl e))
    have h3 : 1 < l.length → l[0]? ≠ some 48 := fun e f => hc (.inr (.inr ⟨e, f⟩))
    refine ⟨(digits_of (l.length - 1) l x (by omega) h3 h).symm, ?_⟩
    have := decFrom_lt l 0 x h
    have hp : 10 ^ l.length ≤ 10 ^ 19 := Nat.pow_le_pow_right (by decide) (by omega)
    have e19 : (10 : Nat) ^ 19 = 10000000000000000000 := by decide
    omega

theorem decFrom_ge : ∀ (l : List UInt8) (acc n : Nat), decFrom acc l = some n → acc ≤ n := by
  intro l
  induction l with
  | nil => intro acc n h; simp only [decFrom, Option.some.injEq] at h; omega
  | cons b l ih =>
    intro acc n h
    simp only [decFrom] at h
    cases hb : digitVal b with
    | none => rw [hb] at h; cases h
    | some d =>
      rw [hb] at h
      have := ih _ _ h
      omega
theorem parse_of : ∀ (l : List UInt8) (acc n : Nat), decFrom acc l = some n → n < 18446744073709551616 → parseUint10 acc l = .ok n := by
  intro l
  induction l with
  | nil => intro acc n h _; simp only [decFrom, Option.some.injEq] at h; simp only [parseUint10, h]
  | cons b l ih =>
    intro acc n h hn
    simp only [decFrom] at h
    cases hb : digitVal b with
    | none => rw [hb] at h; cases h
    | some d =>
      rw [hb] at h
      obtain ⟨h1, h2, h3⟩ := digitVal_eq hb
      have hge := decFrom_ge _ _ _ h
      simp only [parseUint10]
      rw [if_pos ⟨h1, h2⟩, if_neg (by omega), if_neg (by omega), ← h3]
      exact ih _ _ h hn
theorem atoi_digits {x : Nat} (h : x ≤ 9223372036854775807) : atoiAll (decDigits x) = .ok (x : Int) := by
  have hd := decFrom_digits x
  have hp := parse_of _ 0 x hd (by omega)
  have hne := digits_ne x
  generalize decDigits x = l at *
  match l, hne with
  | c :: r, _ =>
    simp only [decFrom] at hd
    cases hb : digitVal c with
    | none => rw [hb] at hd; cases hd
    | some d =>
      obtain ⟨h1, h2, _⟩ := digitVal_eq hb
      simp only [atoiAll]
      rw [if_neg (by omega)]
      have hm : parseMag (c :: r) = .ok x := by
        unfold parseMag
        rw [if_neg (by simp)]
        exact hp
      rw [hm]
      simp only
      rw [if_neg (by omega), if_neg (by omega), if_neg (by omega)]

/-- How a text is read, up to a bound. -/
def rd (l : List UInt8) (most : Int) : Option Nat := match rdv l with
  | some x => if (x : Int) ≤ most then some x else none
  | none => none
theorem rd_ok {l : List UInt8} {most v : Int} (h0 : 0 ≤ v) (h1 : v ≤ most) (hm : most ≤ 9223372036854775807) (hl : l = itoa v) : rd l most = some v.toNat := by
  obtain ⟨x, rfl⟩ : ∃ x : Nat, v = (x : Int) := ⟨v.toNat, by omega⟩
  rw [itoa_nonneg] at hl
  unfold rd
  rw [hl, rdv_digits (by omega)]
  simp only
  rw [if_pos h1]
  rfl
theorem rd_some {l : List UInt8} {most : Int} {x : Nat} (h : rd l most = some x) (hm : most ≤ 9223372036854775807) : atoiAll l = .ok (x : Int) ∧ (x : Int) ≤ most ∧ l = itoa (x : Int) := by
  unfold rd at h
  cases hr : rdv l with
  | none => rw [hr] at h; cases h
  | some y =>
    rw [hr] at h
    simp only at h
    split at h
    · rename_i hy
      injection h with h
      subst h
      obtain ⟨h1, _⟩ := rdv_some hr
      refine ⟨?_, hy, by rw [itoa_nonneg]; exact h1⟩
      rw [h1]
      exact atoi_digits (by omega)
    · cases h
end Go.Proofs.YtdohebhbiokljaaDoor

/- Plain facts of letters, escaped names and numbers: none has a colon or a stroke, and when they are empty. -/
namespace Go.Proofs.YtdohebhbiokljaaDoor
open Go.Lib

/-- Neither a colon nor a stroke. -/
def okc (c : UInt8) : Bool := c.toNat != 58 && c.toNat != 47
theorem okc_all : ∀ c : Fin 256, (worthN (UInt8.ofNat c.1)).isSome = true → okc (UInt8.ofNat c.1) = true := by decide +kernel
theorem okc_letter (d : Nat) (h : d < 32) : okc (letterN d) = true := by
  have := letterN_toNat d h
  unfold okc
  rw [this]
  split <;> simp <;> omega
theorem letters_okc (l : List UInt8) : ∀ c ∈ letters l, okc c = true := by
  intro c hc
  unfold letters at hc
  rw [List.mem_map] at hc
  obtain ⟨d, hd, rfl⟩ := hc
  exact okc_letter d (dig_lt 32 _ _ (by decide) d hd)
theorem letters_nil (l : List UInt8) : letters l = [] ↔ l.length = 0 := by
  rw [← List.length_eq_zero_iff, letters_length]
  unfold lets
  omega
theorem okc_plain (c : UInt8) (h : plainN c.toNat = true) : okc c = true := by
  unfold plainN at h
  unfold okc
  simp only [Bool.or_eq_true, Bool.and_eq_true, decide_eq_true_eq, beq_iff_eq] at h
  simp only [Bool.and_eq_true, bne_iff_ne]
  omega
theorem okc_hex (d : Nat) (h : d < 16) : okc (hexN d) = true := by
  have := hexN_toNat d h
  unfold okc
  rw [this]
  split <;> simp <;> omega
theorem escape_okc (l : List UInt8) : ∀ c ∈ escape l, okc c = true := by
  intro c hc
  unfold escape at hc
  split at hc
  · simp at hc; subst hc; decide
  · unfold escBody at hc
    rw [List.mem_flatMap] at hc
    obtain ⟨x, _, hx⟩ := hc
    unfold esc1 at hx
    have h256 : x.toNat < 256 := x.toNat_lt
    split at hx
    · rename_i hp
      simp at hx; subst hx; exact okc_plain _ hp
    · simp at hx
      rcases hx with rfl | rfl | rfl
      · decide
      · exact okc_hex _ (by omega)
      · exact okc_hex _ (by omega)
theorem escape_nil (l : List UInt8) : escape l ≠ [] := by
  unfold escape
  split
  · simp
  · rename_i h
    exact (escape_ne l h).2
theorem itoa_okc (x : Int) (h : 0 ≤ x) : ∀ c ∈ itoa x, okc c = true := by
  obtain ⟨n, rfl⟩ := Int.eq_ofNat_of_zero_le h
  rw [itoa_nonneg]
  intro c hc
  have hd := decFrom_digits n
  have : ∀ (l : List UInt8) (a b : Nat), decFrom a l = some b → ∀ c ∈ l, okc c = true := by
    intro l
    induction l with
    | nil => intro a b _ c hc; cases hc
    | cons y r ih =>
      intro a b hab c hc
      unfold decFrom at hab
      cases hy : digitVal y with
      | none => simp [hy] at hab
      | some d =>
        simp only [hy] at hab
        rcases List.mem_cons.1 hc with rfl | hc
        · obtain ⟨hd, rfl⟩ := digit_back hy
          unfold okc
          rw [UInt8.toNat_ofNat']
          simp
          omega
        · exact ih _ _ hab c hc
  exact this _ _ _ hd c hc
theorem itoa_nil (x : Int) (h : 0 ≤ x) : itoa x ≠ [] := by
  obtain ⟨n, rfl⟩ := Int.eq_ofNat_of_zero_le h
  rw [itoa_nonneg]
  exact digits_ne n
/-- A number's text, read with the number itself as the bound, and with a bound below it. -/
theorem rd_self (x : Int) (h0 : 0 ≤ x) (hm : x ≤ 9223372036854775807) : rd (itoa x) x = some x.toNat := rd_ok h0 (Int.le_refl _) hm rfl
theorem rd_below (x : Int) (h0 : 0 ≤ x) (hm : x ≤ 9223372036854775807) : rd (itoa x) (x - 1) = none := by
  cases h : rd (itoa x) (x - 1) with
  | none => rfl
  | some y =>
    obtain ⟨h1, h2, _⟩ := rd_some h (by omega)
    obtain ⟨n, rfl⟩ := Int.eq_ofNat_of_zero_le h0
    rw [itoa_nonneg, atoi_digits (by omega)] at h1
    injection h1 with h1
    omega
end Go.Proofs.YtdohebhbiokljaaDoor

/- Plain facts: rows of a table, their bytes, and what bytes are read as. -/
namespace Go.Proofs.YtdohebhbiokljaaDoor
open Go.RowKit Go.Lib

abbrev Rw := List UInt8 × List UInt8
def fld (b : List UInt8) : List UInt8 := itoa (b.length : Int) ++ 58 :: (b ++ [44])
def enc (r : Rw) : List UInt8 := fld r.1 ++ fld r.2
def encs (rs : List Rw) : List UInt8 := rs.flatMap enc
def leB (a b : List UInt8) : Bool := Op.bytesLess a b || a == b
def rowB (rs : List Rw) (i : Nat) : Bool := match rs[i]? with
  | none => false
  | some r => decide (i < 64) && decide (1 ≤ r.1.length) && decide (r.1.length ≤ 64) && decide (r.2.length ≤ 65536) && (i == 0 || match rs[i - 1]? with
    | none => false
    | some p => !leB r.1 p.1)
def may (rs : List Rw) : Prop := ∀ i, i < rs.length → rowB rs i = true

theorem rowB_some {rs : List Rw} {i : Nat} (h : rowB rs i = true) : ∃ r, rs[i]? = some r ∧ i < 64 ∧ 1 ≤ r.1.length ∧ r.1.length ≤ 64 ∧ r.2.length ≤ 65536 := by
  unfold rowB at h
  cases hr : rs[i]? with
  | none => rw [hr] at h; cases h
  | some r =>
    rw [hr] at h
    simp only [Bool.and_eq_true, decide_eq_true_eq] at h
    exact ⟨r, rfl, h.1.1.1.1, h.1.1.1.2, h.1.1.2, h.1.2⟩
theorem rowB_congr {a b : List Rw} {i : Nat} (h : ∀ j, j ≤ i → a[j]? = b[j]?) : rowB a i = rowB b i := by
  unfold rowB
  rw [h i (Nat.le_refl _), h (i - 1) (Nat.sub_le _ _)]
theorem rowB_append (a b : List Rw) (i : Nat) (h : i < a.length) : rowB (a ++ b) i = rowB a i :=
  rowB_congr fun j hj => by rw [List.getElem?_append_left (by omega)]
theorem may_take {rs : List Rw} (h : may rs) (i : Nat) : may (rs.take i) := fun j hj => by
  have hj2 : j < i ∧ j < rs.length := by rw [List.length_take] at hj; omega
  rw [← h j hj2.2]
  exact rowB_congr fun k hk => by rw [List.getElem?_take_of_lt (by omega)]
theorem may_nil : may [] := fun i h => absurd h (Nat.not_lt_zero _)
theorem may_len {rs : List Rw} (h : may rs) : rs.length ≤ 64 := by
  rcases Nat.lt_or_ge 64 rs.length with h' | h'
  · obtain ⟨_, _, h2, _⟩ := rowB_some (h 64 h')
    omega
  · exact h'

@[simp] theorem encs_nil : encs [] = [] := rfl
theorem encs_cons (r : Rw) (rs : List Rw) : encs (r :: rs) = enc r ++ encs rs := rfl
theorem encs_append (a b : List Rw) : encs (a ++ b) = encs a ++ encs b := by simp [encs]
theorem encs_snoc (a : List Rw) (r : Rw) : encs (a ++ [r]) = encs a ++ enc r := by simp [encs]

/-- A field taken from the left. -/
def takeF (l : List UInt8) (most : Nat) : Option (List UInt8 × List UInt8) :=
  if 7 ≤ (l.takeWhile (· != 58)).length then none else
  match l.drop (l.takeWhile (· != 58)).length with
  | [] => none
  | _ :: r => match rd (l.takeWhile (· != 58)) (most : Int) with
    | none => none
    | some n => if r[n]? = some 44 then some (r.take n, r.drop (n + 1)) else none

theorem itoa_no58 (n : Nat) : ∀ c ∈ itoa (n : Int), (c != 58) = true := by
  intro c hc
  have := itoa_okc (n : Int) (by omega) c hc
  unfold okc at this
  simp only [Bool.and_eq_true, bne_iff_ne] at this ⊢
  intro h
  exact this.1 (by rw [h]; rfl)
theorem takeWhile_all {p : UInt8 → Bool} (a : List UInt8) (c : UInt8) (r : List UInt8) (h : ∀ x ∈ a, p x = true) (hc : p c = false) : (a ++ c :: r).takeWhile p = a := by
  induction a with
  | nil => simp [hc]
  | cons x a ih =>
    rw [List.cons_append, List.takeWhile_cons, if_pos (h x (List.mem_cons_self ..)), ih fun y hy => h y (List.mem_cons_of_mem _ hy)]
theorem itoa_nat (n : Nat) : itoa (n : Int) = decDigits n := by unfold itoa; rw [if_neg (by omega)]; simp
theorem itoa_len (n : Nat) (h : n ≤ 65536) : (itoa (n : Int)).length ≤ 5 := by
  rw [itoa_nat]
  exact digits_length_le 4 n (by omega)
theorem fld_take (b r : List UInt8) : (fld b ++ r).takeWhile (· != 58) = itoa (b.length : Int) := by
  unfold fld
  rw [List.append_assoc, List.cons_append]
  exact takeWhile_all _ _ _ (itoa_no58 _) rfl
theorem takeF_fld (b r : List UInt8) (most : Nat) (h : b.length ≤ most) (hm : most ≤ 65536) : takeF (fld b ++ r) most = some (b, r) := by
  unfold takeF
  rw [fld_take, if_neg (by have := itoa_len b.length (by omega); omega)]
  have h1 : (fld b ++ r).drop (itoa (b.length : Int)).length = 58 :: (b ++ 44 :: r) := by
    unfold fld
    rw [List.append_assoc, List.drop_left]
    simp
  rw [h1, rd_ok (v := (b.length : Int)) (by omega) (by omega) (by omega) rfl]
  simp
theorem takeF_some {l : List UInt8} {most : Nat} {b r : List UInt8} (h : takeF l most = some (b, r)) (hm : most ≤ 65536) : l = fld b ++ r ∧ b.length ≤ most := by
  unfold takeF at h
  split at h
  · cases h
  · rename_i h7
    rcases hd : l.drop (l.takeWhile (· != 58)).length with _ | ⟨c, r0⟩
    · rw [hd] at h; cases h
    · rw [hd] at h
      simp only at h
      rcases hr : rd (l.takeWhile (· != 58)) (most : Int) with _ | n
      · rw [hr] at h; cases h
      · rw [hr] at h
        simp only at h
        split at h
        · rename_i h44
          obtain ⟨-, hn, hp⟩ := rd_some hr (by omega)
          simp only [Option.some.injEq, Prod.mk.injEq] at h
          obtain ⟨rfl, rfl⟩ := h
          have hlt : n < r0.length := (List.getElem?_eq_some_iff.1 h44).1
          have hbl : (r0.take n).length = n := by rw [List.length_take]; omega
          have hc : c = 58 := by
            have h1 : l = l.takeWhile (· != 58) ++ l.dropWhile (· != 58) := List.takeWhile_append_dropWhile.symm
            have h2 : l.drop (l.takeWhile (· != 58)).length = l.dropWhile (· != 58) := by
              conv => lhs; rw [h1]
              rw [List.takeWhile_append_dropWhile]
              conv => lhs; arg 2; rw [h1]
              rw [List.drop_left]
            rw [h2] at hd
            have h3 := List.head?_dropWhile_not (fun x : UInt8 => x != 58) l
            rw [hd] at h3
            simpa using h3
          refine ⟨?_, by omega⟩
          have h1 : l = l.take (l.takeWhile (· != 58)).length ++ l.drop (l.takeWhile (· != 58)).length := (List.take_append_drop _ _).symm
          have h2 : l.take (l.takeWhile (· != 58)).length = l.takeWhile (· != 58) := by
            have h4 : l = l.takeWhile (· != 58) ++ l.dropWhile (· != 58) := List.takeWhile_append_dropWhile.symm
            generalize l.takeWhile (· != 58) = x at *
            rw [h4, List.take_left]
          rw [h1, hd, h2, hp, hc]
          unfold fld
          rw [hbl]
          have h3 : r0 = r0.take n ++ 44 :: r0.drop (n + 1) := by
            conv => lhs; rw [← List.take_append_drop n r0]
            rw [List.drop_eq_getElem_cons hlt, (List.getElem?_eq_some_iff.1 h44).2]
          conv => lhs; rw [h3]
          simp
        · cases h
theorem fld_pos (b : List UInt8) : 0 < (fld b).length := by unfold fld; simp; omega
theorem takeF_lt {l : List UInt8} {most : Nat} {b r : List UInt8} (h : takeF l most = some (b, r)) (hm : most ≤ 65536) : r.length < l.length := by
  rw [(takeF_some h hm).1, List.length_append]
  have := fld_pos b
  omega

/-- A row taken from the left. -/
def takeR (l : List UInt8) : Option (Rw × List UInt8) := match takeF l 64 with
  | none => none
  | some (n, r) => match takeF r 65536 with
    | none => none
    | some (v, r') => some ((n, v), r')
theorem takeR_enc (x : Rw) (r : List UInt8) (h1 : x.1.length ≤ 64) (h2 : x.2.length ≤ 65536) : takeR (enc x ++ r) = some (x, r) := by
  unfold takeR enc
  rw [List.append_assoc, takeF_fld _ _ _ h1 (by omega)]
  simp only
  rw [takeF_fld _ _ _ h2 (by omega)]
theorem takeR_some {l : List UInt8} {x : Rw} {r : List UInt8} (h : takeR l = some (x, r)) : l = enc x ++ r ∧ x.1.length ≤ 64 ∧ x.2.length ≤ 65536 := by
  unfold takeR at h
  rcases h1 : takeF l 64 with _ | ⟨n, r1⟩
  · rw [h1] at h; cases h
  · rw [h1] at h
    simp only at h
    rcases h2 : takeF r1 65536 with _ | ⟨v, r2⟩
    · rw [h2] at h; cases h
    · rw [h2] at h
      simp only [Option.some.injEq, Prod.mk.injEq] at h
      obtain ⟨rfl, rfl⟩ := h
      obtain ⟨a1, a2⟩ := takeF_some h1 (by omega)
      obtain ⟨b1, b2⟩ := takeF_some h2 (by omega)
      refine ⟨?_, a2, b2⟩
      rw [a1, b1]; unfold enc; rw [List.append_assoc]
theorem enc_pos (x : Rw) : 0 < (enc x).length := by unfold enc; rw [List.length_append]; have := fld_pos x.1; omega
theorem takeR_lt {l : List UInt8} {x : Rw} {r : List UInt8} (h : takeR l = some (x, r)) : r.length < l.length := by
  rw [(takeR_some h).1, List.length_append]; have := enc_pos x; omega

/-- What bytes are read as: the rows, the place of the fault, the error. -/
def unp (total : Nat) (done : List Rw) (rest : List UInt8) : List Rw × Nat × Nat :=
  if rest.length = 0 then (done, 0, 0) else
  match h : takeR rest with
  | none => ([], total - rest.length, 131)
  | some (x, r) => if rowB (done ++ [x]) done.length = true then unp total (done ++ [x]) r else ([], total - rest.length, 131)
termination_by rest.length
decreasing_by exact takeR_lt h

theorem unp_nil (t : Nat) (done : List Rw) : unp t done [] = (done, 0, 0) := by rw [unp]; simp
theorem unp_none {t : Nat} {done : List Rw} {rest : List UInt8} (h0 : 0 < rest.length) (h : takeR rest = none) : unp t done rest = ([], t - rest.length, 131) := by
  rw [unp, if_neg (by omega)]
  split
  · rfl
  · rename_i h'; rw [h] at h'; cases h'
theorem unp_some {t : Nat} {done : List Rw} {rest : List UInt8} {x : Rw} {r : List UInt8} (h : takeR rest = some (x, r)) :
    unp t done rest = if rowB (done ++ [x]) done.length = true then unp t (done ++ [x]) r else ([], t - rest.length, 131) := by
  rw [unp, if_neg (by have := takeR_lt h; omega)]
  split
  · rename_i h'; rw [h] at h'; cases h'
  · rename_i h'; rw [h] at h'; cases h'; rfl

theorem unp_encs (t : Nat) : ∀ (rs done : List Rw), may (done ++ rs) → unp t done (encs rs) = (done ++ rs, 0, 0)
  | [], done, _ => by rw [encs_nil, unp_nil]; simp
  | x :: rs, done, h => by
    have hx := h done.length (by simp)
    obtain ⟨r, hr, _, h1, h2, h3⟩ := rowB_some hx
    have hxr : x = r := by simpa using hr
    subst hxr
    rw [encs_cons, unp_some (takeR_enc x _ h2 h3)]
    have h4 : rowB (done ++ [x]) done.length = true := by
      rw [← hx]
      refine rowB_congr fun j hj => ?_
      rw [show done ++ x :: rs = (done ++ [x]) ++ rs by simp, List.getElem?_append_left (l₁ := done ++ [x]) (by simp; omega)]
    rw [if_pos h4, unp_encs t rs (done ++ [x]) (by simpa using h)]
    simp
theorem unp_ok (t : Nat) (n : Nat) : ∀ (rest : List UInt8) (done : List Rw), rest.length ≤ n →
    (∃ rs, unp t done rest = (done ++ rs, 0, 0) ∧ rest = encs rs ∧ ∀ i, done.length ≤ i → i < (done ++ rs).length → rowB (done ++ rs) i = true) ∨
    (∃ q, 0 < q ∧ q ≤ rest.length ∧ unp t done rest = ([], t - q, 131)) := by
  induction n with
  | zero =>
    intro rest done h
    have : rest = [] := List.eq_nil_of_length_eq_zero (by omega)
    subst this
    exact .inl ⟨[], by rw [unp_nil]; simp, rfl, fun i h1 h2 => by simp at h2; omega⟩
  | succ n ih =>
    intro rest done h
    rcases Nat.eq_zero_or_pos rest.length with h0 | h0
    · have : rest = [] := List.eq_nil_of_length_eq_zero h0
      subst this
      exact .inl ⟨[], by rw [unp_nil]; simp, rfl, fun i h1 h2 => by simp at h2; omega⟩
    · rcases hr : takeR rest with _ | ⟨x, r⟩
      · exact .inr ⟨rest.length, h0, Nat.le_refl _, unp_none h0 hr⟩
      · by_cases hb : rowB (done ++ [x]) done.length = true
        · rw [unp_some hr, if_pos hb]
          have hlt := takeR_lt hr
          rcases ih r (done ++ [x]) (by omega) with ⟨rs, h1, h2, h3⟩ | ⟨q, h1, h2, h3⟩
          · refine .inl ⟨x :: rs, by rw [h1]; simp, by rw [(takeR_some hr).1, h2, encs_cons], ?_⟩
            intro i hi hi2
            rw [show done ++ x :: rs = done ++ [x] ++ rs by simp] at hi2 ⊢
            rcases Nat.eq_or_lt_of_le hi with he | he
            · rw [← he, rowB_append _ _ _ (by simp), hb]
            · exact h3 i (by simp; omega) hi2
          · exact .inr ⟨q, h1, by omega, h3⟩
        · exact .inr ⟨rest.length, h0, Nat.le_refl _, by rw [unp_some hr, if_neg hb]⟩

def unpack (l : List UInt8) : List Rw × Nat × Nat := unp l.length [] l
theorem unpack_encs (rs : List Rw) (h : may rs) : unpack (encs rs) = (rs, 0, 0) := by
  unfold unpack; rw [unp_encs _ rs [] (by simpa using h)]; simp
theorem unpack_cases (l : List UInt8) : (∃ rs, unpack l = (rs, 0, 0) ∧ l = encs rs ∧ may rs) ∨ (∃ p, p < l.length ∧ unpack l = ([], p, 131)) := by
  rcases unp_ok l.length l.length l [] (Nat.le_refl _) with ⟨rs, h1, h2, h3⟩ | ⟨q, h1, h2, h3⟩
  · refine .inl ⟨rs, by unfold unpack; rw [h1]; simp, h2, fun i hi => ?_⟩
    have := h3 i (by simp) (by simpa using hi)
    simpa using this
  · exact .inr ⟨l.length - q, by omega, h3⟩

/-- A beginning of a table's bytes that is a table's bytes. -/
theorem encs_prefix : ∀ (a b : List Rw) (z : List UInt8), (∀ x ∈ a, x.1.length ≤ 64 ∧ x.2.length ≤ 65536) → (∀ x ∈ b, x.1.length ≤ 64 ∧ x.2.length ≤ 65536) → encs b = encs a ++ z → a = b.take a.length
  | [], b, z, _, _, _ => by simp
  | x :: a, [], z, _, _, h => by
    rw [encs_cons] at h
    have := congrArg List.length h
    have h2 := enc_pos x
    simp at this
    omega
  | x :: a, y :: b, z, ha, hb, h => by
    rw [encs_cons, encs_cons] at h
    have hx := ha x (List.mem_cons_self ..)
    have hy := hb y (List.mem_cons_self ..)
    have h1 := takeR_enc y (encs b) hy.1 hy.2
    rw [h, List.append_assoc, takeR_enc x _ hx.1 hx.2] at h1
    simp only [Option.some.injEq, Prod.mk.injEq] at h1
    obtain ⟨rfl, h2⟩ := h1
    have := encs_prefix a b z (fun u hu => ha u (List.mem_cons_of_mem _ hu)) (fun u hu => hb u (List.mem_cons_of_mem _ hu)) h2.symm
    simp only [List.length_cons, List.take_succ_cons]
    rw [← this]
theorem may_mem {rs : List Rw} (h : may rs) : ∀ x ∈ rs, x.1.length ≤ 64 ∧ x.2.length ≤ 65536 := by
  intro x hx
  obtain ⟨i, hi⟩ := List.mem_iff_getElem?.1 hx
  obtain ⟨r, hr, _, _, h2, h3⟩ := rowB_some (h i (List.getElem?_eq_some_iff.1 hi).1)
  rw [hi] at hr
  cases hr
  exact ⟨h2, h3⟩
/-- A beginning of the table's bytes: the table of its whole rows, or none. -/
theorem cut_cases (rs : List Rw) (k : Nat) (h : may rs) (hk : k ≤ (encs rs).length) :
    (∃ i, i ≤ rs.length ∧ (encs (rs.take i)).length = k ∧ unpack ((encs rs).take k) = (rs.take i, 0, 0)) ∨
    ((∀ i, i ≤ rs.length → (encs (rs.take i)).length ≠ k) ∧ ∃ p, p < k ∧ unpack ((encs rs).take k) = ([], p, 131)) := by
  rcases unpack_cases ((encs rs).take k) with ⟨l, h1, h2, h3⟩ | ⟨p, h1, h2⟩
  · left
    have h4 := encs_prefix l rs ((encs rs).drop k) (may_mem h3) (may_mem h) (by rw [← h2, List.take_append_drop])
    have hl : l.length ≤ rs.length := by
      have := congrArg List.length h4
      rw [List.length_take] at this
      omega
    refine ⟨l.length, hl, ?_, ?_⟩
    · rw [← h4, ← h2, List.length_take]; omega
    · rw [h1, ← h4]
  · right
    rw [List.length_take] at h1
    refine ⟨fun i hi hlen => ?_, p, by omega, h2⟩
    have h5 : encs rs = encs (rs.take i) ++ encs (rs.drop i) := by rw [← encs_append, List.take_append_drop]
    have h6 : (encs rs).take k = encs (rs.take i) := by rw [h5, ← hlen, List.take_left]
    rw [h6, unpack_encs _ (may_take h i)] at h2
    simp at h2
theorem encs_take_lt (rs : List Rw) (i j : Nat) (h : i < j) (hj : j ≤ rs.length) : (encs (rs.take i)).length < (encs (rs.take j)).length := by
  have h1 : rs.take j = rs.take i ++ (rs.drop i).take (j - i) := by
    rw [← List.take_add]; congr 1; omega
  rw [h1, encs_append, List.length_append]
  rcases hd : (rs.drop i).take (j - i) with _ | ⟨x, t⟩
  · have := congrArg List.length hd
    simp at this
    omega
  · rw [encs_cons, List.length_append]
    have := enc_pos x
    omega
end Go.Proofs.YtdohebhbiokljaaDoor

/- Contracts of Number and ReadNumber, the program's and the document's. -/
namespace Go.Proofs.YtdohebhbiokljaaDoor
open Go.RowKit

theorem below_grow (w : World) (q : Nat) (os : Array Obj) : Below w.heap.size w (Sort.grow (w.drewN q) os) :=
  ⟨rfl, rfl, rfl, by simp [Sort.grow], fun k hk => by simp [Sort.grow, Array.getElem?_append, hk]⟩
theorem wf64 {x : Int} (h : (Lit.int .i64 x).wf = true) : -9223372036854775808 ≤ x ∧ x ≤ 9223372036854775807 := by
  simpa [Lit.wf, IntKind.min, IntKind.max, IntKind.bits, IntKind.signed] using h

/-- The table that Itoa reads. -/
def Tab (w : World) : Prop := Lib.TabIs Tryd.prog w "internal/strconv.uint64pow10" .u64 Lib.pow10Tab
theorem Tab.below {w w' : World} (h : Tab w) (hb : Below w.heap.size w w') : Tab w' := by
  unfold Tab Lib.TabIs World.var? at *
  cases hg : Tryd.prog.globalNamed "internal/strconv.uint64pow10" with
  | none => simp [hg] at h
  | some g =>
    simp only [hg, Option.bind_some] at h ⊢
    have hlt : g < w.heap.size := by
      rcases Nat.lt_or_ge g w.heap.size with h' | h'
      · exact h'
      · simp [Array.getElem?_eq_none h'] at h
    rw [hb.block g hlt]
    exact h

def itoaS (n : Int) : ByteArray := ⟨(Lib.itoa n).toArray⟩
theorem lst_itoaS (n : Int) : lst (itoaS n) = Lib.itoa n := by simp [lst, itoaS]
theorem itoa_any (n : Int) (w : World) (hn : -9223372036854775808 ≤ n ∧ n ≤ 9223372036854775807) (ht : Tab w) :
    Calls Tryd.prog 78 #[.int .i64 n] w fun e w' => e = .returned (.string (itoaS n)) ∧ Below w.heap.size w w' :=
  (Tryd.strconv_Itoa n hn.1 hn.2 w ht).mono fun e w' ⟨he, k, os, hw⟩ => ⟨he, by rw [hw]; exact below_grow w k os⟩

/-- What Number answers. -/
def numS (x : Int) : ByteArray := if x < 0 then ⟨#[]⟩ else itoaS x
def numE (x : Int) : Int := if x < 0 then 102 else 0
theorem bnumber_any (x : Int) (w : World) (hx : -9223372036854775808 ≤ x ∧ x ≤ 9223372036854775807) (ht : Tab w) :
    Calls Tryd.prog 47 #[.int .i64 x] w fun e w' => e = .returned (.tuple #[.string (numS x), .int .i64 (numE x)]) ∧ Below w.heap.size w w' := by
  have q := itoa_any x w hx ht
  unfold numS numE
  by_cases h : x < 0
  · rw [if_pos h, if_pos h]
    go_enter Tryd.func47, Tryd.ntmps47
    go_wp2
    go_ret2
    exact ⟨rfl, Below.refl _ _⟩
  · rw [if_neg h, if_neg h]
    generalize itoaS x = t at *
    go_enter Tryd.func47, Tryd.ntmps47
    go_wp2_with fail
    refine q.mono ?_
    rintro e w' ⟨rfl, hb⟩
    go_wp2
    go_ret2
    exact ⟨rfl, hb⟩

/-! ### The document's Number -/
theorem lst_eq_mk {a : ByteArray} {l : List UInt8} (h : lst a = l) : a = ⟨l.toArray⟩ := by
  cases a
  simp only [lst] at h
  rw [← h]
def dgc (d : Nat) : UInt8 := UInt8.ofNat (48 + d)
theorem str_one (w : World) (d : Nat) (hd : d < 10) : (convert 38 9 (.slice (some ⟨w.heap.size, 0, none⟩) 1 1)).run Tryd.prog (w.alloc (.cells #[.int .u8 (48 + (d : Int))] 5)) =
    .ok (.string ⟨#[dgc d]⟩) (w.alloc (.cells #[.int .u8 (48 + (d : Int))] 5)) := by
  have e : ((UInt8.ofNat (48 + d)).toNat : Int) = 48 + (d : Int) := by rw [UInt8.toNat_ofNat']; omega
  rw [← e]
  have n1 := Blk.new w 5 #[.int .u8 ((UInt8.ofNat (48 + d)).toNat : Int)]
  have hby : By (w.alloc (.cells #[.int .u8 ((UInt8.ofNat (48 + d)).toNat : Int)] 5)) (.slice (some ⟨w.heap.size, 0, none⟩) 1 1) [UInt8.ofNat (48 + d)] := by
    refine ⟨rfl, some ⟨w.heap.size, 0, none⟩, 1, rfl, Nat.le_refl 1, by unfold maxLen; omega, fun _ => ⟨w.heap.size, 0, rfl, n1.lt, fun j _ => ?_⟩⟩
    rw [Nat.zero_add, n1.cell, ← Array.getElem?_toList]
    rfl
  obtain ⟨t, ht, hrun⟩ := run_str (P := Tryd.prog) hby 38 9 5 Tryd.underlying38 Tryd.underlying5 Tryd.underlying9
  rw [hrun, lst_eq_mk ht]
  rfl

theorem digits_split (y : Nat) (h : 10 ≤ y) : Lib.decDigits y = Lib.decDigits (y / 10) ++ [UInt8.ofNat (48 + y % 10)] := by
  rw [Lib.decDigits, dif_neg (by omega)]

set_option maxRecDepth 100000 in
set_option maxHeartbeats 1600000 in
theorem rnumber_any (x : Int) (w : World) (hx : -9223372036854775808 ≤ x ∧ x ≤ 9223372036854775807) :
    Calls Tryd.prog 100 #[.int .i64 x] w fun e w' => e = .returned (.tuple #[.string (numS x), .int .i64 (numE x)]) ∧ Below w.heap.size w w' := by
  unfold numS numE
  by_cases h : x < 0
  · rw [if_pos h, if_pos h]
    go_enter Tryd.func100, Tryd.ntmps100
    go_wp2
    go_ret2
    exact ⟨rfl, Below.refl _ _⟩
  · rw [if_neg h, if_neg h]
    obtain ⟨X, rfl⟩ : ∃ X : Nat, x = (X : Int) := ⟨x.toNat, by omega⟩
    have hS : lst (itoaS (X : Int)) = Lib.decDigits X := by rw [lst_itoaS, Lib.itoa_nonneg]
    have hlen := digits_length_le 18 X (by omega)
    generalize itoaS (X : Int) = R at *
    have HS := hide (And.intro hS hlen)
    have hxl : X ≤ 9223372036854775807 := by omega
    clear hS hlen hx h
    go_enter Tryd.func100, Tryd.ntmps100
    go_wp2
    go_loopw [0, 4] (fun u0 u4 wr => ∃ (y : Nat) (t : ByteArray), y ≤ 9223372036854775807 ∧ u0 = .int .i64 (y : Int) ∧ u4 = .string t ∧ Lib.decDigits X = Lib.decDigits y ++ lst t ∧ t.size ≤ 19 ∧ Below w.heap.size w wr) (fun u0 _ _ => (intOf u0).toNat)
    case atStart => exact ⟨X, ⟨#[]⟩, hxl, rfl, rfl, by simp [lst], by decide, Below.refl _ _⟩
    case round =>
      obtain ⟨y, t, hy, rfl, rfl, hdig, htl, hbel⟩ := hrel
      have HD := hide hdig
      clear hdig
      by_cases h10 : 10 ≤ y
      · have i1 : (y : Int) ≥ 10 := by omega
        have hdl : y % 10 < 10 := Nat.mod_lt _ (by omega)
        have hsp := digits_split y h10
        have hql : y / 10 < y := by omega
        have ht : (y : Int).tmod 10 = ((y % 10 : Nat) : Int) := rfl
        have ht2 : (y : Int) % 10 = ((y % 10 : Nat) : Int) := by omega
        have hq : (y : Int).tdiv 10 = ((y / 10 : Nat) : Int) := rfl
        have hq2 : (y : Int) / 10 = ((y / 10 : Nat) : Int) := by omega
        generalize y % 10 = d at *
        generalize y / 10 = q at *
        have hrun := str_one wr d hdl
        have HN := hide (show Lib.decDigits X = Lib.decDigits q ++ lst ((⟨#[dgc d]⟩ : ByteArray) ++ t) by
          rw [HD.out, hsp]; simp [lst, dgc])
        have HB := hide (hbel.alloc hbel.size (.cells #[.int .u8 (48 + (d : Int))] 5))
        have HSZ := hide (show ((⟨#[dgc d]⟩ : ByteArray) ++ t).size ≤ 19 by
          have h1 := congrArg List.length HN.out
          rw [List.length_append, lst_len] at h1
          have := HS.out.2
          omega)
        clear hsp
        go_wp2
        go_roundw
        case rel => exact ⟨q, _, by omega, rfl, rfl, HN.out, HSZ.out, HB.out⟩
        case measure => simp [intOf]; omega
      · have i1 : ¬ (y : Int) ≥ 10 := by omega
        have hrun := str_one wr y (by omega)
        have HN := hide (show (⟨#[dgc y]⟩ : ByteArray) ++ t = R by
          rw [lst_eq_mk (a := R) (l := lst R) rfl, HS.out.1, HD.out, Lib.decDigits, dif_pos (by omega)]
          rw [lst_eq_mk (a := (⟨#[dgc y]⟩ : ByteArray) ++ t) rfl]
          simp [lst, dgc])
        have HB := hide (hbel.alloc hbel.size (.cells #[.int .u8 (48 + (y : Int))] 5))
        have hn := HN.out
        clear HN
        subst hn
        go_wp2
        go_ret2
        exact ⟨rfl, HB.out⟩

/-! ### ReadNumber -/
/-- What ReadNumber answers. -/
def rdN (l : List UInt8) (most : Int) : Int := match rd l most with
  | some x => (x : Int)
  | none => 0
def rdE (l : List UInt8) (most : Int) : Int := match rd l most with
  | some _ => 0
  | none => 102
/-- The errors that Atoi hands on. -/
def Err (w : World) : Prop := (∃ tp p, w.var? Tryd.prog "strconv.ErrSyntax" = some #[.iface tp p]) ∧ ∃ tp p, w.var? Tryd.prog "strconv.ErrRange" = some #[.iface tp p]

set_option maxRecDepth 100000 in
set_option maxHeartbeats 1600000 in
theorem bread_any (s : ByteArray) (most : Int) (w : World) (hs : s.size ≤ 1048576) (hm : -9223372036854775808 ≤ most ∧ most ≤ 9223372036854775807) (ht : Tab w) (he : Err w) :
    Calls Tryd.prog 84 #[.string s, .int .i64 most] w fun e w' => e = .returned (.tuple #[.int .i64 (rdN (lst s) most), .int .i64 (rdE (lst s) most)]) ∧ Below w.heap.size w w' := by
  have key : ∀ v, Lib.atoiAll (lst s) = .ok v → -9223372036854775808 ≤ v ∧ v ≤ 9223372036854775807 := fun v hv => Lib.atoiAll_bounds hv
  rcases ha : Lib.atoiAll (lst s) with v | _ | _
  ·
    have q := Tryd.strconv_Atoi_ok s (by omega) v ha w
    have q' : Calls Tryd.prog 105 #[.string s] w fun e w' => e = .returned (.tuple #[.int .i64 v, .nilIface]) ∧ Below w.heap.size w w' := q.mono fun e w' ⟨h1, h2⟩ => ⟨h1, by
      rcases h2 with h2 | ⟨t, h2⟩
      · rw [h2]; exact Below.refl _ _
      · rw [h2]; exact Lib.bytesWorld_below _ _ _⟩
    have hv := key v ha
    have HT := hide ht
    have HA := hide ha
    clear q key ht ha he
    by_cases h0 : v < 0
    · have hr : rd (lst s) most = none := by
        cases hr : rd (lst s) most with
        | none => rfl
        | some x =>
          have := (rd_some hr hm.2).1
          rw [HA.out] at this
          injection this with this
          omega
      unfold rdN rdE
      rw [hr]
      clear hr
      go_enter Tryd.func84, Tryd.ntmps84
      go_wp2_with fail
      refine q'.mono ?_
      rintro e w' ⟨rfl, hb⟩
      go_wp2
      go_ret2
      exact ⟨rfl, hb⟩
    · by_cases h1 : v > most
      · have hr : rd (lst s) most = none := by
          cases hr : rd (lst s) most with
          | none => rfl
          | some x =>
            have h2 := rd_some hr hm.2
            have := h2.1
            rw [HA.out] at this
            injection this with this
            omega
        unfold rdN rdE
        rw [hr]
        clear hr
        go_enter Tryd.func84, Tryd.ntmps84
        go_wp2_with fail
        refine q'.mono ?_
        rintro e w' ⟨rfl, hb⟩
        go_wp2
        go_ret2
        exact ⟨rfl, hb⟩
      · have q2 := fun w' ht' => itoa_any v w' hv ht'
        by_cases hi : itoaS v = s
        · have hr : rd (lst s) most = some v.toNat := rd_ok (by omega) (by omega) hm.2 (by rw [← lst_itoaS, hi])
          have hvv : ((v.toNat : Nat) : Int) = v := by omega
          unfold rdN rdE
          rw [hr]
          simp only [hvv]
          rw [hi] at q2
          clear hr hi hvv
          go_enter Tryd.func84, Tryd.ntmps84
          go_wp2_with fail
          refine q'.mono ?_
          rintro e w1 ⟨rfl, hb⟩
          have q3 := q2 w1 (HT.out.below hb)
          go_wp2_with fail
          refine q3.mono ?_
          rintro e w2 ⟨rfl, hb2⟩
          have HB := hide (hb.trans (hb2.mono hb.size))
          clear hb hb2 q3
          go_wp2
          go_ret2
          exact ⟨rfl, HB.out⟩
        · have hr : rd (lst s) most = none := by
            cases hr : rd (lst s) most with
            | none => rfl
            | some x =>
              have h2 := rd_some hr hm.2
              have h3 := h2.1
              rw [HA.out] at h3
              injection h3 with h3
              exfalso
              apply hi
              rw [lst_eq_mk (a := s) rfl, h2.2.2, ← h3]
              rfl
          have hne : ((itoaS v).toList == s.toList) = false := by
            rw [beq_eq_false_iff_ne, str_toList, str_toList]
            intro h
            refine hi ?_
            rw [lst_eq_mk (a := s) rfl, lst_eq_mk (a := itoaS v) (l := lst s) h]
          unfold rdN rdE
          rw [hr]
          clear hr hi
          generalize itoaS v = z at *
          go_enter Tryd.func84, Tryd.ntmps84
          go_wp2_with fail
          refine q'.mono ?_
          rintro e w1 ⟨rfl, hb⟩
          have q3 := q2 w1 (HT.out.below hb)
          go_wp2_with fail
          refine q3.mono ?_
          rintro e w2 ⟨rfl, hb2⟩
          have HB := hide (hb.trans (hb2.mono hb.size))
          clear hb hb2 q3
          go_wp2
          go_ret2
          exact ⟨rfl, HB.out⟩
  ·
    obtain ⟨⟨tp, p, hvar⟩, _⟩ := he
    have q := Any.strconv_Atoi_syntax_var Tryd.laysC172 s (by omega) ha tp p w hvar
    have hr : rd (lst s) most = none := by
      cases hr : rd (lst s) most with
      | none => rfl
      | some x =>
        have := (rd_some hr hm.2).1
        rw [ha] at this
        cases this
    unfold rdN rdE
    rw [hr]
    clear hr ha key ht hvar
    go_enter Tryd.func84, Tryd.ntmps84
    go_wp2_with fail
    refine q.mono ?_
    rintro e w' ⟨n, rfl, _, _, hb⟩
    go_wp2
    go_ret2
    exact ⟨rfl, hb⟩
  ·
    obtain ⟨_, tp, p, hvar⟩ := he
    have q := Tryd.strconv_Atoi_range_var s (by omega) ha tp p w hvar
    have hr : rd (lst s) most = none := by
      cases hr : rd (lst s) most with
      | none => rfl
      | some x =>
        have := (rd_some hr hm.2).1
        rw [ha] at this
        cases this
    unfold rdN rdE
    rw [hr]
    clear hr ha key ht hvar
    go_enter Tryd.func84, Tryd.ntmps84
    go_wp2_with fail
    refine q.mono ?_
    rintro e w' ⟨n, rfl, _, _, hb⟩
    go_wp2
    go_ret2
    exact ⟨rfl, hb⟩
end Go.Proofs.YtdohebhbiokljaaDoor

/- The contract of the document's ReadNumber. -/
namespace Go.Proofs.YtdohebhbiokljaaDoor
open Go.RowKit

theorem u64id (x : Int) (h0 : 0 ≤ x) (h1 : x < 18446744073709551616) : IntKind.u64.wrap x = x := by
  simp [IntKind.wrap, IntKind.bits, IntKind.signed]
  omega

set_option maxRecDepth 100000 in
set_option maxHeartbeats 3200000 in
theorem rread_any (s : ByteArray) (most : Int) (w : World) (hs : s.size ≤ 1048576) (hm : -9223372036854775808 ≤ most ∧ most ≤ 9223372036854775807) :
    Calls Tryd.prog 88 #[.string s, .int .i64 most] w fun e w' => e = .returned (.tuple #[.int .i64 (rdN (lst s) most), .int .i64 (rdE (lst s) most)]) ∧ w = w' := by
  have hlen := lst_len s
  by_cases hA : s.size = 0
  · have hr : rd (lst s) most = none := by unfold rd rdv; rw [if_pos (.inl (by omega))]
    unfold rdN rdE
    rw [hr]
    have g : ((s.size : Int) == 0) = true := by rw [beq_iff_eq]; omega
    clear hr hlen hA
    go_enter Tryd.func88, Tryd.ntmps88
    go_wp2
    go_ret2
    exact ⟨rfl, rfl⟩
  have gA : ((s.size : Int) == 0) = false := by rw [beq_eq_false_iff_ne]; omega
  by_cases hB : 19 < s.size
  · have hr : rd (lst s) most = none := by unfold rd rdv; rw [if_pos (.inr (.inl (by omega)))]
    unfold rdN rdE
    rw [hr]
    have g : (s.size : Int) > 19 := by omega
    clear hr hlen
    go_enter Tryd.func88, Tryd.ntmps88
    go_wp2
    go_ret2
    exact ⟨rfl, rfl⟩
  have gB : ¬ (s.size : Int) > 19 := by omega
  have h0 : 0 < s.size := by omega
  have hg0 := lst_get s 0 h0
  by_cases hC : 1 < s.size ∧ s[0] = 48
  · have hr : rd (lst s) most = none := by unfold rd rdv; rw [if_pos (.inr (.inr ⟨by omega, by rw [hg0, hC.2]⟩))]
    unfold rdN rdE
    rw [hr]
    have g : (s.size : Int) > 1 := by omega
    have g2 : ((s[0].toNat : Int) == 48) = true := by rw [hC.2]; rfl
    have g3 : (0 : Int) < (s.size : Int) := by omega
    clear hr hlen hC hg0
    go_enter Tryd.func88, Tryd.ntmps88
    go_wp2
    go_ret2
    exact ⟨rfl, rfl⟩
  have hrdv : rdv (lst s) = Lib.decFrom 0 (lst s) := by
    unfold rdv
    rw [if_neg]
    rintro (h | h | ⟨h, h2⟩)
    · omega
    · omega
    · rw [hg0] at h2
      injection h2 with h2
      exact hC ⟨by omega, h2⟩
  have HR := hide hrdv
  have HL := hide hlen
  have hD : ¬ (s.size : Int) > 1 ∨ ((s.size : Int) > 1 ∧ ((s[0].toNat : Int) == 48) = false) := by
    by_cases h1 : 1 < s.size
    · refine .inr ⟨by omega, ?_⟩
      simp only [beq_eq_false_iff_ne]
      intro e
      exact hC ⟨h1, UInt8.toNat_inj.1 (by have : s[0].toNat = 48 := by omega
                                          rw [this]; rfl)⟩
    · exact .inl (by omega)
  have g3 : (0 : Int) < (s.size : Int) := by omega
  clear hrdv hlen hC hg0 hA
  rcases hD with hD | ⟨hD, hD2⟩
  all_goals
    go_enter Tryd.func88, Tryd.ntmps88
    go_wp2
    go_loopw [6, 7] (fun u6 u7 wr => ∃ i n : Nat, i ≤ s.size ∧ u7 = .int .i64 (i : Int) ∧ u6 = .int .u64 (n : Int) ∧ Lib.decFrom 0 ((lst s).take i) = some n ∧ w = wr) (fun _ u7 _ => s.size - (intOf u7).toNat)
    case atStart => exact ⟨0, 0, by omega, rfl, rfl, by simp [Lib.decFrom], rfl⟩
    case round =>
      obtain ⟨i, n, hi, rfl, rfl, hdec, rfl⟩ := hrel
      have hlt := Lib.decFrom_lt _ _ _ hdec
      have hnb : i ≤ 18 → n < 1000000000000000000 := fun hi18 => by
        have hp : 10 ^ ((lst s).take i).length ≤ 10 ^ 18 := Nat.pow_le_pow_right (by decide) (by rw [List.length_take]; omega)
        have e18 : (10 : Nat) ^ 18 = 1000000000000000000 := by decide
        omega
      have hnb2 : n < 10000000000000000000 := by
        have hp : 10 ^ ((lst s).take i).length ≤ 10 ^ 19 := Nat.pow_le_pow_right (by decide) (by rw [List.length_take]; omega)
        have e19 : (10 : Nat) ^ 19 = 10000000000000000000 := by decide
        omega
      have HD := hide hdec
      clear hdec hlt
      by_cases hil : i < s.size
      · have i1 : (i : Int) < (s.size : Int) := by omega
        have i2 : (0 : Int) ≤ (i : Int) := by omega
        have hn18 := hnb (by omega)
        have hgi := lst_get s i hil
        have HG := hide hgi
        have hc8 := s[i].toNat_lt
        clear hnb hnb2 hgi
        by_cases hdig : 48 ≤ s[i].toNat ∧ s[i].toNat ≤ 57
        · have hdv : Lib.digitVal s[i] = some (s[i].toNat - 48) := by unfold Lib.digitVal; rw [if_pos hdig]
          have HN := hide (Lib.decFrom_take (lst s) i 0 n s[i] _ HD.out HG.out hdv)
          have d1 : ¬ (s[i].toNat : Int) < 48 := by omega
          have d2 : ¬ (s[i].toNat : Int) > 57 := by omega
          have hw0 : IntKind.u8.wrap ((s[i].toNat : Int) - 48) = (s[i].toNat : Int) - 48 := by rw [IntKind.wrap_u8']; omega
          have hw1 : IntKind.u64.wrap ((s[i].toNat : Int) - 48) = (s[i].toNat : Int) - 48 := u64id _ (by omega) (by omega)
          have hw2 : IntKind.u64.wrap (10 * (n : Int)) = 10 * (n : Int) := u64id _ (by omega) (by omega)
          have hw3 : IntKind.u64.wrap (10 * (n : Int) + ((s[i].toNat : Int) - 48)) = 10 * (n : Int) + ((s[i].toNat : Int) - 48) := u64id _ (by omega) (by omega)
          have hfin : 10 * (n : Int) + ((s[i].toNat : Int) - 48) = ((n * 10 + (s[i].toNat - 48) : Nat) : Int) := by omega
          have HF := hide hfin
          clear hdv hfin
          go_wp2
          go_roundw
          case rel => exact ⟨i + 1, n * 10 + (s[i].toNat - 48), by omega, by go_num, by first | (rw [← HF.out]; done) | (congr 1; have := HF.out; omega), HN.out, by first | rfl | trivial⟩
          case measure => simp [intOf]; omega
        · have hr : rd (lst s) most = none := by
            unfold rd
            rw [HR.out]
            cases hd : Lib.decFrom 0 (lst s) with
            | none => rfl
            | some m =>
              obtain ⟨d, hd2⟩ := Lib.digit_of_decFrom _ _ _ hd i _ HG.out
              have := Lib.digitVal_eq hd2
              omega
          have HRR := hide (show rdN (lst s) most = 0 ∧ rdE (lst s) most = 102 by unfold rdN rdE; rw [hr]; exact ⟨rfl, rfl⟩)
          clear hr
          by_cases hlo : s[i].toNat < 48
          · have d1 : (s[i].toNat : Int) < 48 := by omega
            go_wp2
            go_ret2
            exact ⟨by rw [HRR.out.1, HRR.out.2]; rfl, rfl⟩
          · have d1 : ¬ (s[i].toNat : Int) < 48 := by omega
            have d2 : (s[i].toNat : Int) > 57 := by omega
            go_wp2
            go_ret2
            exact ⟨by rw [HRR.out.1, HRR.out.2]; rfl, rfl⟩
      · have his : i = s.size := by omega
        have hd := HD.out
        rw [his, ← HL.out, List.take_of_length_le (Nat.le_refl _)] at hd
        have hrv : rdv (lst s) = some n := by rw [HR.out, hd]
        have i1 : ¬ (i : Int) < (s.size : Int) := by omega
        have hwn : IntKind.u64.wrap (n : Int) = (n : Int) := u64id _ (by omega) (by omega)
        clear HD hd his hnb
        by_cases hm0 : most < 0
        · have hr : rd (lst s) most = none := by unfold rd; rw [hrv]; simp only; rw [if_neg (by omega)]
          have HRR := hide (show rdN (lst s) most = 0 ∧ rdE (lst s) most = 102 by unfold rdN rdE; rw [hr]; exact ⟨rfl, rfl⟩)
          clear hr hrv
          go_wp2
          go_ret2
          exact ⟨by rw [HRR.out.1, HRR.out.2]; rfl, rfl⟩
        · have hwm : IntKind.u64.wrap most = most := u64id _ (by omega) (by omega)
          by_cases hnm : (n : Int) > most
          · have hr : rd (lst s) most = none := by unfold rd; rw [hrv]; simp only; rw [if_neg (by omega)]
            have HRR := hide (show rdN (lst s) most = 0 ∧ rdE (lst s) most = 102 by unfold rdN rdE; rw [hr]; exact ⟨rfl, rfl⟩)
            clear hr hrv
            go_wp2
            go_ret2
            exact ⟨by rw [HRR.out.1, HRR.out.2]; rfl, rfl⟩
          · have hr : rd (lst s) most = some n := by unfold rd; rw [hrv]; simp only; rw [if_pos (by omega)]
            have hwi : IntKind.i64.wrap (n : Int) = (n : Int) := by simp [IntKind.wrap, IntKind.bits, IntKind.signed]; omega
            have HRR := hide (show rdN (lst s) most = (n : Int) ∧ rdE (lst s) most = 0 by unfold rdN rdE; rw [hr]; exact ⟨rfl, rfl⟩)
            clear hr hrv
            go_wp2
            go_ret2
            exact ⟨by rw [HRR.out.1, HRR.out.2]; rfl, rfl⟩
end Go.Proofs.YtdohebhbiokljaaDoor

/- BaseNumber: of every number, and every text and bound: the program's answers are the document's; and what the listed variables give. -/
namespace Go.Proofs.YtdohebhbiokljaaDoor
open Go.RowKit

theorem var_below {w w' : World} {n : String} {cs : Array Value} (h : w.var? Tryd.prog n = some cs) (hb : Below w.heap.size w w') : w'.var? Tryd.prog n = some cs := by
  unfold World.var? at *
  cases hg : Tryd.prog.globalNamed n with
  | none => simp [hg] at h
  | some g =>
    simp only [hg, Option.bind_some] at h ⊢
    have hlt : g < w.heap.size := by
      rcases Nat.lt_or_ge g w.heap.size with h' | h'
      · exact h'
      · simp [Array.getElem?_eq_none h'] at h
    rw [hb.block g hlt]
    exact h
theorem Err.below {w w' : World} (h : Err w) (hb : Below w.heap.size w w') : Err w' := by
  obtain ⟨⟨t1, p1, h1⟩, t2, p2, h2⟩ := h
  exact ⟨⟨t1, p1, var_below h1 hb⟩, t2, p2, var_below h2 hb⟩


theorem gES : Tryd.prog.globalNamed "strconv.ErrSyntax" = some 2 := by kernel_rfl
theorem gESType : (Tryd.prog.globals[2]?).map (·.type) = some 148 := by kernel_rfl
theorem gER : Tryd.prog.globalNamed "strconv.ErrRange" = some 3 := by kernel_rfl
theorem gERType : (Tryd.prog.globals[3]?).map (·.type) = some 148 := by kernel_rfl
theorem gTab : Tryd.prog.globalNamed "internal/strconv.uint64pow10" = some 1 := by kernel_rfl
theorem gTabType : (Tryd.prog.globals[1]?).map (·.type) = some 191 := by kernel_rfl
theorem star : "*" ++ "errors.errorString" = "*errors.errorString" := by decide
theorem rowES (u : TypeId) (h : Tryd.prog.typeName? 3 u = some "*errors.errorString") : u = 215 :=
  typeName_ptr_named (nm := "errors.errorString") (by rw [star]; kernel_rfl) (by kernel_rfl) (by decide) u (by rw [star]; exact h)
theorem of_laid {W : World} {r : List (String × DataW Unit)}
    (h0 : laidMet Tryd.prog (("internal/strconv.uint64pow10", Rows.laid_internal_strconv_uint64pow10) :: ("strconv.ErrRange", Rows.laid_strconv_ErrRange) :: ("strconv.ErrSyntax", Rows.laid_strconv_ErrSyntax) :: r) W) : Tab W ∧ Err W := by
  have e : (Rows.laid_internal_strconv_uint64pow10 : DataW Unit) = Lib.tabData .u64 Lib.pow10Tab := by kernel_rfl
  have h2 := h0.tail
  have h3 := h2.tail
  rw [e] at h0
  obtain ⟨a0, s0, hv0, -, -, -⟩ := laid_sentinel h2 gER gERType Tryd.underlying148 rowES Tryd.underlying215 Tryd.underlying217 rfl rfl Tryd.underlying9 (by kernel_rfl) (by kernel_rfl)
  obtain ⟨a1, s1, hv1, -, -, -⟩ := laid_sentinel h3 gES gESType Tryd.underlying148 rowES Tryd.underlying215 Tryd.underlying217 rfl rfl Tryd.underlying9 (by kernel_rfl) (by kernel_rfl)
  exact ⟨Lib.tabIs_of_head gTab gTabType Tryd.underlying191 Tryd.underlying143 (by kernel_rfl) (by kernel_rfl) h0, ⟨_, _, hv1⟩, _, _, hv0⟩
end Go.Proofs.YtdohebhbiokljaaDoor

/- Joined texts: UebA, UebB. -/

/- Contracts of the program's field, rowMay and Pack. -/
namespace Go.Proofs.YtdohebhbiokljaaDoor
open Go.RowKit

theorem lsts_row {w : World} {g : Nat} {cs : Array Value} {e : TypeId} (hb : Blk w g e cs) (L : List (Value × List UInt8)) (hcs : cs.toList = L.map (·.1)) (hm : L.length ≤ 1000) (hby : ∀ x ∈ L, By w x.1 x.2) :
    Lsts w (.slice (some ⟨g, 0, none⟩) L.length L.length) L := by
  refine ⟨?_, hby⟩
  have := hb.own (base := 0) (e := e) (n := L.length) (cap := L.length) (sz := 1) rfl (Nat.zero_le _) (by rw [← Array.length_toList, hcs]; simp) (Nat.le_refl _) (by unfold maxLen; omega)
  have := Sl.of_own this
  rwa [hcs, List.take_of_length_le (by simp)] at this

theorem blk_new' (w : World) (g : Nat) (t : TypeId) (cs : Array Value) (h : g = w.heap.size) : Blk (w.alloc (.cells cs t)) g t cs := by rw [h]; exact Blk.new w t cs
theorem by_marked' (w : World) (g : Nat) (hg : g = w.heap.size) (e : TypeId) (f : Nat × Nat) (l : List UInt8) (h : l.length ≤ 1000) : By (w.alloc (.cells (bcells l).toArray e f)) (.slice (some ⟨g, 0, none⟩) l.length l.length) l := by
  rw [hg]; exact by_marked w e f l h
theorem Own.base {w : World} {b b' : Nat} {e : TypeId} {v : Value} {l : List UInt8} (h : Own w b e v l) (hb : b' ≤ b) : Own w b' e v l := by
  obtain ⟨h1, h2 | ⟨g, cap, cur, hv, hg, r⟩⟩ := h
  · exact ⟨h1, .inl h2⟩
  · exact ⟨h1, .inr ⟨g, cap, cur, hv, Nat.le_trans hb hg, r⟩⟩

set_option maxRecDepth 100000 in
set_option maxHeartbeats 1000000 in
theorem field_any (v : Value) (b : List UInt8) (w : World) (h : By w v b) (hl : b.length ≤ 549755813888) (ht : Tab w) :
    Calls Tryd.prog 57 #[v] w fun e w' => ∃ v', e = .returned v' ∧ Own w' w.heap.size 5 v' (fld b) ∧ Below w.heap.size w w' := by
  have q1 := bnumber_any (b.length : Int) w ⟨by omega, by omega⟩ ht
  rw [show numS (b.length : Int) = itoaS (b.length : Int) by unfold numS; rw [if_neg (by omega)], show numE (b.length : Int) = 0 by unfold numE; rw [if_neg (by omega)]] at q1
  have hsz : (itoaS (b.length : Int)).size ≤ 21 := by
    have := Lib.itoa_length_le (b.length : Int) (by omega) (by omega)
    rwa [← lst_itoaS, lst_len] at this
  have hls := lst_itoaS (b.length : Int)
  have HLS := hide hls
  have Q1 := hide q1
  have HB := hide h
  have HL := hide hl
  obtain ⟨A, c, rfl, hc, hm, _⟩ := h.form
  unfold maxLen at hm
  generalize itoaS (b.length : Int) = s at *
  clear q1 h hls hl
  go_enter Tryd.func57, Tryd.ntmps57
  go_wp2_with fail
  refine Q1.out.mono ?_
  rintro e w1 ⟨rfl, b1⟩
  obtain ⟨g, cc, w2, hr, hby, b2, hg, hsz2, hcc, hcm⟩ := run_bytes_str 9 38 5 s w1 Tryd.underlying9 Tryd.underlying38 Tryd.underlying5 (by unfold maxLen; omega)
  have HY := hide hby
  have C2 := hide (b1.trans (b2.mono b1.size))
  have C1 := hide b1
  clear hby b1 b2 Q1 hg hsz2 hcc hcm
  have a1 : Below w2.heap.size w2 (w2.alloc (.cells #[.int .u8 58] 5)) := (Below.refl _ w2).alloc (Nat.le_refl _) _
  have a2 := a1.alloc (by simp) (.cells #[.int .u8 44] 5)
  have a3 := a2.alloc (by simp; omega) (.cells #[.slice (some ⟨g, 0, none⟩) s.size cc, .slice (some ⟨w2.heap.size, 0, none⟩) 1 1, .slice A b.length c, .slice (some ⟨w2.heap.size + 1, 0, none⟩) 1 1] 38)
  have y1 := (by_marked w2 5 (0, 0) [58] (by simp)).below (((Below.refl _ _).alloc (Nat.le_refl _) (.cells #[.int .u8 44] 5)).alloc (by simp) (.cells #[.slice (some ⟨g, 0, none⟩) s.size cc, .slice (some ⟨w2.heap.size, 0, none⟩) 1 1, .slice A b.length c, .slice (some ⟨w2.heap.size + 1, 0, none⟩) 1 1] 38))
  have y2 := (by_marked' (w2.alloc (.cells #[.int .u8 58] 5)) (w2.heap.size + 1) (by simp) 5 (0, 0) [44] (by simp)).below ((Below.refl _ _).alloc (Nat.le_refl _) (.cells #[.slice (some ⟨g, 0, none⟩) s.size cc, .slice (some ⟨w2.heap.size, 0, none⟩) 1 1, .slice A b.length c, .slice (some ⟨w2.heap.size + 1, 0, none⟩) 1 1] 38))
  have l1 := lsts_row (blk_new' ((w2.alloc (.cells #[.int .u8 58] 5)).alloc (.cells #[.int .u8 44] 5)) (w2.heap.size + 1 + 1) 38 #[.slice (some ⟨g, 0, none⟩) s.size cc, .slice (some ⟨w2.heap.size, 0, none⟩) 1 1, .slice A b.length c, .slice (some ⟨w2.heap.size + 1, 0, none⟩) 1 1] (by simp))
    [(.slice (some ⟨g, 0, none⟩) s.size cc, lst s), (.slice (some ⟨w2.heap.size, 0, none⟩) 1 1, [58]), (.slice A b.length c, b), (.slice (some ⟨w2.heap.size + 1, 0, none⟩) 1 1, [44])] rfl (by simp) (by
      intro x hx
      simp only [List.mem_cons, List.mem_nil_iff, or_false] at hx
      rcases hx with rfl | rfl | rfl | rfl
      · exact HY.out.below a3
      · exact y1
      · exact (HB.out.below C2.out).below a3
      · exact y2)
  have q := concat_any _ _ _ l1 (by have := HL.out; simp [total, lst_len]; omega)
  have hcat : cat [(Value.slice (some ⟨g, 0, none⟩) s.size cc, lst s), (.slice (some ⟨w2.heap.size, 0, none⟩) 1 1, [58]), (.slice A b.length c, b), (.slice (some ⟨w2.heap.size + 1, 0, none⟩) 1 1, [44])] = fld b := by
    simp [cat, HLS.out, fld]
  rw [hcat] at q
  have Q := hide q
  have A3 := hide (C2.out.trans (a3.mono C2.out.size))
  clear a1 a2 a3 y1 y2 l1 q hcat
  go_wp2_with fail
  refine Q.out.mono ?_
  rintro e w3 ⟨v', rfl, o3, b3⟩
  have O3 := hide o3
  have B3 := hide b3
  clear o3 b3 Q
  go_wp2_with fail
  go_ret
  exact ⟨v', rfl, O3.out.base (by have := C2.out.size; simp; omega), A3.out.trans (B3.out.mono A3.out.size)⟩
end Go.Proofs.YtdohebhbiokljaaDoor

/- Tables in memory; the contracts of the program's rowMay and Pack. -/
namespace Go.Proofs.YtdohebhbiokljaaDoor
open Go.RowKit
attribute [local go_sem ↓] Go.wp_at_zero Go.wp_at_succ

abbrev RowV := ByteArray × Value × List UInt8
def rcells (L : List RowV) : List Value := L.flatMap fun x => [.string x.1, x.2.1]
def rws (L : List RowV) : List Rw := L.map fun x => (lst x.1, x.2.2)
@[simp] theorem rws_length (L : List RowV) : (rws L).length = L.length := by simp [rws]
@[simp] theorem rcells_length (L : List RowV) : (rcells L).length = L.length * 2 := by
  induction L with
  | nil => rfl
  | cons x L ih => simp only [rcells, List.flatMap_cons, List.length_append, List.length_cons, List.length_nil] at ih ⊢; omega
theorem rcells_append (a b : List RowV) : rcells (a ++ b) = rcells a ++ rcells b := by simp [rcells]
theorem rws_append (a b : List RowV) : rws (a ++ b) = rws a ++ rws b := by simp [rws]
theorem rcells_get : ∀ (L : List RowV) (k : Nat) (x : RowV), L[k]? = some x → (rcells L)[k * 2]? = some (.string x.1) ∧ (rcells L)[k * 2 + 1]? = some x.2.1
  | [], k, x, h => by simp at h
  | y :: L, 0, x, h => by
    simp only [List.getElem?_cons_zero, Option.some.injEq] at h
    subst h
    exact ⟨rfl, rfl⟩
  | y :: L, k + 1, x, h => by
    have ih := rcells_get L k x (by simpa using h)
    have e1 : (k + 1) * 2 = k * 2 + 1 + 1 := by omega
    have e2 : (k + 1) * 2 + 1 = k * 2 + 1 + 1 + 1 := by omega
    rw [e2, e1]
    exact ih
/-- A table that reads as these rows. -/
def Rws (w : World) (v : Value) (L : List RowV) : Prop := Sl w 2 v L.length (rcells L) ∧ ∀ x ∈ L, By w x.2.1 x.2.2
theorem Rws.below {w w' : World} {v : Value} {L : List RowV} (h : Rws w v L) (hb : Below w.heap.size w w') : Rws w' v L := ⟨h.1.below hb, fun x hx => (h.2 x hx).below hb⟩
theorem Rws.nil (w : World) : Rws w (.slice none 0 0) [] := ⟨Sl.nil w 2, fun x hx => by cases hx⟩
/-- The value, and each row's two cells. -/
theorem Rws.form {w : World} {v : Value} {L : List RowV} (h : Rws w v L) : ∃ A c, v = .slice A L.length c ∧ L.length ≤ c ∧ c ≤ maxLen ∧
    ∀ k x, L[k]? = some x → ∃ b o, A = some ⟨b, o, none⟩ ∧ b < w.heap.size ∧ w.cell? ⟨b, o + k * 2, none⟩ = some (.string x.1) ∧ w.cell? ⟨b, o + k * 2 + 1, none⟩ = some x.2.1 := by
  obtain ⟨A, c, hv, hc, hm, hcell⟩ := h.1.form
  refine ⟨A, c, hv, hc, hm, fun k x hx => ?_⟩
  have hk := (List.getElem?_eq_some_iff.1 hx).1
  obtain ⟨b, o, hA, hb, hcs⟩ := hcell (by omega)
  have hg := rcells_get L k x hx
  refine ⟨b, o, hA, hb, ?_, ?_⟩
  · rw [hcs (k * 2) (by omega), hg.1]
  · rw [Nat.add_assoc, hcs (k * 2 + 1) (by omega), hg.2]
theorem rws_get {L : List RowV} {k : Nat} {x : RowV} (h : L[k]? = some x) : (rws L)[k]? = some (lst x.1, x.2.2) := by simp [rws, h]

set_option maxRecDepth 100000 in
set_option maxHeartbeats 1000000 in
theorem rowMay_any (v : Value) (L : List RowV) (i : Nat) (w : World) (h : Rws w v L) (hi : i < L.length) :
    Calls Tryd.prog 55 #[v, .int .i64 (i : Int)] w fun e w' => e = .returned (.bool (rowB (rws L) i)) ∧ w = w' := by
  obtain ⟨A, c, rfl, hc, hm, hcell⟩ := h.form
  unfold maxLen at hm
  obtain ⟨x, hx⟩ : ∃ x, L[i]? = some x := ⟨_, List.getElem?_eq_getElem hi⟩
  obtain ⟨b, o, rfl, hb, h1, h2⟩ := hcell i x hx
  have hby := h.2 x (List.mem_of_getElem? hx)
  obtain ⟨A2, c2, hv2, _⟩ := hby.form
  rw [hv2] at h2
  have e1 : (rws L)[i]? = some (lst x.1, x.2.2) := rws_get hx
  have i1 : (i : Int) < (L.length : Int) := by omega
  have i2 : (0 : Int) ≤ (i : Int) := by omega
  have hxs : (lst x.1).length = x.1.size := lst_len _
  by_cases h0 : i = 0
  · have hres : rowB (rws L) i = (decide (1 ≤ x.1.size) && decide (x.1.size ≤ 64) && decide (x.2.2.length ≤ 65536)) := by
      unfold rowB
      rw [e1]
      simp [h0, hxs]
    rw [hres]
    subst h0
    simp only [Nat.zero_mul, Nat.add_zero] at h1 h2
    clear hby hcell hx e1 hres h hv2
    by_cases c1 : 1 ≤ x.1.size
    · by_cases c2 : x.1.size ≤ 64
      · by_cases c3 : x.2.2.length ≤ 65536
        · go_enter Tryd.func55, Tryd.ntmps55
          go_wp2
          go_ret
          simp [c1, c2, c3]
        · go_enter Tryd.func55, Tryd.ntmps55
          go_wp2
          go_ret
          simp [c1, c2, c3]
      · go_enter Tryd.func55, Tryd.ntmps55
        go_wp2
        go_ret
        simp [c1, c2]
    · go_enter Tryd.func55, Tryd.ntmps55
      go_wp2
      go_ret
      simp [c1]
  · obtain ⟨m, rfl⟩ : ∃ m, i = m + 1 := ⟨i - 1, by omega⟩
    obtain ⟨y, hy⟩ : ∃ y, L[m]? = some y := ⟨_, List.getElem?_eq_getElem (by omega)⟩
    obtain ⟨b', o', hbo, -, h3, -⟩ := hcell m y hy
    cases hbo
    have e2 : (rws L)[m]? = some (lst y.1, y.2.2) := rws_get hy
    have hres : rowB (rws L) (m + 1) = (decide (m + 1 < 64) && decide (1 ≤ x.1.size) && decide (x.1.size ≤ 64) && decide (x.2.2.length ≤ 65536) && !(Op.bytesLess x.1.toList y.1.toList || x.1.toList == y.1.toList)) := by
      unfold rowB
      rw [e1]
      simp only [Nat.add_sub_cancel, e2, hxs, leB, str_toList]
      simp [lst]
    rw [hres]
    have k1 : (m : Int) + 1 < (L.length : Int) := by omega
    have k2 : (0 : Int) ≤ (m : Int) + 1 := by omega
    have k3 : (m : Int) < (L.length : Int) := by omega
    have k4 : (0 : Int) ≤ (m : Int) := by omega
    have k5 : ((m : Int) + 1).toNat = m + 1 := by omega
    clear hby hcell hx hy e1 e2 hres h hv2 h0 i1 i2 hi
    by_cases c0 : m + 1 < 64
    · have j0 : (m : Int) + 1 < 64 := by omega
      by_cases c1 : 1 ≤ x.1.size
      · by_cases c2 : x.1.size ≤ 64
        · by_cases c3 : x.2.2.length ≤ 65536
          · go_enter Tryd.func55, Tryd.ntmps55
            go_wp2
            go_ret
            simp [c0, c1, c2, c3]
            intro hh
            omega
          · go_enter Tryd.func55, Tryd.ntmps55
            go_wp2
            go_ret
            simp [c0, c1, c2, c3]
        · go_enter Tryd.func55, Tryd.ntmps55
          go_wp2
          go_ret
          simp [c0, c1, c2]
      · go_enter Tryd.func55, Tryd.ntmps55
        go_wp2
        go_ret
        simp [c0, c1]
    · have j0 : ¬ (m : Int) + 1 < 64 := by omega
      go_enter Tryd.func55, Tryd.ntmps55
      go_wp2
      go_ret
      simp [c0]

theorem below_same {B : Nat} {a W W' : World} (h : Below B a W) (e1 : W'.os = W.os) (e2 : W'.tape = W.tape) (e3 : W'.output = W.output) (e4 : W'.heap = W.heap) : Below B a W' :=
  ⟨e1.trans h.os, e2.trans h.tape, e3.trans h.output, by rw [e4]; exact h.size, fun k hk => by rw [e4]; exact h.block k hk⟩
theorem By.heap_ {w W : World} {v : Value} {l : List UInt8} (h : By w v l) (e : W.heap = w.heap) : By W v l := h.keep (by rw [e]; exact Nat.le_refl _) fun b _ => by rw [e]
theorem By.alloc {w : World} {v : Value} {l : List UInt8} (h : By w v l) (o : Obj) : By (w.alloc o) v l := h.below ((Below.refl _ w).alloc (Nat.le_refl _) o)
theorem by_str_row {W : World} {g : Nat} {s : ByteArray} {cap : Nat} {e : TypeId} {f : Nat × Nat} (hh : W.heap[g]? = some (.cells (bytesRow s cap) e f)) (h1 : s.size ≤ cap) (h2 : cap ≤ maxLen) : By W (.slice (some ⟨g, 0, none⟩) s.size cap) (lst s) := by
  have := by_row (l := lst s) (c := cap) hh (by rw [lst_len]; exact h1) h2 fun j hj => by
    rw [lst_len] at hj
    unfold bytesRow bcells lst
    rw [Array.getElem?_append_left (by simp; omega)]
    simp
  rwa [lst_len] at this

theorem fld_len (b : List UInt8) (h : b.length ≤ 65536) : (fld b).length ≤ b.length + 7 := by
  have := itoa_len b.length h
  unfold fld
  simp
  omega
theorem encs_len : ∀ (rs : List Rw) (k : Nat), rs.length ≤ k → (∀ y ∈ rs, y.1.length ≤ 64 ∧ y.2.length ≤ 65536) → (encs rs).length ≤ 1048576 * k
  | [], k, _, _ => by simp
  | x :: rs, 0, h, _ => by simp at h
  | x :: rs, k + 1, h, hy => by
    have ih := encs_len rs k (by simpa using h) fun y hm => hy y (List.mem_cons_of_mem _ hm)
    have hx := hy x (List.mem_cons_self ..)
    have f1 := fld_len x.1 (by omega)
    have f2 := fld_len x.2 hx.2
    rw [encs_cons, List.length_append]
    unfold enc
    rw [List.length_append]
    omega

set_option maxRecDepth 100000 in
set_option maxHeartbeats 8000000 in
theorem pack_any (v : Value) (L : List RowV) (w : World) (h : Rws w v L) (ht : Tab w) :
    Calls Tryd.prog 28 #[v] w fun e w' => Below w.heap.size w w' ∧
      ((may (rws L) ∧ ∃ v', e = .returned (.tuple #[v', .int .i64 0]) ∧ Own w' w.heap.size 5 v' (encs (rws L))) ∨
       (¬ may (rws L) ∧ e = .returned (.tuple #[.slice none 0 0, .int .i64 130]))) := by
  have HR := hide h
  have HT := hide ht
  obtain ⟨A, c, rfl, hc, hm, hcell⟩ := h.form
  have HC := hide hcell
  unfold maxLen at hm
  clear h ht hcell
  go_enter Tryd.func28, Tryd.ntmps28
  go_wp2
  go_loopw [4, 8] (fun u4 u8 wr => ∃ k : Nat, k ≤ L.length ∧ u8 = .int .i64 k ∧ Own wr w.heap.size 5 u4 (encs ((rws L).take k)) ∧ (∀ j, j < k → rowB (rws L) j = true) ∧ Below w.heap.size w wr) (fun _ i _ => L.length - (intOf i).toNat)
  case atStart => exact ⟨0, by omega, rfl, Own.nil _ _ _, fun j hj => absurd hj (Nat.not_lt_zero _), Below.refl _ _⟩
  case round =>
    obtain ⟨k, hk, rfl, ho, hr, hb⟩ := hrel
    have HO := hide ho
    have HM := hide hr
    clear ho hr
    by_cases hlt : k < L.length
    · have q := rowMay_any _ L k wr (HR.out.below hb) hlt
      have i1 : (k : Int) < (L.length : Int) := by omega
      have i2 : (0 : Int) ≤ (k : Int) := by omega
      rcases hrb : rowB (rws L) k with _ | _
      · rw [hrb] at q
        have Q := hide q
        have HB := hide hrb
        clear q hrb
        go_wp2_with fail
        refine Q.out.mono ?_
        rintro e w1 ⟨rfl, rfl⟩
        go_wp2
        go_ret2
        have hno : ¬ may (rws L) := fun hmay => by
          have := hmay k (by simpa using hlt)
          rw [HB.out] at this
          cases this
        exact ⟨hb, .inr ⟨hno, rfl⟩⟩
      · rw [hrb] at q
        have Q := hide q
        obtain ⟨x, hx⟩ : ∃ x, L[k]? = some x := ⟨_, List.getElem?_eq_getElem hlt⟩
        obtain ⟨b, o, rfl, hbl, h1, h2⟩ := HC.out k x hx
        have hb1 : wr.cell? ⟨b, o + k * 2, none⟩ = some (.string x.1) := (hb.cell (p := ⟨b, o + k * 2, none⟩) hbl).trans h1
        have hb2 : wr.cell? ⟨b, o + k * 2 + 1, none⟩ = some x.2.1 := (hb.cell (p := ⟨b, o + k * 2 + 1, none⟩) hbl).trans h2
        have hby := (HR.out.2 x (List.mem_of_getElem? hx)).below hb
        clear q h1 h2
        go_wp2_with fail
        refine Q.out.mono ?_
        rintro e w1 ⟨rfl, rfl⟩
        obtain ⟨A2, c2, hv2, _⟩ := hby.form
        rw [hv2] at hb2
        have kc := fun w : World => run_bytes_of_string w 9 38 5 x.1 Tryd.underlying9 Tryd.underlying38 Tryd.underlying5
        have hvl : x.2.2.length ≤ 65536 := by
          obtain ⟨r, hr, _, _, _, hv⟩ := rowB_some hrb
          rw [rws_get hx] at hr
          cases hr
          exact hv
        have hnl : x.1.size ≤ 64 := by
          obtain ⟨r, hr, _, _, hv, _⟩ := rowB_some hrb
          rw [rws_get hx] at hr
          cases hr
          simpa [lst_len] using hv
        have HNL := hide hnl
        have HVL := hide hvl
        rw [hv2] at hby
        have HV : Hid (∀ W, Below wr.heap.size wr W → Calls Tryd.prog 57 #[.slice A2 x.2.2.length c2] W fun e w' => ∃ A n c, e = .returned (.slice A n c) ∧ By w' (.slice A n c) (fld x.2.2) ∧ Below W.heap.size W w' ∧ Below wr.heap.size wr w') := fun W hW =>
          (field_any _ x.2.2 W (hby.below hW) (by omega) ((HT.out.below hb).below hW)).mono fun e w' ⟨v', h1, h2, h3⟩ => by
            obtain ⟨A', c', rfl, _⟩ := h2.by_.form
            exact ⟨_, _, _, h1, h2.by_, h3, hW.trans (h3.mono hW.size)⟩
        have HN : Hid (∀ W g cap, (∃ e f, W.heap[g]? = some (.cells (bytesRow x.1 cap) e f)) → x.1.size ≤ cap → cap ≤ maxLen → Below wr.heap.size wr W → Calls Tryd.prog 57 #[.slice (some ⟨g, 0, none⟩) x.1.size cap] W fun e w' => ∃ A n c, e = .returned (.slice A n c) ∧ By w' (.slice A n c) (fld (lst x.1)) ∧ Below W.heap.size W w' ∧ Below wr.heap.size wr w') := fun W g cap ⟨e, f, h1⟩ h2 h3 hW =>
          (field_any _ (lst x.1) W (by_str_row h1 h2 h3) (by rw [lst_len]; omega) ((HT.out.below hb).below hW)).mono fun e w' ⟨v', h1, h2, h3⟩ => by
            obtain ⟨A', c', rfl, _⟩ := h2.by_.form
            exact ⟨_, _, _, h1, h2.by_, h3, hW.trans (h3.mono hW.size)⟩
        have hnext : encs ((rws L).take (k + 1)) = encs ((rws L).take k) ++ (fld (lst x.1) ++ fld x.2.2) := by
          rw [take_snoc (rws L) k _ (rws_get hx), encs_snoc]; rfl
        have hlen0 : (encs ((rws L).take k)).length ≤ 1048576 * k := encs_len _ k (by simp; omega) fun y hy => by
          obtain ⟨j, hj⟩ := List.mem_iff_getElem?.1 hy
          rw [List.getElem?_take] at hj
          split at hj
          · rename_i hjk
            obtain ⟨r, hr, _, _, h64, h65⟩ := rowB_some (HM.out j hjk)
            rw [hj] at hr
            cases hr
            exact ⟨h64, h65⟩
          · cases hj
        have hk64 : k < 64 := by
          obtain ⟨r, _, h64, _⟩ := rowB_some hrb
          exact h64
        have HK : Hid (∀ W g (a b c : Value), (∃ e f, W.heap[g]? = some (.cells #[a, b, c] e f)) → By W a (encs ((rws L).take k)) → By W b (fld (lst x.1)) → By W c (fld x.2.2) → Below wr.heap.size wr W → Calls Tryd.prog 56 #[.slice (some ⟨g, 0, none⟩) 3 3] W fun e w' => ∃ v', e = .returned v' ∧ Own w' w.heap.size 5 v' (encs ((rws L).take (k + 1))) ∧ Below wr.heap.size wr w') := fun W g a b c ⟨e, f, hh⟩ ha hb' hc' hW => by
          have hl : Lsts W (.slice (some ⟨g, 0, none⟩) 3 3) [(a, encs ((rws L).take k)), (b, fld (lst x.1)), (c, fld x.2.2)] := by
            refine ⟨⟨rfl, _, 3, rfl, Nat.le_refl _, by unfold maxLen; omega, fun _ => ⟨g, 0, rfl, ?_, fun j hj => ?_⟩⟩, ?_⟩
            · rcases Nat.lt_or_ge g W.heap.size with h | h
              · exact h
              · rw [Array.getElem?_eq_none h] at hh; cases hh
            · rw [Nat.zero_add, cell_of_row W g j _ e f hh]
              simp
            · intro y hy
              simp only [List.mem_cons, List.mem_nil_iff, or_false] at hy
              rcases hy with rfl | rfl | rfl
              · exact ha
              · exact hb'
              · exact hc'
          have hf1 := fld_len (lst x.1) (by rw [lst_len]; omega)
          have hf2 := fld_len x.2.2 hvl
          rw [lst_len] at hf1
          refine (concat_any _ _ W hl (by simp [total]; omega)).mono ?_
          rintro e w' ⟨v', h1, h2, h3⟩
          refine ⟨v', h1, ?_, hW.trans (h3.mono hW.size)⟩
          rw [hnext]
          have : cat [(a, encs ((rws L).take k)), (b, fld (lst x.1)), (c, fld x.2.2)] = encs ((rws L).take k) ++ (fld (lst x.1) ++ fld x.2.2) := by simp [cat]
          rw [this] at h2
          exact h2.base (Nat.le_trans hb.size hW.size)
        clear hnext hlen0 hk64
        have hcl := fun w : World => grownCap_le_maxLen w x.1.size 0 5 (by unfold maxLen; omega)
        have HCL := hide hcl
        clear hcl
        have hbw : b < wr.heap.size := Nat.lt_of_lt_of_le hbl hb.size
        obtain ⟨A4, c4, hv4, _⟩ := HO.out.by_.form
        subst hv4
        have HB1 := hide hb1
        have HB2 := hide hb2
        have HX := hide hx
        have HRB := hide hrb
        clear Q hx hrb hvl hnl hv2 hby
        go_wp2
        go_region_held (fun w' => w'.cell? ⟨b, o + k * 2, none⟩ = some (.string x.1) ∧ w'.cell? ⟨b, o + k * 2 + 1, none⟩ = some (.slice A2 x.2.2.length c2))
          (first | go_keep | exact ⟨(r1.cell (p := ⟨b, o + k * 2, none⟩) hbw).trans HB1.out, (r1.cell (p := ⟨b, o + k * 2 + 1, none⟩) hbw).trans HB2.out⟩ | exact ⟨(r2.cell (p := ⟨b, o + k * 2, none⟩) hbw).trans HB1.out, (r2.cell (p := ⟨b, o + k * 2 + 1, none⟩) hbw).trans HB2.out⟩ | exact ⟨(r3.cell (p := ⟨b, o + k * 2, none⟩) hbw).trans HB1.out, (r3.cell (p := ⟨b, o + k * 2 + 1, none⟩) hbw).trans HB2.out⟩)
          (first
            | (go_at_call 57; (with_reducible refine (HV.out _ ?bb).mono ?_); (case bb => (first | exact Below.refl _ _ | assumption | exact (Below.refl _ _).drew | exact (Below.refl _ _).drew.drew | exact ((Below.refl _ _).alloc (Nat.le_refl _) _).drew | exact ((Below.refl _ _).alloc (Nat.le_refl _) _).drew.drew | exact ((Below.refl _ _).alloc (Nat.le_refl _) _).drew.drew.drew | exact (r1.alloc r1.size _).drew | exact (r1.alloc r1.size _).drew.drew | exact r1.drew | exact r1.alloc r1.size _)); rintro e w1 ⟨A1, n1, c1, rfl, p1, q1, r1⟩)
            | (go_at_call 57; (with_reducible refine (HN.out _ _ _ ?hr (grownCap_ge ..) (HCL.out _) ?bb).mono ?_); (case hr => first | exact ⟨_, _, heap_alloc_new wr _⟩ | exact ⟨_, _, heap_alloc_new w1 _⟩ | exact ⟨_, _, (q1.block _ (by simp)).trans (heap_alloc_new wr _)⟩); (case bb => (first | exact Below.refl _ _ | assumption | exact (Below.refl _ _).drew | exact (Below.refl _ _).drew.drew | exact ((Below.refl _ _).alloc (Nat.le_refl _) _).drew | exact ((Below.refl _ _).alloc (Nat.le_refl _) _).drew.drew | exact ((Below.refl _ _).alloc (Nat.le_refl _) _).drew.drew.drew | exact (r1.alloc r1.size _).drew | exact (r1.alloc r1.size _).drew.drew | exact r1.drew | exact r1.alloc r1.size _)); rintro e w2 ⟨A3, n3, c3, rfl, p2, q2, r2⟩)
            | (go_at_call 56; (with_reducible refine (HK.out _ _ _ _ _ ⟨_, _, heap_alloc_new w2 _⟩ ?ha ?hb ?hc ?bb).mono ?_); (case ha => first | exact By.heap_ (By.alloc (By.below HO.out.by_ r2) _) rfl | exact By.heap_ (By.alloc (By.below HO.out.by_ r1) _) rfl); (case hb => first | exact By.heap_ (By.alloc (by exact p2) _) rfl | exact By.heap_ (By.alloc (By.below (by exact p2) q1) _) rfl); (case hc => first | exact By.heap_ (By.alloc (by exact p1) _) rfl | exact By.heap_ (By.alloc (By.below (by exact p1) q2) _) rfl); (case bb => first | exact below_same (r2.alloc r2.size _) rfl rfl rfl rfl | exact below_same (r1.alloc r1.size _) rfl rfl rfl rfl); rintro e w3 ⟨v3, rfl, p3, r3⟩)
            | (go_at_call 56; (with_reducible refine (HK.out _ _ _ _ _ ⟨_, _, heap_alloc_new w1 _⟩ ?ha ?hb ?hc ?bb).mono ?_); (case ha => first | exact By.heap_ (By.alloc (By.below HO.out.by_ r2) _) rfl | exact By.heap_ (By.alloc (By.below HO.out.by_ r1) _) rfl); (case hb => first | exact By.heap_ (By.alloc (by exact p2) _) rfl | exact By.heap_ (By.alloc (By.below (by exact p2) q1) _) rfl); (case hc => first | exact By.heap_ (By.alloc (by exact p1) _) rfl | exact By.heap_ (By.alloc (By.below (by exact p1) q2) _) rfl); (case bb => first | exact below_same (r2.alloc r2.size _) rfl rfl rfl rfl | exact below_same (r1.alloc r1.size _) rfl rfl rfl rfl); rintro e w3 ⟨v3, rfl, p3, r3⟩))
        all_goals
          go_wp2
          go_roundw
          case rel =>
            refine ⟨k + 1, by omega, by go_num, p3, fun j hj => ?_, hb.trans (r3.mono hb.size)⟩
            rcases Nat.lt_or_ge j k with hjk | hjk
            · exact HM.out j hjk
            · rw [show j = k by omega]; exact HRB.out
          case measure => simp [intOf]; omega
    · have hge : ¬ (k : Int) < (L.length : Int) := by omega
      have hks : k = L.length := by omega
      have hend := HO.out
      rw [hks, List.take_of_length_le (by simp)] at hend
      have HE := hide hend
      have HMY : Hid (may (rws L)) := fun j hj => HM.out j (by rw [hks]; simpa using hj)
      clear hks hend HO HM
      go_wp2
      go_ret2
      exact ⟨hb, .inl ⟨HMY.out, _, rfl, HE.out⟩⟩
end Go.Proofs.YtdohebhbiokljaaDoor
