/- Joined texts: B10, B10E, NumP, BackP, OneP, Flds, Mem, Lst, NumW, NumR, Kit, Mem2. -/
import Derived.KernelRfl
import Derived.Lib.AtoiTie
import Derived.Lib.ItoaNum
import Derived.Lib.ItoaMem
import Derived.Lib.Split
import Derived.Lib.SplitLaws
import Derived.WalkKit
import Derived.Deep.AppendLies
import Derived.Deep.Draws
import Derived.Maps.AppendAt
import Derived.WalkSpells
import Derived.Deep.MidRow
import Derived.Lib.BufferRead
import Derived.Test.YtcpceaflnnkhnaaGreatDoorShelf
import Derived.Lib.LaidTab
import Derived.Lib.QuietBelow
import Derived.Laws.BitsAll
import Derived.Test.YtcpceaflnnkhnaaGreatDoorRows
import Derived.BigQuiet
import Derived.Deep.QuietTactic

/- Plain lemmas on numbers, digits and letters: five bits a letter, eight bits a byte. No program in sight. -/
namespace Go.Proofs.YtcpceaflnnkhnaaGreatDoor

theorem snoc_ind {α : Type} {p : List α → Prop} (h0 : p []) (h1 : ∀ l x, p l → p (l ++ [x])) (l : List α) : p l := by
  have h : ∀ l : List α, p l.reverse := fun l => by
    induction l with
    | nil => exact h0
    | cons x l ih => rw [List.reverse_cons]; exact h1 _ _ ih
  have := h l.reverse
  rwa [List.reverse_reverse] at this

/-- The number whose digits to a base are these. -/
def val (B : Nat) (l : List Nat) : Nat := l.foldl (fun a x => B * a + x) 0
theorem val_snoc (B : Nat) (l : List Nat) (x : Nat) : val B (l ++ [x]) = B * val B l + x := by simp [val]
@[simp] theorem val_nil (B : Nat) : val B [] = 0 := rfl
theorem mul_succ_le {B a b x : Nat} (h : a < b) (hx : x < B) : B * a + x < b * B := by
  have : B * (a + 1) ≤ B * b := Nat.mul_le_mul_left _ h
  rw [Nat.mul_add, Nat.mul_one] at this
  rw [Nat.mul_comm b B]
  omega
theorem val_lt (B : Nat) (l : List Nat) (h : ∀ x ∈ l, x < B) : val B l < B ^ l.length := by
  revert h
  refine snoc_ind (p := fun l => (∀ x ∈ l, x < B) → val B l < B ^ l.length) (by simp) (fun l x ih h => ?_) l
  rw [val_snoc, List.length_append]
  simp only [List.length_cons, List.length_nil, Nat.zero_add, Nat.pow_succ]
  exact mul_succ_le (ih fun y hy => h y (by simp [hy])) (h x (by simp))

/-- The last n digits of a number to a base. -/
def dig (B : Nat) : Nat → Nat → List Nat
  | 0, _ => []
  | n + 1, X => dig B n (X / B) ++ [X % B]
@[simp] theorem dig_length (B n X : Nat) : (dig B n X).length = n := by
  induction n generalizing X with
  | zero => rfl
  | succ n ih => simp [dig, ih]
theorem dig_val (B : Nat) (l : List Nat) (h : ∀ x ∈ l, x < B) : dig B l.length (val B l) = l := by
  revert h
  refine snoc_ind (p := fun l => (∀ x ∈ l, x < B) → dig B l.length (val B l) = l) (fun _ => rfl) (fun l x ih h => ?_) l
  have hx := h x (by simp)
  have hB : 0 < B := by omega
  rw [val_snoc, List.length_append]
  show dig B (l.length + 1) _ = _
  rw [dig, show (B * val B l + x) / B = val B l by rw [Nat.mul_add_div hB, Nat.div_eq_of_lt hx, Nat.add_zero], ih fun y hy => h y (by simp [hy]), Nat.mul_add_mod, Nat.mod_eq_of_lt hx]
theorem val_dig (B n X : Nat) : val B (dig B n X) = X % B ^ n := by
  induction n generalizing X with
  | zero => simp [dig, Nat.mod_one]
  | succ n ih => rw [dig, val_snoc, ih, Nat.pow_succ, Nat.mul_comm (B ^ n) B, Nat.mod_mul]; omega
theorem dig_lt (B n X : Nat) (hB : 0 < B) : ∀ x ∈ dig B n X, x < B := by
  induction n generalizing X with
  | zero => simp [dig]
  | succ n ih =>
    intro x hx
    rw [dig, List.mem_append] at hx
    rcases hx with hx | hx
    · exact ih _ x hx
    · rw [List.mem_singleton] at hx; subst hx; exact Nat.mod_lt _ hB
theorem dig_get (B n X i : Nat) (h : i < n) : (dig B n X)[i]? = some (X / B ^ (n - 1 - i) % B) := by
  induction n generalizing X with
  | zero => omega
  | succ n ih =>
    rw [dig]
    by_cases hi : i < n
    · rw [List.getElem?_append_left (by simpa using hi), ih _ hi, Nat.div_div_eq_div_mul, ← Nat.pow_succ', Nat.succ_eq_add_one, show n - 1 - i + 1 = n + 1 - 1 - i by omega]
    · have : i = n := by omega
      subst this
      rw [List.getElem?_append_right (by simp)]
      simp
theorem dig_mod (B n X : Nat) : dig B n (X % B ^ n) = dig B n X := by
  induction n generalizing X with
  | zero => rfl
  | succ n ih =>
    rw [dig, dig, Nat.pow_succ, Nat.mul_comm (B ^ n) B, Nat.mod_mul_right_div_self, ih, Nat.mod_mul_right_mod]
theorem dig_inj (B n X Y : Nat) (hX : X < B ^ n) (hY : Y < B ^ n) (h : dig B n X = dig B n Y) : X = Y := by
  have := congrArg (val B) h
  rwa [val_dig, val_dig, Nat.mod_eq_of_lt hX, Nat.mod_eq_of_lt hY] at this

/-- A number as 32 bits hold it. -/
@[irreducible] def m32 (n : Nat) : Nat := n % 4294967296
theorem m32_eq (n : Nat) : m32 n = n % 4294967296 := by unfold m32; rfl
theorem m32_lt (n : Nat) : m32 n < 4294967296 := by rw [m32_eq]; omega
theorem m32_byte (n x : Nat) (hx : x < 256) : m32 n * 256 % 4294967296 + x = m32 (256 * n + x) := by rw [m32_eq, m32_eq]; omega
theorem m32_five (n x : Nat) (hx : x < 32) : m32 n * 32 % 4294967296 + x = m32 (32 * n + x) := by rw [m32_eq, m32_eq]; omega
theorem m32_bits (n h c : Nat) (hh : h + c ≤ 32) : m32 n / 2 ^ h % 2 ^ c = n / 2 ^ h % 2 ^ c := by
  rw [m32_eq, show (4294967296 : Nat) = 2 ^ h * 2 ^ (32 - h) by rw [← Nat.pow_add, show h + (32 - h) = 32 by omega], Nat.mod_mul_right_div_self]
  exact Nat.mod_mod_of_dvd _ (Nat.pow_dvd_pow 2 (by omega))
theorem m32_low (n c : Nat) (hc : c ≤ 32) : m32 n % 2 ^ c = n % 2 ^ c := by
  have := m32_bits n 0 c (by omega)
  simpa using this
theorem or_low (a b k : Nat) (hb : b < 2 ^ k) : (a * 2 ^ k) ||| b = a * 2 ^ k + b := by
  rw [Nat.mul_comm, ← Nat.two_pow_add_eq_or_of_lt hb]
theorem or_byte32 (a b : Nat) (hb : b < 256) : (a * 256 % 4294967296) ||| b = a * 256 % 4294967296 + b := by
  have : a * 256 % 4294967296 = (a % 16777216) * 2 ^ 8 := by omega
  rw [this]; exact or_low _ _ 8 hb
theorem or_five32 (a b : Nat) (hb : b < 32) : (a * 32 % 4294967296) ||| b = a * 32 % 4294967296 + b := by
  have : a * 32 % 4294967296 = (a % 134217728) * 2 ^ 5 := by omega
  rw [this]; exact or_low _ _ 5 hb

/-! ### Letters -/
def letterN (d : Nat) : UInt8 := UInt8.ofNat (if d < 26 then 97 + d else 24 + d)
/-- What a letter stands for; none: it is no letter. -/
def worthN (c : UInt8) : Option Nat :=
  if 97 ≤ c.toNat ∧ c.toNat ≤ 122 then some (c.toNat - 97) else if 50 ≤ c.toNat ∧ c.toNat ≤ 55 then some (c.toNat - 50 + 26) else none
theorem letterN_toNat (d : Nat) (h : d < 32) : (letterN d).toNat = if d < 26 then 97 + d else 24 + d := by
  unfold letterN
  rw [UInt8.toNat_ofNat']
  split <;> omega
theorem worth_letter (d : Nat) (h : d < 32) : worthN (letterN d) = some d := by
  unfold worthN
  rw [letterN_toNat d h]
  by_cases h1 : d < 26
  · rw [if_pos h1, if_pos (by omega)]; congr 1; omega
  · rw [if_neg h1, if_neg (by omega), if_pos (by omega)]; congr 1; omega
theorem letter_worth (c : UInt8) (d : Nat) (h : worthN c = some d) : letterN d = c ∧ d < 32 := by
  unfold worthN at h
  split at h
  · injection h with h
    have hd : d < 32 := by omega
    refine ⟨UInt8.toNat_inj.1 ?_, hd⟩
    rw [letterN_toNat d hd, if_pos (by omega)]; omega
  · split at h
    · injection h with h
      have hd : d < 32 := by omega
      refine ⟨UInt8.toNat_inj.1 ?_, hd⟩
      rw [letterN_toNat d hd, if_neg (by omega)]; omega
    · cases h

def nats (b : List UInt8) : List Nat := b.map (·.toNat)
theorem nats_lt (b : List UInt8) : ∀ x ∈ nats b, x < 256 := by
  intro x hx
  obtain ⟨y, _, rfl⟩ := List.mem_map.1 hx
  exact y.toNat_lt
@[simp] theorem nats_length (b : List UInt8) : (nats b).length = b.length := by simp [nats]
theorem nats_snoc (b : List UInt8) (x : UInt8) : nats (b ++ [x]) = nats b ++ [x.toNat] := by simp [nats]
theorem nats_inj {a b : List UInt8} (h : nats a = nats b) : a = b := by
  unfold nats at h
  exact (List.map_inj_right (fun _ _ h => UInt8.toNat_inj.1 h)).1 h

/-- How many letters so many bytes have. -/
def lets (n : Nat) : Nat := (8 * n + 4) / 5
/-- The bytes as one number, moved up so far that the letters end with it. -/
def big (b : List UInt8) : Nat := val 256 (nats b) * 2 ^ (5 * lets b.length - 8 * b.length)
def letters (b : List UInt8) : List UInt8 := (dig 32 (lets b.length) (big b)).map letterN
@[simp] theorem letters_length (b : List UInt8) : (letters b).length = lets b.length := by simp [letters]

/-- The letters that are written when k bytes are read and e letters written. -/
def part (b : List UInt8) (k e : Nat) : List UInt8 := (dig 32 e (val 256 (nats (b.take k)) / 2 ^ (8 * k - 5 * e))).map letterN
@[simp] theorem part_length (b : List UInt8) (k e : Nat) : (part b k e).length = e := by simp [part]

theorem part_byte (b : List UInt8) (k e : Nat) (x : UInt8) (hx : b[k]? = some x) (he : 5 * e ≤ 8 * k) : part b (k + 1) e = part b k e := by
  unfold part
  congr 2
  rw [List.take_add_one, hx, show (some x).toList = [x] from rfl, nats_snoc, val_snoc, show 8 * (k + 1) - 5 * e = 8 + (8 * k - 5 * e) by omega, Nat.pow_add, ← Nat.div_div_eq_div_mul]
  congr 1
  have := x.toNat_lt
  omega
theorem part_letter (b : List UInt8) (k e : Nat) (he : 5 * (e + 1) ≤ 8 * k) :
    part b k (e + 1) = part b k e ++ [letterN (val 256 (nats (b.take k)) / 2 ^ (8 * k - 5 * (e + 1)) % 32)] := by
  unfold part
  rw [dig, List.map_append, Nat.div_div_eq_div_mul, show (32 : Nat) = 2 ^ 5 from rfl, ← Nat.pow_add, show 8 * k - 5 * (e + 1) + 5 = 8 * k - 5 * e by omega]
  rfl
theorem part_end (b : List UInt8) (e : Nat) (he : 5 * e ≤ 8 * b.length) (hd : 8 * b.length < 5 * (e + 1)) :
    letters b = if 8 * b.length = 5 * e then part b b.length e else part b b.length e ++ [letterN (val 256 (nats b) * 2 ^ (5 * (e + 1) - 8 * b.length) % 32)] := by
  unfold letters big part
  split
  · rename_i h
    have hl : lets b.length = e := by unfold lets; omega
    rw [hl, List.take_length]
    congr 2
    simp [h]
  · rename_i h
    have hl : lets b.length = e + 1 := by unfold lets; omega
    rw [hl, List.take_length, dig, List.map_append]
    congr 3
    generalize val 256 (nats b) = M
    have h1 : 8 * b.length - 5 * e + (5 * (e + 1) - 8 * b.length) = 5 := by omega
    rw [← Nat.mul_div_mul_right M (2 ^ (8 * b.length - 5 * e)) (Nat.two_pow_pos (5 * (e + 1) - 8 * b.length)), ← Nat.pow_add, h1]

/-! ### The same letters, bit by bit -/
/-- Bit n of the bytes, the first the highest; behind them noughts. -/
def bitAt (b : List UInt8) (n : Nat) : Nat := (b.getD (n / 8) 0).toNat / 2 ^ (7 - n % 8) % 2
theorem val_digit (l : List Nat) (B i : Nat) (h : ∀ x ∈ l, x < B) (hi : i < l.length) : l[i]? = some (val B l / B ^ (l.length - 1 - i) % B) := by
  have := dig_get B l.length (val B l) i hi
  rwa [dig_val B l h] at this
theorem bit_of_byte (M q r : Nat) (hr : r < 8) : M / 256 ^ q % 256 / 2 ^ (7 - r) % 2 = M / 2 ^ (8 * q + (7 - r)) % 2 := by
  rw [show (256 : Nat) = 2 ^ 8 from rfl, ← Nat.pow_mul, Nat.pow_add, ← Nat.div_div_eq_div_mul]
  generalize M / 2 ^ (8 * q) = Y
  have hs : (2 : Nat) ^ 8 = 2 ^ (7 - r) * 2 ^ (r + 1) := by rw [← Nat.pow_add]; congr 1; omega
  rw [hs, Nat.mod_mul_right_div_self, Nat.pow_succ, Nat.mul_comm (2 ^ r) 2, Nat.mod_mul_right_mod]
theorem bit_big (b : List UInt8) (n : Nat) (h : n < 5 * lets b.length) : (if n < 8 * b.length then bitAt b n else 0) = big b / 2 ^ (5 * lets b.length - 1 - n) % 2 := by
  unfold big
  have hl : 8 * b.length ≤ 5 * lets b.length := by unfold lets; omega
  split
  · rename_i hn
    unfold bitAt
    have hq : n / 8 < b.length := by omega
    have hv := val_digit (nats b) 256 (n / 8) (nats_lt b) (by simpa using hq)
    rw [List.getD_eq_getElem?_getD]
    have hg : (b[n / 8]?.getD 0).toNat = val 256 (nats b) / 256 ^ (b.length - 1 - n / 8) % 256 := by
      rw [nats_length] at hv
      unfold nats at hv
      rw [List.getElem?_map] at hv
      rw [List.getElem?_eq_getElem hq] at hv ⊢
      simpa [nats] using hv
    rw [hg, bit_of_byte _ _ _ (by omega)]
    have e : 5 * lets b.length - 1 - n = (5 * lets b.length - 8 * b.length) + (8 * (b.length - 1 - n / 8) + (7 - n % 8)) := by omega
    rw [e, Nat.pow_add 2 (5 * lets b.length - 8 * b.length) _, ← Nat.div_div_eq_div_mul, Nat.mul_div_cancel _ (Nat.two_pow_pos _)]
  · rename_i hn
    have e : 5 * lets b.length - 8 * b.length = (5 * lets b.length - 1 - n) + ((n - 8 * b.length) + 1) := by omega
    rw [e, Nat.pow_add, ← Nat.mul_assoc, Nat.mul_right_comm, Nat.mul_div_cancel _ (Nat.two_pow_pos _), Nat.pow_succ, ← Nat.mul_assoc, Nat.mul_mod_left]
theorem bits_step (T m k : Nat) (hm : 0 < m) : 2 * (T / 2 ^ m % 2 ^ k) + T / 2 ^ (m - 1) % 2 = T / 2 ^ (m - 1) % 2 ^ (k + 1) := by
  obtain ⟨p, rfl⟩ : ∃ p, m = p + 1 := ⟨m - 1, by omega⟩
  rw [Nat.add_sub_cancel, Nat.pow_succ, ← Nat.div_div_eq_div_mul, Nat.pow_succ, Nat.mul_comm (2 ^ k) 2, Nat.mod_mul]
  omega
theorem letters_get (b : List UInt8) (i : Nat) (h : i < lets b.length) : (letters b)[i]? = some (letterN (big b / 2 ^ (5 * lets b.length - 5 * i - 5) % 2 ^ 5)) := by
  unfold letters
  rw [List.getElem?_map, dig_get 32 _ _ i h, show (32 : Nat) = 2 ^ 5 from rfl, ← Nat.pow_mul]
  simp only [Option.map_some]
  congr 5
  omega

/-! ### Letters read -/
def worths (s : List UInt8) : List Nat := s.map fun c => (worthN c).getD 0
@[simp] theorem worths_length (s : List UInt8) : (worths s).length = s.length := by simp [worths]
theorem worth_lt (c : UInt8) : (worthN c).getD 0 < 32 := by
  rcases h : worthN c with _ | d
  · simp
  · exact (letter_worth c d h).2
theorem worths_lt (s : List UInt8) : ∀ x ∈ worths s, x < 32 := by
  intro x hx
  obtain ⟨c, _, rfl⟩ := List.mem_map.1 hx
  exact worth_lt c
theorem worths_snoc (s : List UInt8) (c : UInt8) : worths (s ++ [c]) = worths s ++ [(worthN c).getD 0] := by simp [worths]
/-- The place of the first sign that is no letter. -/
def bad (s : List UInt8) : Option Nat := s.findIdx? fun c => (worthN c).isNone
def good (s : List UInt8) (k : Nat) : Prop := ∀ (j : Nat) (c : UInt8), j < k → s[j]? = some c → (worthN c).isSome = true
theorem good_zero (s : List UInt8) : good s 0 := fun j c h => by omega
theorem good_succ (s : List UInt8) (k : Nat) (c : UInt8) (h : good s k) (hc : s[k]? = some c) (hw : (worthN c).isSome = true) : good s (k + 1) := fun j d hj hd => by
  by_cases hjk : j = k
  · subst hjk; rw [hc] at hd; injection hd with hd; subst hd; exact hw
  · exact h j d (by omega) hd
theorem bad_some (s : List UInt8) (k : Nat) (c : UInt8) (h : good s k) (hc : s[k]? = some c) (hw : worthN c = none) : bad s = some k := by
  obtain ⟨hk, he⟩ := List.getElem?_eq_some_iff.1 hc
  unfold bad
  rw [List.findIdx?_eq_some_iff_getElem]
  refine ⟨hk, by rw [he, hw]; rfl, fun j hj => ?_⟩
  have := h j _ hj (List.getElem?_eq_getElem (by omega))
  rcases hx : worthN (s[j]'(by omega)) with _ | d
  · rw [hx] at this; cases this
  · simp [hx]
theorem bad_none (s : List UInt8) (h : good s s.length) : bad s = none := by
  unfold bad
  rw [List.findIdx?_eq_none_iff]
  intro c hc
  obtain ⟨j, hj, rfl⟩ := List.getElem_of_mem hc
  have := h j _ hj (List.getElem?_eq_getElem hj)
  rcases hx : worthN s[j] with _ | d
  · rw [hx] at this; cases this
  · rfl

def bytesN (n X : Nat) : List UInt8 := (dig 256 n X).map UInt8.ofNat
@[simp] theorem bytesN_length (n X : Nat) : (bytesN n X).length = n := by simp [bytesN]
theorem nats_bytesN (n X : Nat) : nats (bytesN n X) = dig 256 n X := by
  unfold nats bytesN
  rw [List.map_map]
  conv => rhs; rw [← List.map_id (dig 256 n X)]
  refine List.map_congr_left fun x hx => ?_
  have := dig_lt 256 n X (by omega) x hx
  simp only [Function.comp, UInt8.toNat_ofNat', id]
  omega
theorem natsOf (l : List UInt8) : bytesN l.length (val 256 (nats l)) = l := by
  apply nats_inj
  rw [nats_bytesN]
  have := dig_val 256 (nats l) (nats_lt l)
  rwa [nats_length] at this

/-- What a text of letters is read as: the bytes, the place of the fault, the error. -/
def decode (s : List UInt8) : List UInt8 × Nat × Nat :=
  match bad s with
  | some i => ([], i, 100)
  | none => if 5 ≤ 5 * s.length % 8 ∨ val 32 (worths s) % 2 ^ (5 * s.length % 8) ≠ 0 then ([], s.length - 1, 101) else (bytesN (5 * s.length / 8) (val 32 (worths s) / 2 ^ (5 * s.length % 8)), 0, 0)

/-- The bytes that are written when k letters are read and e bytes written. -/
def part8 (s : List UInt8) (k e : Nat) : List UInt8 := bytesN e (val 32 (worths (s.take k)) / 2 ^ (5 * k - 8 * e))
@[simp] theorem part8_length (s : List UInt8) (k e : Nat) : (part8 s k e).length = e := by simp [part8]
theorem val_take_snoc (s : List UInt8) (k : Nat) (c : UInt8) (hc : s[k]? = some c) : val 32 (worths (s.take (k + 1))) = 32 * val 32 (worths (s.take k)) + (worthN c).getD 0 := by
  rw [List.take_add_one, hc, show (some c).toList = [c] from rfl, worths_snoc, val_snoc]
theorem part8_letter (s : List UInt8) (k e : Nat) (c : UInt8) (hc : s[k]? = some c) (he : 8 * e ≤ 5 * k) : part8 s (k + 1) e = part8 s k e := by
  unfold part8
  rw [val_take_snoc s k c hc, show 5 * (k + 1) - 8 * e = 5 + (5 * k - 8 * e) by omega, Nat.pow_add, ← Nat.div_div_eq_div_mul]
  congr 2
  have := worth_lt c
  omega
theorem part8_byte (s : List UInt8) (k e : Nat) (he : 8 * (e + 1) ≤ 5 * k) :
    part8 s k (e + 1) = part8 s k e ++ [UInt8.ofNat (val 32 (worths (s.take k)) / 2 ^ (5 * k - 8 * (e + 1)) % 256)] := by
  unfold part8 bytesN
  rw [dig, List.map_append, Nat.div_div_eq_div_mul, show (256 : Nat) = 2 ^ 8 from rfl, ← Nat.pow_add, show 5 * k - 8 * (e + 1) + 8 = 5 * k - 8 * e by omega]
  rfl
theorem part8_end (s : List UInt8) (e h : Nat) (he : 8 * e + h = 5 * s.length) (hh : h < 8) : part8 s s.length e = bytesN (5 * s.length / 8) (val 32 (worths s) / 2 ^ (5 * s.length % 8)) := by
  unfold part8
  rw [List.take_length, show 5 * s.length / 8 = e by omega, show 5 * s.length - 8 * e = h by omega, show 5 * s.length % 8 = h by omega]

/-! ### What the document asks for besides -/
theorem lets_back (L : Nat) : lets (5 * L / 8) = L ↔ 5 * L % 8 < 5 := by unfold lets; omega
theorem val_worths_lt (s : List UInt8) : val 32 (worths s) < 2 ^ (5 * s.length) := by
  have := val_lt 32 (worths s) (worths_lt s)
  rwa [worths_length, show (32 : Nat) = 2 ^ 5 from rfl, ← Nat.pow_mul] at this
theorem good_letters (s : List UInt8) (h : good s s.length) : (worths s).map letterN = s := by
  unfold worths
  rw [List.map_map]
  conv => rhs; rw [← List.map_id s]
  refine List.map_congr_left fun c hc => ?_
  obtain ⟨j, hj, rfl⟩ := List.getElem_of_mem hc
  have := h j _ hj (List.getElem?_eq_getElem hj)
  rcases hx : worthN s[j] with _ | d
  · rw [hx] at this; cases this
  · simp only [Function.comp, hx, Option.getD_some, id]
    exact (letter_worth _ d hx).1
theorem letterN_inj {a b : List Nat} (ha : ∀ x ∈ a, x < 32) (hb : ∀ x ∈ b, x < 32) (h : a.map letterN = b.map letterN) : a = b := by
  have h2 := congrArg (List.map fun c => (worthN c).getD 0) h
  rw [List.map_map, List.map_map] at h2
  have key : ∀ l : List Nat, (∀ x ∈ l, x < 32) → l.map ((fun c => (worthN c).getD 0) ∘ letterN) = l := fun l hl => by
    conv => rhs; rw [← List.map_id l]
    refine List.map_congr_left fun x hx => ?_
    simp only [Function.comp, worth_letter x (hl x hx), Option.getD_some, id]
  rwa [key a ha, key b hb] at h2
theorem big_bytesN (L N h : Nat) (hL : lets (5 * L / 8) = L) (hh : h = 5 * L % 8) (hN : N < 2 ^ (5 * L)) : big (bytesN (5 * L / 8) (N / 2 ^ h)) = N - N % 2 ^ h := by
  unfold big
  rw [nats_bytesN, bytesN_length, hL, val_dig, show (256 : Nat) = 2 ^ 8 from rfl, ← Nat.pow_mul, Nat.mod_eq_of_lt, show 5 * L - 8 * (5 * L / 8) = h by omega]
  · have := Nat.div_add_mod N (2 ^ h)
    rw [Nat.mul_comm] at this
    omega
  · rw [Nat.div_lt_iff_lt_mul (Nat.two_pow_pos _), ← Nat.pow_add, show 8 * (5 * L / 8) + h = 5 * L by omega]
    exact hN
theorem letters_back (s : List UInt8) (hg : good s s.length) (h5 : 5 * s.length % 8 < 5) :
    letters (bytesN (5 * s.length / 8) (val 32 (worths s) / 2 ^ (5 * s.length % 8))) = s ↔ val 32 (worths s) % 2 ^ (5 * s.length % 8) = 0 := by
  have hL := (lets_back s.length).2 h5
  have hN := val_worths_lt s
  unfold letters
  rw [bytesN_length, hL, big_bytesN s.length _ _ hL rfl hN]
  have hs := good_letters s hg
  have hd := dig_val 32 (worths s) (worths_lt s)
  rw [worths_length] at hd
  constructor
  · intro h
    have h1 : (dig 32 s.length (val 32 (worths s) - val 32 (worths s) % 2 ^ (5 * s.length % 8))).map letterN = (worths s).map letterN := by rw [h, hs]
    have h2 := letterN_inj (dig_lt _ _ _ (by omega)) (worths_lt s) h1
    rw [← hd] at h2
    rw [hd] at h2
    have e32 : (32 : Nat) ^ s.length = 2 ^ (5 * s.length) := by rw [Nat.pow_mul]
    have h3 := dig_inj 32 s.length _ _ (by rw [e32]; omega) (by rw [e32]; exact hN) (h2.trans hd.symm)
    have := Nat.mod_le (val 32 (worths s)) (2 ^ (5 * s.length % 8))
    omega
  · intro h
    rw [h, Nat.sub_zero, hd, hs]

/-- Bit n of the letters. -/
def bit5 (s : List UInt8) (n : Nat) : Nat := (worthN (s.getD (n / 5) 0)).getD 0 / 2 ^ (4 - n % 5) % 2
theorem bit5_val (s : List UInt8) (n : Nat) (h : n < 5 * s.length) : bit5 s n = val 32 (worths s) / 2 ^ (5 * s.length - 1 - n) % 2 := by
  have hq : n / 5 < s.length := by omega
  have hv := val_digit (worths s) 32 (n / 5) (worths_lt s) (by simpa using hq)
  unfold bit5
  rw [List.getD_eq_getElem?_getD, List.getElem?_eq_getElem hq, Option.getD_some]
  have hg : (worthN s[n / 5]).getD 0 = val 32 (worths s) / 32 ^ (s.length - 1 - n / 5) % 32 := by
    rw [worths_length] at hv
    have e : (worths s)[n / 5]? = some ((worthN s[n / 5]).getD 0) := by
      unfold worths
      rw [List.getElem?_map, List.getElem?_eq_getElem hq]; rfl
    rw [e] at hv
    injection hv
  rw [hg]
  generalize val 32 (worths s) = N
  rw [show (32 : Nat) = 2 ^ 5 from rfl, ← Nat.pow_mul, show 5 * s.length - 1 - n = 5 * (s.length - 1 - n / 5) + (4 - n % 5) by omega, Nat.pow_add 2 _ (4 - n % 5), ← Nat.div_div_eq_div_mul]
  generalize N / 2 ^ (5 * (s.length - 1 - n / 5)) = Y
  have hs : (2 : Nat) ^ 5 = 2 ^ (4 - n % 5) * 2 ^ (n % 5 + 1) := by rw [← Nat.pow_add]; congr 1; omega
  rw [hs, Nat.mod_mul_right_div_self, Nat.pow_succ, Nat.mul_comm (2 ^ (n % 5)) 2, Nat.mod_mul_right_mod]
theorem bytesN_get (n X i : Nat) (h : i < n) : (bytesN n X)[i]? = some (UInt8.ofNat (X / 2 ^ (8 * (n - 1 - i)) % 2 ^ 8)) := by
  unfold bytesN
  rw [List.getElem?_map, dig_get 256 _ _ i h, show (256 : Nat) = 2 ^ 8 from rfl, ← Nat.pow_mul]
  rfl

/-! ### There and back -/
theorem decode_letters (b : List UInt8) : decode (letters b) = (b, 0, 0) := by
  have hgood : good (letters b) (letters b).length := fun j c hj hc => by
    unfold letters at hc
    rw [List.getElem?_map] at hc
    obtain ⟨d, hd, rfl⟩ := Option.map_eq_some_iff.1 hc
    rw [worth_letter d (dig_lt 32 _ _ (by omega) d (List.mem_of_getElem? hd))]
    rfl
  have hw : worths (letters b) = dig 32 (lets b.length) (big b) := by
    unfold worths letters
    rw [List.map_map]
    conv => rhs; rw [← List.map_id (dig 32 _ _)]
    refine List.map_congr_left fun x hx => ?_
    simp only [Function.comp, worth_letter x (dig_lt 32 _ _ (by omega) x hx), Option.getD_some, id]
  have hbig : big b < 32 ^ lets b.length := by
    have h1 := val_lt 256 (nats b) (nats_lt b)
    rw [nats_length] at h1
    unfold big
    rw [show (32 : Nat) = 2 ^ 5 from rfl, ← Nat.pow_mul]
    have h2 : 5 * lets b.length = 8 * b.length + (5 * lets b.length - 8 * b.length) := by unfold lets; omega
    rw [h2, Nat.pow_add, ← h2, Nat.pow_mul]
    exact Nat.mul_lt_mul_of_pos_right h1 (Nat.two_pow_pos _)
  unfold decode
  rw [bad_none _ hgood, letters_length, hw, val_dig, Nat.mod_eq_of_lt hbig]
  have hh : 5 * lets b.length % 8 = 5 * lets b.length - 8 * b.length := by unfold lets; omega
  have h5 : 5 * lets b.length % 8 < 5 := by rw [hh]; unfold lets; omega
  have hn : 5 * lets b.length / 8 = b.length := by unfold lets; omega
  simp only []
  rw [hh, hn, if_neg]
  · unfold big
    rw [Nat.mul_div_cancel _ (Nat.two_pow_pos _), natsOf]
  · unfold big
    rw [Nat.mul_mod_left]
    omega
theorem letters_decode (s l : List UInt8) (i : Nat) (h : decode s = (l, i, 0)) : letters l = s := by
  unfold decode at h
  rcases hb : bad s with _ | j
  · rw [hb] at h
    simp only [] at h
    have hg : good s s.length := by
      intro j c hj hc
      unfold bad at hb
      rw [List.findIdx?_eq_none_iff] at hb
      have := hb c (List.mem_of_getElem? hc)
      rcases hx : worthN c with _ | d
      · rw [hx] at this; cases this
      · rfl
    split at h
    · cases h
    · rename_i hn
      injection h with h1 h2
      subst h1
      exact (letters_back s hg (by omega)).2 (by omega)
  · rw [hb] at h
    cases h

end Go.Proofs.YtcpceaflnnkhnaaGreatDoor

/- Plain lemmas: names escaped and read again. -/
namespace Go.Proofs.YtcpceaflnnkhnaaGreatDoor

/-- A byte that stands for itself. -/
def plainN (n : Nat) : Bool := (97 ≤ n && n ≤ 122) || (65 ≤ n && n ≤ 90) || (48 ≤ n && n ≤ 57) || n == 45 || n == 46 || n == 95
def sortN (n : Nat) : Nat := if plainN n then 1 else if n = 37 then 2 else 0
def hexN (d : Nat) : UInt8 := UInt8.ofNat (if d < 10 then 48 + d else 87 + d)
/-- What a hexadecimal digit is worth; none: it is none. -/
def digN (n : Nat) : Option Nat := if 48 ≤ n ∧ n ≤ 57 then some (n - 48) else if 97 ≤ n ∧ n ≤ 102 then some (n - 87) else none
theorem hexN_toNat (d : Nat) (h : d < 16) : (hexN d).toNat = if d < 10 then 48 + d else 87 + d := by
  unfold hexN; rw [UInt8.toNat_ofNat']; split <;> omega
theorem dig_hex (d : Nat) (h : d < 16) : digN (hexN d).toNat = some d := by
  unfold digN
  rw [hexN_toNat d h]
  by_cases h1 : d < 10
  · rw [if_pos h1, if_pos (by omega)]; congr 1; omega
  · rw [if_neg h1, if_neg (by omega), if_pos (by omega)]; congr 1; omega
theorem dig_lt16 (n d : Nat) (h : digN n = some d) : d < 16 := by
  unfold digN at h
  split at h
  · injection h with h; omega
  · split at h
    · injection h with h; omega
    · cases h
theorem hex_dig (c : UInt8) (d : Nat) (h : digN c.toNat = some d) : hexN d = c := by
  have hd := dig_lt16 _ _ h
  apply UInt8.toNat_inj.1
  rw [hexN_toNat d hd]
  unfold digN at h
  split at h
  · injection h with h; rw [if_pos (by omega)]; omega
  · split at h
    · injection h with h; rw [if_neg (by omega)]; omega
    · cases h

def esc1 (c : UInt8) : List UInt8 := if plainN c.toNat then [c] else [37, hexN (c.toNat / 16), hexN (c.toNat % 16)]
def escBody (b : List UInt8) : List UInt8 := b.flatMap esc1
def escape (b : List UInt8) : List UInt8 := if b = [] then [37] else escBody b
theorem escBody_snoc (b : List UInt8) (c : UInt8) : escBody (b ++ [c]) = escBody b ++ esc1 c := by simp [escBody]
theorem esc1_len (c : UInt8) : (esc1 c).length ≤ 3 := by unfold esc1; split <;> simp
theorem escBody_len (b : List UInt8) : (escBody b).length ≤ 3 * b.length := by
  induction b with
  | nil => simp [escBody]
  | cons c b ih =>
    have h1 := esc1_len c
    unfold escBody at *
    rw [List.flatMap_cons, List.length_append, List.length_cons]
    omega

/-- What a text from a place on is read as, behind what was read so far. -/
def unescL : List UInt8 → Nat → List UInt8 → List UInt8 × Nat × Nat
  | [], _, acc => (acc, 0, 0)
  | c :: r, i, acc =>
    if plainN c.toNat then unescL r (i + 1) (acc ++ [c])
    else if c.toNat = 37 then
      match r with
      | h :: l :: r' =>
        match digN h.toNat, digN l.toNat with
        | some x, some y => if plainN (16 * x + y) then ([], i, 103) else unescL r' (i + 3) (acc ++ [UInt8.ofNat (16 * x + y)])
        | _, _ => ([], i, 103)
      | _ => ([], i, 103)
    else ([], i, 103)
def unescape (s : List UInt8) : List UInt8 × Nat × Nat := if s = [37] then ([], 0, 0) else if s = [] then ([], 0, 103) else unescL s 0 []

theorem unescL_nil (i : Nat) (acc : List UInt8) : unescL [] i acc = (acc, 0, 0) := by rw [unescL]
theorem unescL_plain (c : UInt8) (r : List UInt8) (i : Nat) (acc : List UInt8) (h : plainN c.toNat = true) : unescL (c :: r) i acc = unescL r (i + 1) (acc ++ [c]) := by
  rw [unescL.eq_def]; simp only [h, if_true]
theorem unescL_other (c : UInt8) (r : List UInt8) (i : Nat) (acc : List UInt8) (h : plainN c.toNat = false) (h2 : c.toNat ≠ 37) : unescL (c :: r) i acc = ([], i, 103) := by
  rw [unescL.eq_def]; simp only [h, h2, if_false, Bool.false_eq_true]
theorem plain37 : plainN 37 = false := by decide
theorem unescL_short (c : UInt8) (r : List UInt8) (i : Nat) (acc : List UInt8) (h2 : c.toNat = 37) (h3 : r.length < 2) : unescL (c :: r) i acc = ([], i, 103) := by
  rw [unescL.eq_def]
  simp only [h2, plain37, Bool.false_eq_true, if_false, if_true]
  rcases r with _ | ⟨a, _ | ⟨b, r⟩⟩
  · rfl
  · rfl
  · simp only [List.length_cons] at h3; omega
theorem unescL_pair (c x y : UInt8) (r : List UInt8) (i : Nat) (acc : List UInt8) (h2 : c.toNat = 37) : unescL (c :: x :: y :: r) i acc =
    match digN x.toNat, digN y.toNat with
    | some x, some y => if plainN (16 * x + y) then ([], i, 103) else unescL r (i + 3) (acc ++ [UInt8.ofNat (16 * x + y)])
    | _, _ => ([], i, 103) := by
  rw [unescL.eq_def]
  simp only [h2, plain37, Bool.false_eq_true, if_false, if_true]

theorem unescL_escBody (b : List UInt8) : ∀ (i : Nat) (acc : List UInt8), unescL (escBody b) i acc = (acc ++ b, 0, 0) := by
  induction b with
  | nil => intro i acc; simp [escBody, unescL_nil]
  | cons c b ih =>
    intro i acc
    have e : escBody (c :: b) = esc1 c ++ escBody b := by simp [escBody]
    rw [e]
    unfold esc1
    by_cases h : plainN c.toNat = true
    · rw [if_pos h, List.singleton_append, unescL_plain _ _ _ _ h, ih]
      simp
    · have hc := c.toNat_lt
      rw [if_neg h]
      show unescL (37 :: hexN (c.toNat / 16) :: hexN (c.toNat % 16) :: escBody b) i acc = _
      rw [unescL_pair _ _ _ _ _ _ (by rfl), dig_hex _ (by omega), dig_hex _ (by omega)]
      simp only []
      rw [show 16 * (c.toNat / 16) + c.toNat % 16 = c.toNat by omega, if_neg h, ih, UInt8.ofNat_toNat]
      simp
theorem escape_ne (b : List UInt8) (hb : b ≠ []) : escBody b ≠ [37] ∧ escBody b ≠ [] := by
  rcases b with _ | ⟨c, b⟩
  · exact absurd rfl hb
  · have e : escBody (c :: b) = esc1 c ++ escBody b := by simp [escBody]
    rw [e]
    unfold esc1
    by_cases h : plainN c.toNat = true
    · rw [if_pos h]
      constructor
      · intro hh
        simp only [List.cons_append, List.cons.injEq] at hh
        rw [hh.1] at h
        exact absurd h (by decide)
      · simp
    · rw [if_neg h]; simp
theorem unescape_escape (b : List UInt8) : unescape (escape b) = (b, 0, 0) := by
  unfold escape unescape
  by_cases h : b = []
  · subst h; rfl
  · rw [if_neg h, if_neg (escape_ne b h).1, if_neg (escape_ne b h).2, unescL_escBody]
    simp
theorem escBody_unescL (n : Nat) : ∀ (s : List UInt8) (i : Nat) (acc l : List UInt8) (j : Nat), s.length ≤ n → unescL s i acc = (l, j, 0) → ∃ m, l = acc ++ m ∧ escBody m = s := by
  induction n with
  | zero =>
    intro s i acc l j hn h
    have : s = [] := List.eq_nil_of_length_eq_zero (by omega)
    subst this
    rw [unescL_nil] at h
    injection h with h
    exact ⟨[], by simp [h], rfl⟩
  | succ n ih =>
    intro s i acc l j hn h
    rcases s with _ | ⟨c, r⟩
    · rw [unescL_nil] at h
      injection h with h
      exact ⟨[], by simp [h], rfl⟩
    · simp only [List.length_cons] at hn
      by_cases hp : plainN c.toNat = true
      · rw [unescL_plain _ _ _ _ hp] at h
        obtain ⟨m, h1, h2⟩ := ih r _ _ l j (by omega) h
        refine ⟨c :: m, by rw [h1]; simp, ?_⟩
        have e : escBody (c :: m) = esc1 c ++ escBody m := by simp [escBody]
        rw [e, h2]
        unfold esc1
        rw [if_pos hp]; rfl
      · by_cases h37 : c.toNat = 37
        · rcases r with _ | ⟨x, _ | ⟨y, r⟩⟩
          · rw [unescL_short _ _ _ _ h37 (by simp)] at h; cases h
          · rw [unescL_short _ _ _ _ h37 (by simp)] at h; cases h
          · rw [unescL_pair _ _ _ _ _ _ h37] at h
            rcases hx : digN x.toNat with _ | a
            · rw [hx] at h; cases h
            · rcases hy : digN y.toNat with _ | b
              · rw [hx, hy] at h; cases h
              · rw [hx, hy] at h
                simp only [] at h
                have ha := dig_lt16 _ _ hx
                have hb := dig_lt16 _ _ hy
                by_cases hq : plainN (16 * a + b) = true
                · rw [if_pos hq] at h; cases h
                · rw [if_neg hq] at h
                  simp only [List.length_cons] at hn
                  obtain ⟨m, h1, h2⟩ := ih r _ _ l j (by omega) h
                  refine ⟨UInt8.ofNat (16 * a + b) :: m, by rw [h1]; simp, ?_⟩
                  have e : escBody (UInt8.ofNat (16 * a + b) :: m) = esc1 (UInt8.ofNat (16 * a + b)) ++ escBody m := by simp [escBody]
                  have ht : (UInt8.ofNat (16 * a + b)).toNat = 16 * a + b := by rw [UInt8.toNat_ofNat']; omega
                  rw [e, h2]
                  unfold esc1
                  rw [ht, if_neg hq, show (16 * a + b) / 16 = a by omega, show (16 * a + b) % 16 = b by omega, hex_dig x a hx, hex_dig y b hy]
                  have hc : c = 37 := UInt8.toNat_inj.1 h37
                  rw [hc]; rfl
        · rw [unescL_other _ _ _ _ (by simpa using hp) h37] at h; cases h
theorem escape_unescape (s l : List UInt8) (i : Nat) (h : unescape s = (l, i, 0)) : escape l = s := by
  unfold unescape at h
  by_cases h1 : s = [37]
  · rw [if_pos h1] at h; injection h with h; subst h; rw [h1]; rfl
  · rw [if_neg h1] at h
    by_cases h2 : s = []
    · rw [if_pos h2] at h; cases h
    · rw [if_neg h2] at h
      obtain ⟨m, e1, e2⟩ := escBody_unescL s.length s 0 [] l i (Nat.le_refl _) h
      simp only [List.nil_append] at e1
      subst e1
      unfold escape
      rw [if_neg, e2]
      rintro rfl
      exact h2 e2.symm

end Go.Proofs.YtcpceaflnnkhnaaGreatDoor

/- Decimal numbers in plain words: the one text of a number, and how it is read. -/
namespace Go.Proofs.YtcpceaflnnkhnaaGreatDoor
open Go.Lib

theorem decFrom_snoc (l : List UInt8) (b : UInt8) : ∀ acc, decFrom acc (l ++ [b]) = (decFrom acc l).bind fun n => (digitVal b).map fun d => n * 10 + d := by
  induction l with
  | nil => intro acc; simp only [List.nil_append, decFrom]; cases digitVal b <;> rfl
  | cons c l ih =>
    intro acc
    simp only [List.cons_append, decFrom]
    cases digitVal c with
    | none => rfl
    | some d => exact ih _
theorem digit_of {d : Nat} (h : d < 10) : digitVal (UInt8.ofNat (48 + d)) = some d := by
  have e : (UInt8.ofNat (48 + d)).toNat = 48 + d := by rw [UInt8.toNat_ofNat']; omega
  unfold digitVal
  rw [e, if_pos (by omega)]
  congr
  omega
theorem digit_back {b : UInt8} {d : Nat} (h : digitVal b = some d) : d < 10 ∧ b = UInt8.ofNat (48 + d) := by
  obtain ⟨h1, h2, h3⟩ := digitVal_eq h
  refine ⟨by omega, UInt8.toNat_inj.1 ?_⟩
  rw [UInt8.toNat_ofNat']
  omega
theorem decFrom_digits (x : Nat) : decFrom 0 (decDigits x) = some x := by
  induction x using Nat.strongRecOn with
  | _ x ih =>
    rw [decDigits]
    split
    · rename_i h
      simp only [decFrom, digit_of h]
      simp
    · rename_i h
      rw [decFrom_snoc, ih (x / 10) (by omega), digit_of (Nat.mod_lt _ (by omega))]
      simp only [Option.bind_some, Option.map_some]
      congr
      omega
theorem digits_ne (x : Nat) : decDigits x ≠ [] := by
  rw [decDigits]
  split
  · simp
  · simp
theorem digits_head {x : Nat} (h : 1 ≤ x) : (decDigits x)[0]? ≠ some 48 := by
  induction x using Nat.strongRecOn with
  | _ x ih =>
    rw [decDigits]
    split
    · rename_i hx
      simp only [List.getElem?_cons_zero, ne_eq, Option.some.injEq]
      intro e
      have := congrArg UInt8.toNat e
      rw [UInt8.toNat_ofNat'] at this
      have h48 : (48 : UInt8).toNat = 48 := rfl
      rw [h48] at this
      omega
    · rename_i hx
      have hl : 0 < (decDigits (x / 10)).length := List.length_pos_iff.2 (digits_ne _)
      rw [List.getElem?_append_left hl]
      exact ih (x / 10) (by omega) (by omega)
theorem digits_length_le : ∀ (k x : Nat), x < 10 ^ (k + 1) → (decDigits x).length ≤ k + 1 := by
  intro k
  induction k with
  | zero =>
    intro x h
    rw [decDigits, dif_pos (by simpa using h)]
    simp
  | succ k ih =>
    intro x h
    rw [decDigits]
    split
    · simp
    · have := ih (x / 10) (by rw [Nat.pow_succ] at h; omega)
      simp only [List.length_append, List.length_singleton]
      omega
theorem digits_long {x : Nat} (h : 1 < (decDigits x).length) : 10 ≤ x := by
  rcases Nat.lt_or_ge x 10 with h1 | h1
  · rw [decDigits, dif_pos h1] at h
    simp at h
  · exact h1

/-- How the document reads a text, its bound aside. -/
def rdv (l : List UInt8) : Option Nat := if l.length = 0 ∨ 19 < l.length ∨ (1 < l.length ∧ l[0]? = some 48) then none else decFrom 0 l
theorem rdv_digits {x : Nat} (h : x < 10000000000000000000) : rdv (decDigits x) = some x := by
  unfold rdv
  have h1 := digits_length_le 18 x h
  rw [if_neg, decFrom_digits]
  rintro (h0 | h0 | ⟨h0, h2⟩)
  · exact digits_ne x (List.eq_nil_of_length_eq_zero h0)
  · omega
  · exact digits_head (by have := digits_long h0; omega) h2
theorem digits_of (n : Nat) : ∀ (l : List UInt8) (x : Nat), l.length = n + 1 → (1 < l.length → l[0]? ≠ some 48) → decFrom 0 l = some x → decDigits x = l := by
  induction n with
  | zero =>
    intro l x hl _ hd
    match l, hl with
    | [b], _ =>
      simp only [decFrom] at hd
      cases hb : digitVal b with
      | none => rw [hb] at hd; cases hd
      | some d =>
        rw [hb] at hd
        obtain ⟨h1, h2⟩ := digit_back hb
        simp at hd
        subst hd
        rw [decDigits, dif_pos h1, h2]
  | succ n ih =>
    intro l x hl h0 hd
    have hne : l ≠ [] := by intro e; rw [e] at hl; simp at hl
    have hs := List.dropLast_concat_getLast hne
    generalize l.getLast hne = b at hs
    have hml : l.dropLast.length = n + 1 := by rw [List.length_dropLast, hl]; rfl
    generalize l.dropLast = m at hs hml
    subst hs
    rw [decFrom_snoc] at hd
    cases hm : decFrom 0 m with
    | none => rw [hm] at hd; cases hd
    | some y =>
      rw [hm] at hd
      cases hb : digitVal b with
      | none => rw [hb] at hd; cases hd
      | some d =>
        rw [hb] at hd
        simp only [Option.bind_some, Option.map_some, Option.some.injEq] at hd
        obtain ⟨h1, h2⟩ := digit_back hb
        have hm0 : (m ++ [b])[0]? = m[0]? := List.getElem?_append_left (by omega)
        have hh : m[0]? ≠ some 48 := by rw [← hm0]; exact h0 (by rw [List.length_append, hml]; simp)
        have hy := ih m y hml (fun _ => hh) hm
        have hy1 : 1 ≤ y := by
          rcases Nat.eq_zero_or_pos y with h | h
          · exfalso
            rw [h, decDigits, dif_pos (by omega)] at hy
            rw [← hy] at hh
            exact hh rfl
          · exact h
        rw [← hd, decDigits, dif_neg (by omega), show (y * 10 + d) / 10 = y by omega, show (y * 10 + d) % 10 = d by omega, hy, h2]
theorem rdv_some {l : List UInt8} {x : Nat} (h : rdv l = some x) : l = decDigits x ∧ x < 10000000000000000000 := by
  unfold rdv at h
  split at h
  · cases h
  · rename_i hc
    have h1 : ¬ l.length = 0 := fun e => hc (.inl e)
    have h2 : ¬ 19 < l.length := fun e => hc (.inr (.inl e))
    have h3 : 1 < l.length → l[0]? ≠ some 48 := fun e f => hc (.inr (.inr ⟨e, f⟩))
    refine ⟨(digits_of (l.length - 1) l x (by omega) h3 h).symm, ?_⟩
    have := decFrom_lt l 0 x h
    have hp : 10 ^ l.length ≤ 10 ^ 19 := Nat.pow_le_pow_right (by decide) (by omega)
    have e19 : (10 : Nat) ^ 19 = 10000000000000000000 := by decide
    omega

theorem decFrom_ge : ∀ (l : List UInt8) (acc n : Nat), decFrom acc l = some n → acc ≤ n := by
  intro l
  induction l with
  | nil => intro acc n h; simp only [decFrom, Option.some.injEq] at h; omega
  | cons b l ih =>
    intro acc n h
    simp only [decFrom] at h
    cases hb : digitVal b with
    | none => rw [hb] at h; cases h
    | some d =>
      rw [hb] at h
      have := ih _ _ h
      omega
theorem parse_of : ∀ (l : List UInt8) (acc n : Nat), decFrom acc l = some n → n < 18446744073709551616 → parseUint10 acc l = .ok n := by
  intro l
  induction l with
  | nil => intro acc n h _; simp only [decFrom, Option.some.injEq] at h; simp only [parseUint10, h]
  | cons b l ih =>
    intro acc n h hn
    simp only [decFrom] at h
    cases hb : digitVal b with
    | none => rw [hb] at h; cases h
    | some d =>
      rw [hb] at h
      obtain ⟨h1, h2, h3⟩ := digitVal_eq hb
      have hge := decFrom_ge _ _ _ h
      simp only [parseUint10]
      rw [if_pos ⟨h1, h2⟩, if_neg (by omega), if_neg (by omega), ← h3]
      exact ih _ _ h hn
theorem atoi_digits {x : Nat} (h : x ≤ 9223372036854775807) : atoiAll (decDigits x) = .ok (x : Int) := by
  have hd := decFrom_digits x
  have hp := parse_of _ 0 x hd (by omega)
  have hne := digits_ne x
  generalize decDigits x = l at *
  match l, hne with
  | c :: r, _ =>
    simp only [decFrom] at hd
    cases hb : digitVal c with
    | none => rw [hb] at hd; cases hd
    | some d =>
      obtain ⟨h1, h2, _⟩ := digitVal_eq hb
      simp only [atoiAll]
      rw [if_neg (by omega)]
      have hm : parseMag (c :: r) = .ok x := by
        unfold parseMag
        rw [if_neg (by simp)]
        exact hp
      rw [hm]
      simp only
      rw [if_neg (by omega), if_neg (by omega), if_neg (by omega)]

/-- How a text is read, up to a bound. -/
def rd (l : List UInt8) (most : Int) : Option Nat := match rdv l with
  | some x => if (x : Int) ≤ most then some x else none
  | none => none
theorem rd_ok {l : List UInt8} {most v : Int} (h0 : 0 ≤ v) (h1 : v ≤ most) (hm : most ≤ 9223372036854775807) (hl : l = itoa v) : rd l most = some v.toNat := by
  obtain ⟨x, rfl⟩ : ∃ x : Nat, v = (x : Int) := ⟨v.toNat, by omega⟩
  rw [itoa_nonneg] at hl
  unfold rd
  rw [hl, rdv_digits (by omega)]
  simp only
  rw [if_pos h1]
  rfl
theorem rd_some {l : List UInt8} {most : Int} {x : Nat} (h : rd l most = some x) (hm : most ≤ 9223372036854775807) : atoiAll l = .ok (x : Int) ∧ (x : Int) ≤ most ∧ l = itoa (x : Int) := by
  unfold rd at h
  cases hr : rdv l with
  | none => rw [hr] at h; cases h
  | some y =>
    rw [hr] at h
    simp only at h
    split at h
    · rename_i hy
      injection h with h
      subst h
      obtain ⟨h1, _⟩ := rdv_some hr
      refine ⟨?_, hy, by rw [itoa_nonneg]; exact h1⟩
      rw [h1]
      exact atoi_digits (by omega)
    · cases h
end Go.Proofs.YtcpceaflnnkhnaaGreatDoor

/- Plain facts of letters, escaped names and numbers: none has a colon or a stroke, and when they are empty. -/
namespace Go.Proofs.YtcpceaflnnkhnaaGreatDoor
open Go.Lib

/-- Neither a colon nor a stroke. -/
def okc (c : UInt8) : Bool := c.toNat != 58 && c.toNat != 47
theorem okc_all : ∀ c : Fin 256, (worthN (UInt8.ofNat c.1)).isSome = true → okc (UInt8.ofNat c.1) = true := by decide +kernel
theorem okc_letter (d : Nat) (h : d < 32) : okc (letterN d) = true := by
  have := letterN_toNat d h
  unfold okc
  rw [this]
  split <;> simp <;> omega
theorem letters_okc (l : List UInt8) : ∀ c ∈ letters l, okc c = true := by
  intro c hc
  unfold letters at hc
  rw [List.mem_map] at hc
  obtain ⟨d, hd, rfl⟩ := hc
  exact okc_letter d (dig_lt 32 _ _ (by decide) d hd)
theorem letters_nil (l : List UInt8) : letters l = [] ↔ l.length = 0 := by
  rw [← List.length_eq_zero_iff, letters_length]
  unfold lets
  omega
theorem okc_plain (c : UInt8) (h : plainN c.toNat = true) : okc c = true := by
  unfold plainN at h
  unfold okc
  simp only [Bool.or_eq_true, Bool.and_eq_true, decide_eq_true_eq, beq_iff_eq] at h
  simp only [Bool.and_eq_true, bne_iff_ne]
  omega
theorem okc_hex (d : Nat) (h : d < 16) : okc (hexN d) = true := by
  have := hexN_toNat d h
  unfold okc
  rw [this]
  split <;> simp <;> omega
theorem escape_okc (l : List UInt8) : ∀ c ∈ escape l, okc c = true := by
  intro c hc
  unfold escape at hc
  split at hc
  · simp at hc; subst hc; decide
  · unfold escBody at hc
    rw [List.mem_flatMap] at hc
    obtain ⟨x, _, hx⟩ := hc
    unfold esc1 at hx
    have h256 : x.toNat < 256 := x.toNat_lt
    split at hx
    · rename_i hp
      simp at hx; subst hx; exact okc_plain _ hp
    · simp at hx
      rcases hx with rfl | rfl | rfl
      · decide
      · exact okc_hex _ (by omega)
      · exact okc_hex _ (by omega)
theorem escape_nil (l : List UInt8) : escape l ≠ [] := by
  unfold escape
  split
  · simp
  · rename_i h
    exact (escape_ne l h).2
theorem itoa_okc (x : Int) (h : 0 ≤ x) : ∀ c ∈ itoa x, okc c = true := by
  obtain ⟨n, rfl⟩ := Int.eq_ofNat_of_zero_le h
  rw [itoa_nonneg]
  intro c hc
  have hd := decFrom_digits n
  have : ∀ (l : List UInt8) (a b : Nat), decFrom a l = some b → ∀ c ∈ l, okc c = true := by
    intro l
    induction l with
    | nil => intro a b _ c hc; cases hc
    | cons y r ih =>
      intro a b hab c hc
      unfold decFrom at hab
      cases hy : digitVal y with
      | none => simp [hy] at hab
      | some d =>
        simp only [hy] at hab
        rcases List.mem_cons.1 hc with rfl | hc
        · obtain ⟨hd, rfl⟩ := digit_back hy
          unfold okc
          rw [UInt8.toNat_ofNat']
          simp
          omega
        · exact ih _ _ hab c hc
  exact this _ _ _ hd c hc
theorem itoa_nil (x : Int) (h : 0 ≤ x) : itoa x ≠ [] := by
  obtain ⟨n, rfl⟩ := Int.eq_ofNat_of_zero_le h
  rw [itoa_nonneg]
  exact digits_ne n
/-- A number's text, read with the number itself as the bound, and with a bound below it. -/
theorem rd_self (x : Int) (h0 : 0 ≤ x) (hm : x ≤ 9223372036854775807) : rd (itoa x) x = some x.toNat := rd_ok h0 (Int.le_refl _) hm rfl
theorem rd_below (x : Int) (h0 : 0 ≤ x) (hm : x ≤ 9223372036854775807) : rd (itoa x) (x - 1) = none := by
  cases h : rd (itoa x) (x - 1) with
  | none => rfl
  | some y =>
    obtain ⟨h1, h2, _⟩ := rd_some h (by omega)
    obtain ⟨n, rfl⟩ := Int.eq_ofNat_of_zero_le h0
    rw [itoa_nonneg, atoi_digits (by omega)] at h1
    injection h1 with h1
    omega
end Go.Proofs.YtcpceaflnnkhnaaGreatDoor

/- Plain facts: what is read is no longer than its text. -/
namespace Go.Proofs.YtcpceaflnnkhnaaGreatDoor

theorem decode_len (l : List UInt8) : (decode l).1.length ≤ l.length := by
  unfold decode
  split
  · simp
  · split
    · simp
    · simp; omega

theorem unescL_len (n : Nat) : ∀ (s : List UInt8) (i : Nat) (acc : List UInt8), s.length ≤ n → (unescL s i acc).1.length ≤ acc.length + s.length := by
  induction n with
  | zero =>
    intro s i acc hn
    have : s = [] := List.eq_nil_of_length_eq_zero (by omega)
    subst this
    rw [unescL_nil]; simp
  | succ n ih =>
    intro s i acc hn
    rcases s with _ | ⟨c, r⟩
    · rw [unescL_nil]; simp
    · simp only [List.length_cons] at hn ⊢
      by_cases hp : plainN c.toNat = true
      · rw [unescL_plain _ _ _ _ hp]
        have := ih r (i + 1) (acc ++ [c]) (by omega)
        simp only [List.length_append, List.length_singleton] at this
        omega
      · by_cases h37 : c.toNat = 37
        · rcases r with _ | ⟨x, _ | ⟨y, r⟩⟩
          · rw [unescL_short _ _ _ _ h37 (by simp)]; simp
          · rw [unescL_short _ _ _ _ h37 (by simp)]; simp
          · rw [unescL_pair _ _ _ _ _ _ h37]
            rcases digN x.toNat with _ | a
            · simp
            · rcases digN y.toNat with _ | b
              · simp
              · simp only [List.length_cons] at hn ⊢
                split
                · simp
                · have := ih r (i + 3) (acc ++ [UInt8.ofNat (16 * a + b)]) (by omega)
                  simp only [List.length_append, List.length_singleton] at this
                  omega
        · rw [unescL_other _ _ _ _ (by simpa using hp) h37]; simp
theorem unescape_len (s : List UInt8) : (unescape s).1.length ≤ s.length := by
  unfold unescape
  split
  · simp
  · split
    · simp
    · have := unescL_len s.length s 0 [] (Nat.le_refl _)
      simpa using this

end Go.Proofs.YtcpceaflnnkhnaaGreatDoor

/- Texts cut at colons, in plain words; the library's own words on Split are these. -/
namespace Go.Proofs.YtcpceaflnnkhnaaGreatDoor

/-- The pieces of a text between its colons. -/
def flds : List UInt8 → List (List UInt8)
  | [] => [[]]
  | c :: l => if c = 58 then [] :: flds l else match flds l with
    | f :: r => (c :: f) :: r
    | [] => [[c]]
theorem flds_ne (l : List UInt8) : flds l ≠ [] := by
  cases l with
  | nil => simp [flds]
  | cons c l =>
    simp only [flds]
    split
    · simp
    · split <;> simp
theorem flds_colon (l : List UInt8) : flds (58 :: l) = [] :: flds l := by simp [flds]
theorem flds_other {c : UInt8} (h : c ≠ 58) (l : List UInt8) : ∃ f r, flds l = f :: r ∧ flds (c :: l) = (c :: f) :: r := by
  rcases hf : flds l with _ | ⟨f, r⟩
  · exact absurd hf (flds_ne l)
  · exact ⟨f, r, rfl, by simp [flds, h, hf]⟩

/-- The texts with a colon between each two. -/
def joinC : List (List UInt8) → List UInt8
  | [] => []
  | [f] => f
  | f :: g :: r => f ++ 58 :: joinC (g :: r)
theorem joinC_cons (c : UInt8) (f : List UInt8) (r : List (List UInt8)) : joinC ((c :: f) :: r) = c :: joinC (f :: r) := by
  cases r <;> simp [joinC]
theorem joinC_nil (r : List (List UInt8)) (h : r ≠ []) : joinC ([] :: r) = 58 :: joinC r := by
  cases r with
  | nil => exact absurd rfl h
  | cons g r => simp [joinC]
theorem joinC_snoc (l : List (List UInt8)) (f : List UInt8) : joinC (l ++ [f]) = if l = [] then f else joinC l ++ 58 :: f := by
  induction l with
  | nil => simp [joinC]
  | cons a l ih =>
    cases l with
    | nil => simp [joinC]
    | cons b l =>
      rw [if_neg (by simp), List.cons_append, List.cons_append, joinC, ← List.cons_append, ih, if_neg (by simp), joinC]
      simp
theorem join_flds (l : List UInt8) : joinC (flds l) = l := by
  induction l with
  | nil => rfl
  | cons c l ih =>
    by_cases h : c = 58
    · subst h
      rw [flds_colon, joinC_nil _ (flds_ne l), ih]
    · obtain ⟨f, r, h1, h2⟩ := flds_other h l
      rw [h2, joinC_cons, ← h1, ih]
theorem flds_clean (l : List UInt8) : ∀ f ∈ flds l, (58 : UInt8) ∉ f := by
  induction l with
  | nil => simp [flds]
  | cons c l ih =>
    by_cases h : c = 58
    · subst h
      rw [flds_colon]
      intro f hf
      rcases List.mem_cons.1 hf with rfl | hf
      · simp
      · exact ih f hf
    · obtain ⟨f, r, h1, h2⟩ := flds_other h l
      rw [h2]
      rw [h1] at ih
      intro g hg
      rcases List.mem_cons.1 hg with rfl | hg
      · have := ih f (by simp)
        simp only [List.mem_cons, not_or]
        exact ⟨fun e => h e.symm, this⟩
      · exact ih g (by simp [hg])
/-- What has no colon is one piece. -/
theorem flds_one (p : List UInt8) (h : (58 : UInt8) ∉ p) : flds p = [p] := by
  induction p with
  | nil => rfl
  | cons c l ih =>
    simp only [List.mem_cons, not_or] at h
    obtain ⟨f, r, h1, h2⟩ := flds_other (c := c) (fun e => h.1 e.symm) l
    rw [ih h.2] at h1
    injection h1 with h1 h3
    subst h1 h3
    exact h2
theorem flds_step (p l : List UInt8) (h : (58 : UInt8) ∉ p) : flds (p ++ 58 :: l) = p :: flds l := by
  induction p with
  | nil => exact flds_colon l
  | cons c p ih =>
    simp only [List.mem_cons, not_or] at h
    obtain ⟨f, r, h1, h2⟩ := flds_other (c := c) (fun e => h.1 e.symm) (p ++ 58 :: l)
    rw [ih h.2] at h1
    injection h1 with h1 h3
    subst h1 h3
    exact h2

/-! ### The library's own words -/
theorem index_cons_eq (c : UInt8) (l : List UInt8) : Lib.index (c :: l) [c] = ((0 : Nat) : Int) := by rw [Lib.index]; simp [List.isPrefixOf]
theorem index_cons_ne {b c : UInt8} (l : List UInt8) (h : b ≠ c) : Lib.index (b :: l) [c] = if Lib.index l [c] == -1 then -1 else Lib.index l [c] + 1 := by
  have hp : ([c] : List UInt8).isPrefixOf (b :: l) = false := by simp [List.isPrefixOf, Ne.symm h]
  rw [Lib.index, hp]; simp
theorem splitK_ne {b : UInt8} (h : b ≠ 58) (k : Nat) (l : List UInt8) : ∃ f r, Lib.splitK [58] 0 k l = f :: r ∧ Lib.splitK [58] 0 k (b :: l) = (b :: f) :: r := by
  cases k with
  | zero => exact ⟨l, [], rfl, rfl⟩
  | succ k =>
    unfold Lib.splitK
    have hi := index_cons_ne l h
    by_cases hm : Lib.index l [58] = -1
    · rw [if_pos (beq_iff_eq.2 hm), hi, if_pos (beq_iff_eq.2 hm), if_pos (by decide)]
      exact ⟨l, [], rfl, rfl⟩
    · have hge := Lib.index_ge l [58]
      obtain ⟨j, hj⟩ : ∃ j : Nat, Lib.index l [58] = (j : Int) := ⟨(Lib.index l [58]).toNat, by omega⟩
      have hne : ¬ (Lib.index l [58] == -1) = true := fun e => hm (beq_iff_eq.1 e)
      rw [hi, if_neg hne, if_neg hne, hj]
      have h2 : ¬ ((j : Int) + 1 == -1) = true := fun e => by have := beq_iff_eq.1 e; omega
      rw [if_neg h2]
      have h3 : ((j : Int) + 1).toNat = j + 1 := by omega
      have h4 : (j : Int).toNat = j := by omega
      rw [h3, h4]
      refine ⟨_, _, rfl, ?_⟩
      simp [Nat.add_right_comm]
theorem splitK_flds (s : List UInt8) : Lib.splitK [58] 0 (Lib.count s [58]) s = flds s := by
  induction s with
  | nil => rw [Lib.count_one]; rfl
  | cons b l ih =>
    by_cases h : b = 58
    · subst h
      rw [Lib.count_cons_eq, Nat.add_comm, flds_colon, ← ih]
      conv => lhs; unfold Lib.splitK
      rw [index_cons_eq, if_neg (by decide)]
      simp
    · rw [Lib.count_cons_ne b 58 l h]
      obtain ⟨f, r, h1, h2⟩ := splitK_ne h (Lib.count l [58]) l
      obtain ⟨f', r', h3, h4⟩ := flds_other h l
      rw [h2, h4]
      rw [ih, h3] at h1
      injection h1 with h1 h5
      rw [h1, h5]
end Go.Proofs.YtcpceaflnnkhnaaGreatDoor

/- Lemmas on memory that the walks of this claim use: slices that read as lists, rows that a call made itself, what stays as it was. They hold of every program. -/
namespace Go.Proofs.YtcpceaflnnkhnaaGreatDoor
open Go.RowKit

theorem ret_int {k : IntKind} {a b : Int} (h : a = b) : Ending.returned (.int k a) = .returned (.int k b) := by rw [h]
theorem ret_bool {a b : Bool} (h : a = b) : Ending.returned (.bool a) = .returned (.bool b) := by rw [h]

theorem hide {p : Prop} (h : p) : Hid p := h

/-- A slice value of n elements of sz cells whose cells are xs. -/
def Sl (w : World) (sz : Nat) (v : Value) (n : Nat) (xs : List Value) : Prop :=
  xs.length = n * sz ∧ ∃ A c, v = .slice A n c ∧ n ≤ c ∧ c ≤ maxLen ∧
    (0 < n → ∃ b o, A = some ⟨b, o, none⟩ ∧ b < w.heap.size ∧ ∀ j, j < n * sz → w.cell? ⟨b, o + j, none⟩ = xs[j]?)

theorem Sl.keep {w w' : World} {sz : Nat} {v : Value} {n : Nat} {xs : List Value} (h : Sl w sz v n xs) (hs : w.heap.size ≤ w'.heap.size)
    (hb : ∀ b, b < w.heap.size → w'.heap[b]? = w.heap[b]?) : Sl w' sz v n xs := by
  obtain ⟨h1, A, c, hv, hn, hc, h2⟩ := h
  refine ⟨h1, A, c, hv, hn, hc, fun h0 => ?_⟩
  obtain ⟨b, o, hA, hlt, hcell⟩ := h2 h0
  exact ⟨b, o, hA, by omega, fun j hj => (World.cell?_of_block (w := w) (hb b hlt)).trans (hcell j hj)⟩

theorem Sl.below {w w' : World} {sz : Nat} {v : Value} {n : Nat} {xs : List Value} (h : Sl w sz v n xs) (hb : Below w.heap.size w w') : Sl w' sz v n xs :=
  h.keep hb.size hb.block

theorem below_drewN {B : Nat} {a w : World} (h : Below B a w) (n : Nat) : Below B a (w.drewN n) := ⟨h.os, h.tape, h.output, h.size, h.block⟩

/-- What is owned stays owned where no old block has turned. -/
theorem own_below {w w' : World} {base : Nat} {e : TypeId} {sz : Nat} {v : Value} {n : Nat} {xs : List Value} (h : w.ownsRow base e sz v n xs)
    {B : Nat} (hb : Below B w w') (hB : ∀ g, v.ownBlock = some g → g < B) : w'.ownsRow base e sz v n xs := by
  obtain ⟨h1, h2 | ⟨g, cap, cur, hv, hg, hh, r⟩⟩ := h
  · exact ⟨h1, .inl h2⟩
  · subst hv
    exact ⟨h1, .inr ⟨g, cap, cur, rfl, hg, (hb.block g (hB g rfl)).trans hh, r⟩⟩

theorem own_lt {w : World} {base : Nat} {e : TypeId} {sz : Nat} {v : Value} {n : Nat} {xs : List Value} (h : w.ownsRow base e sz v n xs) :
    ∀ g, v.ownBlock = some g → g < w.heap.size := fun g hg => (h.lt g hg).2

theorem own_below' {w w' : World} {base : Nat} {e : TypeId} {sz : Nat} {v : Value} {n : Nat} {xs : List Value} (h : w.ownsRow base e sz v n xs)
    (hb : Below w.heap.size w w') : w'.ownsRow base e sz v n xs := own_below h hb (own_lt h)

/-- An owned row reads as a slice. -/
theorem Sl.of_own {w : World} {base : Nat} {e : TypeId} {sz : Nat} {v : Value} {n : Nat} {xs : List Value} (h : w.ownsRow base e sz v n xs) : Sl w sz v n xs := by
  have hl := own_lt h
  obtain ⟨h1, ⟨hv, hn⟩ | ⟨g, cap, cur, hv, hg, hh, hn, hc, hs, ht⟩⟩ := h
  · subst hv hn
    exact ⟨h1, none, 0, rfl, Nat.le_refl _, by simp [maxLen], fun h => absurd h (by omega)⟩
  · subst hv
    refine ⟨h1, _, cap, rfl, hn, hc, fun h0 => ⟨g, 0, rfl, hl g rfl, fun j hj => ?_⟩⟩
    rw [Nat.zero_add, cell_of_row w g j cur e (0, 0) hh, ← ht, List.getElem?_take_of_lt hj]
    simp

theorem Sl.nil (w : World) (sz : Nat) : Sl w sz (.slice none 0 0) 0 [] := ⟨by simp, none, 0, rfl, Nat.le_refl _, by simp [maxLen], fun h => absurd h (by omega)⟩

/-- The value, its address where there is an element, and that element's cells. -/
theorem Sl.form {w : World} {sz : Nat} {v : Value} {n : Nat} {xs : List Value} (h : Sl w sz v n xs) :
    ∃ A c, v = .slice A n c ∧ n ≤ c ∧ c ≤ maxLen ∧ (0 < n → ∃ b o, A = some ⟨b, o, none⟩ ∧ b < w.heap.size ∧ ∀ j, j < n * sz → w.cell? ⟨b, o + j, none⟩ = xs[j]?) := h.2

/-! ### Bytes -/
def bcells (l : List UInt8) : List Value := l.map fun x => .int .u8 (x.toNat : Int)

@[simp] theorem bcells_length (l : List UInt8) : (bcells l).length = l.length := by simp [bcells]
theorem bcells_append (l r : List UInt8) : bcells (l ++ r) = bcells l ++ bcells r := by simp [bcells]
theorem bcells_one (x : UInt8) : bcells [x] = [.int .u8 (x.toNat : Int)] := rfl
theorem bcells_get (l : List UInt8) (k : Nat) : (bcells l)[k]? = (l[k]?).map fun x => .int .u8 (x.toNat : Int) := by simp [bcells]

/-- A slice of bytes that reads as l. -/
def By (w : World) (v : Value) (l : List UInt8) : Prop := Sl w 1 v l.length (bcells l)
theorem By.below {w w' : World} {v : Value} {l : List UInt8} (h : By w v l) (hb : Below w.heap.size w w') : By w' v l := Sl.below h hb
theorem By.keep {w w' : World} {v : Value} {l : List UInt8} (h : By w v l) (hs : w.heap.size ≤ w'.heap.size)
    (hb : ∀ b, b < w.heap.size → w'.heap[b]? = w.heap[b]?) : By w' v l := Sl.keep h hs hb
theorem By.nil (w : World) : By w (.slice none 0 0) [] := Sl.nil w 1
theorem By.form {w : World} {v : Value} {l : List UInt8} (h : By w v l) :
    ∃ A c, v = .slice A l.length c ∧ l.length ≤ c ∧ c ≤ maxLen ∧
      (∀ k x, l[k]? = some x → ∃ b o, A = some ⟨b, o, none⟩ ∧ b < w.heap.size ∧ w.cell? ⟨b, o + k, none⟩ = some (.int .u8 (x.toNat : Int))) := by
  obtain ⟨A, c, hv, hn, hc, h2⟩ := Sl.form h
  refine ⟨A, c, hv, hn, hc, fun k x hx => ?_⟩
  have hk : k < l.length := (List.getElem?_eq_some_iff.1 hx).1
  obtain ⟨b, o, hA, hlt, hcell⟩ := h2 (by omega)
  refine ⟨b, o, hA, hlt, ?_⟩
  rw [hcell k (by omega), bcells_get, hx]; rfl

/-- A row of bytes of the call's own (e: the byte's type number). -/
def Own (w : World) (base : Nat) (e : TypeId) (v : Value) (l : List UInt8) : Prop := w.ownsRow base e 1 v l.length (bcells l)
theorem Own.by_ {w : World} {base : Nat} {e : TypeId} {v : Value} {l : List UInt8} (h : Own w base e v l) : By w v l := Sl.of_own h
theorem Own.below {w w' : World} {base : Nat} {e : TypeId} {v : Value} {l : List UInt8} (h : Own w base e v l) (hb : Below w.heap.size w w') : Own w' base e v l := own_below' h hb
theorem Own.nil (w : World) (base : Nat) (e : TypeId) : Own w base e (.slice none 0 0) [] := World.ownsRow_nil w base e 1

/-- The slice type t over the element type e of one cell. -/
structure Elem1 (P : Program) (t e : TypeId) (z : Value) (bytes : Nat) : Prop where
  ht : P.underlying t = some (.slice e)
  hi : (P.info? e).map (fun i => (i.zero, i.size, i.bytes)) = some (some z, 1, bytes)
  hz : z.cells.size = 1

/-- 'append(out, x)' of one element of one cell, out nil or the call's own: the new value owns one more, the old one owns what it owned; what else may have turned: the row itself alone. -/
theorem run_push1 {P : Program} {t e : TypeId} {z : Value} {bytes : Nat} (T : Elem1 P t e z bytes) (ty : TypeId) {w : World} {base : Nat} {v : Value} {n : Nat} {xs : List Value} (hown : w.ownsRow base e 1 v n xs)
    (hbase : base ≤ w.heap.size) (hn : n + 1 ≤ maxLen) (hbytes : (n + 1) * bytes ≤ 140737488355328) (u : Value) (hu : u.oneCell' = true) :
    ∃ v' w', (Builtin.append_ #[t, t] ty #[v, .slice (some ⟨w.heap.size, 0, none⟩) 1 1]).run P (w.alloc (.cells #[u] e)) = .ok v' w' ∧ w'.ownsRow base e 1 v' (n + 1) (xs ++ [u]) ∧ w'.ownsRow base e 1 v n xs ∧
      w.grownBy w' v.ownBlock ∧ (v'.ownBlock = v.ownBlock ∨ ∀ g, v'.ownBlock = some g → w.heap.size ≤ g) := by
  obtain ⟨i, hi, hz, h1, h2⟩ := info_parts T.hi
  have hn1 : ∀ j y, [u][j]? = some y → (w.alloc (.cells #[u] e)).cell? ((⟨w.heap.size, 0, none⟩ : Addr).add j) = some y := fun j y hj => by
    have := World.news_of_block (w := w.alloc (.cells #[u] e)) (B := w.heap.size) (cs := #[u]) (t := e) (fr := (0, 0)) (heap_alloc_new w _) j y (by simpa using hj)
    exact this
  have ho1 := hown.alloc (.cells #[u] e)
  have hnl : ([u] : List Value).length = 1 * i.size := by simp [h1]
  have hbig : n + 1 ≤ 9223372036854775807 := by simp only [maxLen] at hn; omega
  have gb : ∀ {w' : World} {row : Option Nat}, (w.alloc (.cells #[u] e)).grownBy w' row → w.grownBy w' row := fun hg =>
    ⟨hg.os, hg.tape, hg.output, Nat.le_trans (by simp) hg.size, fun k hk hne => (hg.block k (by simp; omega) hne).trans (Below.heap_alloc w _ k hk)⟩
  obtain ⟨v', w', hrun, h3, h4, _, h6⟩ := run_append_own_at (P := P) (w.alloc (.cells #[u] e)) base t ty e i z 1 bytes T.ht hi hz h1 h2 T.hz (by omega) v n xs ho1 ⟨w.heap.size, 0, none⟩ 1 1 [u] rfl hn1 (by simpa using hu) hn hbytes (by simp; omega)
  refine ⟨v', w', hrun, h3, ?_, gb h4, ?_⟩
  · rcases ho1.2 with ⟨rfl, rfl⟩ | ⟨g, cap, cur, rfl, hbg, hg, hnc, hcm, hcs, htake⟩
    · have hx : xs = [] := List.eq_nil_of_length_eq_zero (by simpa using hown.1)
      subst hx
      exact World.ownsRow_nil w' base e 1
    · by_cases hroom : n + 1 ≤ cap
      · have hfit : n * i.size + [u].length ≤ cur.size := by rw [hcs, h1]; simp; omega
        have hr := run_append_room (P := P) (w.alloc (.cells #[u] e)) t ty e i T.ht hi g n cap cur hg ⟨w.heap.size, 0, none⟩ 1 1 [u] hnl hn1 (by simpa using hu) hroom hfit
        rw [hr] at hrun
        injection hrun with _ hw
        subst hw
        refine ⟨hown.1, .inr ⟨g, cap, _, rfl, hbg, setRow_heap _ g cur _ e _ hg, hnc, hcm, ?_, ?_⟩⟩
        · simp only [List.size_toArray, List.length_append, List.length_take, List.length_drop, Array.length_toList]
          have := hfit
          simp only [List.length_cons, List.length_nil] at *
          omega
        · have hl : (cur.toList.take (n * 1)).length = n := by rw [htake]; simpa using hown.1
          rw [h1, List.append_assoc, List.take_append_of_le_length (by omega), List.take_take, Nat.min_self, htake]
      · have holds : ∀ j y, xs[j]? = some y → (w.alloc (.cells #[u] e)).cell? ((⟨g, 0, none⟩ : Addr).add j) = some y := ho1.cells (g := g) rfl
        have hr := run_append_grow (P := P) (w.alloc (.cells #[u] e)) t ty e i z T.ht hi hz ⟨g, 0, none⟩ n cap xs (by rw [h1]; exact hown.1) holds ⟨w.heap.size, 0, none⟩ 1 1 [u] hnl hn1 (by omega) (by omega) (growslice_fits (by omega) (by rw [h2]; exact hbytes))
        rw [hr] at hrun
        injection hrun with _ hw
        subst hw
        exact World.ownsRow.alloc (w := (w.alloc (.cells #[u] e)).drew) ho1 _
  · rcases h6 with h6 | h6
    · exact .inl h6
    · refine .inr fun g hg => ?_
      rw [h6] at hg
      injection hg with hg
      simp at hg
      omega

theorem Own.push {w' : World} {base : Nat} {e : TypeId} {v' : Value} {l : List UInt8} {n : Nat} {x : UInt8} {xs : List Value}
    (h : w'.ownsRow base e 1 v' (n + 1) (xs ++ [.int .u8 (x.toNat : Int)])) (hn : n = l.length) (hx : xs = bcells l) : Own w' base e v' (l ++ [x]) := by
  subst hn hx
  unfold Own
  rw [bcells_append, bcells_one]
  simpa using h

/-- 'append(out, x)', out a row of the call's own with elements of one cell. -/
theorem wpList_push1 {P : Program} {t e : TypeId} {z : Value} {bytes : Nat} (T : Elem1 P t e z bytes) {w : World} {base : Nat} {v : Value} {n : Nat} {xs : List Value} (hown : w.ownsRow base e 1 v n xs)
    {w0 : World} (hb : Below base w0 w) (hbase : base ≤ w.heap.size) (hn : n + 1 ≤ maxLen) (hbytes : (n + 1) * bytes ≤ 140737488355328) (u : Value) (hu : u.oneCell' = true)
    {ops : Array Oper} {rest : List Oper} {o : Oper} {a : Act} {Q : Exit → Act → World → Prop} (hgd : o.guard = none) (s y : Operand)
    (ho : o.op = .call { callee := .builtin .append, args := #[s, y], argTypes := #[t, t] }) (hs : a.eval s = v) (hx : a.eval y = .slice (some ⟨w.heap.size, 0, none⟩) 1 1)
    (h : ∀ v' w', w'.ownsRow base e 1 v' (n + 1) (xs ++ [u]) → Below base w0 w' → w'.ownsRow base e 1 v n xs → w.grownBy w' v.ownBlock → (v'.ownBlock = v.ownBlock ∨ ∀ g, v'.ownBlock = some g → w.heap.size ≤ g) → wpList P ops Q rest (a.put o.dst v') w') :
    wpList P ops Q (o :: rest) a (w.alloc (.cells #[u] e)) := by
  refine wpList_plain hgd fun K hK => ?_
  obtain ⟨v', w', hrun, h2, h3, h4, h5⟩ := run_push1 T o.type hown hbase hn hbytes u hu
  unfold Oper.wp execOp
  simp only [ho, resolve, invoke, builtin, Sem.run_bind, Sem.run_pure, Result.andThen_ok, List.map_toArray, List.map_cons, List.map_nil, hs, hx, hrun]
  exact hK _ _ (h v' w' h2 (hb.grown h4 hbase fun k hk => (hown.lt k hk).1) h3 h4 h5)

/-- 'append(out, x)', out a row of bytes of the call's own. -/
theorem wpList_pushB {P : Program} {t e : TypeId} (T : Elem1 P t e (.int .u8 0) 1) {w : World} {base : Nat} {v : Value} {l : List UInt8} (hown : Own w base e v l)
    {w0 : World} (hb : Below base w0 w) (hbase : base ≤ w.heap.size) (hlen : l.length + 1 ≤ 140737488355328) (x : UInt8)
    {ops : Array Oper} {rest : List Oper} {o : Oper} {a : Act} {Q : Exit → Act → World → Prop} (hgd : o.guard = none) (s y : Operand)
    (ho : o.op = .call { callee := .builtin .append, args := #[s, y], argTypes := #[t, t] }) (hs : a.eval s = v) (hx : a.eval y = .slice (some ⟨w.heap.size, 0, none⟩) 1 1)
    (h : ∀ v' w', Own w' base e v' (l ++ [x]) → Below base w0 w' → w.grownBy w' v.ownBlock → (v'.ownBlock = v.ownBlock ∨ ∀ g, v'.ownBlock = some g → w.heap.size ≤ g) → wpList P ops Q rest (a.put o.dst v') w') :
    wpList P ops Q (o :: rest) a (w.alloc (.cells #[.int .u8 (x.toNat : Int)] e)) := by
  refine wpList_push1 T hown hb hbase (by unfold maxLen; omega) (by omega) _ rfl hgd s y ho hs hx fun v' w' h1 h2 _ h3 h4 => h v' w' (Own.push h1 rfl rfl) h2 h3 h4

theorem str_toList (s : ByteArray) : s.toList = s.data.toList := ByteArray.toList_eq s

/-! ### A block that is known whole -/
def Blk (w : World) (g : Nat) (t : TypeId) (cs : Array Value) : Prop := w.heap[g]? = some (.cells cs t (0, 0))
section
variable {w w' : World} {g : Nat} {t : TypeId} {cs : Array Value}
theorem Blk.lt (h : Blk w g t cs) : g < w.heap.size := by
  rcases Nat.lt_or_ge g w.heap.size with h1 | h1
  · exact h1
  · unfold Blk at h; rw [Array.getElem?_eq_none h1] at h; cases h
theorem Blk.cell (h : Blk w g t cs) (i : Nat) : w.cell? ⟨g, i, none⟩ = cs[i]? := cell_of_row w g i cs t (0, 0) h
theorem Blk.frozen (h : Blk w g t cs) (i : Nat) : w.frozen? ⟨g, i, none⟩ = false := by unfold Blk at h; simp [World.frozen?, h]
theorem Blk.new (w : World) (t : TypeId) (cs : Array Value) : Blk (w.alloc (.cells cs t)) w.heap.size t cs := heap_alloc_new w _
theorem Blk.alloc (h : Blk w g t cs) (o : Obj) : Blk (w.alloc o) g t cs := (Below.heap_alloc w o g h.lt).trans h
theorem Blk.drew (h : Blk w g t cs) : Blk w.drew g t cs := h
theorem Blk.drewN (h : Blk w g t cs) (n : Nat) : Blk (w.drewN n) g t cs := h
theorem Blk.set_ (h : Blk w g t cs) (i : Nat) (u : Value) : Blk (w.setCell ⟨g, i, none⟩ u) g t (cs.setIfInBounds i u) := by
  unfold Blk at h ⊢
  simp [World.setCell, Array.getElem?_modify, h]
theorem Blk.far (h : Blk w g t cs) {p : Addr} (hp : g ≠ p.block) (u : Value) : Blk (w.setCell p u) g t cs := (Below.heap_setCell w p u g hp).trans h
theorem Blk.below {B : Nat} (h : Blk w g t cs) (hb : Below B w w') (hg : g < B) : Blk w' g t cs := (hb.block g hg).trans h
theorem Blk.below' (h : Blk w g t cs) (hb : Below w.heap.size w w') : Blk w' g t cs := h.below hb h.lt
theorem Blk.grown {row : Option Nat} (h : Blk w g t cs) (hb : w.grownBy w' row) (hg : some g ≠ row) : Blk w' g t cs := (hb.block g h.lt hg).trans h
theorem Blk.own (h : Blk w g t cs) {base n cap : Nat} {e : TypeId} {sz : Nat} (he : e = t) (hb : base ≤ g) (hc : cs.size = cap * sz) (hn : n ≤ cap) (hm : cap ≤ maxLen) :
    w.ownsRow base e sz (.slice (some ⟨g, 0, none⟩) n cap) n (cs.toList.take (n * sz)) := by
  subst he
  refine ⟨?_, .inr ⟨g, cap, cs, rfl, hb, h, hn, hm, hc, rfl⟩⟩
  rw [List.length_take, Array.length_toList, hc, Nat.min_eq_left (Nat.mul_le_mul_right _ hn)]
theorem own_blk_ne {base : Nat} {e : TypeId} {sz n : Nat} {v : Value} {xs : List Value} (h : w.ownsRow base e sz v n xs) (hg : Blk w g t cs) (hne : e ≠ t) : v.ownBlock = none ∨ v.ownBlock ≠ some g := by
  rcases h.2 with ⟨rfl, _⟩ | ⟨g', cap, cur, rfl, _, hh, _⟩
  · exact .inl rfl
  · refine .inr ?_
    intro he
    have : g' = g := by simpa [Value.ownBlock] using he
    subst this
    unfold Blk at hg
    rw [hh] at hg
    injection hg with hg
    injection hg with _ ht
    exact hne ht
end

theorem grown_drew {w w' : World} {row : Option Nat} (h : w.grownBy w' row) : w.grownBy w'.drew row := ⟨h.os, h.tape, h.output, h.size, h.block⟩
theorem grown_drewN {w w' : World} {row : Option Nat} (h : w.grownBy w' row) (n : Nat) : w.grownBy (w'.drewN n) row := ⟨h.os, h.tape, h.output, h.size, h.block⟩
theorem _root_.Go.World.grownBy.trans_ {a b c : World} {row : Option Nat} (h : a.grownBy b row) (k : b.grownBy c row) : a.grownBy c row :=
  ⟨k.os.trans h.os, k.tape.trans h.tape, k.output.trans h.output, Nat.le_trans h.size k.size, fun i hi hne => (k.block i (Nat.lt_of_lt_of_le hi h.size) hne).trans (h.block i hi hne)⟩
theorem store_grown (w : World) (g i : Nat) (u : Value) : w.grownBy (w.setCell ⟨g, i, none⟩ u) (some g) :=
  ⟨rfl, rfl, rfl, by simp [World.setCell], fun k hk hne => Below.heap_setCell w _ u k (fun e => hne (by rw [e]))⟩
theorem stores_grown (g : Nat) (cs : List Value) : ∀ (w : World) (o : Nat), w.grownBy (w.setCells g o cs) (some g) := by
  induction cs with
  | nil => exact fun w o => World.grownBy.refl w _
  | cons c cs ih => exact fun w o => (store_grown w g o c).trans_ (ih _ _)

theorem blk_setCells {g : Nat} {t : TypeId} (cs : List Value) : ∀ (w : World) (o : Nat) (old : Array Value), Blk w g t old → o + cs.length ≤ old.size →
    Blk (w.setCells g o cs) g t (old.toList.take o ++ cs ++ old.toList.drop (o + cs.length)).toArray := by
  induction cs with
  | nil => intro w o old h _; simpa [World.setCells] using h
  | cons c cs ih =>
    intro w o old h hl
    simp only [List.length_cons] at hl
    have := ih (w.setCell ⟨g, o, none⟩ c) (o + 1) (old.setIfInBounds o c) (h.set_ o c) (by simp; omega)
    simp only [World.setCells]
    have e : (old.setIfInBounds o c).toList.take (o + 1) ++ cs ++ (old.setIfInBounds o c).toList.drop (o + 1 + cs.length) = old.toList.take o ++ c :: cs ++ old.toList.drop (o + (c :: cs).length) := by
      rw [Array.toList_setIfInBounds, List.drop_set_of_lt (by omega), List.length_cons, show o + 1 + cs.length = o + (cs.length + 1) by omega]
      congr 1
      rw [List.take_add_one, List.take_set_of_le (Nat.le_refl _), List.getElem?_set_self (by simp; omega)]
      simp
    rw [e] at this
    exact this

/-- A whole array or struct is stored into a block that is known whole. -/
theorem wpList_store_row {P : Program} {ops : Array Oper} {rest : List Oper} {o : Oper} {a : Act} {w : World} {Q : Exit → Act → World → Prop} {g : Nat} {t : TypeId} {old : Array Value} (hb : Blk w g t old) (cells : Array Value)
    (hs : cells.size = old.size) (h1 : cells.all (·.oneCell') = true) (hgd : o.guard = none) (ty : TypeId) (x y : Operand) (ho : o.op = .store ty x y)
    (hi : (P.info? ty).map (·.size) = some cells.size) (hx : a.eval x = .pointer (some ⟨g, 0, none⟩)) (hy : a.eval y = .agg cells)
    (h : ∀ w', Blk w' g t cells → w.grownBy w' (some g) → wpList P ops Q rest (a.put o.dst undef) w') : wpList P ops Q (o :: rest) a w := by
  refine wpList_store_mid hgd ty x y ho g 0 cells hx hy (fun j hj => ⟨?_, ?_⟩) hi h1 (h _ ?_ (stores_grown g _ _ _))
  · rw [Nat.zero_add, hb.cell]; simp; omega
  · rw [Nat.zero_add]; exact hb.frozen j
  · have := blk_setCells cells.toList w 0 old hb (by simp; omega)
    simp only [List.take_zero, List.nil_append, Nat.zero_add, Array.length_toList] at this
    rw [List.drop_of_length_le (by simp; omega), List.append_nil] at this
    simpa using this

/-- 'string(b)' of a slice of bytes. -/
theorem run_str {P : Program} {w : World} {v : Value} {l : List UInt8} (h : By w v l) (src dst e : TypeId) (hs : P.underlying src = some (.slice e)) (he : P.underlying e = some (.int .u8)) (hd : P.underlying dst = some .string) :
    ∃ s : ByteArray, s.data.toList = l ∧ (convert src dst v).run P w = .ok (.string s) w := by
  obtain ⟨A, c, rfl, hlc, hc, hcell⟩ := h.form
  rcases A with _ | ad
  · have hl : l = [] := by
      rcases l with _ | ⟨x, l⟩
      · rfl
      · obtain ⟨b, o, h0, _⟩ := hcell 0 x rfl
        cases h0
    subst hl
    exact ⟨⟨#[]⟩, rfl, Lib.run_convert_nil_bytes w src dst e c hs he hd⟩
  · refine ⟨⟨l.toArray⟩, by simp, run_convert_bytes_back w src dst e ad c l hs he hd fun j hj => ?_⟩
    obtain ⟨b, o, h0, _, h2⟩ := hcell j _ (List.getElem?_eq_getElem hj)
    injection h0 with h0
    subst h0
    rw [Go.Addr.add_mid]
    exact h2

end Go.Proofs.YtcpceaflnnkhnaaGreatDoor

/- A text's bytes. It holds of every program. -/
namespace Go.Proofs.YtcpceaflnnkhnaaGreatDoor
open Go.RowKit
abbrev lst (s : ByteArray) : List UInt8 := s.data.toList
theorem lst_get (s : ByteArray) (k : Nat) (h : k < s.size) : (lst s)[k]? = some s[k] := by
  rw [List.getElem?_eq_getElem (by simpa using h)]; rfl
theorem lst_len (s : ByteArray) : (lst s).length = s.size := by simp [lst]
end Go.Proofs.YtcpceaflnnkhnaaGreatDoor

/- Contracts of Number and ReadNumber, the program's and the document's. -/
namespace Go.Proofs.YtcpceaflnnkhnaaGreatDoor
open Go.RowKit

theorem below_grow (w : World) (q : Nat) (os : Array Obj) : Below w.heap.size w (Sort.grow (w.drewN q) os) :=
  ⟨rfl, rfl, rfl, by simp [Sort.grow], fun k hk => by simp [Sort.grow, Array.getElem?_append, hk]⟩
theorem wf64 {x : Int} (h : (Lit.int .i64 x).wf = true) : -9223372036854775808 ≤ x ∧ x ≤ 9223372036854775807 := by
  simpa [Lit.wf, IntKind.min, IntKind.max, IntKind.bits, IntKind.signed] using h

/-- The table that Itoa reads. -/
def Tab (w : World) : Prop := Lib.TabIs Tryz.prog w "internal/strconv.uint64pow10" .u64 Lib.pow10Tab
theorem Tab.below {w w' : World} (h : Tab w) (hb : Below w.heap.size w w') : Tab w' := by
  unfold Tab Lib.TabIs World.var? at *
  cases hg : Tryz.prog.globalNamed "internal/strconv.uint64pow10" with
  | none => simp [hg] at h
  | some g =>
    simp only [hg, Option.bind_some] at h ⊢
    have hlt : g < w.heap.size := by
      rcases Nat.lt_or_ge g w.heap.size with h' | h'
      · exact h'
      · simp [Array.getElem?_eq_none h'] at h
    rw [hb.block g hlt]
    exact h

def itoaS (n : Int) : ByteArray := ⟨(Lib.itoa n).toArray⟩
theorem lst_itoaS (n : Int) : lst (itoaS n) = Lib.itoa n := by simp [lst, itoaS]
theorem itoa_any (n : Int) (w : World) (hn : -9223372036854775808 ≤ n ∧ n ≤ 9223372036854775807) (ht : Tab w) :
    Calls Tryz.prog 97 #[.int .i64 n] w fun e w' => e = .returned (.string (itoaS n)) ∧ Below w.heap.size w w' :=
  (Tryz.strconv_Itoa n hn.1 hn.2 w ht).mono fun e w' ⟨he, k, os, hw⟩ => ⟨he, by rw [hw]; exact below_grow w k os⟩

/-- What Number answers. -/
def numS (x : Int) : ByteArray := if x < 0 then ⟨#[]⟩ else itoaS x
def numE (x : Int) : Int := if x < 0 then 102 else 0
theorem bnumber_any (x : Int) (w : World) (hx : -9223372036854775808 ≤ x ∧ x ≤ 9223372036854775807) (ht : Tab w) :
    Calls Tryz.prog 208 #[.int .i64 x] w fun e w' => e = .returned (.tuple #[.string (numS x), .int .i64 (numE x)]) ∧ Below w.heap.size w w' := by
  have q := itoa_any x w hx ht
  unfold numS numE
  by_cases h : x < 0
  · rw [if_pos h, if_pos h]
    go_enter Tryz.func208, Tryz.ntmps208
    go_wp2
    go_ret2
    exact ⟨rfl, Below.refl _ _⟩
  · rw [if_neg h, if_neg h]
    generalize itoaS x = t at *
    go_enter Tryz.func208, Tryz.ntmps208
    go_wp2_with fail
    refine q.mono ?_
    rintro e w' ⟨rfl, hb⟩
    go_wp2
    go_ret2
    exact ⟨rfl, hb⟩

/-! ### The document's Number -/
theorem lst_eq_mk {a : ByteArray} {l : List UInt8} (h : lst a = l) : a = ⟨l.toArray⟩ := by
  cases a
  simp only [lst] at h
  rw [← h]
def dgc (d : Nat) : UInt8 := UInt8.ofNat (48 + d)
theorem str_one (w : World) (d : Nat) (hd : d < 10) : (convert 32 9 (.slice (some ⟨w.heap.size, 0, none⟩) 1 1)).run Tryz.prog (w.alloc (.cells #[.int .u8 (48 + (d : Int))] 5)) =
    .ok (.string ⟨#[dgc d]⟩) (w.alloc (.cells #[.int .u8 (48 + (d : Int))] 5)) := by
  have e : ((UInt8.ofNat (48 + d)).toNat : Int) = 48 + (d : Int) := by rw [UInt8.toNat_ofNat']; omega
  rw [← e]
  have n1 := Blk.new w 5 #[.int .u8 ((UInt8.ofNat (48 + d)).toNat : Int)]
  have hby : By (w.alloc (.cells #[.int .u8 ((UInt8.ofNat (48 + d)).toNat : Int)] 5)) (.slice (some ⟨w.heap.size, 0, none⟩) 1 1) [UInt8.ofNat (48 + d)] := by
    refine ⟨rfl, some ⟨w.heap.size, 0, none⟩, 1, rfl, Nat.le_refl 1, by unfold maxLen; omega, fun _ => ⟨w.heap.size, 0, rfl, n1.lt, fun j _ => ?_⟩⟩
    rw [Nat.zero_add, n1.cell, ← Array.getElem?_toList]
    rfl
  obtain ⟨t, ht, hrun⟩ := run_str (P := Tryz.prog) hby 32 9 5 Tryz.underlying32 Tryz.underlying5 Tryz.underlying9
  rw [hrun, lst_eq_mk ht]
  rfl

theorem digits_split (y : Nat) (h : 10 ≤ y) : Lib.decDigits y = Lib.decDigits (y / 10) ++ [UInt8.ofNat (48 + y % 10)] := by
  rw [Lib.decDigits, dif_neg (by omega)]

set_option maxRecDepth 100000 in
set_option maxHeartbeats 1600000 in
theorem rnumber_any (x : Int) (w : World) (hx : -9223372036854775808 ≤ x ∧ x ≤ 9223372036854775807) :
    Calls Tryz.prog 69 #[.int .i64 x] w fun e w' => e = .returned (.tuple #[.string (numS x), .int .i64 (numE x)]) ∧ Below w.heap.size w w' := by
  unfold numS numE
  by_cases h : x < 0
  · rw [if_pos h, if_pos h]
    go_enter Tryz.func69, Tryz.ntmps69
    go_wp2
    go_ret2
    exact ⟨rfl, Below.refl _ _⟩
  · rw [if_neg h, if_neg h]
    obtain ⟨X, rfl⟩ : ∃ X : Nat, x = (X : Int) := ⟨x.toNat, by omega⟩
    have hS : lst (itoaS (X : Int)) = Lib.decDigits X := by rw [lst_itoaS, Lib.itoa_nonneg]
    have hlen := digits_length_le 18 X (by omega)
    generalize itoaS (X : Int) = R at *
    have HS := hide (And.intro hS hlen)
    have hxl : X ≤ 9223372036854775807 := by omega
    clear hS hlen hx h
    go_enter Tryz.func69, Tryz.ntmps69
    go_wp2
    go_loopw [0, 4] (fun u0 u4 wr => ∃ (y : Nat) (t : ByteArray), y ≤ 9223372036854775807 ∧ u0 = .int .i64 (y : Int) ∧ u4 = .string t ∧ Lib.decDigits X = Lib.decDigits y ++ lst t ∧ t.size ≤ 19 ∧ Below w.heap.size w wr) (fun u0 _ _ => (intOf u0).toNat)
    case atStart => exact ⟨X, ⟨#[]⟩, hxl, rfl, rfl, by simp [lst], by decide, Below.refl _ _⟩
    case round =>
      obtain ⟨y, t, hy, rfl, rfl, hdig, htl, hbel⟩ := hrel
      have HD := hide hdig
      clear hdig
      by_cases h10 : 10 ≤ y
      · have i1 : (y : Int) ≥ 10 := by omega
        have hdl : y % 10 < 10 := Nat.mod_lt _ (by omega)
        have hsp := digits_split y h10
        have hql : y / 10 < y := by omega
        have ht : (y : Int).tmod 10 = ((y % 10 : Nat) : Int) := rfl
        have ht2 : (y : Int) % 10 = ((y % 10 : Nat) : Int) := by omega
        have hq : (y : Int).tdiv 10 = ((y / 10 : Nat) : Int) := rfl
        have hq2 : (y : Int) / 10 = ((y / 10 : Nat) : Int) := by omega
        generalize y % 10 = d at *
        generalize y / 10 = q at *
        have hrun := str_one wr d hdl
        have HN := hide (show Lib.decDigits X = Lib.decDigits q ++ lst ((⟨#[dgc d]⟩ : ByteArray) ++ t) by
          rw [HD.out, hsp]; simp [lst, dgc])
        have HB := hide (hbel.alloc hbel.size (.cells #[.int .u8 (48 + (d : Int))] 5))
        have HSZ := hide (show ((⟨#[dgc d]⟩ : ByteArray) ++ t).size ≤ 19 by
          have h1 := congrArg List.length HN.out
          rw [List.length_append, lst_len] at h1
          have := HS.out.2
          omega)
        clear hsp
        go_wp2
        go_roundw
        case rel => exact ⟨q, _, by omega, rfl, rfl, HN.out, HSZ.out, HB.out⟩
        case measure => simp [intOf]; omega
      · have i1 : ¬ (y : Int) ≥ 10 := by omega
        have hrun := str_one wr y (by omega)
        have HN := hide (show (⟨#[dgc y]⟩ : ByteArray) ++ t = R by
          rw [lst_eq_mk (a := R) (l := lst R) rfl, HS.out.1, HD.out, Lib.decDigits, dif_pos (by omega)]
          rw [lst_eq_mk (a := (⟨#[dgc y]⟩ : ByteArray) ++ t) rfl]
          simp [lst, dgc])
        have HB := hide (hbel.alloc hbel.size (.cells #[.int .u8 (48 + (y : Int))] 5))
        have hn := HN.out
        clear HN
        subst hn
        go_wp2
        go_ret2
        exact ⟨rfl, HB.out⟩

/-! ### ReadNumber -/
/-- What ReadNumber answers. -/
def rdN (l : List UInt8) (most : Int) : Int := match rd l most with
  | some x => (x : Int)
  | none => 0
def rdE (l : List UInt8) (most : Int) : Int := match rd l most with
  | some _ => 0
  | none => 102
/-- The errors that Atoi hands on. -/
def Err (w : World) : Prop := (∃ tp p, w.var? Tryz.prog "strconv.ErrSyntax" = some #[.iface tp p]) ∧ ∃ tp p, w.var? Tryz.prog "strconv.ErrRange" = some #[.iface tp p]

set_option maxRecDepth 100000 in
set_option maxHeartbeats 1600000 in
theorem bread_any (s : ByteArray) (most : Int) (w : World) (hs : s.size ≤ 1048576) (hm : -9223372036854775808 ≤ most ∧ most ≤ 9223372036854775807) (ht : Tab w) (he : Err w) :
    Calls Tryz.prog 80 #[.string s, .int .i64 most] w fun e w' => e = .returned (.tuple #[.int .i64 (rdN (lst s) most), .int .i64 (rdE (lst s) most)]) ∧ Below w.heap.size w w' := by
  have key : ∀ v, Lib.atoiAll (lst s) = .ok v → -9223372036854775808 ≤ v ∧ v ≤ 9223372036854775807 := fun v hv => Lib.atoiAll_bounds hv
  rcases ha : Lib.atoiAll (lst s) with v | _ | _
  ·
    have q := Tryz.strconv_Atoi_ok s (by omega) v ha w
    have q' : Calls Tryz.prog 96 #[.string s] w fun e w' => e = .returned (.tuple #[.int .i64 v, .nilIface]) ∧ Below w.heap.size w w' := q.mono fun e w' ⟨h1, h2⟩ => ⟨h1, by
      rcases h2 with h2 | ⟨t, h2⟩
      · rw [h2]; exact Below.refl _ _
      · rw [h2]; exact Lib.bytesWorld_below _ _ _⟩
    have hv := key v ha
    have HT := hide ht
    have HA := hide ha
    clear q key ht ha he
    by_cases h0 : v < 0
    · have hr : rd (lst s) most = none := by
        cases hr : rd (lst s) most with
        | none => rfl
        | some x =>
          have := (rd_some hr hm.2).1
          rw [HA.out] at this
          injection this with this
          omega
      unfold rdN rdE
      rw [hr]
      clear hr
      go_enter Tryz.func80, Tryz.ntmps80
      go_wp2_with fail
      refine q'.mono ?_
      rintro e w' ⟨rfl, hb⟩
      go_wp2
      go_ret2
      exact ⟨rfl, hb⟩
    · by_cases h1 : v > most
      · have hr : rd (lst s) most = none := by
          cases hr : rd (lst s) most with
          | none => rfl
          | some x =>
            have h2 := rd_some hr hm.2
            have := h2.1
            rw [HA.out] at this
            injection this with this
            omega
        unfold rdN rdE
        rw [hr]
        clear hr
        go_enter Tryz.func80, Tryz.ntmps80
        go_wp2_with fail
        refine q'.mono ?_
        rintro e w' ⟨rfl, hb⟩
        go_wp2
        go_ret2
        exact ⟨rfl, hb⟩
      · have q2 := fun w' ht' => itoa_any v w' hv ht'
        by_cases hi : itoaS v = s
        · have hr : rd (lst s) most = some v.toNat := rd_ok (by omega) (by omega) hm.2 (by rw [← lst_itoaS, hi])
          have hvv : ((v.toNat : Nat) : Int) = v := by omega
          unfold rdN rdE
          rw [hr]
          simp only [hvv]
          rw [hi] at q2
          clear hr hi hvv
          go_enter Tryz.func80, Tryz.ntmps80
          go_wp2_with fail
          refine q'.mono ?_
          rintro e w1 ⟨rfl, hb⟩
          have q3 := q2 w1 (HT.out.below hb)
          go_wp2_with fail
          refine q3.mono ?_
          rintro e w2 ⟨rfl, hb2⟩
          have HB := hide (hb.trans (hb2.mono hb.size))
          clear hb hb2 q3
          go_wp2
          go_ret2
          exact ⟨rfl, HB.out⟩
        · have hr : rd (lst s) most = none := by
            cases hr : rd (lst s) most with
            | none => rfl
            | some x =>
              have h2 := rd_some hr hm.2
              have h3 := h2.1
              rw [HA.out] at h3
              injection h3 with h3
              exfalso
              apply hi
              rw [lst_eq_mk (a := s) rfl, h2.2.2, ← h3]
              rfl
          have hne : ((itoaS v).toList == s.toList) = false := by
            rw [beq_eq_false_iff_ne, str_toList, str_toList]
            intro h
            refine hi ?_
            rw [lst_eq_mk (a := s) rfl, lst_eq_mk (a := itoaS v) (l := lst s) h]
          unfold rdN rdE
          rw [hr]
          clear hr hi
          generalize itoaS v = z at *
          go_enter Tryz.func80, Tryz.ntmps80
          go_wp2_with fail
          refine q'.mono ?_
          rintro e w1 ⟨rfl, hb⟩
          have q3 := q2 w1 (HT.out.below hb)
          go_wp2_with fail
          refine q3.mono ?_
          rintro e w2 ⟨rfl, hb2⟩
          have HB := hide (hb.trans (hb2.mono hb.size))
          clear hb hb2 q3
          go_wp2
          go_ret2
          exact ⟨rfl, HB.out⟩
  ·
    obtain ⟨⟨tp, p, hvar⟩, _⟩ := he
    have q := Any.strconv_Atoi_syntax_var Tryz.laysC172 s (by omega) ha tp p w hvar
    have hr : rd (lst s) most = none := by
      cases hr : rd (lst s) most with
      | none => rfl
      | some x =>
        have := (rd_some hr hm.2).1
        rw [ha] at this
        cases this
    unfold rdN rdE
    rw [hr]
    clear hr ha key ht hvar
    go_enter Tryz.func80, Tryz.ntmps80
    go_wp2_with fail
    refine q.mono ?_
    rintro e w' ⟨n, rfl, _, _, hb⟩
    go_wp2
    go_ret2
    exact ⟨rfl, hb⟩
  ·
    obtain ⟨_, tp, p, hvar⟩ := he
    have q := Tryz.strconv_Atoi_range_var s (by omega) ha tp p w hvar
    have hr : rd (lst s) most = none := by
      cases hr : rd (lst s) most with
      | none => rfl
      | some x =>
        have := (rd_some hr hm.2).1
        rw [ha] at this
        cases this
    unfold rdN rdE
    rw [hr]
    clear hr ha key ht hvar
    go_enter Tryz.func80, Tryz.ntmps80
    go_wp2_with fail
    refine q.mono ?_
    rintro e w' ⟨n, rfl, _, _, hb⟩
    go_wp2
    go_ret2
    exact ⟨rfl, hb⟩
end Go.Proofs.YtcpceaflnnkhnaaGreatDoor

/- The contract of the document's ReadNumber. -/
namespace Go.Proofs.YtcpceaflnnkhnaaGreatDoor
open Go.RowKit

theorem u64id (x : Int) (h0 : 0 ≤ x) (h1 : x < 18446744073709551616) : IntKind.u64.wrap x = x := by
  simp [IntKind.wrap, IntKind.bits, IntKind.signed]
  omega

set_option maxRecDepth 100000 in
set_option maxHeartbeats 3200000 in
theorem rread_any (s : ByteArray) (most : Int) (w : World) (hs : s.size ≤ 1048576) (hm : -9223372036854775808 ≤ most ∧ most ≤ 9223372036854775807) :
    Calls Tryz.prog 85 #[.string s, .int .i64 most] w fun e w' => e = .returned (.tuple #[.int .i64 (rdN (lst s) most), .int .i64 (rdE (lst s) most)]) ∧ w = w' := by
  have hlen := lst_len s
  by_cases hA : s.size = 0
  · have hr : rd (lst s) most = none := by unfold rd rdv; rw [if_pos (.inl (by omega))]
    unfold rdN rdE
    rw [hr]
    have g : ((s.size : Int) == 0) = true := by rw [beq_iff_eq]; omega
    clear hr hlen hA
    go_enter Tryz.func85, Tryz.ntmps85
    go_wp2
    go_ret2
    exact ⟨rfl, rfl⟩
  have gA : ((s.size : Int) == 0) = false := by rw [beq_eq_false_iff_ne]; omega
  by_cases hB : 19 < s.size
  · have hr : rd (lst s) most = none := by unfold rd rdv; rw [if_pos (.inr (.inl (by omega)))]
    unfold rdN rdE
    rw [hr]
    have g : (s.size : Int) > 19 := by omega
    clear hr hlen
    go_enter Tryz.func85, Tryz.ntmps85
    go_wp2
    go_ret2
    exact ⟨rfl, rfl⟩
  have gB : ¬ (s.size : Int) > 19 := by omega
  have h0 : 0 < s.size := by omega
  have hg0 := lst_get s 0 h0
  by_cases hC : 1 < s.size ∧ s[0] = 48
  · have hr : rd (lst s) most = none := by unfold rd rdv; rw [if_pos (.inr (.inr ⟨by omega, by rw [hg0, hC.2]⟩))]
    unfold rdN rdE
    rw [hr]
    have g : (s.size : Int) > 1 := by omega
    have g2 : ((s[0].toNat : Int) == 48) = true := by rw [hC.2]; rfl
    have g3 : (0 : Int) < (s.size : Int) := by omega
    clear hr hlen hC hg0
    go_enter Tryz.func85, Tryz.ntmps85
    go_wp2
    go_ret2
    exact ⟨rfl, rfl⟩
  have hrdv : rdv (lst s) = Lib.decFrom 0 (lst s) := by
    unfold rdv
    rw [if_neg]
    rintro (h | h | ⟨h, h2⟩)
    · omega
    · omega
    · rw [hg0] at h2
      injection h2 with h2
      exact hC ⟨by omega, h2⟩
  have HR := hide hrdv
  have HL := hide hlen
  have hD : ¬ (s.size : Int) > 1 ∨ ((s.size : Int) > 1 ∧ ((s[0].toNat : Int) == 48) = false) := by
    by_cases h1 : 1 < s.size
    · refine .inr ⟨by omega, ?_⟩
      simp only [beq_eq_false_iff_ne]
      intro e
      exact hC ⟨h1, UInt8.toNat_inj.1 (by have : s[0].toNat = 48 := by omega
                                          rw [this]; rfl)⟩
    · exact .inl (by omega)
  have g3 : (0 : Int) < (s.size : Int) := by omega
  clear hrdv hlen hC hg0 hA
  rcases hD with hD | ⟨hD, hD2⟩
  all_goals
    go_enter Tryz.func85, Tryz.ntmps85
    go_wp2
    go_loopw [6, 7] (fun u6 u7 wr => ∃ i n : Nat, i ≤ s.size ∧ u7 = .int .i64 (i : Int) ∧ u6 = .int .u64 (n : Int) ∧ Lib.decFrom 0 ((lst s).take i) = some n ∧ w = wr) (fun _ u7 _ => s.size - (intOf u7).toNat)
    case atStart => exact ⟨0, 0, by omega, rfl, rfl, by simp [Lib.decFrom], rfl⟩
    case round =>
      obtain ⟨i, n, hi, rfl, rfl, hdec, rfl⟩ := hrel
      have hlt := Lib.decFrom_lt _ _ _ hdec
      have hnb : i ≤ 18 → n < 1000000000000000000 := fun hi18 => by
        have hp : 10 ^ ((lst s).take i).length ≤ 10 ^ 18 := Nat.pow_le_pow_right (by decide) (by rw [List.length_take]; omega)
        have e18 : (10 : Nat) ^ 18 = 1000000000000000000 := by decide
        omega
      have hnb2 : n < 10000000000000000000 := by
        have hp : 10 ^ ((lst s).take i).length ≤ 10 ^ 19 := Nat.pow_le_pow_right (by decide) (by rw [List.length_take]; omega)
        have e19 : (10 : Nat) ^ 19 = 10000000000000000000 := by decide
        omega
      have HD := hide hdec
      clear hdec hlt
      by_cases hil : i < s.size
      · have i1 : (i : Int) < (s.size : Int) := by omega
        have i2 : (0 : Int) ≤ (i : Int) := by omega
        have hn18 := hnb (by omega)
        have hgi := lst_get s i hil
        have HG := hide hgi
        have hc8 := s[i].toNat_lt
        clear hnb hnb2 hgi
        by_cases hdig : 48 ≤ s[i].toNat ∧ s[i].toNat ≤ 57
        · have hdv : Lib.digitVal s[i] = some (s[i].toNat - 48) := by unfold Lib.digitVal; rw [if_pos hdig]
          have HN := hide (Lib.decFrom_take (lst s) i 0 n s[i] _ HD.out HG.out hdv)
          have d1 : ¬ (s[i].toNat : Int) < 48 := by omega
          have d2 : ¬ (s[i].toNat : Int) > 57 := by omega
          have hw0 : IntKind.u8.wrap ((s[i].toNat : Int) - 48) = (s[i].toNat : Int) - 48 := by rw [IntKind.wrap_u8']; omega
          have hw1 : IntKind.u64.wrap ((s[i].toNat : Int) - 48) = (s[i].toNat : Int) - 48 := u64id _ (by omega) (by omega)
          have hw2 : IntKind.u64.wrap (10 * (n : Int)) = 10 * (n : Int) := u64id _ (by omega) (by omega)
          have hw3 : IntKind.u64.wrap (10 * (n : Int) + ((s[i].toNat : Int) - 48)) = 10 * (n : Int) + ((s[i].toNat : Int) - 48) := u64id _ (by omega) (by omega)
          have hfin : 10 * (n : Int) + ((s[i].toNat : Int) - 48) = ((n * 10 + (s[i].toNat - 48) : Nat) : Int) := by omega
          have HF := hide hfin
          clear hdv hfin
          go_wp2
          go_roundw
          case rel => exact ⟨i + 1, n * 10 + (s[i].toNat - 48), by omega, by go_num, by first | (rw [← HF.out]; done) | (congr 1; have := HF.out; omega), HN.out, by first | rfl | trivial⟩
          case measure => simp [intOf]; omega
        · have hr : rd (lst s) most = none := by
            unfold rd
            rw [HR.out]
            cases hd : Lib.decFrom 0 (lst s) with
            | none => rfl
            | some m =>
              obtain ⟨d, hd2⟩ := Lib.digit_of_decFrom _ _ _ hd i _ HG.out
              have := Lib.digitVal_eq hd2
              omega
          have HRR := hide (show rdN (lst s) most = 0 ∧ rdE (lst s) most = 102 by unfold rdN rdE; rw [hr]; exact ⟨rfl, rfl⟩)
          clear hr
          by_cases hlo : s[i].toNat < 48
          · have d1 : (s[i].toNat : Int) < 48 := by omega
            go_wp2
            go_ret2
            exact ⟨by rw [HRR.out.1, HRR.out.2]; rfl, rfl⟩
          · have d1 : ¬ (s[i].toNat : Int) < 48 := by omega
            have d2 : (s[i].toNat : Int) > 57 := by omega
            go_wp2
            go_ret2
            exact ⟨by rw [HRR.out.1, HRR.out.2]; rfl, rfl⟩
      · have his : i = s.size := by omega
        have hd := HD.out
        rw [his, ← HL.out, List.take_of_length_le (Nat.le_refl _)] at hd
        have hrv : rdv (lst s) = some n := by rw [HR.out, hd]
        have i1 : ¬ (i : Int) < (s.size : Int) := by omega
        have hwn : IntKind.u64.wrap (n : Int) = (n : Int) := u64id _ (by omega) (by omega)
        clear HD hd his hnb
        by_cases hm0 : most < 0
        · have hr : rd (lst s) most = none := by unfold rd; rw [hrv]; simp only; rw [if_neg (by omega)]
          have HRR := hide (show rdN (lst s) most = 0 ∧ rdE (lst s) most = 102 by unfold rdN rdE; rw [hr]; exact ⟨rfl, rfl⟩)
          clear hr hrv
          go_wp2
          go_ret2
          exact ⟨by rw [HRR.out.1, HRR.out.2]; rfl, rfl⟩
        · have hwm : IntKind.u64.wrap most = most := u64id _ (by omega) (by omega)
          by_cases hnm : (n : Int) > most
          · have hr : rd (lst s) most = none := by unfold rd; rw [hrv]; simp only; rw [if_neg (by omega)]
            have HRR := hide (show rdN (lst s) most = 0 ∧ rdE (lst s) most = 102 by unfold rdN rdE; rw [hr]; exact ⟨rfl, rfl⟩)
            clear hr hrv
            go_wp2
            go_ret2
            exact ⟨by rw [HRR.out.1, HRR.out.2]; rfl, rfl⟩
          · have hr : rd (lst s) most = some n := by unfold rd; rw [hrv]; simp only; rw [if_pos (by omega)]
            have hwi : IntKind.i64.wrap (n : Int) = (n : Int) := by simp [IntKind.wrap, IntKind.bits, IntKind.signed]; omega
            have HRR := hide (show rdN (lst s) most = (n : Int) ∧ rdE (lst s) most = 0 by unfold rdN rdE; rw [hr]; exact ⟨rfl, rfl⟩)
            clear hr hrv
            go_wp2
            go_ret2
            exact ⟨by rw [HRR.out.1, HRR.out.2]; rfl, rfl⟩
end Go.Proofs.YtcpceaflnnkhnaaGreatDoor

/- Contracts of the statements' helpers for lists of bytes: marks, sameness, lists that are lent with marks behind them. -/
namespace Go.Proofs.YtcpceaflnnkhnaaGreatDoor
open Go.RowKit

theorem elem8 : Elem1 Tryz.prog 32 5 (.int .u8 0) 1 := ⟨Tryz.underlying32, by kernel_rfl, rfl⟩
theorem Tryz.info8 : (Tryz.prog.info? 5).map (fun i => (i.zero, i.size, i.bytes)) = some (some (.int .u8 0), 1, 1) := by kernel_rfl

def mark (k i : Int) : UInt8 := UInt8.ofNat ((151 * k + 7 * i + 1) % 256).toNat
theorem mark_toNat (k i : Int) : ((mark k i).toNat : Int) = (151 * k + 7 * i + 1) % 256 := by
  unfold mark
  simp only [UInt8.toNat_ofNat']
  omega


set_option maxHeartbeats 400000 in
theorem mark_any (k i : Int) (w : World) :
    Calls Tryz.prog 39 #[.int .i64 k, .int .i64 i] w fun e w' => e = .returned (.int .u8 ((mark k i).toNat : Int)) ∧ w = w' := by
  go_enter Tryz.func39, Tryz.ntmps39
  go_wp2
  go_ret
  refine ⟨ret_int ?_, rfl⟩
  rw [mark_toNat]
  simp only [wrap64]
  omega

/-- What two lists have in common from the first k places on. -/
theorem same_step (l m : List UInt8) (k : Nat) (x y : UInt8) (hx : l[k]? = some x) (hy : m[k]? = some y) (h : l.take k = m.take k) :
    (l.take (k + 1) = m.take (k + 1)) ↔ x = y := by
  rw [List.take_add_one, List.take_add_one, hx, hy, h]
  simp

theorem u8_int {x y : UInt8} : ((x.toNat : Int) = (y.toNat : Int)) ↔ x = y := by
  constructor
  · intro h
    exact UInt8.toNat_inj.1 (by omega)
  · rintro rfl; rfl

set_option maxHeartbeats 400000 in
theorem same_any (va vb : Value) (l m : List UInt8) (w : World) (ha : By w va l) (hb : By w vb m) :
    Calls Tryz.prog 42 #[va, vb] w fun e w' => e = .returned (.bool (decide (l = m))) ∧ Below w.heap.size w w' := by
  obtain ⟨A, c, rfl, hc, hm, hca⟩ := ha.form
  obtain ⟨B, d, rfl, hd, hmd, hcb⟩ := hb.form
  unfold maxLen at hm hmd
  by_cases hl : l.length = m.length
  · have hne : ((l.length : Int) != (m.length : Int)) = false := by simp [hl]
    have HL : Hid (l.length = m.length) := hl
    clear hl
    go_enter Tryz.func42, Tryz.ntmps42
    go_wp2
    go_loopw [5] (fun i wr => ∃ k : Nat, k ≤ l.length ∧ i = .int .i64 k ∧ l.take k = m.take k ∧ Below w.heap.size w wr) (fun i _ => l.length - (intOf i).toNat)
    case atStart => exact ⟨0, by omega, rfl, by simp, Below.refl _ _⟩
    case round =>
      obtain ⟨k, hk, rfl, hq, hbel⟩ := hrel
      have HQ := hide hq
      clear hq
      by_cases hlt : k < l.length
      · have hlt2 : k < m.length := by have := HL.out; omega
        obtain ⟨x, hx⟩ : ∃ x, l[k]? = some x := ⟨_, List.getElem?_eq_getElem hlt⟩
        obtain ⟨y, hy⟩ : ∃ y, m[k]? = some y := ⟨_, List.getElem?_eq_getElem hlt2⟩
        obtain ⟨b, o, rfl, hbl, hcell⟩ := hca k x hx
        obtain ⟨b2, o2, rfl, hbl2, hcell2⟩ := hcb k y hy
        have hcx : wr.cell? ⟨b, o + k, none⟩ = some (.int .u8 (x.toNat : Int)) := (hbel.cell (p := ⟨b, o + k, none⟩) hbl).trans hcell
        have hcy : wr.cell? ⟨b2, o2 + k, none⟩ = some (.int .u8 (y.toNat : Int)) := (hbel.cell (p := ⟨b2, o2 + k, none⟩) hbl2).trans hcell2
        have HX := hide hx
        have HY := hide hy
        clear hx hy hcell hcell2 hca hcb
        have i1 : (k : Int) < (l.length : Int) := by omega
        have i2 : (k : Int) < (m.length : Int) := by omega
        have i3 : (0 : Int) ≤ (k : Int) := by omega
        by_cases hxy : x = y
        · have hd : ((x.toNat : Int) != (y.toNat : Int)) = false := by simp [hxy]
          go_wp2
          go_quiet (fail)
          go_wp2
          go_roundw
          case rel => exact ⟨k + 1, by omega, by go_num, (same_step l m k x y HX.out HY.out HQ.out).2 hxy, below_drewN hbel _⟩
          case measure => simp [intOf]; omega
        · have hd : ((x.toNat : Int) != (y.toNat : Int)) = true := by
            rw [bne_iff_ne]; intro h; exact hxy (u8_int.1 h)
          go_wp2
          go_quiet (fail)
          go_wp2
          go_ret
          refine ⟨ret_bool ?_, below_drewN hbel _⟩
          refine (decide_eq_false fun h => hxy ((same_step l m k x y HX.out HY.out HQ.out).1 (by rw [h]))).symm
      · have hge : ¬ ((k : Int) < (l.length : Int)) := by omega
        go_wp2
        go_ret
        refine ⟨ret_bool ?_, hbel⟩
        refine (decide_eq_true ?_).symm
        have := HQ.out
        rwa [List.take_of_length_le (by omega), List.take_of_length_le (by have := HL.out; omega)] at this
  · have hne : ((l.length : Int) != (m.length : Int)) = true := by rw [bne_iff_ne]; omega
    go_enter Tryz.func42, Tryz.ntmps42
    go_wp2
    go_ret
    exact ⟨ret_bool (decide_eq_false fun h => hl (by rw [h])).symm, Below.refl _ _⟩

/-- The first n marks behind a list of length len. -/
def marks (k len n : Nat) : List UInt8 := (List.range n).map fun i => mark k ((len + i : Nat) : Int)
theorem marks_succ (k len n : Nat) : marks k len (n + 1) = marks k len n ++ [mark k ((len + n : Nat) : Int)] := by
  simp [marks, List.range_succ]
@[simp] theorem marks_length (k len n : Nat) : (marks k len n).length = n := by simp [marks]

theorem take_snoc {α : Type} (l : List α) (k : Nat) (x : α) (h : l[k]? = some x) : l.take (k + 1) = l.take k ++ [x] := by
  rw [List.take_add_one, h]; rfl


set_option maxHeartbeats 800000 in
theorem lent_any (va : Value) (l : List UInt8) (w : World) (ha : By w va l) (hl : l.length ≤ 140737488355000) :
    Calls Tryz.prog 40 #[va] w fun e w' => ∃ v, e = .returned v ∧ Own w' w.heap.size 5 v (l ++ marks 0 l.length 70) ∧ Below w.heap.size w w' := by
  obtain ⟨A, c, rfl, hc, hm, hca⟩ := ha.form
  unfold maxLen at hm
  go_enter Tryz.func40, Tryz.ntmps40
  go_wp2
  go_loopw [3, 4] (fun v i wr => ∃ k : Nat, k ≤ l.length ∧ i = .int .i64 k ∧ Own wr w.heap.size 5 v (l.take k) ∧ Below w.heap.size w wr) (fun _ i _ => l.length - (intOf i).toNat)
  case atStart => exact ⟨0, by omega, rfl, Own.nil _ _ _, Below.refl _ _⟩
  case round =>
    obtain ⟨k, hk, rfl, hown, hbel⟩ := hrel
    have HO := hide hown
    clear hown
    by_cases hlt : k < l.length
    · obtain ⟨x, hx⟩ : ∃ x, l[k]? = some x := ⟨_, List.getElem?_eq_getElem hlt⟩
      obtain ⟨b, o, rfl, hbl, hcell⟩ := hca k x hx
      have hcx : wr.cell? ⟨b, o + k, none⟩ = some (.int .u8 (x.toNat : Int)) := (hbel.cell (p := ⟨b, o + k, none⟩) hbl).trans hcell
      have HX := hide hx
      clear hx hcell hca
      have hlk : (l.take k).length = k := by rw [List.length_take]; omega
      have HLK := hide hlk
      clear hlk
      go_wp2_with (at_builtin; go_loud (refine wpList_pushB elem8 HO.out hbel hbel.size (by rw [List.length_take]; omega) x rfl _ _ rfl rfl rfl ?_); intro v1 w1 hown1 hbel1 _ _)
      go_roundw
      case rel => exact ⟨k + 1, by omega, by go_num, by rw [take_snoc l k x HX.out]; exact hown1, hbel1⟩
      case measure => simp [intOf]; omega
    · have hkl : k = l.length := by omega
      subst hkl
      have hO2 := HO.out
      rw [List.take_of_length_le (Nat.le_refl _)] at hO2
      clear HO
      have HO := hide hO2
      clear hO2
      go_wp2
      go_loopw [3, 5] (fun v i wr => ∃ k : Nat, k ≤ 70 ∧ i = .int .i64 k ∧ Own wr w.heap.size 5 v (l ++ marks 0 l.length k) ∧ Below w.heap.size w wr) (fun _ i _ => 70 - (intOf i).toNat)
      case atStart => exact ⟨0, by omega, rfl, by simpa [marks] using HO.out, hbel⟩
      case round =>
        clear HO hbel
        obtain ⟨k, hk, rfl, hown, hbel⟩ := hrel
        have HO := hide hown
        clear hown
        by_cases hlt : k < 70
        · have hmk := mark_any 0 ((l.length + k : Nat) : Int)
          rw [Int.natCast_add] at hmk
          go_wp2_with (first
            | (go_at_call 39; refine (hmk _).mono ?_; rintro e w' ⟨rfl, rfl⟩)
            | (at_builtin; go_loud (refine wpList_pushB elem8 HO.out hbel hbel.size (by rw [List.length_append, marks_length]; omega) (mark 0 ((l.length + k : Nat) : Int)) rfl _ _ rfl rfl rfl ?_); intro v1 w1 hown1 hbel1 _ _))
          go_roundw
          case rel => exact ⟨k + 1, by omega, by go_num, by rw [marks_succ, ← List.append_assoc]; exact hown1, hbel1⟩
          case measure => simp [intOf]; omega
        · have hkl : k = 70 := by omega
          subst hkl
          go_wp2
          go_ret
          exact ⟨_, rfl, HO.out, hbel⟩


set_option maxHeartbeats 400000 in
theorem kept_any (vf va : Value) (f l : List UInt8) (w : World) (hf : By w vf f) (ha : By w va l) (hl : l.length ≤ 140737488355000) :
    Calls Tryz.prog 17 #[vf, va] w fun e w' => e = .returned (.bool (decide (f = l ++ marks 0 l.length 70))) ∧ Below w.heap.size w w' := by
  go_enter Tryz.func17, Tryz.ntmps17
  go_wp2_with fail
  refine (lent_any va l w ha hl).mono ?_
  rintro e w1 ⟨v, rfl, hown, hbel⟩
  go_wp2_with fail
  refine (same_any vf v f _ w1 (hf.below hbel) hown.by_).mono ?_
  rintro e w2 ⟨rfl, hbel2⟩
  go_wp2_with fail
  go_ret
  exact ⟨rfl, hbel.trans (hbel2.mono hbel.size)⟩

/-- What a list holds when i places are written over. -/
def overed (_n i : Nat) (l : List UInt8) : List UInt8 := ((List.range i).map fun j => mark 7 ((j + 3 : Nat) : Int)) ++ l.drop i
theorem overed_set (l : List UInt8) (i : Nat) (h : i < l.length) : (overed l.length i l).set i (mark 7 ((i : Int) + 3)) = overed l.length (i + 1) l := by
  unfold overed
  rw [List.set_append_right _ _ (by simp), List.drop_eq_getElem_cons h]
  simp only [List.length_map, List.length_range, Nat.sub_self, List.set_cons_zero, List.range_succ, List.map_append, List.map_cons, List.map_nil, List.append_assoc, List.cons_append, List.nil_append]
  rfl
theorem overed_length (l : List UInt8) (n i : Nat) (h : i ≤ l.length) : (overed n i l).length = l.length := by simp [overed]; omega

theorem Own.store {w : World} {base : Nat} {e : TypeId} {g n cap : Nat} {l : List UInt8} (h : Own w base e (.slice (some ⟨g, 0, none⟩) n cap) l) (k : Nat) (x : UInt8) :
    Own (w.setCell ⟨g, k, none⟩ (.int .u8 (x.toNat : Int))) base e (.slice (some ⟨g, 0, none⟩) n cap) (l.set k x) := by
  have hn : n = l.length := by
    rcases h.2 with ⟨h0, _⟩ | ⟨g', cap', cur, hv, _⟩
    · cases h0
    · injection hv
  unfold Own at *
  subst hn
  have := (h.stored k (.int .u8 (x.toNat : Int))).1
  have e : (bcells l).set k (.int .u8 (x.toNat : Int)) = bcells (l.set k x) := by simp [bcells, List.map_set]
  rw [e] at this
  simpa using this

theorem Own.form {w : World} {base : Nat} {e : TypeId} {v : Value} {l : List UInt8} (h : Own w base e v l) (hn : 0 < l.length) : ∃ g cap, v = .slice (some ⟨g, 0, none⟩) l.length cap ∧ base ≤ g ∧ g < w.heap.size :=
  World.ownsRow.form h hn


set_option maxHeartbeats 400000 in
theorem over_any (base : Nat) (v : Value) (l : List UInt8) (w : World) (h : Own w base 5 v l) (hl : l.length ≤ 140737488355328) :
    Calls Tryz.prog 23 #[v] w fun e w' => e = .returned (.tuple #[]) ∧ Below base w w' ∧ w.grownBy w' v.ownBlock ∧ (∃ l', Own w' base 5 v l' ∧ l'.length = l.length) := by
  by_cases h0 : l.length = 0
  · have hl0 : l = [] := List.eq_nil_of_length_eq_zero h0
    subst hl0
    have HO := hide h
    obtain ⟨A, c, hv, _⟩ := h.by_.form
    subst hv
    clear h
    go_enter Tryz.func23, Tryz.ntmps23
    go_wp2
    go_loopw [2] (fun u2 wr => u2 = .int .i64 0 ∧ Below base w wr ∧ w.grownBy wr (Value.ownBlock (.slice A (List.length ([] : List UInt8)) c)) ∧ Own wr base 5 (.slice A (List.length ([] : List UInt8)) c) []) (fun _ _ => 0)
    case atStart => exact ⟨rfl, Below.refl _ _, World.grownBy.refl _ _, HO.out⟩
    case round =>
      obtain ⟨rfl, hb, hg, hw⟩ := hrel
      go_wp2
      go_end0
      exact ⟨rfl, hb, hg, [], hw, rfl⟩
  obtain ⟨g, cap, hv, hbg, _⟩ := h.form (by omega)
  subst hv
  have HO := hide h
  clear h
  go_enter Tryz.func23, Tryz.ntmps23
  go_wp2
  go_loopw [2] (fun u2 wr => ∃ i : Nat, i ≤ l.length ∧ u2 = .int .i64 (i : Int) ∧ Below base w wr ∧ w.grownBy wr (some g) ∧ Own wr base 5 (.slice (some ⟨g, 0, none⟩) l.length cap) (overed l.length i l)) (fun i _ => l.length - (intOf i).toNat)
  case atStart => exact ⟨0, by omega, rfl, Below.refl _ _, World.grownBy.refl _ _, by simpa [overed] using HO.out⟩
  case round =>
    obtain ⟨i, hi, rfl, hb, hg, ho⟩ := hrel
    clear HO
    have HO := hide ho
    by_cases hil : i < l.length
    · have hlen := overed_length l l.length i hi
      have hfz := World.ownsRow.frozenAt (n := l.length) (xs := bcells (overed l.length i l)) (by unfold Own at ho; rw [hlen] at ho; exact ho) i
      have hcc := World.ownsRow.cellAt (n := l.length) (xs := bcells (overed l.length i l)) (by unfold Own at ho; rw [hlen] at ho; exact ho) i (by omega)
      have hcv : ∃ y, wr.cell? ⟨g, i, none⟩ = some y := by rw [hcc]; exact ⟨_, List.getElem?_eq_getElem (by rw [bcells_length]; omega)⟩
      obtain ⟨y, hcy⟩ := hcv
      have hmk := mark_any 7 ((i : Int) + 3)
      have HG := hide hg
      clear hcc hlen ho hg
      go_wp2_with (go_at_call 39; ((with_reducible refine (hmk _).mono ?_)); rintro e w' ⟨rfl, rfl⟩)
      go_roundw
      case rel => exact ⟨i + 1, by omega, by go_num, hb.setCell hbg _, HG.out.trans_ (store_grown _ _ _ _), by rw [← overed_set l i hil]; exact HO.out.store i _⟩
      case measure => simp [intOf]; omega
    · have hieq : i = l.length := by omega
      clear HO
      go_wp2
      go_end0
      refine ⟨rfl, hb, hg, _, ho, ?_⟩
      rw [overed_length _ _ _ (by omega)]
/-- The beginning of a row, as 'full[:n]' gives it. -/
theorem Own.front {w : World} {base : Nat} {e : TypeId} {g n cap : Nat} {l r : List UInt8} (h : Own w base e (.slice (some ⟨g, 0, none⟩) n cap) (l ++ r)) : By w (.slice (some ⟨g, 0, none⟩) l.length cap) l := by
  rcases h.2 with ⟨h0, _⟩ | ⟨g', cap', cur, hv, hg, hh, hnc, hcm, hcs, ht⟩
  · cases h0
  · injection hv with hA hn hc
    injection hA with hA
    injection hA with hA
    subst hA hc
    have hlt := (Blk.lt (w := w) (g := g) (t := e) (cs := cur) hh)
    have hlen : (l ++ r).length = l.length + r.length := List.length_append
    refine ⟨by simp, some ⟨g, 0, none⟩, cap, rfl, by omega, hcm, fun h0 => ⟨g, 0, rfl, hlt, fun j hj => ?_⟩⟩
    rw [Nat.zero_add, cell_of_row w g j cur e (0, 0) hh]
    have e1 : cur[j]? = (bcells (l ++ r))[j]? := by
      rw [← ht, List.getElem?_take_of_lt (by omega)]; simp
    rw [e1, bcells_append, List.getElem?_append_left (by simp; omega)]

end Go.Proofs.YtcpceaflnnkhnaaGreatDoor

/- More lemmas on memory: several elements appended at once. They hold of every program. -/
namespace Go.Proofs.YtcpceaflnnkhnaaGreatDoor
open Go.RowKit

/-- 'append(out, x, y, ..)', out a row of the call's own with elements of one cell. -/
theorem wpList_pushL {P : Program} {t e : TypeId} {z : Value} {bytes : Nat} (T : Elem1 P t e z bytes) {w : World} {base : Nat} {v : Value} {n : Nat} {xs : List Value} (hown : w.ownsRow base e 1 v n xs)
    {w0 : World} (hb : Below base w0 w) (hbase : base ≤ w.heap.size) (news : Array Value) (hn : n + news.size ≤ maxLen) (hbytes : (n + news.size) * bytes ≤ 140737488355328) (hu : ∀ u ∈ news.toList, u.oneCell' = true)
    {ops : Array Oper} {rest : List Oper} {o : Oper} {a : Act} {Q : Exit → Act → World → Prop} (hgd : o.guard = none) (s y : Operand)
    (ho : o.op = .call { callee := .builtin .append, args := #[s, y], argTypes := #[t, t] }) (hs : a.eval s = v) (hx : a.eval y = .slice (some ⟨w.heap.size, 0, none⟩) news.size news.size)
    (h : ∀ v' w', w'.ownsRow base e 1 v' (n + news.size) (xs ++ news.toList) → Below base w0 w' → w.grownBy w' v.ownBlock → (v'.ownBlock = v.ownBlock ∨ ∀ g, v'.ownBlock = some g → w.heap.size ≤ g) → wpList P ops Q rest (a.put o.dst v') w') :
    wpList P ops Q (o :: rest) a (w.alloc (.cells news e)) := by
  refine wpList_plain hgd fun K hK => ?_
  obtain ⟨i, hi, hz, h1, h2⟩ := info_parts T.hi
  have hn1 : ∀ j u, news.toList[j]? = some u → (w.alloc (.cells news e)).cell? ((⟨w.heap.size, 0, none⟩ : Addr).add j) = some u :=
    World.news_of_block (w := w.alloc (.cells news e)) (B := w.heap.size) (cs := news) (t := e) (fr := (0, 0)) (heap_alloc_new w _)
  obtain ⟨v', w', hrun, h3, h4, _, h6⟩ := run_append_own_at (P := P) (w.alloc (.cells news e)) base t o.type e i z 1 bytes T.ht hi hz h1 h2 T.hz (by omega) v n xs (hown.alloc _) ⟨w.heap.size, 0, none⟩ news.size news.size news.toList (by simp) hn1 hu hn hbytes (by simp; omega)
  have gb : w.grownBy w' v.ownBlock := ⟨h4.os, h4.tape, h4.output, Nat.le_trans (by simp) h4.size, fun k hk hne => (h4.block k (by simp; omega) hne).trans (Below.heap_alloc w _ k hk)⟩
  unfold Oper.wp execOp
  simp only [ho, resolve, invoke, builtin, Sem.run_bind, Sem.run_pure, Result.andThen_ok, List.map_toArray, List.map_cons, List.map_nil, hs, hx, hrun]
  refine hK _ _ (h v' w' h3 (hb.grown gb hbase fun k hk => (hown.lt k hk).1) gb ?_)
  rcases h6 with h6 | h6
  · exact .inl h6
  · refine .inr fun g hg => ?_
    rw [h6] at hg
    injection hg with hg
    simp at hg
    omega

/-- The same, of bytes. -/
theorem wpList_pushBs {P : Program} {t e : TypeId} (T : Elem1 P t e (.int .u8 0) 1) {w : World} {base : Nat} {v : Value} {l : List UInt8} (hown : Own w base e v l)
    {w0 : World} (hb : Below base w0 w) (hbase : base ≤ w.heap.size) (m : List UInt8) (hlen : l.length + m.length ≤ 140737488355328) (news : Array Value) (hnews : news.toList = bcells m) (hsz : news.size = m.length)
    {ops : Array Oper} {rest : List Oper} {o : Oper} {a : Act} {Q : Exit → Act → World → Prop} (hgd : o.guard = none) (s y : Operand)
    (ho : o.op = .call { callee := .builtin .append, args := #[s, y], argTypes := #[t, t] }) (hs : a.eval s = v) (hx : a.eval y = .slice (some ⟨w.heap.size, 0, none⟩) news.size news.size)
    (h : ∀ v' w', Own w' base e v' (l ++ m) → Below base w0 w' → w.grownBy w' v.ownBlock → (v'.ownBlock = v.ownBlock ∨ ∀ g, v'.ownBlock = some g → w.heap.size ≤ g) → wpList P ops Q rest (a.put o.dst v') w') :
    wpList P ops Q (o :: rest) a (w.alloc (.cells news e)) := by
  refine wpList_pushL T hown hb hbase news (by rw [hsz]; unfold maxLen; omega) (by rw [hsz]; omega) (fun u hu => ?_) hgd s y ho hs hx fun v' w' h1 h2 h3 h4 => h v' w' ?_ h2 h3 h4
  · rw [hnews] at hu
    obtain ⟨x, _, rfl⟩ := List.mem_map.1 hu
    rfl
  · unfold Own
    rw [bcells_append, List.length_append]
    rw [hnews, hsz] at h1
    exact h1

theorem Own.alloc {w : World} {base : Nat} {e : TypeId} {v : Value} {l : List UInt8} (h : Own w base e v l) (o : Obj) : Own (w.alloc o) base e v l := World.ownsRow.alloc h o

/-- 'append(out, x, y, ..)' of bytes at a step of a region that draws its order; what is appended lies in block g. -/
theorem step_pushBs {P : Program} {t e : TypeId} (T : Elem1 P t e (.int .u8 0) 1) {w : World} {base : Nat} {v : Value} {l : List UInt8} (hown : Own w base e v l)
    {w0 : World} (hb : Below base w0 w) (hbase : base ≤ w.heap.size) (m : List UInt8) (hlen : l.length + m.length ≤ 140737488355328) {g : Nat} {news : Array Value} (hg : Blk w g e news) (hnews : news.toList = bcells m) (hsz : news.size = m.length)
    {ops : Array Oper} {o : Oper} {a : Act} {K : Act → World → Prop} {Q : Exit → Act → World → Prop} {E : Prop} (hgd : o.guard = none) (s y : Operand)
    (ho : o.op = .call { callee := .builtin .append, args := #[s, y], argTypes := #[t, t] }) (hs : a.eval s = v) (hx : a.eval y = .slice (some ⟨g, 0, none⟩) m.length m.length)
    (h : ∀ v' w', Own w' base e v' (l ++ m) → Below base w0 w' → w.grownBy w' v.ownBlock → K (a.put o.dst v') w') :
    if Region.wanted o (yielded ops a.tmps) = true then Oper.wp P o a w K Q else E := by
  have hw : Region.wanted o (yielded ops a.tmps) = true := by simp [Region.wanted, hgd]
  rw [if_pos hw]
  obtain ⟨i, hi, hz, h1, h2⟩ := info_parts T.hi
  have hn1 : ∀ j u, (bcells m)[j]? = some u → w.cell? ((⟨g, 0, none⟩ : Addr).add j) = some u := by
    rw [← hnews]
    exact World.news_of_block (w := w) (B := g) (cs := news) (t := e) (fr := (0, 0)) hg
  obtain ⟨v', w', hrun, h3, h4, _, _⟩ := run_append_own_at (P := P) w base t o.type e i _ 1 1 T.ht hi hz h1 h2 T.hz (by omega) v l.length (bcells l) hown ⟨g, 0, none⟩ m.length m.length (bcells m) (by simp) hn1 (fun u hu => by
    obtain ⟨x, _, rfl⟩ := List.mem_map.1 hu
    rfl) (by unfold maxLen; omega) (by omega) hbase
  unfold Oper.wp execOp
  simp only [ho, resolve, invoke, builtin, Sem.run_bind, Sem.run_pure, Result.andThen_ok, List.map_toArray, List.map_cons, List.map_nil, hs, hx, hrun]
  refine h v' w' ?_ (hb.grown h4 hbase fun k hk => (hown.lt k hk).1) h4
  unfold Own
  rw [bcells_append, List.length_append]
  exact h3

end Go.Proofs.YtcpceaflnnkhnaaGreatDoor
