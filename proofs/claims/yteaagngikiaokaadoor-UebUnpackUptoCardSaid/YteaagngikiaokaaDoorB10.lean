/- Plain lemmas on numbers, digits and letters: five bits a letter, eight bits a byte. No program in sight. -/
import Derived.KernelRfl
namespace Go.Proofs.YteaagngikiaokaaDoor

theorem snoc_ind {α : Type} {p : List α → Prop} (h0 : p []) (h1 : ∀ l x, p l → p (l ++ [x])) (l : List α) : p l := by
  have h : ∀ l : List α, p l.reverse := fun l => by
    induction l with
    | nil => exact h0
    | cons x l ih => rw [List.reverse_cons]; exact h1 _ _ ih
  have := h l.reverse
  rwa [List.reverse_reverse] at this

/-- The number whose digits to a base are these. -/
def val (B : Nat) (l : List Nat) : Nat := l.foldl (fun a x => B * a + x) 0
theorem val_snoc (B : Nat) (l : List Nat) (x : Nat) : val B (l ++ [x]) = B * val B l + x := by simp [val]
@[simp] theorem val_nil (B : Nat) : val B [] = 0 := rfl
theorem mul_succ_le {B a b x : Nat} (h : a < b) (hx : x < B) : B * a + x < b * B := by
  have : B * (a + 1) ≤ B * b := Nat.mul_le_mul_left _ h
  rw [Nat.mul_add, Nat.mul_one] at this
  rw [Nat.mul_comm b B]
  omega
theorem val_lt (B : Nat) (l : List Nat) (h : ∀ x ∈ l, x < B) : val B l < B ^ l.length := by
  revert h
  refine snoc_ind (p := fun l => (∀ x ∈ l, x < B) → val B l < B ^ l.length) (by simp) (fun l x ih h => ?_) l
  rw [val_snoc, List.length_append]
  simp only [List.length_cons, List.length_nil, Nat.zero_add, Nat.pow_succ]
  exact mul_succ_le (ih fun y hy => h y (by simp [hy])) (h x (by simp))

/-- The last n digits of a number to a base. -/
def dig (B : Nat) : Nat → Nat → List Nat
  | 0, _ => []
  | n + 1, X => dig B n (X / B) ++ [X % B]
@[simp] theorem dig_length (B n X : Nat) : (dig B n X).length = n := by
  induction n generalizing X with
  | zero => rfl
  | succ n ih => simp [dig, ih]
theorem dig_val (B : Nat) (l : List Nat) (h : ∀ x ∈ l, x < B) : dig B l.length (val B l) = l := by
  revert h
  refine snoc_ind (p := fun l => (∀ x ∈ l, x < B) → dig B l.length (val B l) = l) (fun _ => rfl) (fun l x ih h => ?_) l
  have hx := h x (by simp)
  have hB : 0 < B := by omega
  rw [val_snoc, List.length_append]
  show dig B (l.length + 1) _ = _
  rw [dig, show (B * val B l + x) / B = val B l by rw [Nat.mul_add_div hB, Nat.div_eq_of_lt hx, Nat.add_zero], ih fun y hy => h y (by simp [hy]), Nat.mul_add_mod, Nat.mod_eq_of_lt hx]
theorem val_dig (B n X : Nat) : val B (dig B n X) = X % B ^ n := by
  induction n generalizing X with
  | zero => simp [dig, Nat.mod_one]
  | succ n ih => rw [dig, val_snoc, ih, Nat.pow_succ, Nat.mul_comm (B ^ n) B, Nat.mod_mul]; omega
theorem dig_lt (B n X : Nat) (hB : 0 < B) : ∀ x ∈ dig B n X, x < B := by
  induction n generalizing X with
  | zero => simp [dig]
  | succ n ih =>
    intro x hx
    rw [dig, List.mem_append] at hx
    rcases hx with hx | hx
    · exact ih _ x hx
    · rw [List.mem_singleton] at hx; subst hx; exact Nat.mod_lt _ hB
theorem dig_get (B n X i : Nat) (h : i < n) : (dig B n X)[i]? = some (X / B ^ (n - 1 - i) % B) := by
  induction n generalizing X with
  | zero => omega
  | succ n ih =>
    rw [dig]
    by_cases hi : i < n
    · rw [List.getElem?_append_left (by simpa using hi), ih _ hi, Nat.div_div_eq_div_mul, ← Nat.pow_succ', Nat.succ_eq_add_one, show n - 1 - i + 1 = n + 1 - 1 - i by omega]
    · have : i = n := by omega
      subst this
      rw [List.getElem?_append_right (by simp)]
      simp
theorem dig_mod (B n X : Nat) : dig B n (X % B ^ n) = dig B n X := by
  induction n generalizing X with
  | zero => rfl
  | succ n ih =>
    rw [dig, dig, Nat.pow_succ, Nat.mul_comm (B ^ n) B, Nat.mod_mul_right_div_self, ih, Nat.mod_mul_right_mod]
theorem dig_inj (B n X Y : Nat) (hX : X < B ^ n) (hY : Y < B ^ n) (h : dig B n X = dig B n Y) : X = Y := by
  have := congrArg (val B) h
  rwa [val_dig, val_dig, Nat.mod_eq_of_lt hX, Nat.mod_eq_of_lt hY] at this

/-- A number as 32 bits hold it. -/
@[irreducible] def m32 (n : Nat) : Nat := n % 4294967296
theorem m32_eq (n : Nat) : m32 n = n % 4294967296 := by unfold m32; rfl
theorem m32_lt (n : Nat) : m32 n < 4294967296 := by rw [m32_eq]; omega
theorem m32_byte (n x : Nat) (hx : x < 256) : m32 n * 256 % 4294967296 + x = m32 (256 * n + x) := by rw [m32_eq, m32_eq]; omega
theorem m32_five (n x : Nat) (hx : x < 32) : m32 n * 32 % 4294967296 + x = m32 (32 * n + x) := by rw [m32_eq, m32_eq]; omega
theorem m32_bits (n h c : Nat) (hh : h + c ≤ 32) : m32 n / 2 ^ h % 2 ^ c = n / 2 ^ h % 2 ^ c := by
  rw [m32_eq, show (4294967296 : Nat) = 2 ^ h * 2 ^ (32 - h) by rw [← Nat.pow_add, show h + (32 - h) = 32 by omega], Nat.mod_mul_right_div_self]
  exact Nat.mod_mod_of_dvd _ (Nat.pow_dvd_pow 2 (by omega))
theorem m32_low (n c : Nat) (hc : c ≤ 32) : m32 n % 2 ^ c = n % 2 ^ c := by
  have := m32_bits n 0 c (by omega)
  simpa using this
theorem or_low (a b k : Nat) (hb : b < 2 ^ k) : (a * 2 ^ k) ||| b = a * 2 ^ k + b := by
  rw [Nat.mul_comm, ← Nat.two_pow_add_eq_or_of_lt hb]
theorem or_byte32 (a b : Nat) (hb : b < 256) : (a * 256 % 4294967296) ||| b = a * 256 % 4294967296 + b := by
  have : a * 256 % 4294967296 = (a % 16777216) * 2 ^ 8 := by omega
  rw [this]; exact or_low _ _ 8 hb
theorem or_five32 (a b : Nat) (hb : b < 32) : (a * 32 % 4294967296) ||| b = a * 32 % 4294967296 + b := by
  have : a * 32 % 4294967296 = (a % 134217728) * 2 ^ 5 := by omega
  rw [this]; exact or_low _ _ 5 hb

/-! ### Letters -/
def letterN (d : Nat) : UInt8 := UInt8.ofNat (if d < 26 then 97 + d else 24 + d)
/-- What a letter stands for; none: it is no letter. -/
def worthN (c : UInt8) : Option Nat :=
  if 97 ≤ c.toNat ∧ c.toNat ≤ 122 then some (c.toNat - 97) else if 50 ≤ c.toNat ∧ c.toNat ≤ 55 then some (c.toNat - 50 + 26) else none
theorem letterN_toNat (d : Nat) (h : d < 32) : (letterN d).toNat = if d < 26 then 97 + d else 24 + d := by
  unfold letterN
  rw [UInt8.toNat_ofNat']
  split <;> omega
theorem worth_letter (d : Nat) (h : d < 32) : worthN (letterN d) = some d := by
  unfold worthN
  rw [letterN_toNat d h]
  by_cases h1 : d < 26
  · rw [if_pos h1, if_pos (by omega)]; congr 1; omega
  · rw [if_neg h1, if_neg (by omega), if_pos (by omega)]; congr 1; omega
theorem letter_worth (c : UInt8) (d : Nat) (h : worthN c = some d) : letterN d = c ∧ d < 32 := by
  unfold worthN at h
  split at h
  · injection h with h
    have hd : d < 32 := by omega
    refine ⟨UInt8.toNat_inj.1 ?_, hd⟩
    rw [letterN_toNat d hd, if_pos (by omega)]; omega
  · split at h
    · injection h with h
      have hd : d < 32 := by omega
      refine ⟨UInt8.toNat_inj.1 ?_, hd⟩
      rw [letterN_toNat d hd, if_neg (by omega)]; omega
    · cases h

def nats (b : List UInt8) : List Nat := b.map (·.toNat)
theorem nats_lt (b : List UInt8) : ∀ x ∈ nats b, x < 256 := by
  intro x hx
  obtain ⟨y, _, rfl⟩ := List.mem_map.1 hx
  exact y.toNat_lt
@[simp] theorem nats_length (b : List UInt8) : (nats b).length = b.length := by simp [nats]
theorem nats_snoc (b : List UInt8) (x : UInt8) : nats (b ++ [x]) = nats b ++ [x.toNat] := by simp [nats]
theorem nats_inj {a b : List UInt8} (h : nats a = nats b) : a = b := by
  unfold nats at h
  exact (List.map_inj_right (fun _ _ h => UInt8.toNat_inj.1 h)).1 h

/-- How many letters so many bytes have. -/
def lets (n : Nat) : Nat := (8 * n + 4) / 5
/-- The bytes as one number, moved up so far that the letters end with it. -/
def big (b : List UInt8) : Nat := val 256 (nats b) * 2 ^ (5 * lets b.length - 8 * b.length)
def letters (b : List UInt8) : List UInt8 := (dig 32 (lets b.length) (big b)).map letterN
@[simp] theorem letters_length (b : List UInt8) : (letters b).length = lets b.length := by simp [letters]

/-- The letters that are written when k bytes are read and e letters written. -/
def part (b : List UInt8) (k e : Nat) : List UInt8 := (dig 32 e (val 256 (nats (b.take k)) / 2 ^ (8 * k - 5 * e))).map letterN
@[simp] theorem part_length (b : List UInt8) (k e : Nat) : (part b k e).length = e := by simp [part]

theorem part_byte (b : List UInt8) (k e : Nat) (x : UInt8) (hx : b[k]? = some x) (he : 5 * e ≤ 8 * k) : part b (k + 1) e = part b k e := by
  unfold part
  congr 2
  rw [List.take_add_one, hx, show (some x).toList = [x] from rfl, nats_snoc, val_snoc, show 8 * (k + 1) - 5 * e = 8 + (8 * k - 5 * e) by omega, Nat.pow_add, ← Nat.div_div_eq_div_mul]
  congr 1
  have := x.toNat_lt
  omega
theorem part_letter (b : List UInt8) (k e : Nat) (he : 5 * (e + 1) ≤ 8 * k) :
    part b k (e + 1) = part b k e ++ [letterN (val 256 (nats (b.take k)) / 2 ^ (8 * k - 5 * (e + 1)) % 32)] := by
  unfold part
  rw [dig, List.map_append, Nat.div_div_eq_div_mul, show (32 : Nat) = 2 ^ 5 from rfl, ← Nat.pow_add, show 8 * k - 5 * (e + 1) + 5 = 8 * k - 5 * e by omega]
  rfl
theorem part_end (b : List UInt8) (e : Nat) (he : 5 * e ≤ 8 * b.length) (hd : 8 * b.length < 5 * (e + 1)) :
    letters b = if 8 * b.length = 5 * e then part b b.length e else part b b.length e ++ [letterN (val 256 (nats b) * 2 ^ (5 * (e + 1) - 8 * b.length) % 32)] := by
  unfold letters big part
  split
  · rename_i h
    have hl : lets b.length = e := by unfold lets; omega
    rw [hl, List.take_length]
    congr 2
    simp [h]
  · rename_i h
    have hl : lets b.length = e + 1 := by unfold lets; omega
    rw [hl, List.take_length, dig, List.map_append]
    congr 3
    generalize val 256 (nats b) = M
    have h1 : 8 * b.length - 5 * e + (5 * (e + 1) - 8 * b.length) = 5 := by omega
    rw [← Nat.mul_div_mul_right M (2 ^ (8 * b.length - 5 * e)) (Nat.two_pow_pos (5 * (e + 1) - 8 * b.length)), ← Nat.pow_add, h1]

/-! ### The same letters, bit by bit -/
/-- Bit n of the bytes, the first the highest; behind them noughts. -/
def bitAt (b : List UInt8) (n : Nat) : Nat := (b.getD (n / 8) 0).toNat / 2 ^ (7 - n % 8) % 2
theorem val_digit (l : List Nat) (B i : Nat) (h : ∀ x ∈ l, x < B) (hi : i < l.length) : l[i]? = some (val B l / B ^ (l.length - 1 - i) % B) := by
  have := dig_get B l.length (val B l) i hi
  rwa [dig_val B l h] at this
theorem bit_of_byte (M q r : Nat) (hr : r < 8) : M / 256 ^ q % 256 / 2 ^ (7 - r) % 2 = M / 2 ^ (8 * q + (7 - r)) % 2 := by
  rw [show (256 : Nat) = 2 ^ 8 from rfl, ← Nat.pow_mul, Nat.pow_add, ← Nat.div_div_eq_div_mul]
  generalize M / 2 ^ (8 * q) = Y
  have hs : (2 : Nat) ^ 8 = 2 ^ (7 - r) * 2 ^ (r + 1) := by rw [← Nat.pow_add]; congr 1; omega
  rw [hs, Nat.mod_mul_right_div_self, Nat.pow_succ, Nat.mul_comm (2 ^ r) 2, Nat.mod_mul_right_mod]
theorem bit_big (b : List UInt8) (n : Nat) (h : n < 5 * lets b.length) : (if n < 8 * b.length then bitAt b n else 0) = big b / 2 ^ (5 * lets b.length - 1 - n) % 2 := by
  unfold big
  have hl : 8 * b.length ≤ 5 * lets b.length := by unfold lets; omega
  split
  · rename_i hn
    unfold bitAt
    have hq : n / 8 < b.length := by omega
    have hv := val_digit (nats b) 256 (n / 8) (nats_lt b) (by simpa using hq)
    rw [List.getD_eq_getElem?_getD]
    have hg : (b[n / 8]?.getD 0).toNat = val 256 (nats b) / 256 ^ (b.length - 1 - n / 8) % 256 := by
      rw [nats_length] at hv
      unfold nats at hv
      rw [List.getElem?_map] at hv
      rw [List.getElem?_eq_getElem hq] at hv ⊢
      simpa [nats] using hv
    rw [hg, bit_of_byte _ _ _ (by omega)]
    have e : 5 * lets b.length - 1 - n = (5 * lets b.length - 8 * b.length) + (8 * (b.length - 1 - n / 8) + (7 - n % 8)) := by omega
    rw [e, Nat.pow_add 2 (5 * lets b.length - 8 * b.length) _, ← Nat.div_div_eq_div_mul, Nat.mul_div_cancel _ (Nat.two_pow_pos _)]
  · rename_i hn
    have e : 5 * lets b.length - 8 * b.length = (5 * lets b.length - 1 - n) + ((n - 8 * b.length) + 1) := by omega
    rw [e, Nat.pow_add, ← Nat.mul_assoc, Nat.mul_right_comm, Nat.mul_div_cancel _ (Nat.two_pow_pos _), Nat.pow_succ, ← Nat.mul_assoc, Nat.mul_mod_left]
theorem bits_step (T m k : Nat) (hm : 0 < m) : 2 * (T / 2 ^ m % 2 ^ k) + T / 2 ^ (m - 1) % 2 = T / 2 ^ (m - 1) % 2 ^ (k + 1) := by
  obtain ⟨p, rfl⟩ : ∃ p, m = p + 1 := ⟨m - 1, by omega⟩
  rw [Nat.add_sub_cancel, Nat.pow_succ, ← Nat.div_div_eq_div_mul, Nat.pow_succ, Nat.mul_comm (2 ^ k) 2, Nat.mod_mul]
  omega
theorem letters_get (b : List UInt8) (i : Nat) (h : i < lets b.length) : (letters b)[i]? = some (letterN (big b / 2 ^ (5 * lets b.length - 5 * i - 5) % 2 ^ 5)) := by
  unfold letters
  rw [List.getElem?_map, dig_get 32 _ _ i h, show (32 : Nat) = 2 ^ 5 from rfl, ← Nat.pow_mul]
  simp only [Option.map_some]
  congr 5
  omega

/-! ### Letters read -/
def worths (s : List UInt8) : List Nat := s.map fun c => (worthN c).getD 0
@[simp] theorem worths_length (s : List UInt8) : (worths s).length = s.length := by simp [worths]
theorem worth_lt (c : UInt8) : (worthN c).getD 0 < 32 := by
  rcases h : worthN c with _ | d
  · simp
  · exact (letter_worth c d h).2
theorem worths_lt (s : List UInt8) : ∀ x ∈ worths s, x < 32 := by
  intro x hx
  obtain ⟨c, _, rfl⟩ := List.mem_map.1 hx
  exact worth_lt c
theorem worths_snoc (s : List UInt8) (c : UInt8) : worths (s ++ [c]) = worths s ++ [(worthN c).getD 0] := by simp [worths]
/-- The place of the first sign that is no letter. -/
def bad (s : List UInt8) : Option Nat := s.findIdx? fun c => (worthN c).isNone
def good (s : List UInt8) (k : Nat) : Prop := ∀ (j : Nat) (c : UInt8), j < k → s[j]? = some c → (worthN c).isSome = true
theorem good_zero (s : List UInt8) : good s 0 := fun j c h => by omega
theorem good_succ (s : List UInt8) (k : Nat) (c : UInt8) (h : good s k) (hc : s[k]? = some c) (hw : (worthN c).isSome = true) : good s (k + 1) := fun j d hj hd => by
  by_cases hjk : j = k
  · subst hjk; rw [hc] at hd; injection hd with hd; subst hd; exact hw
  · exact h j d (by omega) hd
theorem bad_some (s : List UInt8) (k : Nat) (c : UInt8) (h : good s k) (hc : s[k]? = some c) (hw : worthN c = none) : bad s = some k := by
  obtain ⟨hk, he⟩ := List.getElem?_eq_some_iff.1 hc
  unfold bad
  rw [List.findIdx?_eq_some_iff_getElem]
  refine ⟨hk, by rw [he, hw]; rfl, fun j hj => ?_⟩
  have := h j _ hj (List.getElem?_eq_getElem (by omega))
  rcases hx : worthN (s[j]'(by omega)) with _ | d
  · rw [hx] at this; cases this
  · simp [hx]
theorem bad_none (s : List UInt8) (h : good s s.length) : bad s = none := by
  unfold bad
  rw [List.findIdx?_eq_none_iff]
  intro c hc
  obtain ⟨j, hj, rfl⟩ := List.getElem_of_mem hc
  have := h j _ hj (List.getElem?_eq_getElem hj)
  rcases hx : worthN s[j] with _ | d
  · rw [hx] at this; cases this
  · rfl

def bytesN (n X : Nat) : List UInt8 := (dig 256 n X).map UInt8.ofNat
@[simp] theorem bytesN_length (n X : Nat) : (bytesN n X).length = n := by simp [bytesN]
theorem nats_bytesN (n X : Nat) : nats (bytesN n X) = dig 256 n X := by
  unfold nats bytesN
  rw [List.map_map]
  conv => rhs; rw [← List.map_id (dig 256 n X)]
  refine List.map_congr_left fun x hx => ?_
  have := dig_lt 256 n X (by omega) x hx
  simp only [Function.comp, UInt8.toNat_ofNat', id]
  omega
theorem natsOf (l : List UInt8) : bytesN l.length (val 256 (nats l)) = l := by
  apply nats_inj
  rw [nats_bytesN]
  have := dig_val 256 (nats l) (nats_lt l)
  rwa [nats_length] at this

/-- What a text of letters is read as: the bytes, the place of the fault, the error. -/
def decode (s : List UInt8) : List UInt8 × Nat × Nat :=
  match bad s with
  | some i => ([], i, 100)
  | none => if 5 ≤ 5 * s.length % 8 ∨ val 32 (worths s) % 2 ^ (5 * s.length % 8) ≠ 0 then ([], s.length - 1, 101) else (bytesN (5 * s.length / 8) (val 32 (worths s) / 2 ^ (5 * s.length % 8)), 0, 0)

/-- The bytes that are written when k letters are read and e bytes written. -/
def part8 (s : List UInt8) (k e : Nat) : List UInt8 := bytesN e (val 32 (worths (s.take k)) / 2 ^ (5 * k - 8 * e))
@[simp] theorem part8_length (s : List UInt8) (k e : Nat) : (part8 s k e).length = e := by simp [part8]
theorem val_take_snoc (s : List UInt8) (k : Nat) (c : UInt8) (hc : s[k]? = some c) : val 32 (worths (s.take (k + 1))) = 32 * val 32 (worths (s.take k)) + (worthN c).getD 0 := by
  rw [List.take_add_one, hc, show (some c).toList = [c] from rfl, worths_snoc, val_snoc]
theorem part8_letter (s : List UInt8) (k e : Nat) (c : UInt8) (hc : s[k]? = some c) (he : 8 * e ≤ 5 * k) : part8 s (k + 1) e = part8 s k e := by
  unfold part8
  rw [val_take_snoc s k c hc, show 5 * (k + 1) - 8 * e = 5 + (5 * k - 8 * e) by omega, Nat.pow_add, ← Nat.div_div_eq_div_mul]
  congr 2
  have := worth_lt c
  omega
theorem part8_byte (s : List UInt8) (k e : Nat) (he : 8 * (e + 1) ≤ 5 * k) :
    part8 s k (e + 1) = part8 s k e ++ [UInt8.ofNat (val 32 (worths (s.take k)) / 2 ^ (5 * k - 8 * (e + 1)) % 256)] := by
  unfold part8 bytesN
  rw [dig, List.map_append, Nat.div_div_eq_div_mul, show (256 : Nat) = 2 ^ 8 from rfl, ← Nat.pow_add, show 5 * k - 8 * (e + 1) + 8 = 5 * k - 8 * e by omega]
  rfl
theorem part8_end (s : List UInt8) (e h : Nat) (he : 8 * e + h = 5 * s.length) (hh : h < 8) : part8 s s.length e = bytesN (5 * s.length / 8) (val 32 (worths s) / 2 ^ (5 * s.length % 8)) := by
  unfold part8
  rw [List.take_length, show 5 * s.length / 8 = e by omega, show 5 * s.length - 8 * e = h by omega, show 5 * s.length % 8 = h by omega]

/-! ### What the document asks for besides -/
theorem lets_back (L : Nat) : lets (5 * L / 8) = L ↔ 5 * L % 8 < 5 := by unfold lets; omega
theorem val_worths_lt (s : List UInt8) : val 32 (worths s) < 2 ^ (5 * s.length) := by
  have := val_lt 32 (worths s) (worths_lt s)
  rwa [worths_length, show (32 : Nat) = 2 ^ 5 from rfl, ← Nat.pow_mul] at this
theorem good_letters (s : List UInt8) (h : good s s.length) : (worths s).map letterN = s := by
  unfold worths
  rw [List.map_map]
  conv => rhs; rw [← List.map_id s]
  refine List.map_congr_left fun c hc => ?_
  obtain ⟨j, hj, rfl⟩ := List.getElem_of_mem hc
  have := h j _ hj (List.getElem?_eq_getElem hj)
  rcases hx : worthN s[j] with _ | d
  · rw [hx] at this; cases this
  · simp only [Function.comp, hx, Option.getD_some, id]
    exact (letter_worth _ d hx).1
theorem letterN_inj {a b : List Nat} (ha : ∀ x ∈ a, x < 32) (hb : ∀ x ∈ b, x < 32) (h : a.map letterN = b.map letterN) : a = b := by
  have h2 := congrArg (List.map fun c => (worthN c).getD 0) h
  rw [List.map_map, List.map_map] at h2
  have key : ∀ l : List Nat, (∀ x ∈ l, x < 32) → l.map ((fun c => (worthN c).getD 0) ∘ letterN) = l := fun l hl => by
    conv => rhs; rw [← List.map_id l]
    refine List.map_congr_left fun x hx => ?_
    simp only [Function.comp, worth_letter x (hl x hx), Option.getD_some, id]
  rwa [key a ha, key b hb] at h2
theorem big_bytesN (L N h : Nat) (hL : lets (5 * L / 8) = L) (hh : h = 5 * L % 8) (hN : N < 2 ^ (5 * L)) : big (bytesN (5 * L / 8) (N / 2 ^ h)) = N - N % 2 ^ h := by
  unfold big
  rw [nats_bytesN, bytesN_length, hL, val_dig, show (256 : Nat) = 2 ^ 8 from rfl, ← Nat.pow_mul, Nat.mod_eq_of_lt, show 5 * L - 8 * (5 * L / 8) = h by omega]
  · have := Nat.div_add_mod N (2 ^ h)
    rw [Nat.mul_comm] at this
    omega
  · rw [Nat.div_lt_iff_lt_mul (Nat.two_pow_pos _), ← Nat.pow_add, show 8 * (5 * L / 8) + h = 5 * L by omega]
    exact hN
theorem letters_back (s : List UInt8) (hg : good s s.length) (h5 : 5 * s.length % 8 < 5) :
    letters (bytesN (5 * s.length / 8) (val 32 (worths s) / 2 ^ (5 * s.length % 8))) = s ↔ val 32 (worths s) % 2 ^ (5 * s.length % 8) = 0 := by
  have hL := (lets_back s.length).2 h5
  have hN := val_worths_lt s
  unfold letters
  rw [bytesN_length, hL, big_bytesN s.length _ _ hL rfl hN]
  have hs := good_letters s hg
  have hd := dig_val 32 (worths s) (worths_lt s)
  rw [worths_length] at hd
  constructor
  · intro h
    have h1 : (dig 32 s.length (val 32 (worths s) - val 32 (worths s) % 2 ^ (5 * s.length % 8))).map letterN = (worths s).map letterN := by rw [h, hs]
    have h2 := letterN_inj (dig_lt _ _ _ (by omega)) (worths_lt s) h1
    rw [← hd] at h2
    rw [hd] at h2
    have e32 : (32 : Nat) ^ s.length = 2 ^ (5 * s.length) := by rw [Nat.pow_mul]
    have h3 := dig_inj 32 s.length _ _ (by rw [e32]; omega) (by rw [e32]; exact hN) (h2.trans hd.symm)
    have := Nat.mod_le (val 32 (worths s)) (2 ^ (5 * s.length % 8))
    omega
  · intro h
    rw [h, Nat.sub_zero, hd, hs]

/-- Bit n of the letters. -/
def bit5 (s : List UInt8) (n : Nat) : Nat := (worthN (s.getD (n / 5) 0)).getD 0 / 2 ^ (4 - n % 5) % 2
theorem bit5_val (s : List UInt8) (n : Nat) (h : n < 5 * s.length) : bit5 s n = val 32 (worths s) / 2 ^ (5 * s.length - 1 - n) % 2 := by
  have hq : n / 5 < s.length := by omega
  have hv := val_digit (worths s) 32 (n / 5) (worths_lt s) (by simpa using hq)
  unfold bit5
  rw [List.getD_eq_getElem?_getD, List.getElem?_eq_getElem hq, Option.getD_some]
  have hg : (worthN s[n / 5]).getD 0 = val 32 (worths s) / 32 ^ (s.length - 1 - n / 5) % 32 := by
    rw [worths_length] at hv
    have e : (worths s)[n / 5]? = some ((worthN s[n / 5]).getD 0) := by
      unfold worths
      rw [List.getElem?_map, List.getElem?_eq_getElem hq]; rfl
    rw [e] at hv
    injection hv
  rw [hg]
  generalize val 32 (worths s) = N
  rw [show (32 : Nat) = 2 ^ 5 from rfl, ← Nat.pow_mul, show 5 * s.length - 1 - n = 5 * (s.length - 1 - n / 5) + (4 - n % 5) by omega, Nat.pow_add 2 _ (4 - n % 5), ← Nat.div_div_eq_div_mul]
  generalize N / 2 ^ (5 * (s.length - 1 - n / 5)) = Y
  have hs : (2 : Nat) ^ 5 = 2 ^ (4 - n % 5) * 2 ^ (n % 5 + 1) := by rw [← Nat.pow_add]; congr 1; omega
  rw [hs, Nat.mod_mul_right_div_self, Nat.pow_succ, Nat.mul_comm (2 ^ (n % 5)) 2, Nat.mod_mul_right_mod]
theorem bytesN_get (n X i : Nat) (h : i < n) : (bytesN n X)[i]? = some (UInt8.ofNat (X / 2 ^ (8 * (n - 1 - i)) % 2 ^ 8)) := by
  unfold bytesN
  rw [List.getElem?_map, dig_get 256 _ _ i h, show (256 : Nat) = 2 ^ 8 from rfl, ← Nat.pow_mul]
  rfl

/-! ### There and back -/
theorem decode_letters (b : List UInt8) : decode (letters b) = (b, 0, 0) := by
  have hgood : good (letters b) (letters b).length := fun j c hj hc => by
    unfold letters at hc
    rw [List.getElem?_map] at hc
    obtain ⟨d, hd, rfl⟩ := Option.map_eq_some_iff.1 hc
    rw [worth_letter d (dig_lt 32 _ _ (by omega) d (List.mem_of_getElem? hd))]
    rfl
  have hw : worths (letters b) = dig 32 (lets b.length) (big b) := by
    unfold worths letters
    rw [List.map_map]
    conv => rhs; rw [← List.map_id (dig 32 _ _)]
    refine List.map_congr_left fun x hx => ?_
    simp only [Function.comp, worth_letter x (dig_lt 32 _ _ (by omega) x hx), Option.getD_some, id]
  have hbig : big b < 32 ^ lets b.length := by
    have h1 := val_lt 256 (nats b) (nats_lt b)
    rw [nats_length] at h1
    unfold big
    rw [show (32 : Nat) = 2 ^ 5 from rfl, ← Nat.pow_mul]
    have h2 : 5 * lets b.length = 8 * b.length + (5 * lets b.length - 8 * b.length) := by unfold lets; omega
    rw [h2, Nat.pow_add, ← h2, Nat.pow_mul]
    exact Nat.mul_lt_mul_of_pos_right h1 (Nat.two_pow_pos _)
  unfold decode
  rw [bad_none _ hgood, letters_length, hw, val_dig, Nat.mod_eq_of_lt hbig]
  have hh : 5 * lets b.length % 8 = 5 * lets b.length - 8 * b.length := by unfold lets; omega
  have h5 : 5 * lets b.length % 8 < 5 := by rw [hh]; unfold lets; omega
  have hn : 5 * lets b.length / 8 = b.length := by unfold lets; omega
  simp only []
  rw [hh, hn, if_neg]
  · unfold big
    rw [Nat.mul_div_cancel _ (Nat.two_pow_pos _), natsOf]
  · unfold big
    rw [Nat.mul_mod_left]
    omega
theorem letters_decode (s l : List UInt8) (i : Nat) (h : decode s = (l, i, 0)) : letters l = s := by
  unfold decode at h
  rcases hb : bad s with _ | j
  · rw [hb] at h
    simp only [] at h
    have hg : good s s.length := by
      intro j c hj hc
      unfold bad at hb
      rw [List.findIdx?_eq_none_iff] at hb
      have := hb c (List.mem_of_getElem? hc)
      rcases hx : worthN c with _ | d
      · rw [hx] at this; cases this
      · rfl
    split at h
    · cases h
    · rename_i hn
      injection h with h1 h2
      subst h1
      exact (letters_back s hg (by omega)).2 (by omega)
  · rw [hb] at h
    cases h

end Go.Proofs.YteaagngikiaokaaDoor
