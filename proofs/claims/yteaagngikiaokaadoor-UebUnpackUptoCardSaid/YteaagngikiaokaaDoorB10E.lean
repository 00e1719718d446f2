/- Plain lemmas: names escaped and read again. -/
import Derived.Test.YteaagngikiaokaaDoorB10
namespace Go.Proofs.YteaagngikiaokaaDoor

/-- A byte that stands for itself. -/
def plainN (n : Nat) : Bool := (97 ≤ n && n ≤ 122) || (65 ≤ n && n ≤ 90) || (48 ≤ n && n ≤ 57) || n == 45 || n == 46 || n == 95
def sortN (n : Nat) : Nat := if plainN n then 1 else if n = 37 then 2 else 0
def hexN (d : Nat) : UInt8 := UInt8.ofNat (if d < 10 then 48 + d else 87 + d)
/-- What a hexadecimal digit is worth; none: it is none. -/
def digN (n : Nat) : Option Nat := if 48 ≤ n ∧ n ≤ 57 then some (n - 48) else if 97 ≤ n ∧ n ≤ 102 then some (n - 87) else none
theorem hexN_toNat (d : Nat) (h : d < 16) : (hexN d).toNat = if d < 10 then 48 + d else 87 + d := by
  unfold hexN; rw [UInt8.toNat_ofNat']; split <;> omega
theorem dig_hex (d : Nat) (h : d < 16) : digN (hexN d).toNat = some d := by
  unfold digN
  rw [hexN_toNat d h]
  by_cases h1 : d < 10
  · rw [if_pos h1, if_pos (by omega)]; congr 1; omega
  · rw [if_neg h1, if_neg (by omega), if_pos (by omega)]; congr 1; omega
theorem dig_lt16 (n d : Nat) (h : digN n = some d) : d < 16 := by
  unfold digN at h
  split at h
  · injection h with h; omega
  · split at h
    · injection h with h; omega
    · cases h
theorem hex_dig (c : UInt8) (d : Nat) (h : digN c.toNat = some d) : hexN d = c := by
  have hd := dig_lt16 _ _ h
  apply UInt8.toNat_inj.1
  rw [hexN_toNat d hd]
  unfold digN at h
  split at h
  · injection h with h; rw [if_pos (by omega)]; omega
  · split at h
    · injection h with h; rw [if_neg (by omega)]; omega
    · cases h

def esc1 (c : UInt8) : List UInt8 := if plainN c.toNat then [c] else [37, hexN (c.toNat / 16), hexN (c.toNat % 16)]
def escBody (b : List UInt8) : List UInt8 := b.flatMap esc1
def escape (b : List UInt8) : List UInt8 := if b = [] then [37] else escBody b
theorem escBody_snoc (b : List UInt8) (c : UInt8) : escBody (b ++ [c]) = escBody b ++ esc1 c := by simp [escBody]
theorem esc1_len (c : UInt8) : (esc1 c).length ≤ 3 := by unfold esc1; split <;> simp
theorem escBody_len (b : List UInt8) : (escBody b).length ≤ 3 * b.length := by
  induction b with
  | nil => simp [escBody]
  | cons c b ih =>
    have h1 := esc1_len c
    unfold escBody at *
    rw [List.flatMap_cons, List.length_append, List.length_cons]
    omega

/-- What a text from a place on is read as, behind what was read so far. -/
def unescL : List UInt8 → Nat → List UInt8 → List UInt8 × Nat × Nat
  | [], _, acc => (acc, 0, 0)
  | c :: r, i, acc =>
    if plainN c.toNat then unescL r (i + 1) (acc ++ [c])
    else if c.toNat = 37 then
      match r with
      | h :: l :: r' =>
        match digN h.toNat, digN l.toNat with
        | some x, some y => if plainN (16 * x + y) then ([], i, 103) else unescL r' (i + 3) (acc ++ [UInt8.ofNat (16 * x + y)])
        | _, _ => ([], i, 103)
      | _ => ([], i, 103)
    else ([], i, 103)
def unescape (s : List UInt8) : List UInt8 × Nat × Nat := if s = [37] then ([], 0, 0) else if s = [] then ([], 0, 103) else unescL s 0 []

theorem unescL_nil (i : Nat) (acc : List UInt8) : unescL [] i acc = (acc, 0, 0) := by rw [unescL]
theorem unescL_plain (c : UInt8) (r : List UInt8) (i : Nat) (acc : List UInt8) (h : plainN c.toNat = true) : unescL (c :: r) i acc = unescL r (i + 1) (acc ++ [c]) := by
  rw [unescL.eq_def]; simp only [h, if_true]
theorem unescL_other (c : UInt8) (r : List UInt8) (i : Nat) (acc : List UInt8) (h : plainN c.toNat = false) (h2 : c.toNat ≠ 37) : unescL (c :: r) i acc = ([], i, 103) := by
  rw [unescL.eq_def]; simp only [h, h2, if_false, Bool.false_eq_true]
theorem plain37 : plainN 37 = false := by decide
theorem unescL_short (c : UInt8) (r : List UInt8) (i : Nat) (acc : List UInt8) (h2 : c.toNat = 37) (h3 : r.length < 2) : unescL (c :: r) i acc = ([], i, 103) := by
  rw [unescL.eq_def]
  simp only [h2, plain37, Bool.false_eq_true, if_false, if_true]
  rcases r with _ | ⟨a, _ | ⟨b, r⟩⟩
  · rfl
  · rfl
  · simp only [List.length_cons] at h3; omega
theorem unescL_pair (c x y : UInt8) (r : List UInt8) (i : Nat) (acc : List UInt8) (h2 : c.toNat = 37) : unescL (c :: x :: y :: r) i acc =
    match digN x.toNat, digN y.toNat with
    | some x, some y => if plainN (16 * x + y) then ([], i, 103) else unescL r (i + 3) (acc ++ [UInt8.ofNat (16 * x + y)])
    | _, _ => ([], i, 103) := by
  rw [unescL.eq_def]
  simp only [h2, plain37, Bool.false_eq_true, if_false, if_true]

theorem unescL_escBody (b : List UInt8) : ∀ (i : Nat) (acc : List UInt8), unescL (escBody b) i acc = (acc ++ b, 0, 0) := by
  induction b with
  | nil => intro i acc; simp [escBody, unescL_nil]
  | cons c b ih =>
    intro i acc
    have e : escBody (c :: b) = esc1 c ++ escBody b := by simp [escBody]
    rw [e]
    unfold esc1
    by_cases h : plainN c.toNat = true
    · rw [if_pos h, List.singleton_append, unescL_plain _ _ _ _ h, ih]
      simp
    · have hc := c.toNat_lt
      rw [if_neg h]
      show unescL (37 :: hexN (c.toNat / 16) :: hexN (c.toNat % 16) :: escBody b) i acc = _
      rw [unescL_pair _ _ _ _ _ _ (by rfl), dig_hex _ (by omega), dig_hex _ (by omega)]
      simp only []
      rw [show 16 * (c.toNat / 16) + c.toNat % 16 = c.toNat by omega, if_neg h, ih, UInt8.ofNat_toNat]
      simp
theorem escape_ne (b : List UInt8) (hb : b ≠ []) : escBody b ≠ [37] ∧ escBody b ≠ [] := by
  rcases b with _ | ⟨c, b⟩
  · exact absurd rfl hb
  · have e : escBody (c :: b) = esc1 c ++ escBody b := by simp [escBody]
    rw [e]
    unfold esc1
    by_cases h : plainN c.toNat = true
    · rw [if_pos h]
      constructor
      · intro hh
        simp only [List.cons_append, List.cons.injEq] at hh
        rw [hh.1] at h
        exact absurd h (by decide)
      · simp
    · rw [if_neg h]; simp
theorem unescape_escape (b : List UInt8) : unescape (escape b) = (b, 0, 0) := by
  unfold escape unescape
  by_cases h : b = []
  · subst h; rfl
  · rw [if_neg h, if_neg (escape_ne b h).1, if_neg (escape_ne b h).2, unescL_escBody]
    simp
theorem escBody_unescL (n : Nat) : ∀ (s : List UInt8) (i : Nat) (acc l : List UInt8) (j : Nat), s.length ≤ n → unescL s i acc = (l, j, 0) → ∃ m, l = acc ++ m ∧ escBody m = s := by
  induction n with
  | zero =>
    intro s i acc l j hn h
    have : s = [] := List.eq_nil_of_length_eq_zero (by omega)
    subst this
    rw [unescL_nil] at h
    injection h with h
    exact ⟨[], by simp [h], rfl⟩
  | succ n ih =>
    intro s i acc l j hn h
    rcases s with _ | ⟨c, r⟩
    · rw [unescL_nil] at h
      injection h with h
      exact ⟨[], by simp [h], rfl⟩
    · simp only [List.length_cons] at hn
      by_cases hp : plainN c.toNat = true
      · rw [unescL_plain _ _ _ _ hp] at h
        obtain ⟨m, h1, h2⟩ := ih r _ _ l j (by omega) h
        refine ⟨c :: m, by rw [h1]; simp, ?_⟩
        have e : escBody (c :: m) = esc1 c ++ escBody m := by simp [escBody]
        rw [e, h2]
        unfold esc1
        rw [if_pos hp]; rfl
      · by_cases h37 : c.toNat = 37
        · rcases r with _ | ⟨x, _ | ⟨y, r⟩⟩
          · rw [unescL_short _ _ _ _ h37 (by simp)] at h; cases h
          · rw [unescL_short _ _ _ _ h37 (by simp)] at h; cases h
          · rw [unescL_pair _ _ _ _ _ _ h37] at h
            rcases hx : digN x.toNat with _ | a
            · rw [hx] at h; cases h
            · rcases hy : digN y.toNat with _ | b
              · rw [hx, hy] at h; cases h
              · rw [hx, hy] at h
                simp only [] at h
                have ha := dig_lt16 _ _ hx
                have hb := dig_lt16 _ _ hy
                by_cases hq : plainN (16 * a + b) = true
                · rw [if_pos hq] at h; cases h
                · rw [if_neg hq] at h
                  simp only [List.length_cons] at hn
                  obtain ⟨m, h1, h2⟩ := ih r _ _ l j (by omega) h
                  refine ⟨UInt8.ofNat (16 * a + b) :: m, by rw [h1]; simp, ?_⟩
                  have e : escBody (UInt8.ofNat (16 * a + b) :: m) = esc1 (UInt8.ofNat (16 * a + b)) ++ escBody m := by simp [escBody]
                  have ht : (UInt8.ofNat (16 * a + b)).toNat = 16 * a + b := by rw [UInt8.toNat_ofNat']; omega
                  rw [e, h2]
                  unfold esc1
                  rw [ht, if_neg hq, show (16 * a + b) / 16 = a by omega, show (16 * a + b) % 16 = b by omega, hex_dig x a hx, hex_dig y b hy]
                  have hc : c = 37 := UInt8.toNat_inj.1 h37
                  rw [hc]; rfl
        · rw [unescL_other _ _ _ _ (by simpa using hp) h37] at h; cases h
theorem escape_unescape (s l : List UInt8) (i : Nat) (h : unescape s = (l, i, 0)) : escape l = s := by
  unfold unescape at h
  by_cases h1 : s = [37]
  · rw [if_pos h1] at h; injection h with h; subst h; rw [h1]; rfl
  · rw [if_neg h1] at h
    by_cases h2 : s = []
    · rw [if_pos h2] at h; cases h
    · rw [if_neg h2] at h
      obtain ⟨m, e1, e2⟩ := escBody_unescL s.length s 0 [] l i (Nat.le_refl _) h
      simp only [List.nil_append] at e1
      subst e1
      unfold escape
      rw [if_neg, e2]
      rintro rfl
      exact h2 e2.symm

end Go.Proofs.YteaagngikiaokaaDoor
