/- Plain facts: rows of a table, their bytes, and what bytes are read as. -/
import Derived.Test.YteaagngikiaokaaDoorBackP
namespace Go.Proofs.YteaagngikiaokaaDoor
open Go.RowKit Go.Lib

abbrev Rw := List UInt8 × List UInt8
def fld (b : List UInt8) : List UInt8 := itoa (b.length : Int) ++ 58 :: (b ++ [44])
def enc (r : Rw) : List UInt8 := fld r.1 ++ fld r.2
def encs (rs : List Rw) : List UInt8 := rs.flatMap enc
def leB (a b : List UInt8) : Bool := Op.bytesLess a b || a == b
def rowB (rs : List Rw) (i : Nat) : Bool := match rs[i]? with
  | none => false
  | some r => decide (i < 64) && decide (1 ≤ r.1.length) && decide (r.1.length ≤ 64) && decide (r.2.length ≤ 65536) && (i == 0 || match rs[i - 1]? with
    | none => false
    | some p => !leB r.1 p.1)
def may (rs : List Rw) : Prop := ∀ i, i < rs.length → rowB rs i = true

theorem rowB_some {rs : List Rw} {i : Nat} (h : rowB rs i = true) : ∃ r, rs[i]? = some r ∧ i < 64 ∧ 1 ≤ r.1.length ∧ r.1.length ≤ 64 ∧ r.2.length ≤ 65536 := by
  unfold rowB at h
  cases hr : rs[i]? with
  | none => rw [hr] at h; cases h
  | some r =>
    rw [hr] at h
    simp only [Bool.and_eq_true, decide_eq_true_eq] at h
    exact ⟨r, rfl, h.1.1.1.1, h.1.1.1.2, h.1.1.2, h.1.2⟩
theorem rowB_congr {a b : List Rw} {i : Nat} (h : ∀ j, j ≤ i → a[j]? = b[j]?) : rowB a i = rowB b i := by
  unfold rowB
  rw [h i (Nat.le_refl _), h (i - 1) (Nat.sub_le _ _)]
theorem rowB_append (a b : List Rw) (i : Nat) (h : i < a.length) : rowB (a ++ b) i = rowB a i :=
  rowB_congr fun j hj => by rw [List.getElem?_append_left (by omega)]
theorem may_take {rs : List Rw} (h : may rs) (i : Nat) : may (rs.take i) := fun j hj => by
  have hj2 : j < i ∧ j < rs.length := by rw [List.length_take] at hj; omega
  rw [← h j hj2.2]
  exact rowB_congr fun k hk => by rw [List.getElem?_take_of_lt (by omega)]
theorem may_nil : may [] := fun i h => absurd h (Nat.not_lt_zero _)
theorem may_len {rs : List Rw} (h : may rs) : rs.length ≤ 64 := by
  rcases Nat.lt_or_ge 64 rs.length with h' | h'
  · obtain ⟨_, _, h2, _⟩ := rowB_some (h 64 h')
    omega
  · exact h'

@[simp] theorem encs_nil : encs [] = [] := rfl
theorem encs_cons (r : Rw) (rs : List Rw) : encs (r :: rs) = enc r ++ encs rs := rfl
theorem encs_append (a b : List Rw) : encs (a ++ b) = encs a ++ encs b := by simp [encs]
theorem encs_snoc (a : List Rw) (r : Rw) : encs (a ++ [r]) = encs a ++ enc r := by simp [encs]

/-- A field taken from the left. -/
def takeF (l : List UInt8) (most : Nat) : Option (List UInt8 × List UInt8) :=
  if 7 ≤ (l.takeWhile (· != 58)).length then none else
  match l.drop (l.takeWhile (· != 58)).length with
  | [] => none
  | _ :: r => match rd (l.takeWhile (· != 58)) (most : Int) with
    | none => none
    | some n => if r[n]? = some 44 then some (r.take n, r.drop (n + 1)) else none

theorem itoa_no58 (n : Nat) : ∀ c ∈ itoa (n : Int), (c != 58) = true := by
  intro c hc
  have := itoa_okc (n : Int) (by omega) c hc
  unfold okc at this
  simp only [Bool.and_eq_true, bne_iff_ne] at this ⊢
  intro h
  exact this.1 (by rw [h]; rfl)
theorem takeWhile_all {p : UInt8 → Bool} (a : List UInt8) (c : UInt8) (r : List UInt8) (h : ∀ x ∈ a, p x = true) (hc : p c = false) : (a ++ c :: r).takeWhile p = a := by
  induction a with
  | nil => simp [hc]
  | cons x a ih =>
    rw [List.cons_append, List.takeWhile_cons, if_pos (h x (List.mem_cons_self ..)), ih fun y hy => h y (List.mem_cons_of_mem _ hy)]
theorem itoa_nat (n : Nat) : itoa (n : Int) = decDigits n := by unfold itoa; rw [if_neg (by omega)]; simp
theorem itoa_len (n : Nat) (h : n ≤ 65536) : (itoa (n : Int)).length ≤ 5 := by
  rw [itoa_nat]
  exact digits_length_le 4 n (by omega)
theorem fld_take (b r : List UInt8) : (fld b ++ r).takeWhile (· != 58) = itoa (b.length : Int) := by
  unfold fld
  rw [List.append_assoc, List.cons_append]
  exact takeWhile_all _ _ _ (itoa_no58 _) rfl
theorem takeF_fld (b r : List UInt8) (most : Nat) (h : b.length ≤ most) (hm : most ≤ 65536) : takeF (fld b ++ r) most = some (b, r) := by
  unfold takeF
  rw [fld_take, if_neg (by have := itoa_len b.length (by omega); omega)]
  have h1 : (fld b ++ r).drop (itoa (b.length : Int)).length = 58 :: (b ++ 44 :: r) := by
    unfold fld
    rw [List.append_assoc, List.drop_left]
    simp
  rw [h1, rd_ok (v := (b.length : Int)) (by omega) (by omega) (by omega) rfl]
  simp
theorem takeF_some {l : List UInt8} {most : Nat} {b r : List UInt8} (h : takeF l most = some (b, r)) (hm : most ≤ 65536) : l = fld b ++ r ∧ b.length ≤ most := by
  unfold takeF at h
  split at h
  · cases h
  · rename_i h7
    rcases hd : l.drop (l.takeWhile (· != 58)).length with _ | ⟨c, r0⟩
    · rw [hd] at h; cases h
    · rw [hd] at h
      simp only at h
      rcases hr : rd (l.takeWhile (· != 58)) (most : Int) with _ | n
      · rw [hr] at h; cases h
      · rw [hr] at h
        simp only at h
        split at h
        · rename_i h44
          obtain ⟨-, hn, hp⟩ := rd_some hr (by omega)
          simp only [Option.some.injEq, Prod.mk.injEq] at h
          obtain ⟨rfl, rfl⟩ := h
          have hlt : n < r0.length := (List.getElem?_eq_some_iff.1 h44).1
          have hbl : (r0.take n).length = n := by rw [List.length_take]; omega
          have hc : c = 58 := by
            have h1 : l = l.takeWhile (· != 58) ++ l.dropWhile (· != 58) := List.takeWhile_append_dropWhile.symm
            have h2 : l.drop (l.takeWhile (· != 58)).length = l.dropWhile (· != 58) := by
              conv => lhs; rw [h1]
              rw [List.takeWhile_append_dropWhile]
              conv => lhs; arg 2; rw [h1]
              rw [List.drop_left]
            rw [h2] at hd
            have h3 := List.head?_dropWhile_not (fun x : UInt8 => x != 58) l
            rw [hd] at h3
            simpa using h3
          refine ⟨?_, by omega⟩
          have h1 : l = l.take (l.takeWhile (· != 58)).length ++ l.drop (l.takeWhile (· != 58)).length := (List.take_append_drop _ _).symm
          have h2 : l.take (l.takeWhile (· != 58)).length = l.takeWhile (· != 58) := by
            have h4 : l = l.takeWhile (· != 58) ++ l.dropWhile (· != 58) := List.takeWhile_append_dropWhile.symm
            generalize l.takeWhile (· != 58) = x at *
            rw [h4, List.take_left]
          rw [h1, hd, h2, hp, hc]
          unfold fld
          rw [hbl]
          have h3 : r0 = r0.take n ++ 44 :: r0.drop (n + 1) := by
            conv => lhs; rw [← List.take_append_drop n r0]
            rw [List.drop_eq_getElem_cons hlt, (List.getElem?_eq_some_iff.1 h44).2]
          conv => lhs; rw [h3]
          simp
        · cases h
theorem fld_pos (b : List UInt8) : 0 < (fld b).length := by unfold fld; simp; omega
theorem takeF_lt {l : List UInt8} {most : Nat} {b r : List UInt8} (h : takeF l most = some (b, r)) (hm : most ≤ 65536) : r.length < l.length := by
  rw [(takeF_some h hm).1, List.length_append]
  have := fld_pos b
  omega

/-- A row taken from the left. -/
def takeR (l : List UInt8) : Option (Rw × List UInt8) := match takeF l 64 with
  | none => none
  | some (n, r) => match takeF r 65536 with
    | none => none
    | some (v, r') => some ((n, v), r')
theorem takeR_enc (x : Rw) (r : List UInt8) (h1 : x.1.length ≤ 64) (h2 : x.2.length ≤ 65536) : takeR (enc x ++ r) = some (x, r) := by
  unfold takeR enc
  rw [List.append_assoc, takeF_fld _ _ _ h1 (by omega)]
  simp only
  rw [takeF_fld _ _ _ h2 (by omega)]
theorem takeR_some {l : List UInt8} {x : Rw} {r : List UInt8} (h : takeR l = some (x, r)) : l = enc x ++ r ∧ x.1.length ≤ 64 ∧ x.2.length ≤ 65536 := by
  unfold takeR at h
  rcases h1 : takeF l 64 with _ | ⟨n, r1⟩
  · rw [h1] at h; cases h
  · rw [h1] at h
    simp only at h
    rcases h2 : takeF r1 65536 with _ | ⟨v, r2⟩
    · rw [h2] at h; cases h
    · rw [h2] at h
      simp only [Option.some.injEq, Prod.mk.injEq] at h
      obtain ⟨rfl, rfl⟩ := h
      obtain ⟨a1, a2⟩ := takeF_some h1 (by omega)
      obtain ⟨b1, b2⟩ := takeF_some h2 (by omega)
      refine ⟨?_, a2, b2⟩
      rw [a1, b1]; unfold enc; rw [List.append_assoc]
theorem enc_pos (x : Rw) : 0 < (enc x).length := by unfold enc; rw [List.length_append]; have := fld_pos x.1; omega
theorem takeR_lt {l : List UInt8} {x : Rw} {r : List UInt8} (h : takeR l = some (x, r)) : r.length < l.length := by
  rw [(takeR_some h).1, List.length_append]; have := enc_pos x; omega

/-- What bytes are read as: the rows, the place of the fault, the error. -/
def unp (total : Nat) (done : List Rw) (rest : List UInt8) : List Rw × Nat × Nat :=
  if rest.length = 0 then (done, 0, 0) else
  match h : takeR rest with
  | none => ([], total - rest.length, 131)
  | some (x, r) => if rowB (done ++ [x]) done.length = true then unp total (done ++ [x]) r else ([], total - rest.length, 131)
termination_by rest.length
decreasing_by exact takeR_lt h

theorem unp_nil (t : Nat) (done : List Rw) : unp t done [] = (done, 0, 0) := by rw [unp]; simp
theorem unp_none {t : Nat} {done : List Rw} {rest : List UInt8} (h0 : 0 < rest.length) (h : takeR rest = none) : unp t done rest = ([], t - rest.length, 131) := by
  rw [unp, if_neg (by omega)]
  split
  · rfl
  · rename_i h'; rw [h] at h'; cases h'
theorem unp_some {t : Nat} {done : List Rw} {rest : List UInt8} {x : Rw} {r : List UInt8} (h : takeR rest = some (x, r)) :
    unp t done rest = if rowB (done ++ [x]) done.length = true then unp t (done ++ [x]) r else ([], t - rest.length, 131) := by
  rw [unp, if_neg (by have := takeR_lt h; omega)]
  split
  · rename_i h'; rw [h] at h'; cases h'
  · rename_i h'; rw [h] at h'; cases h'; rfl

theorem unp_encs (t : Nat) : ∀ (rs done : List Rw), may (done ++ rs) → unp t done (encs rs) = (done ++ rs, 0, 0)
  | [], done, _ => by rw [encs_nil, unp_nil]; simp
  | x :: rs, done, h => by
    have hx := h done.length (by simp)
    obtain ⟨r, hr, _, h1, h2, h3⟩ := rowB_some hx
    have hxr : x = r := by simpa using hr
    subst hxr
    rw [encs_cons, unp_some (takeR_enc x _ h2 h3)]
    have h4 : rowB (done ++ [x]) done.length = true := by
      rw [← hx]
      refine rowB_congr fun j hj => ?_
      rw [show done ++ x :: rs = (done ++ [x]) ++ rs by simp, List.getElem?_append_left (l₁ := done ++ [x]) (by simp; omega)]
    rw [if_pos h4, unp_encs t rs (done ++ [x]) (by simpa using h)]
    simp
theorem unp_ok (t : Nat) (n : Nat) : ∀ (rest : List UInt8) (done : List Rw), rest.length ≤ n →
    (∃ rs, unp t done rest = (done ++ rs, 0, 0) ∧ rest = encs rs ∧ ∀ i, done.length ≤ i → i < (done ++ rs).length → rowB (done ++ rs) i = true) ∨
    (∃ q, 0 < q ∧ q ≤ rest.length ∧ unp t done rest = ([], t - q, 131)) := by
  induction n with
  | zero =>
    intro rest done h
    have : rest = [] := List.eq_nil_of_length_eq_zero (by omega)
    subst this
    exact .inl ⟨[], by rw [unp_nil]; simp, rfl, fun i h1 h2 => by simp at h2; omega⟩
  | succ n ih =>
    intro rest done h
    rcases Nat.eq_zero_or_pos rest.length with h0 | h0
    · have : rest = [] := List.eq_nil_of_length_eq_zero h0
      subst this
      exact .inl ⟨[], by rw [unp_nil]; simp, rfl, fun i h1 h2 => by simp at h2; omega⟩
    · rcases hr : takeR rest with _ | ⟨x, r⟩
      · exact .inr ⟨rest.length, h0, Nat.le_refl _, unp_none h0 hr⟩
      · by_cases hb : rowB (done ++ [x]) done.length = true
        · rw [unp_some hr, if_pos hb]
          have hlt := takeR_lt hr
          rcases ih r (done ++ [x]) (by omega) with ⟨rs, h1, h2, h3⟩ | ⟨q, h1, h2, h3⟩
          · refine .inl ⟨x :: rs, by rw [h1]; simp, by rw [(takeR_some hr).1, h2, encs_cons], ?_⟩
            intro i hi hi2
            rw [show done ++ x :: rs = done ++ [x] ++ rs by simp] at hi2 ⊢
            rcases Nat.eq_or_lt_of_le hi with he | he
            · rw [← he, rowB_append _ _ _ (by simp), hb]
            · exact h3 i (by simp; omega) hi2
          · exact .inr ⟨q, h1, by omega, h3⟩
        · exact .inr ⟨rest.length, h0, Nat.le_refl _, by rw [unp_some hr, if_neg hb]⟩

def unpack (l : List UInt8) : List Rw × Nat × Nat := unp l.length [] l
theorem unpack_encs (rs : List Rw) (h : may rs) : unpack (encs rs) = (rs, 0, 0) := by
  unfold unpack; rw [unp_encs _ rs [] (by simpa using h)]; simp
theorem unpack_cases (l : List UInt8) : (∃ rs, unpack l = (rs, 0, 0) ∧ l = encs rs ∧ may rs) ∨ (∃ p, p < l.length ∧ unpack l = ([], p, 131)) := by
  rcases unp_ok l.length l.length l [] (Nat.le_refl _) with ⟨rs, h1, h2, h3⟩ | ⟨q, h1, h2, h3⟩
  · refine .inl ⟨rs, by unfold unpack; rw [h1]; simp, h2, fun i hi => ?_⟩
    have := h3 i (by simp) (by simpa using hi)
    simpa using this
  · exact .inr ⟨l.length - q, by omega, h3⟩

/-- A beginning of a table's bytes that is a table's bytes. -/
theorem encs_prefix : ∀ (a b : List Rw) (z : List UInt8), (∀ x ∈ a, x.1.length ≤ 64 ∧ x.2.length ≤ 65536) → (∀ x ∈ b, x.1.length ≤ 64 ∧ x.2.length ≤ 65536) → encs b = encs a ++ z → a = b.take a.length
  | [], b, z, _, _, _ => by simp
  | x :: a, [], z, _, _, h => by
    rw [encs_cons] at h
    have := congrArg List.length h
    have h2 := enc_pos x
    simp at this
    omega
  | x :: a, y :: b, z, ha, hb, h => by
    rw [encs_cons, encs_cons] at h
    have hx := ha x (List.mem_cons_self ..)
    have hy := hb y (List.mem_cons_self ..)
    have h1 := takeR_enc y (encs b) hy.1 hy.2
    rw [h, List.append_assoc, takeR_enc x _ hx.1 hx.2] at h1
    simp only [Option.some.injEq, Prod.mk.injEq] at h1
    obtain ⟨rfl, h2⟩ := h1
    have := encs_prefix a b z (fun u hu => ha u (List.mem_cons_of_mem _ hu)) (fun u hu => hb u (List.mem_cons_of_mem _ hu)) h2.symm
    simp only [List.length_cons, List.take_succ_cons]
    rw [← this]
theorem may_mem {rs : List Rw} (h : may rs) : ∀ x ∈ rs, x.1.length ≤ 64 ∧ x.2.length ≤ 65536 := by
  intro x hx
  obtain ⟨i, hi⟩ := List.mem_iff_getElem?.1 hx
  obtain ⟨r, hr, _, _, h2, h3⟩ := rowB_some (h i (List.getElem?_eq_some_iff.1 hi).1)
  rw [hi] at hr
  cases hr
  exact ⟨h2, h3⟩
/-- A beginning of the table's bytes: the table of its whole rows, or none. -/
theorem cut_cases (rs : List Rw) (k : Nat) (h : may rs) (hk : k ≤ (encs rs).length) :
    (∃ i, i ≤ rs.length ∧ (encs (rs.take i)).length = k ∧ unpack ((encs rs).take k) = (rs.take i, 0, 0)) ∨
    ((∀ i, i ≤ rs.length → (encs (rs.take i)).length ≠ k) ∧ ∃ p, p < k ∧ unpack ((encs rs).take k) = ([], p, 131)) := by
  rcases unpack_cases ((encs rs).take k) with ⟨l, h1, h2, h3⟩ | ⟨p, h1, h2⟩
  · left
    have h4 := encs_prefix l rs ((encs rs).drop k) (may_mem h3) (may_mem h) (by rw [← h2, List.take_append_drop])
    have hl : l.length ≤ rs.length := by
      have := congrArg List.length h4
      rw [List.length_take] at this
      omega
    refine ⟨l.length, hl, ?_, ?_⟩
    · rw [← h4, ← h2, List.length_take]; omega
    · rw [h1, ← h4]
  · right
    rw [List.length_take] at h1
    refine ⟨fun i hi hlen => ?_, p, by omega, h2⟩
    have h5 : encs rs = encs (rs.take i) ++ encs (rs.drop i) := by rw [← encs_append, List.take_append_drop]
    have h6 : (encs rs).take k = encs (rs.take i) := by rw [h5, ← hlen, List.take_left]
    rw [h6, unpack_encs _ (may_take h i)] at h2
    simp at h2
theorem encs_take_lt (rs : List Rw) (i j : Nat) (h : i < j) (hj : j ≤ rs.length) : (encs (rs.take i)).length < (encs (rs.take j)).length := by
  have h1 : rs.take j = rs.take i ++ (rs.drop i).take (j - i) := by
    rw [← List.take_add]; congr 1; omega
  rw [h1, encs_append, List.length_append]
  rcases hd : (rs.drop i).take (j - i) with _ | ⟨x, t⟩
  · have := congrArg List.length hd
    simp at this
    omega
  · rw [encs_cons, List.length_append]
    have := enc_pos x
    omega
end Go.Proofs.YteaagngikiaokaaDoor
