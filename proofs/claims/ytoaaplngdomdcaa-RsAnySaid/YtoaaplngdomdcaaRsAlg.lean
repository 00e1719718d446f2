/- The code in plain words: its rows, what a row makes of a column, that any k rows are independent (Cauchy), and how far unlike columns are apart. -/
import Derived.Test.YtoaaplngdomdcaaGf
namespace Go.Proofs.Ytoaaplngdomdcaa

/-- The sum over a list. -/
def sm {α : Type} (l : List α) (f : α → UInt8) : UInt8 := l.foldr (fun i a => f i ^^^ a) 0
section
variable {α β : Type}
@[simp] theorem sm_nil (f : α → UInt8) : sm [] f = 0 := rfl
theorem sm_cons (x : α) (l : List α) (f : α → UInt8) : sm (x :: l) f = f x ^^^ sm l f := rfl
theorem sm_append (l m : List α) (f : α → UInt8) : sm (l ++ m) f = sm l f ^^^ sm m f := by
  induction l with
  | nil => simp
  | cons x l ih => rw [List.cons_append, sm_cons, sm_cons, ih, UInt8.xor_assoc]
theorem xor_mid (a b c d : UInt8) : (a ^^^ b) ^^^ (c ^^^ d) = (a ^^^ c) ^^^ (b ^^^ d) := by
  rw [UInt8.xor_assoc, UInt8.xor_assoc, ← UInt8.xor_assoc b c d, UInt8.xor_comm b c, UInt8.xor_assoc]
theorem sm_xor (l : List α) (f g : α → UInt8) : sm l (fun i => f i ^^^ g i) = sm l f ^^^ sm l g := by
  induction l with
  | nil => simp
  | cons x l ih => rw [sm_cons, sm_cons, sm_cons, ih, xor_mid]
theorem sm_mul (c : UInt8) (l : List α) (f : α → UInt8) : bmul c (sm l f) = sm l fun i => bmul c (f i) := by
  induction l with
  | nil => exact bmul_zero c
  | cons x l ih => rw [sm_cons, sm_cons, bmul_xor, ih]
theorem sm_congr {l : List α} {f g : α → UInt8} (h : ∀ i ∈ l, f i = g i) : sm l f = sm l g := by
  induction l with
  | nil => rfl
  | cons x l ih => rw [sm_cons, sm_cons, h x (by simp), ih fun i hi => h i (by simp [hi])]
theorem sm_zero {l : List α} {f : α → UInt8} (h : ∀ i ∈ l, f i = 0) : sm l f = 0 := by
  induction l with
  | nil => rfl
  | cons x l ih => rw [sm_cons, h x (by simp), ih fun i hi => h i (by simp [hi])]; rfl
theorem sm_map (g : α → β) (l : List α) (f : β → UInt8) : sm (l.map g) f = sm l fun i => f (g i) := by
  induction l with
  | nil => rfl
  | cons x l ih => rw [List.map_cons, sm_cons, sm_cons, ih]
theorem sm_filter {l : List α} {f : α → UInt8} {p : α → Bool} (h : ∀ i ∈ l, p i = false → f i = 0) : sm (l.filter p) f = sm l f := by
  induction l with
  | nil => rfl
  | cons x l ih =>
    have ih := ih fun i hi => h i (by simp [hi])
    cases hp : p x
    · rw [List.filter_cons_of_neg (by simp [hp]), sm_cons, h x (by simp) hp, ih, UInt8.zero_xor]
    · rw [List.filter_cons_of_pos hp, sm_cons, sm_cons, ih]
end

theorem xor_ne {x y : UInt8} (h : x ≠ y) : x ^^^ y ≠ 0 := by
  intro h0
  refine h ?_
  have : x ^^^ y ^^^ y = y := by rw [h0, UInt8.zero_xor]
  rwa [UInt8.xor_assoc, UInt8.xor_self, UInt8.xor_zero] at this

theorem bmul_left (x y z : UInt8) : bmul x (bmul y z) = bmul y (bmul x z) := by rw [← bmul_assoc, bmul_comm x y, bmul_assoc]

theorem cauchy_term (a b c d : UInt8) (ha : a ≠ 0) (hb : b ≠ 0) :
    bmul (a ^^^ c) (bmul d (binv a)) ^^^ bmul (b ^^^ c) (bmul d (binv b)) = bmul (a ^^^ b) (bmul (bmul d (bmul c (binv b))) (binv a)) := by
  have h1 := bmul_inv ha
  have h2 := bmul_inv hb
  rw [xor_bmul, xor_bmul, xor_bmul]
  have e1 : bmul a (bmul d (binv a)) = d := by rw [bmul_left, h1, bmul_one]
  have e2 : bmul b (bmul d (binv b)) = d := by rw [bmul_left, h2, bmul_one]
  have e3 : bmul a (bmul (bmul d (bmul c (binv b))) (binv a)) = bmul c (bmul d (binv b)) := by
    rw [bmul_left, h1, bmul_one, bmul_left]
  have e4 : bmul b (bmul (bmul d (bmul c (binv b))) (binv a)) = bmul c (bmul d (binv a)) := by
    rw [bmul_assoc, bmul_left b d, bmul_assoc c, bmul_left b c, ← bmul_assoc b (binv b), h2, one_bmul, bmul_left]
  rw [e1, e2, e3, e4, xor_mid, UInt8.xor_self, UInt8.zero_xor, UInt8.xor_comm]

/-- Cauchy: as many rows as columns are independent. -/
theorem cauchy (Y : List UInt8) : ∀ (X : List UInt8) (d : UInt8 → UInt8), Y.length ≤ X.length → X.Nodup → Y.Nodup → (∀ x ∈ X, ∀ y ∈ Y, x ≠ y) →
    (∀ x ∈ X, sm Y (fun y => bmul (d y) (binv (x ^^^ y))) = 0) → ∀ y ∈ Y, d y = 0 := by
  induction Y with
  | nil => intro X d _ _ _ _ _ y hy; cases hy
  | cons y0 Y ih =>
    intro X d hl hX hY hne hE
    rcases X with _ | ⟨x0, X⟩
    · simp at hl
    simp only [List.length_cons] at hl
    rw [List.nodup_cons] at hX hY
    have hE0 := hE x0 (by simp)
    rw [sm_cons] at hE0
    have h00 : x0 ^^^ y0 ≠ 0 := xor_ne (hne x0 (by simp) y0 (by simp))
    have hd : ∀ y ∈ Y, d y = 0 := by
      intro y hy
      have h := ih X (fun y => bmul (d y) (bmul (y ^^^ y0) (binv (x0 ^^^ y)))) (by omega) hX.2 hY.2 (fun x hx y hy => hne x (by simp [hx]) y (by simp [hy])) ?_ y hy
      · have hy0 : y ≠ y0 := fun e => hY.1 (e ▸ hy)
        rw [← bmul_assoc, bmul_comm, bmul_comm (d y)] at h
        exact bmul_eq_zero (bmul_eq_zero h (binv_ne (xor_ne (hne x0 (by simp) y (by simp [hy]))))) (xor_ne hy0)
      · intro x hx
        have hx0 : x ≠ x0 := fun e => hX.1 (e ▸ hx)
        have hEx := hE x (by simp [hx])
        rw [sm_cons] at hEx
        have hxy : x ^^^ y0 ≠ 0 := xor_ne (hne x (by simp [hx]) y0 (by simp))
        have a1 := congrArg (bmul (x ^^^ y0)) hEx
        have a2 := congrArg (bmul (x0 ^^^ y0)) hE0
        rw [bmul_xor, bmul_left, bmul_inv hxy, bmul_one, bmul_zero, sm_mul] at a1
        rw [bmul_xor, bmul_left, bmul_inv h00, bmul_one, bmul_zero, sm_mul] at a2
        have a3 : (0 : UInt8) = 0 ^^^ 0 := rfl
        rw [← a1] at a3
        rw [← a1] at a2
        have a4 : (d y0 ^^^ sm Y fun i => bmul (x ^^^ y0) (bmul (d i) (binv (x ^^^ i)))) ^^^ (d y0 ^^^ sm Y fun i => bmul (x0 ^^^ y0) (bmul (d i) (binv (x0 ^^^ i)))) = 0 := by rw [a2, UInt8.xor_self]
        rw [xor_mid, UInt8.xor_self, UInt8.zero_xor, ← sm_xor] at a4
        refine bmul_eq_zero (x := x ^^^ x0) ?_ (xor_ne hx0)
        rw [sm_mul, ← a4]
        refine sm_congr fun y hy => ?_
        have t := cauchy_term (x ^^^ y) (x0 ^^^ y) (y ^^^ y0) (d y) (xor_ne (hne x (by simp [hx]) y (by simp [hy]))) (xor_ne (hne x0 (by simp) y (by simp [hy])))
        have c1 : ∀ u : UInt8, u ^^^ y ^^^ (y ^^^ y0) = u ^^^ y0 := fun u => by rw [UInt8.xor_assoc, ← UInt8.xor_assoc y, UInt8.xor_self, UInt8.zero_xor]
        have c2 : x ^^^ y ^^^ (x0 ^^^ y) = x ^^^ x0 := by rw [xor_mid, UInt8.xor_self, UInt8.xor_zero]
        rw [c1, c1, c2] at t
        exact t.symm
    intro y hy
    rcases List.mem_cons.1 hy with rfl | hy
    · rw [sm_zero (fun y hy => by rw [hd y hy, zero_bmul]), UInt8.xor_zero, bmul_comm] at hE0
      exact bmul_eq_zero hE0 (binv_ne h00)
    · exact hd y hy

/-- An element of the code's matrix. -/
def ent (k i j : Nat) : UInt8 := if k ≤ i then binv (UInt8.ofNat (i ^^^ j)) else if i = j then 1 else 0
/-- What row i makes of a column. -/
def encv (k i : Nat) (d : Nat → UInt8) : UInt8 := sm (List.range k) fun j => bmul (ent k i j) (d j)
theorem encv_xor (k i : Nat) (d e : Nat → UInt8) : encv k i (fun j => d j ^^^ e j) = encv k i d ^^^ encv k i e := by
  unfold encv
  rw [← sm_xor]
  exact sm_congr fun j _ => bmul_xor _ _ _
theorem encv_congr {k i : Nat} {d e : Nat → UInt8} (h : ∀ j, j < k → d j = e j) : encv k i d = encv k i e :=
  sm_congr fun j hj => by rw [h j (List.mem_range.1 hj)]
theorem sm_at (m i : Nat) (d : Nat → UInt8) : sm (List.range m) (fun j => if i = j then d j else 0) = if i < m then d i else 0 := by
  induction m with
  | zero => rfl
  | succ m ih =>
    rw [List.range_succ, sm_append, ih, sm_cons, sm_nil, UInt8.xor_zero]
    rcases Nat.lt_trichotomy i m with h | h | h
    · rw [if_pos h, if_neg (by omega), if_pos (by omega), UInt8.xor_zero]
    · subst h; rw [if_neg (by omega), if_pos rfl, if_pos (by omega), UInt8.zero_xor]
    · rw [if_neg (by omega), if_neg (by omega), if_neg (by omega), UInt8.xor_zero]
theorem encv_sys {k i : Nat} (d : Nat → UInt8) (h : i < k) : encv k i d = d i := by
  have e : encv k i d = sm (List.range k) (fun j => if i = j then d j else 0) := sm_congr fun j _ => by
    unfold ent
    rw [if_neg (by omega)]
    split
    · exact one_bmul _
    · exact zero_bmul _
  rw [e, sm_at, if_pos h]

theorem nodup_len {α : Type} [DecidableEq α] (l : List α) : ∀ m : List α, l.Nodup → (∀ x ∈ l, x ∈ m) → l.length ≤ m.length := by
  induction l with
  | nil => intro m _ _; simp
  | cons a l ih =>
    intro m hn hs
    rw [List.nodup_cons] at hn
    have ha := hs a (by simp)
    have h1 := List.length_erase_of_mem ha
    have h2 := List.length_pos_of_mem ha
    have := ih (m.erase a) hn.2 fun x hx => (List.mem_erase_of_ne (a := x) (b := a) (fun e => by subst e; exact hn.1 hx)).2 (hs x (by simp [hx]))
    simp only [List.length_cons]
    omega
theorem len_split {α : Type} (p : α → Bool) (l : List α) : (l.filter p).length + (l.filter fun x => !p x).length = l.length := by
  induction l with
  | nil => rfl
  | cons a l ih =>
    cases hp : p a
    · rw [List.filter_cons_of_neg (by simp [hp]), List.filter_cons_of_pos (by simp [hp])]; simp only [List.length_cons]; omega
    · rw [List.filter_cons_of_pos hp, List.filter_cons_of_neg (by simp [hp])]; simp only [List.length_cons]; omega

theorem ofNat_toNat8 {j : Nat} (h : j < 256) : (UInt8.ofNat j).toNat = j := by rw [UInt8.toNat_ofNat']; exact Nat.mod_eq_of_lt h
theorem ofNat_inj8 {i j : Nat} (hi : i < 256) (hj : j < 256) (h : UInt8.ofNat i = UInt8.ofNat j) : i = j := by
  have := congrArg UInt8.toNat h
  rwa [ofNat_toNat8 hi, ofNat_toNat8 hj] at this
theorem ofNat_xor8 {i j : Nat} (hi : i < 256) (hj : j < 256) : UInt8.ofNat (i ^^^ j) = UInt8.ofNat i ^^^ UInt8.ofNat j := by
  apply UInt8.toNat_inj.1
  rw [UInt8.toNat_xor, ofNat_toNat8 hi, ofNat_toNat8 hj, ofNat_toNat8 (xor_lt hi hj)]
theorem nodup_map8 {l : List Nat} (hn : l.Nodup) (h : ∀ i ∈ l, i < 256) : (l.map UInt8.ofNat).Nodup := by
  induction l with
  | nil => simp
  | cons a l ih =>
    rw [List.nodup_cons] at hn
    rw [List.map_cons, List.nodup_cons]
    refine ⟨fun hm => ?_, ih hn.2 fun i hi => h i (by simp [hi])⟩
    obtain ⟨b, hb, he⟩ := List.mem_map.1 hm
    have hba := ofNat_inj8 (h b (by simp [hb])) (h a (by simp)) he
    subst hba
    exact hn.1 hb

/-- Any k rows are independent. -/
theorem mds (k : Nat) (I : List Nat) (d : Nat → UInt8) (hk : k ≤ 256) (hI : I.Nodup) (hb : ∀ i ∈ I, i < 256) (hl : k ≤ I.length) (h : ∀ i ∈ I, encv k i d = 0) :
    ∀ j, j < k → d j = 0 := by
  have hsys : ∀ j, j < k → j ∈ I → d j = 0 := fun j hj hjI => by rw [← encv_sys d hj]; exact h j hjI
  intro j hj
  by_cases hjI : j ∈ I
  · exact hsys j hj hjI
  have hlen : (((List.range k).filter fun j => decide (j ∉ I)).map UInt8.ofNat).length ≤ ((I.filter fun i => decide (k ≤ i)).map UInt8.ofNat).length := by
    rw [List.length_map, List.length_map]
    have h1 := len_split (fun j => decide (j ∈ I)) (List.range k)
    have h2 := len_split (fun i => decide (k ≤ i)) I
    have h3 := nodup_len (I.filter fun i => !decide (k ≤ i)) ((List.range k).filter fun j => decide (j ∈ I)) (hI.filter _) (fun x hx => by
      simp only [List.mem_filter, Bool.not_eq_true', decide_eq_false_iff_not] at hx
      simp only [List.mem_filter, List.mem_range, decide_eq_true_eq]
      exact ⟨by omega, hx.1⟩)
    rw [List.length_range] at h1
    have h4 : (List.range k).filter (fun j => decide (j ∉ I)) = (List.range k).filter (fun x => !decide (x ∈ I)) := by
      congr 1; funext x; simp
    rw [h4]
    omega
  have hc := cauchy _ ((I.filter fun i => decide (k ≤ i)).map UInt8.ofNat) (fun y => d y.toNat) hlen
    (nodup_map8 (hI.filter _) fun i hi => hb i (List.mem_filter.1 hi).1)
    (nodup_map8 (List.nodup_range.filter _) fun i hi => by have := List.mem_range.1 (List.mem_filter.1 hi).1; omega) ?_ ?_ (UInt8.ofNat j) ?_
  · have := hc
    rwa [ofNat_toNat8 (by omega)] at this
  · intro x hx y hy
    obtain ⟨i, hi, rfl⟩ := List.mem_map.1 hx
    obtain ⟨m, hm, rfl⟩ := List.mem_map.1 hy
    have hi2 := List.mem_filter.1 hi
    have hm2 := List.mem_filter.1 hm
    have a1 := hb i hi2.1
    have a2 := of_decide_eq_true hi2.2
    have a3 := List.mem_range.1 hm2.1
    exact fun e => by have := ofNat_inj8 a1 (by omega) e; omega
  · intro x hx
    obtain ⟨i, hi, rfl⟩ := List.mem_map.1 hx
    have hi2 := List.mem_filter.1 hi
    have a1 := hb i hi2.1
    have a2 := of_decide_eq_true hi2.2
    rw [sm_map]
    have e : sm ((List.range k).filter fun j => decide (j ∉ I)) (fun j => bmul (d (UInt8.ofNat j).toNat) (binv (UInt8.ofNat i ^^^ UInt8.ofNat j))) = sm ((List.range k).filter fun j => decide (j ∉ I)) (fun j => bmul (ent k i j) (d j)) := sm_congr fun m hm => by
      have a3 := List.mem_range.1 (List.mem_filter.1 hm).1
      unfold ent
      rw [if_pos a2, ofNat_toNat8 (by omega), ofNat_xor8 a1 (by omega), bmul_comm]
    rw [e, sm_filter, ← h i hi2.1]
    · rfl
    · intro m hm hmI
      have hmI : m ∈ I := by simpa using hmI
      rw [hsys m (List.mem_range.1 hm) hmI, bmul_zero]
  · exact List.mem_map.2 ⟨j, List.mem_filter.2 ⟨List.mem_range.2 hj, by simpa using hjI⟩, rfl⟩

/-- How many of the first n are so. -/
def cnt (u : Nat → Bool) (n : Nat) : Nat := ((List.range n).filter u).length
theorem cnt_succ (u : Nat → Bool) (n : Nat) : cnt u (n + 1) = cnt u n + if u n then 1 else 0 := by
  unfold cnt
  rw [List.range_succ, List.filter_append, List.length_append]
  congr 1
  cases h : u n <;> simp [h]
theorem cnt_zero {u : Nat → Bool} (n : Nat) (h : ∀ i, i < n → u i = false) : cnt u n = 0 := by
  induction n with
  | zero => rfl
  | succ n ih => rw [cnt_succ, ih fun i hi => h i (by omega), h n (by omega)]; rfl
theorem cnt_le (u : Nat → Bool) (n : Nat) : cnt u n ≤ n := by
  have := List.length_filter_le u (List.range n)
  rwa [List.length_range] at this

/-- Unlike columns are unlike in n - k + 1 places at least. -/
theorem far (k n : Nat) (hk : k ≤ n) (hn : n ≤ 255) (u : Nat → Bool) (z : Nat → UInt8) (h : ∀ i, i < n → u i = false → encv k i z = 0) :
    n + 1 ≤ cnt u n + k ∨ ∀ j, j < k → z j = 0 := by
  have hs := len_split u (List.range n)
  rw [List.length_range] at hs
  by_cases hc : n + 1 ≤ cnt u n + k
  · exact .inl hc
  · refine .inr (mds k ((List.range n).filter fun x => !u x) z (by omega) (List.nodup_range.filter _) (fun i hi => ?_) (by unfold cnt at hc; omega) fun i hi => ?_)
    · have := List.mem_range.1 (List.mem_filter.1 hi).1; omega
    · have h2 := List.mem_filter.1 hi
      exact h i (List.mem_range.1 h2.1) (by simpa using h2.2)

end Go.Proofs.Ytoaaplngdomdcaa
