/- Joined texts: RsAlg, MxP, MvI, Bst, MvJ, MvK, DrP, MvL, MvP, MvQ, MvR, KitW, MvN, Cvt, MvS, MvT. -/
import Derived.Test.YtoaaplngdomdcaaGreatJ2
import Derived.Test.YtoaaplngdomdcaaGreatJ4
import Derived.Test.YtoaaplngdomdcaaGreatJ1
import Derived.Laws.ResultCell
import Derived.Deep.DeepCutAuto

/- The code in plain words: its rows, what a row makes of a column, that any k rows are independent (Cauchy), and how far unlike columns are apart. -/
namespace Go.Proofs.YtoaaplngdomdcaaGreat

/-- The sum over a list. -/
def sm {α : Type} (l : List α) (f : α → UInt8) : UInt8 := l.foldr (fun i a => f i ^^^ a) 0
section
variable {α β : Type}
@[simp] theorem sm_nil (f : α → UInt8) : sm [] f = 0 := rfl
theorem sm_cons (x : α) (l : List α) (f : α → UInt8) : sm (x :: l) f = f x ^^^ sm l f := rfl
theorem sm_append (l m : List α) (f : α → UInt8) : sm (l ++ m) f = sm l f ^^^ sm m f := by
  induction l with
  | nil => simp
  | cons x l ih => rw [List.cons_append, sm_cons, sm_cons, ih, UInt8.xor_assoc]
theorem xor_mid (a b c d : UInt8) : (a ^^^ b) ^^^ (c ^^^ d) = (a ^^^ c) ^^^ (b ^^^ d) := by
  rw [UInt8.xor_assoc, UInt8.xor_assoc, ← UInt8.xor_assoc b c d, UInt8.xor_comm b c, UInt8.xor_assoc]
theorem sm_xor (l : List α) (f g : α → UInt8) : sm l (fun i => f i ^^^ g i) = sm l f ^^^ sm l g := by
  induction l with
  | nil => simp
  | cons x l ih => rw [sm_cons, sm_cons, sm_cons, ih, xor_mid]
theorem sm_mul (c : UInt8) (l : List α) (f : α → UInt8) : bmul c (sm l f) = sm l fun i => bmul c (f i) := by
  induction l with
  | nil => exact bmul_zero c
  | cons x l ih => rw [sm_cons, sm_cons, bmul_xor, ih]
theorem sm_congr {l : List α} {f g : α → UInt8} (h : ∀ i ∈ l, f i = g i) : sm l f = sm l g := by
  induction l with
  | nil => rfl
  | cons x l ih => rw [sm_cons, sm_cons, h x (by simp), ih fun i hi => h i (by simp [hi])]
theorem sm_zero {l : List α} {f : α → UInt8} (h : ∀ i ∈ l, f i = 0) : sm l f = 0 := by
  induction l with
  | nil => rfl
  | cons x l ih => rw [sm_cons, h x (by simp), ih fun i hi => h i (by simp [hi])]; rfl
theorem sm_map (g : α → β) (l : List α) (f : β → UInt8) : sm (l.map g) f = sm l fun i => f (g i) := by
  induction l with
  | nil => rfl
  | cons x l ih => rw [List.map_cons, sm_cons, sm_cons, ih]
theorem sm_filter {l : List α} {f : α → UInt8} {p : α → Bool} (h : ∀ i ∈ l, p i = false → f i = 0) : sm (l.filter p) f = sm l f := by
  induction l with
  | nil => rfl
  | cons x l ih =>
    have ih := ih fun i hi => h i (by simp [hi])
    cases hp : p x
    · rw [List.filter_cons_of_neg (by simp [hp]), sm_cons, h x (by simp) hp, ih, UInt8.zero_xor]
    · rw [List.filter_cons_of_pos hp, sm_cons, sm_cons, ih]
end

theorem xor_ne {x y : UInt8} (h : x ≠ y) : x ^^^ y ≠ 0 := by
  intro h0
  refine h ?_
  have : x ^^^ y ^^^ y = y := by rw [h0, UInt8.zero_xor]
  rwa [UInt8.xor_assoc, UInt8.xor_self, UInt8.xor_zero] at this

theorem bmul_left (x y z : UInt8) : bmul x (bmul y z) = bmul y (bmul x z) := by rw [← bmul_assoc, bmul_comm x y, bmul_assoc]

theorem cauchy_term (a b c d : UInt8) (ha : a ≠ 0) (hb : b ≠ 0) :
    bmul (a ^^^ c) (bmul d (binv a)) ^^^ bmul (b ^^^ c) (bmul d (binv b)) = bmul (a ^^^ b) (bmul (bmul d (bmul c (binv b))) (binv a)) := by
  have h1 := bmul_inv ha
  have h2 := bmul_inv hb
  rw [xor_bmul, xor_bmul, xor_bmul]
  have e1 : bmul a (bmul d (binv a)) = d := by rw [bmul_left, h1, bmul_one]
  have e2 : bmul b (bmul d (binv b)) = d := by rw [bmul_left, h2, bmul_one]
  have e3 : bmul a (bmul (bmul d (bmul c (binv b))) (binv a)) = bmul c (bmul d (binv b)) := by
    rw [bmul_left, h1, bmul_one, bmul_left]
  have e4 : bmul b (bmul (bmul d (bmul c (binv b))) (binv a)) = bmul c (bmul d (binv a)) := by
    rw [bmul_assoc, bmul_left b d, bmul_assoc c, bmul_left b c, ← bmul_assoc b (binv b), h2, one_bmul, bmul_left]
  rw [e1, e2, e3, e4, xor_mid, UInt8.xor_self, UInt8.zero_xor, UInt8.xor_comm]

/-- Cauchy: as many rows as columns are independent. -/
theorem cauchy (Y : List UInt8) : ∀ (X : List UInt8) (d : UInt8 → UInt8), Y.length ≤ X.length → X.Nodup → Y.Nodup → (∀ x ∈ X, ∀ y ∈ Y, x ≠ y) →
    (∀ x ∈ X, sm Y (fun y => bmul (d y) (binv (x ^^^ y))) = 0) → ∀ y ∈ Y, d y = 0 := by
  induction Y with
  | nil => intro X d _ _ _ _ _ y hy; cases hy
  | cons y0 Y ih =>
    intro X d hl hX hY hne hE
    rcases X with _ | ⟨x0, X⟩
    · simp at hl
    simp only [List.length_cons] at hl
    rw [List.nodup_cons] at hX hY
    have hE0 := hE x0 (by simp)
    rw [sm_cons] at hE0
    have h00 : x0 ^^^ y0 ≠ 0 := xor_ne (hne x0 (by simp) y0 (by simp))
    have hd : ∀ y ∈ Y, d y = 0 := by
      intro y hy
      have h := ih X (fun y => bmul (d y) (bmul (y ^^^ y0) (binv (x0 ^^^ y)))) (by omega) hX.2 hY.2 (fun x hx y hy => hne x (by simp [hx]) y (by simp [hy])) ?_ y hy
      · have hy0 : y ≠ y0 := fun e => hY.1 (e ▸ hy)
        rw [← bmul_assoc, bmul_comm, bmul_comm (d y)] at h
        exact bmul_eq_zero (bmul_eq_zero h (binv_ne (xor_ne (hne x0 (by simp) y (by simp [hy]))))) (xor_ne hy0)
      · intro x hx
        have hx0 : x ≠ x0 := fun e => hX.1 (e ▸ hx)
        have hEx := hE x (by simp [hx])
        rw [sm_cons] at hEx
        have hxy : x ^^^ y0 ≠ 0 := xor_ne (hne x (by simp [hx]) y0 (by simp))
        have a1 := congrArg (bmul (x ^^^ y0)) hEx
        have a2 := congrArg (bmul (x0 ^^^ y0)) hE0
        rw [bmul_xor, bmul_left, bmul_inv hxy, bmul_one, bmul_zero, sm_mul] at a1
        rw [bmul_xor, bmul_left, bmul_inv h00, bmul_one, bmul_zero, sm_mul] at a2
        have a3 : (0 : UInt8) = 0 ^^^ 0 := rfl
        rw [← a1] at a3
        rw [← a1] at a2
        have a4 : (d y0 ^^^ sm Y fun i => bmul (x ^^^ y0) (bmul (d i) (binv (x ^^^ i)))) ^^^ (d y0 ^^^ sm Y fun i => bmul (x0 ^^^ y0) (bmul (d i) (binv (x0 ^^^ i)))) = 0 := by rw [a2, UInt8.xor_self]
        rw [xor_mid, UInt8.xor_self, UInt8.zero_xor, ← sm_xor] at a4
        refine bmul_eq_zero (x := x ^^^ x0) ?_ (xor_ne hx0)
        rw [sm_mul, ← a4]
        refine sm_congr fun y hy => ?_
        have t := cauchy_term (x ^^^ y) (x0 ^^^ y) (y ^^^ y0) (d y) (xor_ne (hne x (by simp [hx]) y (by simp [hy]))) (xor_ne (hne x0 (by simp) y (by simp [hy])))
        have c1 : ∀ u : UInt8, u ^^^ y ^^^ (y ^^^ y0) = u ^^^ y0 := fun u => by rw [UInt8.xor_assoc, ← UInt8.xor_assoc y, UInt8.xor_self, UInt8.zero_xor]
        have c2 : x ^^^ y ^^^ (x0 ^^^ y) = x ^^^ x0 := by rw [xor_mid, UInt8.xor_self, UInt8.xor_zero]
        rw [c1, c1, c2] at t
        exact t.symm
    intro y hy
    rcases List.mem_cons.1 hy with rfl | hy
    · rw [sm_zero (fun y hy => by rw [hd y hy, zero_bmul]), UInt8.xor_zero, bmul_comm] at hE0
      exact bmul_eq_zero hE0 (binv_ne h00)
    · exact hd y hy

/-- An element of the code's matrix. -/
def ent (k i j : Nat) : UInt8 := if k ≤ i then binv (UInt8.ofNat (i ^^^ j)) else if i = j then 1 else 0
/-- What row i makes of a column. -/
def encv (k i : Nat) (d : Nat → UInt8) : UInt8 := sm (List.range k) fun j => bmul (ent k i j) (d j)
theorem encv_xor (k i : Nat) (d e : Nat → UInt8) : encv k i (fun j => d j ^^^ e j) = encv k i d ^^^ encv k i e := by
  unfold encv
  rw [← sm_xor]
  exact sm_congr fun j _ => bmul_xor _ _ _
theorem encv_congr {k i : Nat} {d e : Nat → UInt8} (h : ∀ j, j < k → d j = e j) : encv k i d = encv k i e :=
  sm_congr fun j hj => by rw [h j (List.mem_range.1 hj)]
theorem sm_at (m i : Nat) (d : Nat → UInt8) : sm (List.range m) (fun j => if i = j then d j else 0) = if i < m then d i else 0 := by
  induction m with
  | zero => rfl
  | succ m ih =>
    rw [List.range_succ, sm_append, ih, sm_cons, sm_nil, UInt8.xor_zero]
    rcases Nat.lt_trichotomy i m with h | h | h
    · rw [if_pos h, if_neg (by omega), if_pos (by omega), UInt8.xor_zero]
    · subst h; rw [if_neg (by omega), if_pos rfl, if_pos (by omega), UInt8.zero_xor]
    · rw [if_neg (by omega), if_neg (by omega), if_neg (by omega), UInt8.xor_zero]
theorem encv_sys {k i : Nat} (d : Nat → UInt8) (h : i < k) : encv k i d = d i := by
  have e : encv k i d = sm (List.range k) (fun j => if i = j then d j else 0) := sm_congr fun j _ => by
    unfold ent
    rw [if_neg (by omega)]
    split
    · exact one_bmul _
    · exact zero_bmul _
  rw [e, sm_at, if_pos h]

theorem nodup_len {α : Type} [DecidableEq α] (l : List α) : ∀ m : List α, l.Nodup → (∀ x ∈ l, x ∈ m) → l.length ≤ m.length := by
  induction l with
  | nil => intro m _ _; simp
  | cons a l ih =>
    intro m hn hs
    rw [List.nodup_cons] at hn
    have ha := hs a (by simp)
    have h1 := List.length_erase_of_mem ha
    have h2 := List.length_pos_of_mem ha
    have := ih (m.erase a) hn.2 fun x hx => (List.mem_erase_of_ne (a := x) (b := a) (fun e => by subst e; exact hn.1 hx)).2 (hs x (by simp [hx]))
    simp only [List.length_cons]
    omega
theorem len_split {α : Type} (p : α → Bool) (l : List α) : (l.filter p).length + (l.filter fun x => !p x).length = l.length := by
  induction l with
  | nil => rfl
  | cons a l ih =>
    cases hp : p a
    · rw [List.filter_cons_of_neg (by simp [hp]), List.filter_cons_of_pos (by simp [hp])]; simp only [List.length_cons]; omega
    · rw [List.filter_cons_of_pos hp, List.filter_cons_of_neg (by simp [hp])]; simp only [List.length_cons]; omega

theorem ofNat_toNat8 {j : Nat} (h : j < 256) : (UInt8.ofNat j).toNat = j := by rw [UInt8.toNat_ofNat']; exact Nat.mod_eq_of_lt h
theorem ofNat_inj8 {i j : Nat} (hi : i < 256) (hj : j < 256) (h : UInt8.ofNat i = UInt8.ofNat j) : i = j := by
  have := congrArg UInt8.toNat h
  rwa [ofNat_toNat8 hi, ofNat_toNat8 hj] at this
theorem ofNat_xor8 {i j : Nat} (hi : i < 256) (hj : j < 256) : UInt8.ofNat (i ^^^ j) = UInt8.ofNat i ^^^ UInt8.ofNat j := by
  apply UInt8.toNat_inj.1
  rw [UInt8.toNat_xor, ofNat_toNat8 hi, ofNat_toNat8 hj, ofNat_toNat8 (xor_lt hi hj)]
theorem nodup_map8 {l : List Nat} (hn : l.Nodup) (h : ∀ i ∈ l, i < 256) : (l.map UInt8.ofNat).Nodup := by
  induction l with
  | nil => simp
  | cons a l ih =>
    rw [List.nodup_cons] at hn
    rw [List.map_cons, List.nodup_cons]
    refine ⟨fun hm => ?_, ih hn.2 fun i hi => h i (by simp [hi])⟩
    obtain ⟨b, hb, he⟩ := List.mem_map.1 hm
    have hba := ofNat_inj8 (h b (by simp [hb])) (h a (by simp)) he
    subst hba
    exact hn.1 hb

/-- Any k rows are independent. -/
theorem mds (k : Nat) (I : List Nat) (d : Nat → UInt8) (hk : k ≤ 256) (hI : I.Nodup) (hb : ∀ i ∈ I, i < 256) (hl : k ≤ I.length) (h : ∀ i ∈ I, encv k i d = 0) :
    ∀ j, j < k → d j = 0 := by
  have hsys : ∀ j, j < k → j ∈ I → d j = 0 := fun j hj hjI => by rw [← encv_sys d hj]; exact h j hjI
  intro j hj
  by_cases hjI : j ∈ I
  · exact hsys j hj hjI
  have hlen : (((List.range k).filter fun j => decide (j ∉ I)).map UInt8.ofNat).length ≤ ((I.filter fun i => decide (k ≤ i)).map UInt8.ofNat).length := by
    rw [List.length_map, List.length_map]
    have h1 := len_split (fun j => decide (j ∈ I)) (List.range k)
    have h2 := len_split (fun i => decide (k ≤ i)) I
    have h3 := nodup_len (I.filter fun i => !decide (k ≤ i)) ((List.range k).filter fun j => decide (j ∈ I)) (hI.filter _) (fun x hx => by
      simp only [List.mem_filter, Bool.not_eq_true', decide_eq_false_iff_not] at hx
      simp only [List.mem_filter, List.mem_range, decide_eq_true_eq]
      exact ⟨by omega, hx.1⟩)
    rw [List.length_range] at h1
    have h4 : (List.range k).filter (fun j => decide (j ∉ I)) = (List.range k).filter (fun x => !decide (x ∈ I)) := by
      congr 1; funext x; simp
    rw [h4]
    omega
  have hc := cauchy _ ((I.filter fun i => decide (k ≤ i)).map UInt8.ofNat) (fun y => d y.toNat) hlen
    (nodup_map8 (hI.filter _) fun i hi => hb i (List.mem_filter.1 hi).1)
    (nodup_map8 (List.nodup_range.filter _) fun i hi => by have := List.mem_range.1 (List.mem_filter.1 hi).1; omega) ?_ ?_ (UInt8.ofNat j) ?_
  · have := hc
    rwa [ofNat_toNat8 (by omega)] at this
  · intro x hx y hy
    obtain ⟨i, hi, rfl⟩ := List.mem_map.1 hx
    obtain ⟨m, hm, rfl⟩ := List.mem_map.1 hy
    have hi2 := List.mem_filter.1 hi
    have hm2 := List.mem_filter.1 hm
    have a1 := hb i hi2.1
    have a2 := of_decide_eq_true hi2.2
    have a3 := List.mem_range.1 hm2.1
    exact fun e => by have := ofNat_inj8 a1 (by omega) e; omega
  · intro x hx
    obtain ⟨i, hi, rfl⟩ := List.mem_map.1 hx
    have hi2 := List.mem_filter.1 hi
    have a1 := hb i hi2.1
    have a2 := of_decide_eq_true hi2.2
    rw [sm_map]
    have e : sm ((List.range k).filter fun j => decide (j ∉ I)) (fun j => bmul (d (UInt8.ofNat j).toNat) (binv (UInt8.ofNat i ^^^ UInt8.ofNat j))) = sm ((List.range k).filter fun j => decide (j ∉ I)) (fun j => bmul (ent k i j) (d j)) := sm_congr fun m hm => by
      have a3 := List.mem_range.1 (List.mem_filter.1 hm).1
      unfold ent
      rw [if_pos a2, ofNat_toNat8 (by omega), ofNat_xor8 a1 (by omega), bmul_comm]
    rw [e, sm_filter, ← h i hi2.1]
    · rfl
    · intro m hm hmI
      have hmI : m ∈ I := by simpa using hmI
      rw [hsys m (List.mem_range.1 hm) hmI, bmul_zero]
  · exact List.mem_map.2 ⟨j, List.mem_filter.2 ⟨List.mem_range.2 hj, by simpa using hjI⟩, rfl⟩

/-- How many of the first n are so. -/
def cnt (u : Nat → Bool) (n : Nat) : Nat := ((List.range n).filter u).length
theorem cnt_succ (u : Nat → Bool) (n : Nat) : cnt u (n + 1) = cnt u n + if u n then 1 else 0 := by
  unfold cnt
  rw [List.range_succ, List.filter_append, List.length_append]
  congr 1
  cases h : u n <;> simp [h]
theorem cnt_zero {u : Nat → Bool} (n : Nat) (h : ∀ i, i < n → u i = false) : cnt u n = 0 := by
  induction n with
  | zero => rfl
  | succ n ih => rw [cnt_succ, ih fun i hi => h i (by omega), h n (by omega)]; rfl
theorem cnt_le (u : Nat → Bool) (n : Nat) : cnt u n ≤ n := by
  have := List.length_filter_le u (List.range n)
  rwa [List.length_range] at this

/-- Unlike columns are unlike in n - k + 1 places at least. -/
theorem far (k n : Nat) (hk : k ≤ n) (hn : n ≤ 255) (u : Nat → Bool) (z : Nat → UInt8) (h : ∀ i, i < n → u i = false → encv k i z = 0) :
    n + 1 ≤ cnt u n + k ∨ ∀ j, j < k → z j = 0 := by
  have hs := len_split u (List.range n)
  rw [List.length_range] at hs
  by_cases hc : n + 1 ≤ cnt u n + k
  · exact .inl hc
  · refine .inr (mds k ((List.range n).filter fun x => !u x) z (by omega) (List.nodup_range.filter _) (fun i hi => ?_) (by unfold cnt at hc; omega) fun i hi => ?_)
    · have := List.mem_range.1 (List.mem_filter.1 hi).1; omega
    · have h2 := List.mem_filter.1 hi
      exact h i (List.mem_range.1 h2.1) (by simpa using h2.2)

end Go.Proofs.YtoaaplngdomdcaaGreat

/- Plain: what the statements on matrices and codes ask of inverses, ranks, products and solutions. -/
namespace Go.Proofs.YtoaaplngdomdcaaGreat
namespace Fd
variable {α : Type} {F : Fd α}
/-- The rank of a square of n. -/
def rank (F : Fd α) (n : Nat) (M : Mat α) : Nat := (F.red n M n).2
/-- What stands behind, once the identity stands in front. -/
def invM (F : Fd α) (n : Nat) (M : Mat α) : Mat α := fun i j => (F.red n (beside n M F.ident) n).1 i (n + j)
def sol (F : Fd α) (n : Nat) (M : Mat α) (l : Nat → α) : Nat → α := fun i => (F.red n (beside n M fun i _ => F.add (l i) F.zero) n).1 i n
theorem rank_beside (n : Nat) (M N : Mat α) : (F.red n (beside n M N) n).2 = F.rank n M := red_beside_rank n M N
theorem rank_le (n : Nat) (M : Mat α) : F.rank n M ≤ n := (red_rank n M n).2
theorem Ok.invM_inv (h : F.Ok) {n : Nat} {M : Mat α} (hr : F.rank n M = n) : F.IsInv n M (F.invM n M) := h.inverse n M (by rw [rank_beside]; exact hr)
theorem IsInv.full {n : Nat} {M X : Mat α} (h : F.Ok) (hi : F.IsInv n M X) : F.rank n M = n := (h.rank_inj n M).2 (hi.inj h)
theorem Ok.right (h : F.Ok) {n : Nat} {M : Mat α} (hr : F.rank n M = n) {i j : Nat} (hi : i < n) (hj : j < n) : F.mulm n M (F.invM n M) i j = F.ident i j := (h.invM_inv hr).mul_right h hi hj
theorem Ok.left (h : F.Ok) {n : Nat} {M : Mat α} (hr : F.rank n M = n) {i j : Nat} (hi : i < n) (hj : j < n) : F.mulm n (F.invM n M) M i j = F.ident i j := (h.invM_inv hr).symm.mul_right h hi hj
theorem Ok.inv_full (h : F.Ok) {n : Nat} {M : Mat α} (hr : F.rank n M = n) : F.rank n (F.invM n M) = n := (h.invM_inv hr).symm.full h
theorem Ok.back (h : F.Ok) {n : Nat} {M : Mat α} (hr : F.rank n M = n) {i j : Nat} (hi : i < n) (hj : j < n) : F.invM n (F.invM n M) i j = M i j :=
  (h.invM_inv (h.inv_full hr)).unique h (h.invM_inv hr).symm hi hj
theorem Ok.solves (h : F.Ok) {n : Nat} {M : Mat α} (hr : F.rank n M = n) (l : Nat → α) {i : Nat} (hi : i < n) : F.dot n (M i) (F.sol n M l) = l i := by
  have := (h.red_beside n 1 M (fun i _ => F.add (l i) F.zero) (F.sol n M l) (fun _ => F.one) (by rw [rank_beside]; exact hr)).2 (fun k _ => by
    unfold dot sum sum sol
    rw [h.zero_add]
    show _ = F.mul _ F.one
    rw [h.mul_one]
    rfl) i hi
  rw [this]
  unfold dot sum sum
  rw [h.zero_add]
  show F.mul (F.add (l i) F.zero) F.one = l i
  rw [h.mul_one, h.add_zero]
theorem Ok.full_mul (h : F.Ok) {n : Nat} (A B : Mat α) : F.rank n (F.mulm n A B) = n ↔ F.rank n A = n ∧ F.rank n B = n := by
  unfold rank
  rw [h.rank_inj, h.rank_inj, h.rank_inj, h.inj_mulm]
theorem Ok.inv_mul (h : F.Ok) {n : Nat} {A B : Mat α} (ha : F.rank n A = n) (hb : F.rank n B = n) {i j : Nat} (hi : i < n) (hj : j < n) :
    F.mulm n (F.invM n B) (F.invM n A) i j = F.invM n (F.mulm n A B) i j :=
  ((h.invM_inv ha).mulm h (h.invM_inv hb)).unique h (h.invM_inv ((h.full_mul A B).2 ⟨ha, hb⟩)) hi hj
theorem mulm_congr {m n : Nat} {A A' B B' : Mat α} (ha : ∀ i j, i < n → j < m → A i j = A' i j) (hb : ∀ i j, i < m → j < n → B i j = B' i j) {i j : Nat} (hi : i < n) (hj : j < n) : F.mulm m A B i j = F.mulm m A' B' i j :=
  dot_congr (fun k hk => ha i k hi hk) fun k hk => hb k j hk hj
end Fd

theorem f8_sum (n : Nat) (f : Nat → UInt8) : F8.sum n f = sm (List.range n) f := by
  induction n with
  | zero => rfl
  | succ n ih =>
    rw [List.range_succ, sm_append, sm_cons, sm_nil, UInt8.xor_zero, ← ih]
    rfl
theorem f8_dot (n : Nat) (r y : Nat → UInt8) : F8.dot n r y = sm (List.range n) fun t => bmul (r t) (y t) := f8_sum n _
/-- Of any k unlike rows of the code nothing but noughts is made into noughts. -/
theorem code_full {k : Nat} (I : Nat → Nat) (hk : k ≤ 256) (hI : ∀ i j, i < k → j < k → I i = I j → i = j) (hb : ∀ i, i < k → I i < 256) : F8.rank k (fun i j => ent k (I i) j) = k := by
  refine (F8_ok.rank_inj k _).2 fun y hy i hi => ?_
  refine mds k ((List.range k).map I) y hk ?_ ?_ (by simp) ?_ i hi
  · rw [List.nodup_iff_pairwise_ne, List.pairwise_map]
    refine List.Pairwise.imp_of_mem (fun {a b} ha hb hne e => hne (hI a b (List.mem_range.1 ha) (List.mem_range.1 hb) e)) (List.nodup_iff_pairwise_ne.1 List.nodup_range)
  · intro x hx
    obtain ⟨a, ha, rfl⟩ := List.mem_map.1 hx
    exact hb a (List.mem_range.1 ha)
  · intro x hx
    obtain ⟨a, ha, rfl⟩ := List.mem_map.1 hx
    have := hy a (List.mem_range.1 ha)
    rw [f8_dot] at this
    exact this
/-- Any k blocks bring the first k back. -/
theorem code_back {k : Nat} (I : Nat → Nat) (hk : k ≤ 256) (hI : ∀ i j, i < k → j < k → I i = I j → i = j) (hb : ∀ i, i < k → I i < 256) (D : Nat → UInt8) {i : Nat} (hi : i < k) :
    (sm (List.range k) fun j => bmul (F8.invM k (fun i j => ent k (I i) j) i j) (encv k (I j) D)) = D i := by
  have := (F8_ok.invM_inv (code_full I hk hI hb) D fun j => encv k (I j) D).1 (fun j _ => by rw [f8_dot]; rfl) i hi
  rw [f8_dot] at this
  exact this
end Go.Proofs.YtoaaplngdomdcaaGreat

/- Matrices of words: Identity, and what Inverse hands to others. -/
namespace Go.Proofs.YtoaaplngdomdcaaGreat.MV
open Go.RowKit
section
variable {p gm : Nat} {hp : 0 < p}
variable {w : World} {base g n m : Nat} {M : Nat → Nat → (Fin p)}

theorem mx_low {w w7 : World} {base g G : Nat} {L : List (List Nat)} (h : Mw (modF gm) w base g L) (hG : G < base) (hg7 : w.grownBy w7 (some G)) : Mw (modF gm) w7 base g L := by
  have low : ∀ {e : TypeId} {v : Value} {n : Nat} {xs : List Value}, w.ownsRow base e 1 v n xs → w7.ownsRow base e 1 v n xs := fun {e v n xs} ho => ho.kept hg7 (by
    rcases hb : v.ownBlock with _ | b
    · exact .inl rfl
    · refine .inr fun e => ?_
      have := (ho.lt b hb).1
      injection e with e
      omega)
  obtain ⟨h0, v, h1, xs, h2, h3⟩ := h
  refine ⟨h0, v, h1.grown hg7 (fun e => (by injection e with e; omega)), xs, low h2, fun i l hl => ?_⟩
  obtain ⟨x, hx, ho⟩ := h3 i l hl
  exact ⟨x, hx, low ho⟩
/-- What lays a matrix, with what stands when an older block is written. -/
theorem laid_s (rows cols : Nat) (K : FuncId) (cap : Array Value) (M : Nat → Nat → (Fin p)) (w : World) (hr : rows ≤ 256) (hc : cols ≤ 256)
    (hent : ∀ (args : Array Value) (w : World), (callFunc K args).run Tryz.prog w = .ok (.enter K args) w)
    (hcl : ∀ (i j : Nat) (w' : World), i < rows → j < cols → Below w.heap.size w w' → Calls Tryz.prog K (#[.int .i64 (i : Int), .int .i64 (j : Int)] ++ cap) w' fun e w'' => e = .returned (.int .u32 ((Fin.val (M i j) : Nat) : Int)) ∧ Below w'.heap.size w' w'') :
    Calls Tryz.prog 85 #[(modF gm), .int .i64 (rows : Int), .int .i64 (cols : Int), .func (.func K) #[] cap] w fun e w' => ∃ g, e = .returned (.pointer (some ⟨g, 0, none⟩)) ∧ Mtx gm w' g rows cols M ∧ Below w.heap.size w w' ∧ ∀ G w7, G < w.heap.size → w'.grownBy w7 (some G) → Mtx gm w7 g rows cols M := by
  refine (laidw_any 25 (.pointer (some ⟨gm, 0, none⟩)) rows cols K cap (fun i j => (M i j).val) w hr hc hent hcl).mono ?_
  rintro e w' ⟨g, rfl, hmx, hb⟩
  exact ⟨g, rfl, mt_of hmx, hb, fun G w7 hG hg7 => mt_of (mx_low hmx hG hg7)⟩
theorem dims_c (r c : Nat) (w : World) (hr : 1 ≤ r ∧ r ≤ 256) (hc : 1 ≤ c ∧ c ≤ 256) :
    Calls Tryz.prog 82 #[.int .i64 (r : Int), .int .i64 (c : Int)] w fun e w' => e = .returned (.bool true) ∧ w = w' := by
  have i1 : (r : Int) ≥ 1 := by omega
  have i2 : (r : Int) ≤ 256 := by omega
  have i3 : (c : Int) ≥ 1 := by omega
  have i4 : (c : Int) ≤ 256 := by omega
  go_enter Tryz.func82, Tryz.ntmps82
  go_wp2
  go_ret
  exact ⟨rfl, rfl⟩
set_option maxRecDepth 100000 in
set_option maxHeartbeats 1600000 in
theorem identc_c (i j b : Nat) (w : World) (hk : (Fk p gm) w) (hi : i ≤ 256) (hj : j ≤ 256) (c1 : w.cell? ⟨b, 0, none⟩ = some (modF gm)) :
    Calls Tryz.prog 86 #[.int .i64 (i : Int), .int .i64 (j : Int), .pointer (some ⟨b, 0, none⟩)] w fun e w' => e = .returned (.int .u32 ((Fin.val ((Fp p hp).ident i j) : Nat) : Int)) ∧ Below w.heap.size w w' := by
  have m1 := meth_one (gm := gm)
  have m2 := meth_zero (gm := gm)
  have Q1 := hide (fone_c (hp := hp) w hk)
  have Q2 := hide (fzero_c (hp := hp) w hk)
  clear hk
  unfold Fd.ident
  by_cases h : i = j
  · subst h
    rw [if_pos rfl]
    go_enter Tryz.func86, Tryz.ntmps86
    go_wp2_with fail
    refine Q1.out.mono ?_
    rintro e w' ⟨rfl, rfl⟩
    go_wp2
    go_ret
    exact ⟨rfl, by first | exact Below.refl _ _ | exact (Below.refl _ _).alloc (Nat.le_refl _) _⟩
  · rw [if_neg h]
    have i1 : ¬ (i : Int) = (j : Int) := by omega
    clear h
    go_enter Tryz.func86, Tryz.ntmps86
    go_wp2_with fail
    refine Q2.out.mono ?_
    rintro e w' ⟨rfl, rfl⟩
    go_wp2
    go_ret
    exact ⟨rfl, by first | exact Below.refl _ _ | exact (Below.refl _ _).alloc (Nat.le_refl _) _⟩
set_option maxRecDepth 100000 in
set_option maxHeartbeats 1600000 in
theorem ident_c (n : Nat) (w : World) (hk : (Fk p gm) w) (hn : 1 ≤ n ∧ n ≤ 256) :
    Calls Tryz.prog 33 #[(modF gm), .int .i64 (n : Int)] w fun e w' =>
      ∃ x, e = .returned (.tuple #[.pointer (some ⟨x, 0, none⟩), .int .i64 0]) ∧ Mtx gm w' x n n (Fp p hp).ident ∧ Below w.heap.size w w' ∧ ∀ G w7, G < w.heap.size → w'.grownBy w7 (some G) → Mtx gm w7 x n n (Fp p hp).ident := by
  have q1 := fun w => dims_c n n w hn hn
  have HM := hide hk
  have HN := hide hn
  clear hk hn
  go_enter Tryz.func33, Tryz.ntmps33
  go_wp2_with fail
  refine (q1 _).mono ?_
  rintro e w' ⟨rfl, rfl⟩
  go_wp2_with fail
  have n1 := Blk.new w 132 #[(modF gm)]
  have n4 := (Below.refl w.heap.size w).alloc (Nat.le_refl _) (.cells #[(modF gm)] 132)
  generalize w.alloc (.cells #[(modF gm)] 132) = W at *
  refine (laid_s n n 86 #[.pointer (some ⟨w.heap.size, 0, none⟩)] (Fp p hp).ident W HN.out.2 HN.out.2
    (enters_of Tryz.func86 (by kernel_rfl) rfl) ?_).mono ?_
  · intro i j w' hi hj hb
    have hn := HN.out
    refine identc_c (hp := hp) i j w.heap.size w' ((HM.out.below n4).below hb) (by omega) (by omega) ?_
    rw [(n1.below' hb).cell]; rfl
  · rintro e w' ⟨x, rfl, hmx, hb, hlw⟩
    have H4 := hide (And.intro n4 (And.intro hmx (And.intro hb hlw)))
    clear n1 n4 hmx hb hlw q1
    go_wp2
    go_ret2
    exact ⟨x, rfl, H4.out.2.1, H4.out.1.trans (H4.out.2.2.1.mono H4.out.1.size), fun G w7 hG hg7 => H4.out.2.2.2 G w7 (Nat.lt_of_lt_of_le hG H4.out.1.size) hg7⟩

/-- A row of the identity, as Inverse lays it behind. -/
theorem inv1_c (x b i : Nat) (h : Mtx gm w x n m M) (hi : i < n) (c1 : w.cell? ⟨b, 0, none⟩ = some (.pointer (some ⟨x, 0, none⟩))) :
    Calls Tryz.prog 94 #[.int .i64 (i : Int), .pointer (some ⟨b, 0, none⟩)] w fun e w' => ∃ v, e = .returned v ∧ Sl w' 1 v m (rcells en (M i) m) ∧ Below w.heap.size w w' := by
  obtain ⟨_, hblk, hrd⟩ := h
  obtain ⟨A, c, rfl, hnc, hcm, hcell⟩ := hrd.sl
  have h1 : w.cell? ⟨x, 1, none⟩ = some (.slice A n c) := by rw [hblk.cell]; rfl
  obtain ⟨b2, o, B, d, rfl, hbl, hcx, hsl⟩ := hcell i hi
  have i1 : (i : Int) < (n : Int) := by omega
  have i2 : (0 : Int) ≤ (i : Int) := by omega
  have HS := hide hsl
  clear hcell hblk hrd hsl
  go_enter Tryz.func94, Tryz.ntmps94
  go_wp2
  go_ret
  exact ⟨_, rfl, HS.out, Below.refl _ _⟩
set_option maxHeartbeats 1600000 in
/-- An element of what was reckoned, as Inverse lays it out. -/
theorem inv2_c (b1 b2 i j k cap : Nat) (hg : Gr w base g n m M) (hi : i < n) (hj : k + j < m) (hm : m ≤ 4096) (hcap : n ≤ cap) (c1 : w.cell? ⟨b1, 0, none⟩ = some (.slice (some ⟨g, 0, none⟩) n cap)) (c2 : w.cell? ⟨b2, 0, none⟩ = some (.int .i64 (k : Int))) :
    Calls Tryz.prog 96 #[.int .i64 (i : Int), .int .i64 (j : Int), .pointer (some ⟨b1, 0, none⟩), .pointer (some ⟨b2, 0, none⟩)] w fun e w' => e = .returned (.int .u32 ((Fin.val (M i (k + j)) : Nat) : Int)) ∧ Below w.heap.size w w' := by
  obtain ⟨b, cb, hb1, hb2, hb3, hb4, hb5, hb6, hb7⟩ := hg.at_ (by decide) hi
  obtain ⟨hv1, _, _⟩ := hb7 (k + j) hj
  have hv2 : w.cell? ⟨b, k + j, none⟩ = some (.int .u32 ((Fin.val (M i (k + j)) : Nat) : Int)) := hv1
  generalize M i (k + j) = x at *
  obtain ⟨s, hs⟩ : ∃ s, s = k + j := ⟨_, rfl⟩
  rw [← hs] at hv2 hj
  have hw : IntKind.i64.wrap ((k : Int) + (j : Int)) = (s : Int) := by
    rw [show (k : Int) + (j : Int) = (s : Int) by omega]
    exact IntWalk.i64_in _ (by omega)
  have i1 : (i : Int) < (n : Int) := by omega
  have i2 : (0 : Int) ≤ (i : Int) := by omega
  have i3 : (s : Int) < (m : Int) := by omega
  have i4 : (0 : Int) ≤ (s : Int) := by omega
  clear hs hb2 hb3 hb4 hb5 hb6 hb7 hv1 hg
  go_enter Tryz.func96, Tryz.ntmps96
  go_wp2
  go_quiet (fail)
  go_wp2
  go_ret
  exact ⟨rfl, by first | exact Below.refl _ _ | exact below_drewN (Below.refl _ _) _⟩
end
end Go.Proofs.YtoaaplngdomdcaaGreat.MV

/- Steps of worlds, one behind another. They hold of every program. -/
namespace Go.Proofs.YtoaaplngdomdcaaGreat
open Go.RowKit
theorem Below.step {w W W' : World} (h : Below w.heap.size w W) (h' : Below W.heap.size W W') : Below w.heap.size w W' := h.trans (h'.mono h.size)
theorem Below.al0 {w W : World} (h : Below w.heap.size w W) (o : Obj) : Below w.heap.size w (W.alloc o) := h.alloc h.size o
theorem results_row_tmp {P : Program} {fn : Func} {p u : Tmp} {ty : TypeId} (h : fn.results = #[.cell p ty, .tmp u]) (tmps : Array Value) (w : World) (g : Nat) (t : TypeId) (cs : Array Value) (fr : Nat × Nat) (d : TypeDesc)
    (hp : tmps.getD p undef = .pointer (some ⟨g, 0, none⟩)) (hg : w.heap[g]? = some (.cells cs t fr))
    (hu : P.underlying ty = some d) (hd : (match d with | .struct _ | .array _ _ => true | _ => false) = true) (hi : (P.info? ty).map (·.size) = some cs.size) :
    (results fn tmps).run P w = .ok (.tuple #[.agg cs, tmps.getD u undef]) w := by
  rw [results_cell_tmp h, hp]
  simp [asAddr, run_loadVar_row w g t ty cs fr d hg hu hd hi, Result.andThen]
end Go.Proofs.YtoaaplngdomdcaaGreat

/- Matrices of words: Inverse. -/
namespace Go.Proofs.YtoaaplngdomdcaaGreat.MV
open Go.RowKit
section
variable {p gm : Nat} {hp : 0 < p}
variable {w : World} {base g n m : Nat} {M : Nat → Nat → (Fin p)}

theorem lo_of {w : World} {base : Nat} (h : Fk p gm w) (hb : w.heap.size ≤ base) : gm < base := by
  obtain ⟨_, _, g, e, h3, _⟩ := h
  injection e with e
  injection e with e
  injection e with e _ _
  omega
set_option maxRecDepth 100000 in
set_option maxHeartbeats 2000000 in
theorem inv_dims (h : Mtx gm w g n m M) (hn : 1 ≤ n) (hnm : n ≠ m) :
    Calls Tryz.prog 35 #[.pointer (some ⟨g, 0, none⟩)] w fun e w' => e = .returned (.tuple #[.pointer none, .int .i64 70]) ∧ Below w.heap.size w w' := by
  have q1 := made_c h
  have q2 := rows_c h
  have HH := hide h
  have hne : ((n : Int) != (m : Int)) = true := by rw [bne_iff_ne]; omega
  clear h hnm
  go_enter Tryz.func35, Tryz.ntmps35
  go_wp2_with fail
  refine q1.mono ?_
  rintro e w' ⟨rfl, rfl⟩
  go_wp2_with fail
  refine q2.mono ?_
  rintro e w' ⟨rfl, rfl⟩
  clear q1 q2
  go_wp2_with fail
  have n1 := Blk.new w 3 #[.int .i64 (n : Int)]
  have b1 := (Below.refl w.heap.size w).alloc (Nat.le_refl _) (.cells #[.int .i64 (n : Int)] 3)
  generalize w.alloc (.cells #[.int .i64 (n : Int)] 3) = W1 at n1 b1 ⊢
  have cN : W1.cell? ⟨w.heap.size, 0, none⟩ = some (.int .i64 (n : Int)) := by rw [n1.cell]; rfl
  have H1 := hide b1
  have Q4 : Hid (∀ W, Below W1.heap.size W1 W → Calls Tryz.prog 40 #[.pointer (some ⟨g, 0, none⟩)] W fun e w' => e = .returned (.int .i64 (m : Int)) ∧ W = w') := fun W hW => cols_c ((HH.out.below H1.out).below hW) (by omega)
  clear n1 b1
  go_region_held3 (fun w' => w'.cell? ⟨w.heap.size, 0, none⟩ = some (.int .i64 (n : Int))) (go_keep)
    (first | (go_at_call 40; (with_reducible refine (Q4.out _ ?bb).mono ?_); (case bb => (repeat (first | with_reducible exact Below.refl _ _ | with_reducible refine Below.drew ?_))); rintro e w2 ⟨rfl, rfl⟩))
  go_wp2
  go_ret2
  exact ⟨rfl, H1.out.drew⟩

set_option maxRecDepth 100000 in
set_option maxHeartbeats 8000000 in
theorem inverse_c (h : Mtx gm w g n n M) (hk : (Fk p gm) w) (hn : 1 ≤ n ∧ n ≤ 256) :
    Calls Tryz.prog 35 #[.pointer (some ⟨g, 0, none⟩)] w fun e w' => Below w.heap.size w w' ∧
      (((Fp p hp).rank n M = n ∧ ∃ x, e = .returned (.tuple #[.pointer (some ⟨x, 0, none⟩), .int .i64 0]) ∧ Mtx gm w' x n n ((Fp p hp).invM n M) ∧ ∀ G w7, G < w.heap.size → w'.grownBy w7 (some G) → Mtx gm w7 x n n ((Fp p hp).invM n M)) ∨ ((Fp p hp).rank n M ≠ n ∧ e = .returned (.tuple #[.pointer none, .int .i64 71]))) := by
  have q1 := made_c h
  have q2 := rows_c h
  have HH := hide (And.intro h (And.intro hk hn))
  clear h hk hn
  go_enter Tryz.func35, Tryz.ntmps35
  go_wp2_with fail
  refine q1.mono ?_
  rintro e w' ⟨rfl, rfl⟩
  go_wp2_with fail
  refine q2.mono ?_
  rintro e w' ⟨rfl, rfl⟩
  clear q1 q2
  go_wp2_with fail
  have n1 := Blk.new w 3 #[.int .i64 (n : Int)]
  have b1 := (Below.refl w.heap.size w).alloc (Nat.le_refl _) (.cells #[.int .i64 (n : Int)] 3)
  generalize w.alloc (.cells #[.int .i64 (n : Int)] 3) = W1 at n1 b1 ⊢
  obtain ⟨N, hN⟩ : ∃ N, N = w.heap.size := ⟨_, rfl⟩
  rw [← hN] at n1 ⊢
  have hNlt : N < W1.heap.size := n1.lt
  have HN := hide hN
  have H1 := hide (And.intro n1 b1)
  have cN : W1.cell? ⟨N, 0, none⟩ = some (.int .i64 (n : Int)) := by rw [n1.cell]; rfl
  have Q4 : Hid (∀ W, Below W1.heap.size W1 W → Calls Tryz.prog 40 #[.pointer (some ⟨g, 0, none⟩)] W fun e w' => e = .returned (.int .i64 (n : Int)) ∧ W = w') := fun W hW => cols_c ((HH.out.1.below H1.out.2).below hW) (by have := HH.out.2.2; omega)
  have hne : ((n : Int) != (n : Int)) = false := by simp
  clear n1 b1 hN
  go_region_held3 (fun w' => w'.cell? ⟨N, 0, none⟩ = some (.int .i64 (n : Int))) (go_keep)
    (first | (go_at_call 40; (with_reducible refine (Q4.out _ ?bb).mono ?_); (case bb => (repeat (first | with_reducible exact Below.refl _ _ | with_reducible refine Below.drew ?_))); rintro e w2 ⟨rfl, rfl⟩))
  clear Q4
  have cg : W1.cell? ⟨g, 0, none⟩ = some (modF gm) := by
    obtain ⟨_, _, c0, _⟩ := Mt.form (HH.out.1.below H1.out.2)
    exact c0
  have Q6 : Hid (∀ W, Below W1.heap.size W1 W → Calls Tryz.prog 33 #[(modF gm), .int .i64 (n : Int)] W fun e w' => ∃ x, e = .returned (.tuple #[.pointer (some ⟨x, 0, none⟩), .int .i64 0]) ∧ Mtx gm w' x n n (Fp p hp).ident ∧ Below W.heap.size W w' ∧ ∀ G w7, G < W.heap.size → w'.grownBy w7 (some G) → Mtx gm w7 x n n (Fp p hp).ident) := fun W hW => ident_c (hp := hp) n W ((HH.out.2.1.below H1.out.2).below hW) HH.out.2.2
  have HS6 : Hid (∀ W, Below W1.heap.size W1 W → W.cell? ⟨g, 0, none⟩ = some (modF gm) ∧ W.cell? ⟨N, 0, none⟩ = some (.int .i64 (n : Int))) := fun W hW => ⟨(hW.cell (World.block_lt_of_cell? _ _ cg)).trans cg, (hW.cell (World.block_lt_of_cell? _ _ cN)).trans cN⟩
  go_upto_region 6 with fail
  go_cut [5, 6] (fun u5 u6 wx => ∃ gx go : Nat, u5 = .pointer (some ⟨go, 0, none⟩) ∧ u6 = .int .i64 0 ∧ Blk wx go 30 #[.pointer (some ⟨gx, 0, none⟩)] ∧ Mtx gm wx gx n n (Fp p hp).ident ∧ Below W1.heap.size W1 wx)
  case first =>
    go_region_held3 (fun w' => w'.cell? ⟨g, 0, none⟩ = some (modF gm) ∧ w'.cell? ⟨N, 0, none⟩ = some (.int .i64 (n : Int))) (first | go_keep | exact HS6.out _ (by (repeat (first | with_reducible exact Below.refl _ _ | with_reducible refine Below.drew ?_ | with_reducible refine Below.al0 ?_ _ | with_reducible refine Below.step ?_ hb2 | refine Below.setCell ?_ (by exact Nat.le_refl _) _))))
      (first | (go_at_call 33; (with_reducible refine (Q6.out _ ?bb).mono ?_); (case bb => (repeat (first | with_reducible exact Below.refl _ _ | with_reducible refine Below.drew ?_ | with_reducible refine Below.al0 ?_ _))); rintro e w2 ⟨x, rfl, hmx, hb2, hlow⟩; (try (have kb := (((Blk.new W1 30 #[.pointer none]).drew).drew).below' hb2; have c5 : w2.cell? ⟨W1.heap.size, 0, none⟩ = some (.pointer none) := (kb.cell 0).trans rfl; have f5 : w2.frozen? ⟨W1.heap.size, 0, none⟩ = false := kb.frozen 0; have HKB := hide kb; clear kb)); have HX := hide (And.intro hmx hlow); clear hmx hlow))
    · go_wp2_with fail
      go_meet
      exact ⟨x, w2.heap.size, rfl, rfl, Blk.new w2 _ _, HX.out.1.below ((Below.refl _ w2).alloc (Nat.le_refl _) _), by (repeat (first | with_reducible exact Below.refl _ _ | with_reducible refine Below.drew ?_ | with_reducible refine Below.al0 ?_ _ | with_reducible refine Below.step ?_ hb2 | refine Below.setCell ?_ (by exact Nat.le_refl _) _))⟩
    · go_wp2_with fail
      go_meet
      exact ⟨x, W1.heap.size, rfl, rfl, HKB.out.set_ 0 _, HX.out.2 _ _ (by show W1.heap.size < (W1.alloc _).heap.size; simp) (store_grown _ _ _ _), by (repeat (first | with_reducible exact Below.refl _ _ | with_reducible refine Below.drew ?_ | with_reducible refine Below.al0 ?_ _ | with_reducible refine Below.step ?_ hb2 | refine Below.setCell ?_ (by exact Nat.le_refl _) _))⟩
  case rest =>
    obtain ⟨gx, go, rfl, rfl, hbo, hmi, hbc⟩ := hcut
    have hbw : Below w.heap.size w wc := Below.step H1.out.2 hbc
    have q7 := beside_c (HH.out.1.below hbw) HH.out.2.2.2 (by have := HH.out.2.2; omega) n (by have := HH.out.2.2; omega) (Fp p hp).ident 94 #[.pointer (some ⟨go, 0, none⟩)] (enters_of Tryz.func94 (by kernel_rfl) rfl)
      (fun i w' hi hb => inv1_c gx go i (hmi.below hb) hi (by rw [(hbo.below' hb).cell]; rfl))
    have HC := hide (And.intro hbc hbw)
    have cNc := (HS6.out wc hbc).2
    have cgc := (HS6.out wc hbc).1
    clear hbo hmi hbc hbw Q6 HS6 cg cN
    go_wp2_with fail
    refine q7.mono ?_
    rintro e w3 ⟨v, rfl, hgo, hb3⟩
    obtain ⟨gr, cap, rfl, hnc, hcm, hgr⟩ := hgo.grid (by have := HH.out.2.2; omega)
    clear q7 hgo
    go_wp2_with fail
    have n3 := Blk.new w3 61 #[.slice (some ⟨gr, 0, none⟩) n cap]
    have b3 := (Below.refl w3.heap.size w3).alloc (Nat.le_refl _) (.cells #[.slice (some ⟨gr, 0, none⟩) n cap] 61)
    have hg3 := hgr.below b3
    have hbc3 := hb3.trans (b3.mono hb3.size)
    generalize w3.alloc (.cells #[.slice (some ⟨gr, 0, none⟩) n cap] 61) = W3 at n3 b3 hg3 hbc3 ⊢
    generalize w3.heap.size = T at n3 b3 ⊢
    have hk3 := HH.out.2.1.below (Below.step HC.out.2 hbc3)
    have hlo3 := lo_of HH.out.2.1 HC.out.2.size
    obtain ⟨rk, hrk⟩ : ∃ rk, rk = (Fp p hp).rank n M := ⟨_, rfl⟩
    have hrl : rk ≤ n := by rw [hrk]; exact Fd.rank_le _ _
    have HR := hide hrk
    have Q8 : Hid (∀ W, Below W3.heap.size W3 W → Calls Tryz.prog 95 #[(modF gm), .slice (some ⟨gr, 0, none⟩) n cap, .int .i64 (n : Int)] W fun e w' => e = .returned (.int .i64 (rk : Int)) ∧ Gr w' wc.heap.size gr n (n + n) ((Fp p hp).red n (Fd.beside n M (Fp p hp).ident) n).1 ∧ Below wc.heap.size W3 w' ∧ Kt 23 22 W3 w') := fun W hW => by
      refine (reduced_c (hp := hp) cap n (hg3.below hW) (hk3.below hW) hlo3 (by omega) (by have := HH.out.2.2; omega) (by have := HH.out.2.2; omega) (Nat.le_trans hbc3.size hW.size) ⟨hnc, hcm⟩).mono fun e w' ⟨a, b, c, d⟩ => ⟨?_, b, (hW.mono hbc3.size).trans c, ((Kt.refl _ _ _).below hW).trans d⟩
      rw [a, hrk, Fd.rank_beside]
    have cN3 := (hbc3.cell (World.block_lt_of_cell? _ _ cNc)).trans cNc
    have cg3 := (hbc3.cell (World.block_lt_of_cell? _ _ cgc)).trans cgc
    have cT3 : W3.cell? ⟨T, 0, none⟩ = some (.slice (some ⟨gr, 0, none⟩) n cap) := by rw [n3.cell]; rfl
    have HS8 : Hid (∀ W2, Below wc.heap.size W3 W2 → Kt 23 22 W3 W2 → W2.cell? ⟨g, 0, none⟩ = some (modF gm) ∧ W2.cell? ⟨T, 0, none⟩ = some (.slice (some ⟨gr, 0, none⟩) n cap) ∧ W2.cell? ⟨N, 0, none⟩ = some (.int .i64 (n : Int))) := fun W2 h1 h2 =>
      ⟨(World.cell?_of_block (h1.block g (World.block_lt_of_cell? _ _ cgc))).trans cg3, by rw [(h2 _ _ _ n3 (by decide) (by decide)).cell]; rfl, (World.cell?_of_block (h1.block N (World.block_lt_of_cell? _ _ cNc))).trans cN3⟩
    have HC3 := hide (And.intro hbc3 (And.intro hnc hcm))
    clear n3 b3 hg3 hgr hb3 hbc3 hk3 hlo3 hnc hcm cNc cgc hrk
    by_cases hf : rk = n
    · subst hf
      go_region_held3 (fun w' => w'.cell? ⟨g, 0, none⟩ = some (modF gm) ∧ w'.cell? ⟨T, 0, none⟩ = some (.slice (some ⟨gr, 0, none⟩) rk cap) ∧ w'.cell? ⟨N, 0, none⟩ = some (.int .i64 (rk : Int))) (first | go_keep | exact HS8.out _ hB5 hK5)
        (first | (go_at_call 95; (with_reducible refine (Q8.out _ ?bb).mono ?_); (case bb => (repeat (first | with_reducible exact Below.refl _ _ | with_reducible refine Below.drew ?_))); rintro e w5 ⟨rfl, hG5, hB5, hK5⟩))
      obtain ⟨s1, s2, s3⟩ := HS8.out _ hB5 hK5
      have hb5 := HC3.out.1.trans hB5
      have HG5 := hide (And.intro hG5 hb5)
      clear Q8 HS8 hG5 hB5 hK5 hb5 cN3 cg3 cT3
      have HS10 : Hid (∀ W, Below w5.heap.size w5 W → W.cell? ⟨g, 0, none⟩ = some (modF gm) ∧ W.cell? ⟨T, 0, none⟩ = some (.slice (some ⟨gr, 0, none⟩) rk cap) ∧ W.cell? ⟨N, 0, none⟩ = some (.int .i64 (rk : Int))) := fun W hW =>
        ⟨(hW.cell (World.block_lt_of_cell? _ _ s1)).trans s1, (hW.cell (World.block_lt_of_cell? _ _ s2)).trans s2, (hW.cell (World.block_lt_of_cell? _ _ s3)).trans s3⟩
      have Q10 : Hid (∀ W, Below w5.heap.size w5 W → Calls Tryz.prog 85 #[(modF gm), .int .i64 (rk : Int), .int .i64 (rk : Int), .func (.func 96) #[] #[.pointer (some ⟨T, 0, none⟩), .pointer (some ⟨N, 0, none⟩)]] W fun e w' => ∃ x, e = .returned (.pointer (some ⟨x, 0, none⟩)) ∧ Mtx gm w' x rk rk ((Fp p hp).invM rk M) ∧ Below w5.heap.size w5 w' ∧ ∀ G w7, G < w5.heap.size → w'.grownBy w7 (some G) → Mtx gm w7 x rk rk ((Fp p hp).invM rk M)) := fun W hW =>
        (laid_s rk rk 96 #[.pointer (some ⟨T, 0, none⟩), .pointer (some ⟨N, 0, none⟩)] ((Fp p hp).invM rk M) W HH.out.2.2.2 HH.out.2.2.2 (enters_of Tryz.func96 (by kernel_rfl) rfl) (fun i j w' hi hj hb =>
          inv2_c T N i j rk cap (HG5.out.1.below (Below.step hW hb)) hi (by omega) (by have := HH.out.2.2; omega) HC3.out.2.1 (HS10.out w' (Below.step hW hb)).2.1 (HS10.out w' (Below.step hW hb)).2.2)).mono fun e w' ⟨x, a, b, c, d⟩ => ⟨x, a, b, Below.step hW c, fun G w7 hG hg7 => d G w7 (Nat.lt_of_lt_of_le hG hW.size) hg7⟩
      go_wp2_with fail
      go_region_held3 (fun w' => w'.cell? ⟨g, 0, none⟩ = some (modF gm) ∧ w'.cell? ⟨N, 0, none⟩ = some (.int .i64 (rk : Int))) (first | go_keep | exact ⟨(HS10.out _ q10).1, (HS10.out _ q10).2.2⟩)
        (first | (go_at_call 85; (with_reducible refine (Q10.out _ ?bb).mono ?_); (case bb => (repeat (first | with_reducible exact Below.refl _ _ | with_reducible refine Below.drew ?_))); rintro e w6 ⟨x, rfl, hmx, q10, hlw⟩; have HM := hide (And.intro hmx hlw); clear hmx hlw))
      have HE := hide (HC.out.2.trans ((HG5.out.2.trans (q10.mono HG5.out.2.size)).mono HC.out.2.size))
      have HSZ := hide (Nat.le_trans HC.out.2.size HG5.out.2.size)
      clear Q10 HS10 q10
      go_wp2
      go_ret2
      exact ⟨HE.out, .inl ⟨HR.out.symm, x, rfl, HM.out.1, fun G w7 hG hg7 => HM.out.2 G w7 (Nat.lt_of_lt_of_le hG HSZ.out) hg7⟩⟩
    · have i8 : (rk : Int) < (n : Int) := by omega
      go_region_held3 (fun w' => w'.cell? ⟨g, 0, none⟩ = some (modF gm) ∧ w'.cell? ⟨T, 0, none⟩ = some (.slice (some ⟨gr, 0, none⟩) n cap) ∧ w'.cell? ⟨N, 0, none⟩ = some (.int .i64 (n : Int))) (first | go_keep | exact HS8.out _ hB5 hK5)
        (first | (go_at_call 95; (with_reducible refine (Q8.out _ ?bb).mono ?_); (case bb => (repeat (first | with_reducible exact Below.refl _ _ | with_reducible refine Below.drew ?_))); rintro e w5 ⟨rfl, hG5, hB5, hK5⟩))
      have HE := hide (HC.out.2.trans ((HC3.out.1.trans hB5).mono HC.out.2.size))
      clear Q8 HS8 hG5 hB5 hK5
      go_wp2
      go_ret2
      exact ⟨HE.out, .inr ⟨fun e => hf (HR.out.trans e), rfl⟩⟩
end
end Go.Proofs.YtoaaplngdomdcaaGreat.MV

/- Matrices of words: Mul. -/
namespace Go.Proofs.YtoaaplngdomdcaaGreat.MV
open Go.RowKit
section
variable {p gm : Nat} {hp : 0 < p}
variable {w : World} {base g n m : Nat} {M : Nat → Nat → (Fin p)}

set_option maxHeartbeats 1600000 in
theorem mul2_c (x b1 b2 k j : Nat) (h : Mtx gm w x n m M) (hk : k < n) (hj : j < m) (c1 : w.cell? ⟨b1, 0, none⟩ = some (.pointer (some ⟨x, 0, none⟩))) (c2 : w.cell? ⟨b2, 0, none⟩ = some (.int .i64 (j : Int))) :
    Calls Tryz.prog 107 #[.int .i64 (k : Int), .pointer (some ⟨b1, 0, none⟩), .pointer (some ⟨b2, 0, none⟩)] w fun e w' => e = .returned (.int .u32 ((Fin.val (M k j) : Nat) : Int)) ∧ Below w.heap.size w w' := by
  obtain ⟨A, c, _, h1, _, _, h2⟩ := Mt.form h
  obtain ⟨b, o, B, d, rfl, _, h3, _, _, h4⟩ := h2 k hk
  obtain ⟨b3, o3, rfl, _, h5⟩ := h4 j hj
  generalize M k j = y at *
  have i1 : (k : Int) < (n : Int) := by omega
  have i2 : (0 : Int) ≤ (k : Int) := by omega
  have i3 : (j : Int) < (m : Int) := by omega
  have i4 : (0 : Int) ≤ (j : Int) := by omega
  clear h h2 h4
  go_enter Tryz.func107, Tryz.ntmps107
  go_wp2
  go_quiet (fail)
  go_wp2
  go_ret
  exact ⟨rfl, by first | exact Below.refl _ _ | exact below_drewN (Below.refl _ _) _⟩

set_option maxRecDepth 100000 in
set_option maxHeartbeats 1600000 in
theorem mul1_c (x y b1 b2 k i j : Nat) {N : Nat → Nat → (Fin p)} (h : Mtx gm w x n k M) (h2 : Mtx gm w y k m N) (hf : (Fk p gm) w) (hi : i < n) (hj : j < m) (hk : k ≤ 256) (c1 : w.cell? ⟨b1, 0, none⟩ = some (.pointer (some ⟨x, 0, none⟩))) (c2 : w.cell? ⟨b2, 0, none⟩ = some (.pointer (some ⟨y, 0, none⟩))) :
    Calls Tryz.prog 105 #[.int .i64 (i : Int), .int .i64 (j : Int), .pointer (some ⟨b1, 0, none⟩), .pointer (some ⟨b2, 0, none⟩)] w fun e w' => e = .returned (.int .u32 ((Fin.val ((Fp p hp).mulm k M N i j) : Nat) : Int)) ∧ Below w.heap.size w w' := by
  have hl2 := World.block_lt_of_cell? _ _ c2
  have n1 := Blk.new w 3 #[.int .i64 (j : Int)]
  have b1' := (Below.refl w.heap.size w).alloc (Nat.le_refl _) (.cells #[.int .i64 (j : Int)] 3)
  have q := dot_c (hp := hp) (h.below b1') (hf.below b1') hi (by omega) 107 #[.pointer (some ⟨b2, 0, none⟩), .pointer (some ⟨w.heap.size, 0, none⟩)] (fun t => N t j) (enters_of Tryz.func107 (by kernel_rfl) rfl)
    (fun t w' ht hb => mul2_c y b2 w.heap.size t j ((h2.below b1').below hb) ht hj ((hb.cell (p := ⟨b2, 0, none⟩) (Nat.lt_of_lt_of_le hl2 b1'.size)).trans ((b1'.cell (p := ⟨b2, 0, none⟩) hl2).trans c2)) (by rw [(n1.below' hb).cell]; rfl))
  have c1' := (b1'.cell (p := ⟨b1, 0, none⟩) (World.block_lt_of_cell? _ _ c1)).trans c1
  have HQ := hide q
  have HB := hide b1'
  show Calls Tryz.prog 105 _ w fun e w' => e = .returned (.int .u32 ((Fin.val ((Fp p hp).dot k (M i) fun t => N t j) : Nat) : Int)) ∧ Below w.heap.size w w'
  generalize ((Fp p hp).dot k (M i) fun t => N t j) = z at *
  clear h h2 hf q b1' n1 c1 c2 hl2
  go_enter Tryz.func105, Tryz.ntmps105
  go_wp2_with fail
  refine HQ.out.mono ?_
  rintro e w2 ⟨rfl, hb⟩
  go_wp2
  go_ret
  exact ⟨rfl, HB.out.trans (hb.mono HB.out.size)⟩

set_option maxRecDepth 100000 in
set_option maxHeartbeats 4000000 in
theorem mul_c (x y k : Nat) {N : Nat → Nat → (Fin p)} (h : Mtx gm w x n k M) (h2 : Mtx gm w y k m N) (hf : (Fk p gm) w) (hn : 1 ≤ n ∧ n ≤ 256) (hk : 1 ≤ k ∧ k ≤ 256) (hm : m ≤ 256) :
    Calls Tryz.prog 56 #[.pointer (some ⟨x, 0, none⟩), .pointer (some ⟨y, 0, none⟩)] w fun e w' => ∃ z, e = .returned (.tuple #[.pointer (some ⟨z, 0, none⟩), .int .i64 0]) ∧ Mtx gm w' z n m ((Fp p hp).mulm k M N) ∧ Below w.heap.size w w' ∧ ∀ G w7, G < w.heap.size → w'.grownBy w7 (some G) → Mtx gm w7 z n m ((Fp p hp).mulm k M N) := by
  have n1 := (Blk.new w 30 #[.pointer (some ⟨x, 0, none⟩)]).alloc (.cells #[.pointer (some ⟨y, 0, none⟩)] 30)
  have n2 := Blk.new (w.alloc (.cells #[.pointer (some ⟨x, 0, none⟩)] 30)) 30 #[.pointer (some ⟨y, 0, none⟩)]
  have b1 := ((Below.refl w.heap.size w).alloc (Nat.le_refl _) (.cells #[.pointer (some ⟨x, 0, none⟩)] 30)).alloc (by simp) (.cells #[.pointer (some ⟨y, 0, none⟩)] 30)
  simp only [World.size_alloc] at n2
  have HH := hide (And.intro h (And.intro h2 (And.intro hf (And.intro hn (And.intro hk hm)))))
  have hne : ((k : Int) != (k : Int)) = false := by simp
  clear h h2 hf hn hk hm
  go_enter Tryz.func56, Tryz.ntmps56
  go_wp2_with fail
  generalize (w.alloc (.cells #[.pointer (some ⟨x, 0, none⟩)] 30)).alloc (.cells #[.pointer (some ⟨y, 0, none⟩)] 30) = W at n1 n2 b1 ⊢
  have HX : Hid (∀ W', Below W.heap.size W W' → Mtx gm W' x n k M ∧ Mtx gm W' y k m N ∧ W'.cell? ⟨w.heap.size, 0, none⟩ = some (.pointer (some ⟨x, 0, none⟩)) ∧ W'.cell? ⟨w.heap.size + 1, 0, none⟩ = some (.pointer (some ⟨y, 0, none⟩)) ∧ W'.cell? ⟨x, 0, none⟩ = some (modF gm) ∧ (Fk p gm) W') := fun W' hW => by
    have e1 := (HH.out.1.below b1).below hW
    obtain ⟨_, _, c0, _⟩ := Mt.form e1
    exact ⟨e1, (HH.out.2.1.below b1).below hW, by rw [(n1.below' hW).cell]; rfl, by rw [(n2.below' hW).cell]; rfl, c0, (HH.out.2.2.1.below b1).below hW⟩
  have HB := hide b1
  clear n1 n2 b1
  obtain ⟨_, _, c1, c2, c3, _⟩ := HX.out W (Below.refl _ _)
  have q1 := made_c (HX.out W (Below.refl _ _)).1
  have q2 := made_c (HX.out W (Below.refl _ _)).2.1
  obtain ⟨B, hB⟩ : ∃ B, B = w.heap.size := ⟨_, rfl⟩
  rw [← hB] at c1 c2 HX ⊢
  clear hB
  refine q1.mono ?_
  rintro e w' ⟨rfl, rfl⟩
  go_wp2_with fail
  refine q2.mono ?_
  rintro e w' ⟨rfl, rfl⟩
  go_wp2_with fail
  clear q1 q2
  have Q3 : Hid (∀ W', Below W.heap.size W W' → Calls Tryz.prog 40 #[.pointer (some ⟨x, 0, none⟩)] W' fun e w' => e = .returned (.int .i64 (k : Int)) ∧ W' = w') := fun W' hW => cols_c (HX.out W' hW).1 (by have := HH.out.2.2.2; omega)
  have Q4 : Hid (∀ W', Below W.heap.size W W' → Calls Tryz.prog 39 #[.pointer (some ⟨y, 0, none⟩)] W' fun e w' => e = .returned (.int .i64 (k : Int)) ∧ W' = w') := fun W' hW => rows_c (HX.out W' hW).2.1
  have Q5 : Hid (∀ W', Below W.heap.size W W' → Calls Tryz.prog 39 #[.pointer (some ⟨x, 0, none⟩)] W' fun e w' => e = .returned (.int .i64 (n : Int)) ∧ W' = w') := fun W' hW => rows_c (HX.out W' hW).1
  have Q6 : Hid (∀ W', Below W.heap.size W W' → Calls Tryz.prog 40 #[.pointer (some ⟨y, 0, none⟩)] W' fun e w' => e = .returned (.int .i64 (m : Int)) ∧ W' = w') := fun W' hW => cols_c (HX.out W' hW).2.1 (by have := HH.out.2.2.2; omega)
  have Q7 : Hid (∀ W', Below W.heap.size W W' → Calls Tryz.prog 85 #[(modF gm), .int .i64 (n : Int), .int .i64 (m : Int), .func (.func 105) #[] #[.pointer (some ⟨B, 0, none⟩), .pointer (some ⟨B + 1, 0, none⟩)]] W' fun e w' => ∃ z, e = .returned (.pointer (some ⟨z, 0, none⟩)) ∧ Mtx gm w' z n m ((Fp p hp).mulm k M N) ∧ Below W.heap.size W w' ∧ ∀ G w7, G < W.heap.size → w'.grownBy w7 (some G) → Mtx gm w7 z n m ((Fp p hp).mulm k M N)) := fun W' hW =>
    (laid_s n m 105 #[.pointer (some ⟨B, 0, none⟩), .pointer (some ⟨B + 1, 0, none⟩)] ((Fp p hp).mulm k M N) W' (by have := HH.out.2.2.2; omega) (by have := HH.out.2.2.2; omega) (enters_of Tryz.func105 (by kernel_rfl) rfl) (fun i j w' hi hj hb => by
      obtain ⟨a1, a2, a3, a4, a5, a6⟩ := HX.out w' (Below.step hW hb)
      exact mul1_c (hp := hp) x y B (B + 1) k i j a1 a2 a6 hi hj (by have := HH.out.2.2.2; omega) a3 a4)).mono fun e w' ⟨z, a, b, c, d⟩ => ⟨z, a, b, Below.step hW c, fun G w7 hG hg7 => d G w7 (Nat.lt_of_lt_of_le hG hW.size) hg7⟩
  go_region_held3 (fun w' => w'.cell? ⟨B, 0, none⟩ = some (.pointer (some ⟨x, 0, none⟩)) ∧ w'.cell? ⟨B + 1, 0, none⟩ = some (.pointer (some ⟨y, 0, none⟩))) (go_keep)
    (first
      | (go_at_call 40; (with_reducible refine (Q3.out _ ?bb).mono ?_); (case bb => (repeat (first | with_reducible exact Below.refl _ _ | with_reducible refine Below.drew ?_))); rintro e w2 ⟨rfl, rfl⟩)
      | (go_at_call 39; (with_reducible refine (Q4.out _ ?bb).mono ?_); (case bb => (repeat (first | with_reducible exact Below.refl _ _ | with_reducible refine Below.drew ?_))); rintro e w2 ⟨rfl, rfl⟩))
  go_wp2_with fail
  have HX2 : Hid (∀ W', Below W.heap.size W W' → W'.cell? ⟨B, 0, none⟩ = some (.pointer (some ⟨x, 0, none⟩)) ∧ W'.cell? ⟨B + 1, 0, none⟩ = some (.pointer (some ⟨y, 0, none⟩)) ∧ W'.cell? ⟨x, 0, none⟩ = some (modF gm)) := fun W' hW => ⟨(HX.out W' hW).2.2.1, (HX.out W' hW).2.2.2.1, (HX.out W' hW).2.2.2.2.1⟩
  go_region_held3 (fun w' => w'.cell? ⟨B, 0, none⟩ = some (.pointer (some ⟨x, 0, none⟩)) ∧ w'.cell? ⟨B + 1, 0, none⟩ = some (.pointer (some ⟨y, 0, none⟩)) ∧ w'.cell? ⟨x, 0, none⟩ = some (modF gm)) (first | go_keep | exact HX2.out _ q9)
    (first
      | (go_at_call 39; (with_reducible refine (Q5.out _ ?bb).mono ?_); (case bb => (repeat (first | with_reducible exact Below.refl _ _ | with_reducible refine Below.drew ?_))); rintro e w2 ⟨rfl, rfl⟩)
      | (go_at_call 40; (with_reducible refine (Q6.out _ ?bb).mono ?_); (case bb => (repeat (first | with_reducible exact Below.refl _ _ | with_reducible refine Below.drew ?_))); rintro e w2 ⟨rfl, rfl⟩)
      | (go_at_call 85; (with_reducible refine (Q7.out _ ?bb).mono ?_); (case bb => (repeat (first | with_reducible exact Below.refl _ _ | with_reducible refine Below.drew ?_))); rintro e w2 ⟨z, rfl, hz, q9, hlw⟩; have HZ := hide (And.intro hz hlw); clear hz hlw))
  all_goals
    go_wp2
    go_ret2
    exact ⟨z, rfl, HZ.out.1, HB.out.trans (q9.mono HB.out.size), fun G w7 hG hg7 => HZ.out.2 G w7 (Nat.lt_of_lt_of_le hG HB.out.size) hg7⟩
end
end Go.Proofs.YtoaaplngdomdcaaGreat.MV

/- Worlds in which nothing has turned but what is drawn; numbers brought into a range. -/

namespace Go.Proofs.YtoaaplngdomdcaaGreat
open Go.RowKit

/-- Nothing has turned but what is drawn. -/
def Dr (w w' : World) : Prop := ∃ n, w' = w.drewN n
theorem Dr.refl (w : World) : Dr w w := ⟨0, rfl⟩
theorem Dr.drewN {w w' : World} (h : Dr w w') (n : Nat) : Dr w (w'.drewN n) := by
  obtain ⟨m, rfl⟩ := h
  exact ⟨m + n, World.drewN_drewN _ _ _⟩
theorem Dr.cell {w w' : World} (h : Dr w w') (a : Addr) : w'.cell? a = w.cell? a := by
  obtain ⟨m, rfl⟩ := h
  rfl
theorem Dr.below {w w' : World} (h : Dr w w') : Below w.heap.size w w' := by
  obtain ⟨m, rfl⟩ := h
  exact below_drewN (Below.refl _ _) _

/-- A number brought into 0 to n - 1. -/
def pickN (x : Int) (n : Nat) : Nat := (x % (n : Int)).toNat
theorem pickN_lt {x : Int} {n : Nat} (h : 1 ≤ n) : pickN x n < n := by
  unfold pickN
  have h1 := Int.emod_nonneg x (b := (n : Int)) (by omega)
  have h2 := Int.emod_lt_of_pos x (b := (n : Int)) (by omega)
  omega
theorem pick_any (x : Int) (n : Nat) (w : World) (hn : 1 ≤ n) (hn2 : n ≤ 140737488355328) (hx : (Lit.int .i64 x).wf = true) :
    Calls Tryz.prog 8 #[.int .i64 x, .int .i64 (n : Int)] w fun e w' => e = .returned (.int .i64 ((pickN x n : Nat) : Int)) ∧ w = w' := by
  have hx2 : -9223372036854775808 ≤ x ∧ x ≤ 9223372036854775807 := by simpa [Lit.wf, IntKind.min, IntKind.max, IntKind.bits, IntKind.signed] using hx
  have hp : ((pickN x n : Nat) : Int) = x % (n : Int) := by
    unfold pickN
    have h1 := Int.emod_nonneg x (b := (n : Int)) (by omega)
    omega
  rw [hp]
  clear hp hx
  have i1 : ¬ (n : Int) < 1 := by omega
  have i0 : ((n : Int) == 0) = false := by simp; omega
  have i00 : ¬ n = 0 := by omega
  have hlt : x % (n : Int) < (n : Int) := Int.emod_lt_of_pos x (by omega)
  have hge : 0 ≤ x % (n : Int) := Int.emod_nonneg x (by omega)
  have ht : x.tmod (n : Int) = if 0 ≤ x ∨ x % (n : Int) = 0 then x % (n : Int) else x % (n : Int) - n := by
    rcases Int.le_total 0 x with h | h
    · rw [if_pos (.inl h), Int.tmod_eq_emod_of_nonneg h]
    · rw [Int.tmod_eq_emod]
      have hd : ((n : Int) ∣ x) ↔ x % (n : Int) = 0 := Int.dvd_iff_emod_eq_zero
      by_cases hz : x % (n : Int) = 0
      · have h1 : 0 ≤ x ∨ (n : Int) ∣ x := .inr (hd.2 hz)
        have h2 : 0 ≤ x ∨ x % (n : Int) = 0 := .inr hz
        simp only [if_pos h1, if_pos h2]; omega
      · by_cases h0 : 0 ≤ x
        · have h1 : 0 ≤ x ∨ (n : Int) ∣ x := .inl h0
          have h2 : 0 ≤ x ∨ x % (n : Int) = 0 := .inl h0
          simp only [if_pos h1, if_pos h2]; omega
        · have h1 : ¬ (0 ≤ x ∨ (n : Int) ∣ x) := by rw [hd]; omega
          have h2 : ¬ (0 ≤ x ∨ x % (n : Int) = 0) := by omega
          simp only [if_neg h1, if_neg h2]; omega
  generalize x % (n : Int) = r at *
  generalize hy : x.tmod (n : Int) = y at *
  by_cases hy0 : y < 0
  · have hyr : y + (n : Int) = r := by split at ht <;> omega
    have hw : IntKind.i64.wrap r = r := by simp [IntKind.wrap, IntKind.bits, IntKind.signed]; omega
    have hw2 : IntKind.i64.wrap y = y := by simp [IntKind.wrap, IntKind.bits, IntKind.signed]; omega
    clear ht
    go_enter Tryz.func8, Tryz.ntmps8
    go_wp2
    go_ret
    exact ⟨rfl, rfl⟩
  · have hyr : y = r := by split at ht <;> omega
    clear ht
    go_enter Tryz.func8, Tryz.ntmps8
    go_wp2
    go_ret
    exact ⟨rfl, rfl⟩
end Go.Proofs.YtoaaplngdomdcaaGreat

/- Matrices of words: Same, Pick. -/
namespace Go.Proofs.YtoaaplngdomdcaaGreat.MV
open Go.RowKit

/-- Is it so? -/
noncomputable def soB (p : Prop) : Bool := @decide p (Classical.propDecidable p)
theorem soB_true {p : Prop} (h : p) : soB p = true := @decide_eq_true _ (Classical.propDecidable _) h
theorem soB_false {p : Prop} (h : ¬ p) : soB p = false := @decide_eq_false _ (Classical.propDecidable _) h
section
variable {p gm : Nat} {hp : 0 < p}
variable {w : World} {base g n m : Nat} {M : Nat → Nat → (Fin p)}

set_option maxHeartbeats 800000 in
theorem equal_c (A B : Option Addr) (c d m : Nat) (r s : Nat → (Fin p)) (w : World) (hm : m ≤ 140737488355328) (ha : ∀ j, j < m → ∃ b o, A = some ⟨b, o, none⟩ ∧ w.cell? ⟨b, o + j, none⟩ = some (.int .u32 ((Fin.val (r j) : Nat) : Int)))
    (hb : ∀ j, j < m → ∃ b o, B = some ⟨b, o, none⟩ ∧ w.cell? ⟨b, o + j, none⟩ = some (.int .u32 ((Fin.val (s j) : Nat) : Int))) :
    Calls Tryz.prog 111 #[.slice A m c, .slice B m d] w fun e w' => e = .returned (.bool (soB (∀ j, j < m → r j = s j))) ∧ Dr w w' := by
  have hne : ((m : Int) != (m : Int)) = false := by simp
  have HA := hide ha
  have HB := hide hb
  clear ha hb
  go_enter Tryz.func111, Tryz.ntmps111
  go_wp2
  go_loopw [5, 13] (fun _ u13 wr => ∃ k : Nat, k ≤ m ∧ u13 = .int .i64 (k : Int) ∧ (∀ j, j < k → r j = s j) ∧ Dr w wr) (fun _ u13 _ => m - (intOf u13).toNat)
  case atStart => exact ⟨0, by omega, rfl, fun j h => by omega, Dr.refl _⟩
  case round =>
    obtain ⟨k, hk, rfl, hq, hw⟩ := hrel
    have HQ := hide hq
    clear hq
    by_cases hlt : k < m
    · obtain ⟨b, o, rfl, hx⟩ := HA.out k hlt
      obtain ⟨b2, o2, rfl, hy⟩ := HB.out k hlt
      rw [← hw.cell] at hx hy
      have i1 : (k : Int) < (m : Int) := by omega
      have i3 : (0 : Int) ≤ (k : Int) := by omega
      by_cases hxy : r k = s k
      · have HE := hide hxy
        rw [← hxy] at hy
        obtain ⟨x, hx0⟩ : ∃ x, x = r k := ⟨_, rfl⟩
        rw [← hx0] at hx hy
        clear hxy hx0
        have hd : (((Fin.val x : Nat) : Int) != ((Fin.val x : Nat) : Int)) = false := by simp
        go_wp2
        go_quiet (fail)
        go_wp2
        go_roundw
        case rel => exact ⟨k + 1, by omega, by go_num, fun j hj => (by
          rcases Nat.lt_or_ge j k with h | h
          · exact HQ.out j h
          · rw [show j = k by omega]; exact HE.out), hw.drewN _⟩
        case measure => simp [intOf]; omega
      · have HE := hide hxy
        have hd : (((Fin.val (r k) : Nat) : Int) != ((Fin.val (s k) : Nat) : Int)) = true := by rw [bne_iff_ne]; exact fun h => hxy (en_inj.1 h)
        obtain ⟨x, hrx⟩ : ∃ x, x = r k := ⟨_, rfl⟩
        obtain ⟨y, hsy⟩ : ∃ y, y = s k := ⟨_, rfl⟩
        rw [← hrx] at hx hd
        rw [← hsy] at hy hd
        clear hrx hsy hxy
        go_wp2
        go_quiet (fail)
        go_wp2
        go_ret
        exact ⟨ret_bool (soB_false fun h => HE.out (h k hlt)).symm, hw.drewN _⟩
    · have hge : ¬ ((k : Int) < (m : Int)) := by omega
      go_wp2
      go_ret
      exact ⟨ret_bool (soB_true fun j hj => HQ.out j (by omega)).symm, hw⟩

set_option maxHeartbeats 1600000 in
theorem eqf_c (u v : Value) {N : Nat → Nat → (Fin p)} (h1 : Rd en w u n m M) (h2 : Rd en w v n m N) (hn : n ≤ 4096) (hm : m ≤ 140737488355328) :
    Calls Tryz.prog 110 #[u, v, .func (.func 111) #[] #[]] w fun e w' => e = .returned (.bool (soB (∀ i j, i < n → j < m → M i j = N i j))) ∧ Dr w w' := by
  obtain ⟨A, c, rfl, _, hcm, ha⟩ := h1
  obtain ⟨B, d, rfl, _, hdm, hb⟩ := h2
  unfold maxLen at hcm hdm
  have hne : ((n : Int) != (n : Int)) = false := by simp
  have HA := hide ha
  have HB := hide hb
  clear ha hb hcm hdm
  go_enter Tryz.func110, Tryz.ntmps110
  go_wp2
  go_loopw [7, 8, 9, 17] (fun _ _ _ u17 wr => ∃ k : Nat, k ≤ n ∧ u17 = .int .i64 (k : Int) ∧ (∀ i j, i < k → j < m → M i j = N i j) ∧ Dr w wr) (fun _ _ _ u17 _ => n - (intOf u17).toNat)
  case atStart => exact ⟨0, by omega, rfl, fun i j h => by omega, Dr.refl _⟩
  case round =>
    obtain ⟨k, hk, rfl, hq, hw⟩ := hrel
    have HQ := hide hq
    clear hq
    by_cases hlt : k < n
    · obtain ⟨b, o, A2, c2, rfl, _, hx, _, _, hx2⟩ := HA.out k hlt
      obtain ⟨b2, o2, B2, d2, rfl, _, hy, _, _, hy2⟩ := HB.out k hlt
      have q := equal_c A2 B2 c2 d2 m (M k) (N k) wr hm (fun j hj => by
        obtain ⟨b, o, e, _, hc⟩ := hx2 j hj
        exact ⟨b, o, e, (hw.cell _).trans hc⟩) (fun j hj => by
        obtain ⟨b, o, e, _, hc⟩ := hy2 j hj
        exact ⟨b, o, e, (hw.cell _).trans hc⟩)
      rw [← hw.cell] at hx hy
      have i1 : (k : Int) < (n : Int) := by omega
      have i3 : (0 : Int) ≤ (k : Int) := by omega
      clear hx2 hy2
      by_cases hxy : ∀ j, j < m → M k j = N k j
      · rw [soB_true hxy] at q
        have HE := hide hxy
        clear hxy
        go_wp2_with fail
        refine q.mono ?_
        rintro e w2 ⟨rfl, hd2⟩
        go_wp2
        go_roundw
        case rel => exact ⟨k + 1, by omega, by go_num, fun i j hi hj => (by
          rcases Nat.lt_or_ge i k with h | h
          · exact HQ.out i j h hj
          · rw [show i = k by omega]; exact HE.out j hj), (by obtain ⟨a, rfl⟩ := hd2; exact hw.drewN a)⟩
        case measure => simp [intOf]; omega
      · rw [soB_false hxy] at q
        have HE := hide hxy
        clear hxy
        go_wp2_with fail
        refine q.mono ?_
        rintro e w2 ⟨rfl, hd2⟩
        go_wp2
        go_ret
        exact ⟨ret_bool (soB_false fun h => HE.out fun j hj => h k j hlt hj).symm, (by obtain ⟨a, rfl⟩ := hd2; exact hw.drewN a)⟩
    · have hge : ¬ ((k : Int) < (n : Int)) := by omega
      go_wp2
      go_ret
      exact ⟨ret_bool (soB_true fun i j hi hj => HQ.out i j (by omega) hj).symm, hw⟩

set_option maxRecDepth 100000 in
set_option maxHeartbeats 1600000 in
theorem same_c (x y : Nat) {N : Nat → Nat → (Fin p)} (h1 : Mtx gm w x n m M) (h2 : Mtx gm w y n m N) (hn : n ≤ 4096) (hm : m ≤ 140737488355328) :
    Calls Tryz.prog 58 #[.pointer (some ⟨x, 0, none⟩), .pointer (some ⟨y, 0, none⟩)] w fun e w' => e = .returned (.bool (soB (∀ i j, i < n → j < m → M i j = N i j))) ∧ Dr w w' := by
  have Q1 := hide (fun k : Nat => made_c (h1.below (below_drewN (Below.refl _ w) k)))
  have Q2 := hide (fun k : Nat => made_c (h2.below (below_drewN (Below.refl _ w) k)))
  obtain ⟨u, hb1, hr1⟩ := h1
  obtain ⟨v, hb2, hr2⟩ := h2
  have c1 : w.cell? ⟨x, 1, none⟩ = some u := by rw [hb1.cell]; rfl
  have c2 : w.cell? ⟨y, 1, none⟩ = some v := by rw [hb2.cell]; rfl
  have Q3 := hide (fun k : Nat => eqf_c u v (hr1.below (below_drewN (Below.refl _ w) k)) (hr2.below (below_drewN (Below.refl _ w) k)) hn hm)
  obtain ⟨A, c, rfl, _⟩ := hr1
  obtain ⟨B, d, rfl, _⟩ := hr2
  generalize soB (∀ i j, i < n → j < m → M i j = N i j) = z at *
  clear hb1 hb2 
  go_enter Tryz.func58, Tryz.ntmps58
  go_wp2
  go_quiet (first
    | (go_at_call 92; first | (with_reducible exact Calls.quiet_of_same ((Q1.out _).mono fun _ _ ⟨a, b⟩ => ⟨a, b.symm⟩)) | (with_reducible exact Calls.quiet_of_same ((Q2.out _).mono fun _ _ ⟨a, b⟩ => ⟨a, b.symm⟩)))
    | (go_at_call 110; with_reducible exact Calls.quiet_of (Q3.out _)))
  go_wp2
  go_ret
  exact ⟨rfl, _, rfl⟩
end
end Go.Proofs.YtoaaplngdomdcaaGreat.MV

/- Matrices of words: Pick. -/
namespace Go.Proofs.YtoaaplngdomdcaaGreat.MV
open Go.RowKit
section
variable {p gm : Nat} {hp : 0 < p}
variable {w : World} {base g n m : Nat} {M : Nat → Nat → (Fin p)}

set_option maxHeartbeats 1600000 in
theorem pick1_c (x b1 b2 i r j : Nat) (v : Value) (L : List Nat) (h : Mtx gm w x n m M) (hv : Ny w .i64 v L) (hi : L[i]? = some r) (hr : r < n) (hj : j < m) (c1 : w.cell? ⟨b1, 0, none⟩ = some (.pointer (some ⟨x, 0, none⟩))) (c2 : w.cell? ⟨b2, 0, none⟩ = some v) :
    Calls Tryz.prog 115 #[.int .i64 (i : Int), .int .i64 (j : Int), .pointer (some ⟨b1, 0, none⟩), .pointer (some ⟨b2, 0, none⟩)] w fun e w' => e = .returned (.int .u32 ((Fin.val (M r j) : Nat) : Int)) ∧ Below w.heap.size w w' := by
  obtain ⟨A, c, _, h1, _, _, h2⟩ := Mt.form h
  obtain ⟨b, o, B, d, rfl, _, h3, _, _, h4⟩ := h2 r hr
  obtain ⟨b3, o3, rfl, _, h5⟩ := h4 j hj
  obtain ⟨E, e, rfl, _, _, h6⟩ := hv.form
  obtain ⟨b4, o4, rfl, _, h7⟩ := h6 i r hi
  generalize M r j = y at *
  have hlt : i < L.length := (List.getElem?_eq_some_iff.1 hi).1
  have i0 : (i : Int) < (L.length : Int) := by omega
  have i00 : (0 : Int) ≤ (i : Int) := by omega
  have i1 : (r : Int) < (n : Int) := by omega
  have i2 : (0 : Int) ≤ (r : Int) := by omega
  have i3 : (j : Int) < (m : Int) := by omega
  have i4 : (0 : Int) ≤ (j : Int) := by omega
  clear h h2 h4 h6 hi hv
  go_enter Tryz.func115, Tryz.ntmps115
  go_wp2
  go_quiet (fail)
  go_wp2
  go_ret
  exact ⟨rfl, by first | exact Below.refl _ _ | exact below_drewN (Below.refl _ _) _⟩

set_option maxRecDepth 100000 in
set_option maxHeartbeats 4000000 in
theorem pick_ok (x : Nat) (v : Value) (L : List Nat) (h : Mtx gm w x n m M) (hv : Ny w .i64 v L) (hL : 1 ≤ L.length ∧ L.length ≤ 256) (hr : ∀ (i r : Nat), L[i]? = some r → r < n) (hm : m ≤ 256) :
    Calls Tryz.prog 64 #[.pointer (some ⟨x, 0, none⟩), v] w fun e w' => ∃ z, e = .returned (.tuple #[.pointer (some ⟨z, 0, none⟩), .int .i64 0]) ∧ Mtx gm w' z L.length m (fun i j => M (L.getD i 0) j) ∧ Below w.heap.size w w' := by
  have HV0 := hide hv
  obtain ⟨E, e, rfl, hle, hlm, hcell⟩ := hv.form
  have n1 := (Blk.new w 30 #[.pointer (some ⟨x, 0, none⟩)]).alloc (.cells #[.slice E L.length e] 55)
  have n2 := Blk.new (w.alloc (.cells #[.pointer (some ⟨x, 0, none⟩)] 30)) 55 #[.slice E L.length e]
  have b1 := ((Below.refl w.heap.size w).alloc (Nat.le_refl _) (.cells #[.pointer (some ⟨x, 0, none⟩)] 30)).alloc (by simp) (.cells #[.slice E L.length e] 55)
  simp only [World.size_alloc] at n2
  have hn1 : 1 ≤ n := by
    obtain ⟨r, hr0⟩ : ∃ r, L[0]? = some r := ⟨_, List.getElem?_eq_getElem (by omega)⟩
    have := hr 0 r hr0
    omega
  have HH := hide (And.intro h (And.intro hL (And.intro hr (And.intro hn1 hm))))
  have HC := hide hcell
  have l1 : ¬ (L.length : Int) < 1 := by omega
  have l2 : ¬ (L.length : Int) > 256 := by omega
  clear h hv hcell hr hn1 hm hle hlm
  go_enter Tryz.func64, Tryz.ntmps64
  go_wp2_with fail
  generalize (w.alloc (.cells #[.pointer (some ⟨x, 0, none⟩)] 30)).alloc (.cells #[.slice E L.length e] 55) = W at n1 n2 b1 ⊢
  obtain ⟨B, hB⟩ : ∃ B, B = w.heap.size := ⟨_, rfl⟩
  rw [← hB] at n1 n2 ⊢
  have HX : Hid (∀ W', Below W.heap.size W W' → Mtx gm W' x n m M ∧ Ny W' .i64 (.slice E L.length e) L ∧ W'.cell? ⟨B, 0, none⟩ = some (.pointer (some ⟨x, 0, none⟩)) ∧ W'.cell? ⟨B + 1, 0, none⟩ = some (.slice E L.length e) ∧ W'.cell? ⟨x, 0, none⟩ = some (modF gm)) := fun W' hW => by
    have e1 := (HH.out.1.below b1).below hW
    obtain ⟨_, _, c0, _⟩ := Mt.form e1
    exact ⟨e1, (HV0.out.below b1).below hW, by rw [(n1.below' hW).cell]; rfl, by rw [(n2.below' hW).cell]; rfl, c0⟩
  have HCW : Hid (∀ (i r : Nat), L[i]? = some r → ∃ b o, E = some ⟨b, o, none⟩ ∧ W.cell? ⟨b, o + i, none⟩ = some (.int .i64 (r : Int))) := fun i r hi => by
    obtain ⟨b, o, e1, e2, e3⟩ := HC.out i r hi
    exact ⟨b, o, e1, (b1.cell (p := ⟨b, o + i, none⟩) e2).trans e3⟩
  have HB := hide b1
  clear n1 n2 b1 hB HC
  obtain ⟨_, _, c1, c2, c3⟩ := HX.out W (Below.refl _ _)
  have q1 := made_c (HX.out W (Below.refl _ _)).1
  have q2 := rows_c (HX.out W (Below.refl _ _)).1
  refine q1.mono ?_
  rintro e w' ⟨rfl, rfl⟩
  clear q1
  go_wp2_with fail
  go_loopw [7, 21] (fun _ u21 wr => ∃ k : Nat, k ≤ L.length ∧ u21 = .int .i64 (k : Int) ∧ W = wr) (fun _ u21 _ => L.length - (intOf u21).toNat)
  case atStart => exact ⟨0, by omega, rfl, rfl⟩
  case round =>
    obtain ⟨k, hk, rfl, rfl⟩ := hrel
    by_cases hlt : k < L.length
    · obtain ⟨r, hr0⟩ : ∃ r, L[k]? = some r := ⟨_, List.getElem?_eq_getElem hlt⟩
      obtain ⟨b, o, rfl, hcx⟩ := HCW.out k r hr0
      have hrn := HH.out.2.2.1 k r hr0
      have i1 : (k : Int) < (L.length : Int) := by omega
      have i2 : (0 : Int) ≤ (k : Int) := by omega
      have i3 : ¬ (r : Int) < 0 := by omega
      have i4 : ¬ (r : Int) ≥ (n : Int) := by omega
      clear hr0
      go_wp2_with fail
      refine q2.mono ?_
      rintro e w' ⟨rfl, rfl⟩
      go_wp2
      go_roundw
      case rel => exact ⟨k + 1, by omega, by go_num, trivial⟩
      case measure => simp [intOf]; omega
    · have hge : ¬ ((k : Int) < (L.length : Int)) := by omega
      have Q6 : Hid (∀ W', Below W.heap.size W W' → Calls Tryz.prog 40 #[.pointer (some ⟨x, 0, none⟩)] W' fun e w' => e = .returned (.int .i64 (m : Int)) ∧ W' = w') := fun W' hW => cols_c (HX.out W' hW).1 (by have := HH.out.2.2.2.1; omega)
      have Q7 : Hid (∀ W', Below W.heap.size W W' → Calls Tryz.prog 85 #[(modF gm), .int .i64 (L.length : Int), .int .i64 (m : Int), .func (.func 115) #[] #[.pointer (some ⟨B, 0, none⟩), .pointer (some ⟨B + 1, 0, none⟩)]] W' fun e w' => ∃ z, e = .returned (.pointer (some ⟨z, 0, none⟩)) ∧ Mtx gm w' z L.length m (fun i j => M (L.getD i 0) j) ∧ Below W.heap.size W w') := fun W' hW =>
        (laid_c L.length m 115 #[.pointer (some ⟨B, 0, none⟩), .pointer (some ⟨B + 1, 0, none⟩)] (fun i j => M (L.getD i 0) j) W' HH.out.2.1.2 HH.out.2.2.2.2 (enters_of Tryz.func115 (by kernel_rfl) rfl) (fun i j w' hi hj hb => by
          obtain ⟨a1, a2, a3, a4, a5⟩ := HX.out w' (Below.step hW hb)
          obtain ⟨r, hr0⟩ : ∃ r, L[i]? = some r := ⟨_, List.getElem?_eq_getElem hi⟩
          have e0 : L.getD i 0 = r := by rw [List.getD_eq_getElem?_getD, hr0]; rfl
          rw [e0]
          exact pick1_c x B (B + 1) i r j _ L a1 a2 hr0 (HH.out.2.2.1 i r hr0) hj a3 a4)).mono fun e w' ⟨z, a, b, c⟩ => ⟨z, a, b, Below.step hW c⟩
      have HX2 : Hid (∀ W', Below W.heap.size W W' → W'.cell? ⟨B, 0, none⟩ = some (.pointer (some ⟨x, 0, none⟩)) ∧ W'.cell? ⟨B + 1, 0, none⟩ = some (.slice E L.length e) ∧ W'.cell? ⟨x, 0, none⟩ = some (modF gm)) := fun W' hW => (HX.out W' hW).2.2
      clear q2
      go_wp2_with fail
      go_region_held3 (fun w' => w'.cell? ⟨B, 0, none⟩ = some (.pointer (some ⟨x, 0, none⟩)) ∧ w'.cell? ⟨B + 1, 0, none⟩ = some (.slice E L.length e) ∧ w'.cell? ⟨x, 0, none⟩ = some (modF gm)) (first | go_keep | exact HX2.out _ q9)
        (first
          | (go_at_call 40; (with_reducible refine (Q6.out _ ?bb).mono ?_); (case bb => (repeat (first | with_reducible exact Below.refl _ _ | with_reducible refine Below.drew ?_))); rintro e w2 ⟨rfl, rfl⟩)
          | (go_at_call 85; (with_reducible refine (Q7.out _ ?bb).mono ?_); (case bb => (repeat (first | with_reducible exact Below.refl _ _ | with_reducible refine Below.drew ?_))); rintro e w2 ⟨z, rfl, hz, q9⟩; have HZ := hide hz; clear hz))
      all_goals
        go_wp2
        go_ret2
        exact ⟨z, rfl, HZ.out, HB.out.trans (q9.mono HB.out.size)⟩
end
end Go.Proofs.YtoaaplngdomdcaaGreat.MV

/- What the statements call a matrix, over words: mul, inverse, same, at, there, identity. -/
namespace Go.Proofs.YtoaaplngdomdcaaGreat.MV
open Go.RowKit
section
variable {p gm : Nat} {hp : 0 < p}
variable {w : World} {base g n m : Nat} {M : Nat → Nat → (Fin p)}

set_option maxHeartbeats 1600000 in
theorem there_c (g : Nat) (w : World) : Calls Tryz.prog 11 #[.agg #[.pointer none, .pointer (some ⟨g, 0, none⟩)]] w fun e w' => e = .returned (.bool true) ∧ Below w.heap.size w w' := by
  have b1 := (Below.refl w.heap.size w).alloc (Nat.le_refl _) (.cells #[.pointer none, .pointer (some ⟨g, 0, none⟩)] 32)
  have HB := hide b1
  clear b1
  go_enter Tryz.func11, Tryz.ntmps11
  go_wp2
  go_ret
  exact ⟨rfl, HB.out⟩
set_option maxHeartbeats 1600000 in
theorem there_none (w : World) : Calls Tryz.prog 11 #[.agg #[.pointer none, .pointer none]] w fun e w' => e = .returned (.bool false) ∧ Below w.heap.size w w' := by
  have b1 := (Below.refl w.heap.size w).alloc (Nat.le_refl _) (.cells #[.pointer none, .pointer none] 32)
  have HB := hide b1
  clear b1
  go_enter Tryz.func11, Tryz.ntmps11
  go_wp2
  go_ret
  exact ⟨rfl, HB.out⟩
set_option maxHeartbeats 1600000 in
theorem msame_c (x y : Nat) {N : Nat → Nat → (Fin p)} (h1 : Mtx gm w x n m M) (h2 : Mtx gm w y n m N) (hn : n ≤ 4096) (hm : m ≤ 4096) :
    Calls Tryz.prog 17 #[.agg #[.pointer none, .pointer (some ⟨x, 0, none⟩)], .agg #[.pointer none, .pointer (some ⟨y, 0, none⟩)]] w fun e w' => e = .returned (.bool (soB (∀ i j, i < n → j < m → M i j = N i j))) ∧ Below w.heap.size w w' := by
  have b1 := ((Below.refl w.heap.size w).alloc (Nat.le_refl _) (.cells #[.pointer none, .pointer (some ⟨x, 0, none⟩)] 32)).alloc (by simp) (.cells #[.pointer none, .pointer (some ⟨y, 0, none⟩)] 32)
  have q := same_c x y (h1.below b1) (h2.below b1) hn (by omega)
  have HB := hide b1
  generalize soB (∀ i j, i < n → j < m → M i j = N i j) = z at *
  clear b1 h1 h2
  go_enter Tryz.func17, Tryz.ntmps17
  go_wp2_with fail
  refine q.mono ?_
  rintro e w2 ⟨rfl, hd⟩
  have HD := hide (HB.out.trans (hd.below.mono HB.out.size))
  clear q hd
  go_wp2
  go_ret
  exact ⟨rfl, HD.out⟩
set_option maxRecDepth 100000 in
set_option maxHeartbeats 1600000 in
theorem minv_c (h : Mtx gm w g n n M) (hk : (Fk p gm) w) (hn : 1 ≤ n ∧ n ≤ 256) :
    Calls Tryz.prog 12 #[.agg #[.pointer none, .pointer (some ⟨g, 0, none⟩)]] w fun e w' => Below w.heap.size w w' ∧
      (((Fp p hp).rank n M = n ∧ ∃ x, e = .returned (.tuple #[.agg #[.pointer none, .pointer (some ⟨x, 0, none⟩)], .int .i64 0]) ∧ Mtx gm w' x n n ((Fp p hp).invM n M)) ∨ ((Fp p hp).rank n M ≠ n ∧ e = .returned (.tuple #[.agg #[.pointer none, .pointer none], .int .i64 71]))) := by
  have b1 := ((Below.refl w.heap.size w).alloc (Nat.le_refl _) (.cells #[.pointer none, .pointer (some ⟨g, 0, none⟩)] 32)).alloc (by simp) (.cells #[.pointer none, .pointer none] 32)
  have n2 := Blk.new (w.alloc (.cells #[.pointer none, .pointer (some ⟨g, 0, none⟩)] 32)) 32 #[.pointer none, .pointer none]
  have q := inverse_c (hp := hp) (h.below b1) (hk.below b1) hn
  simp only [World.size_alloc] at n2
  have HB := hide (And.intro b1 n2)
  clear b1 n2 h hk
  go_enter Tryz.func12, Tryz.ntmps12
  go_wp2_with fail
  refine q.mono ?_
  rintro e w2 ⟨hb2, ⟨hr, x, rfl, hx, hlw⟩ | ⟨hr, rfl⟩⟩
  · have hblk := HB.out.2.below' hb2
    have hkeep : ∀ w7, w2.grownBy w7 (some (w.heap.size + 1)) → Mtx gm w7 x n n ((Fp p hp).invM n M) := fun w7 hg => hlw _ w7 (by simp) hg
    have H2 := hide (And.intro hr (And.intro hx (And.intro hkeep (HB.out.1.trans (hb2.mono HB.out.1.size)))))
    clear q hr hx hb2 hlw hkeep
    go_wp2_with ((with_reducible change wpList _ _ _ (⟨none, .store _ (.tmp 2) _, _, _, _, _⟩ :: _) _ _); go_loud (refine wpList_store_row (o := ⟨none, .store _ (.tmp 2) _, _, _, _, _⟩) hblk #[.pointer none, .pointer (some ⟨x, 0, none⟩)] rfl (by simp [Value.oneCell']) rfl 32 _ _ rfl (by kernel_rfl) rfl rfl ?_; intro w7 hb7 hg7))
    have hx7 := H2.out.2.2.1 w7 hg7
    refine bodyPost_ret (results_row_tmp rfl _ _ (w.heap.size + 1) 32 #[.pointer none, .pointer (some ⟨x, 0, none⟩)] (0, 0) _ rfl hb7 Tryz.underlying32 rfl (by kernel_rfl)) rfl ⟨H2.out.2.2.2.grown hg7 H2.out.2.2.2.size fun k hk => (by injection hk with hk; omega), .inl ⟨H2.out.1, x, rfl, hx7⟩⟩
  · have hblk := HB.out.2.below' hb2
    have H2 := hide (And.intro hr (HB.out.1.trans (hb2.mono HB.out.1.size)))
    clear q hr hb2
    go_wp2_with ((with_reducible change wpList _ _ _ (⟨none, .store _ (.tmp 2) _, _, _, _, _⟩ :: _) _ _); go_loud (refine wpList_store_row (o := ⟨none, .store _ (.tmp 2) _, _, _, _, _⟩) hblk #[.pointer none, .pointer none] rfl (by simp [Value.oneCell']) rfl 32 _ _ rfl (by kernel_rfl) rfl rfl ?_; intro w7 hb7 hg7))
    exact bodyPost_ret (results_row_tmp rfl _ _ (w.heap.size + 1) 32 #[.pointer none, .pointer none] (0, 0) _ rfl hb7 Tryz.underlying32 rfl (by kernel_rfl)) rfl ⟨H2.out.2.grown hg7 H2.out.2.size fun k hk => (by injection hk with hk; omega), .inr ⟨H2.out.1, rfl⟩⟩
end
end Go.Proofs.YtoaaplngdomdcaaGreat.MV

/- What the statements call a matrix, over words: products, single elements, the identity. -/
namespace Go.Proofs.YtoaaplngdomdcaaGreat.MV
open Go.RowKit
section
variable {p gm : Nat} {hp : 0 < p}
variable {w : World} {base g n m : Nat} {M : Nat → Nat → (Fin p)}

set_option maxRecDepth 100000 in
set_option maxHeartbeats 1600000 in
theorem mmul_c (x y k : Nat) {N : Nat → Nat → (Fin p)} (h : Mtx gm w x n k M) (h2 : Mtx gm w y k m N) (hf : (Fk p gm) w) (hn : 1 ≤ n ∧ n ≤ 256) (hk : 1 ≤ k ∧ k ≤ 256) (hm : m ≤ 256) :
    Calls Tryz.prog 16 #[.agg #[.pointer none, .pointer (some ⟨x, 0, none⟩)], .agg #[.pointer none, .pointer (some ⟨y, 0, none⟩)]] w fun e w' => ∃ z, e = .returned (.tuple #[.agg #[.pointer none, .pointer (some ⟨z, 0, none⟩)], .int .i64 0]) ∧ Mtx gm w' z n m ((Fp p hp).mulm k M N) ∧ Below w.heap.size w w' := by
  have b1 := (((Below.refl w.heap.size w).alloc (Nat.le_refl _) (.cells #[.pointer none, .pointer (some ⟨x, 0, none⟩)] 32)).alloc (by simp) (.cells #[.pointer none, .pointer (some ⟨y, 0, none⟩)] 32)).alloc (by simp; omega) (.cells #[.pointer none, .pointer none] 32)
  have n2 := Blk.new ((w.alloc (.cells #[.pointer none, .pointer (some ⟨x, 0, none⟩)] 32)).alloc (.cells #[.pointer none, .pointer (some ⟨y, 0, none⟩)] 32)) 32 #[.pointer none, .pointer none]
  have q := mul_c (hp := hp) x y k (h.below b1) (h2.below b1) (hf.below b1) hn hk hm
  simp only [World.size_alloc] at n2
  have HB := hide (And.intro b1 n2)
  clear b1 n2 h h2 hf
  go_enter Tryz.func16, Tryz.ntmps16
  go_wp2_with fail
  refine q.mono ?_
  rintro e w2 ⟨z, rfl, hz, hb2, hlw⟩
  have hblk := HB.out.2.below' hb2
  have hkeep : ∀ w7, w2.grownBy w7 (some (w.heap.size + 1 + 1)) → Mtx gm w7 z n m ((Fp p hp).mulm k M N) := fun w7 hg => hlw _ w7 (by simp) hg
  have H2 := hide (And.intro hz (And.intro hkeep (HB.out.1.trans (hb2.mono HB.out.1.size))))
  clear q hz hb2 hlw hkeep
  go_wp2_with ((with_reducible change wpList _ _ _ (⟨none, .store _ (.tmp 4) _, _, _, _, _⟩ :: _) _ _); go_loud (refine wpList_store_row (o := ⟨none, .store _ (.tmp 4) _, _, _, _, _⟩) hblk #[.pointer none, .pointer (some ⟨z, 0, none⟩)] rfl (by simp [Value.oneCell']) rfl 32 _ _ rfl (by kernel_rfl) rfl rfl ?_; intro w7 hb7 hg7))
  have hx7 := H2.out.2.1 w7 hg7
  exact bodyPost_ret (results_row_tmp rfl _ _ (w.heap.size + 1 + 1) 32 #[.pointer none, .pointer (some ⟨z, 0, none⟩)] (0, 0) _ rfl hb7 Tryz.underlying32 rfl (by kernel_rfl)) rfl ⟨z, rfl, hx7, H2.out.2.2.grown hg7 H2.out.2.2.size fun k hk => (by injection hk with hk; omega)⟩

set_option maxHeartbeats 1600000 in
theorem mat_at_c (x i j : Nat) (h : Mtx gm w x n m M) (hi : i < n) (hj : j < m) :
    Calls Tryz.prog 14 #[.agg #[.pointer none, .pointer (some ⟨x, 0, none⟩)], .int .i64 (i : Int), .int .i64 (j : Int)] w fun e w' => e = .returned (.tuple #[.int .u32 ((Fin.val (M i j) : Nat) : Int), .int .i64 0]) ∧ Below w.heap.size w w' := by
  have b1 := (Below.refl w.heap.size w).alloc (Nat.le_refl _) (.cells #[.pointer none, .pointer (some ⟨x, 0, none⟩)] 32)
  have q := at_c (h.below b1) hi hj
  generalize M i j = z at *
  have HB := hide b1
  clear b1 h
  go_enter Tryz.func14, Tryz.ntmps14
  go_wp2_with fail
  refine q.mono ?_
  rintro e w2 ⟨rfl, rfl⟩
  clear q
  go_wp2
  go_ret2
  exact ⟨rfl, HB.out⟩

set_option maxRecDepth 100000 in
set_option maxHeartbeats 1600000 in
theorem mident_c (n : Nat) (w : World) (hk : (Fk p gm) w) (hn : 1 ≤ n ∧ n ≤ 256) (hp0 : 2 ≤ p) :
    Calls Tryz.prog 10 #[.int .u32 (p : Int), .pointer (some ⟨gm, 0, none⟩), .int .i64 (n : Int)] w fun e w' => ∃ z, e = .returned (.tuple #[.agg #[.pointer none, .pointer (some ⟨z, 0, none⟩)], .int .i64 0]) ∧ Mtx gm w' z n n (Fp p hp).ident ∧ Below w.heap.size w w' := by
  have b1 := (Below.refl w.heap.size w).alloc (Nat.le_refl _) (.cells #[.pointer none, .pointer none] 32)
  have n2 := Blk.new w 32 #[.pointer none, .pointer none]
  have q := ident_c (hp := hp) n _ (hk.below b1) hn
  have HB := hide (And.intro b1 n2)
  have i0 : ¬ (p : Int) = 0 := by omega
  clear b1 n2 hk
  go_enter Tryz.func10, Tryz.ntmps10
  go_wp2_with fail
  refine q.mono ?_
  rintro e w2 ⟨z, rfl, hz, hb2, hlw⟩
  have hblk := HB.out.2.below' hb2
  have hkeep : ∀ w7, w2.grownBy w7 (some w.heap.size) → Mtx gm w7 z n n (Fp p hp).ident := fun w7 hg => hlw _ w7 (by simp) hg
  have H2 := hide (And.intro hz (And.intro hkeep (HB.out.1.trans (hb2.mono HB.out.1.size))))
  clear q hz hb2 hlw hkeep
  go_wp2_with ((with_reducible change wpList _ _ _ (⟨none, .store _ (.tmp 6) _, _, _, _, _⟩ :: _) _ _); go_loud (refine wpList_store_row (o := ⟨none, .store _ (.tmp 6) _, _, _, _, _⟩) hblk #[.pointer none, .pointer (some ⟨z, 0, none⟩)] rfl (by simp [Value.oneCell']) rfl 32 _ _ rfl (by kernel_rfl) rfl rfl ?_; intro w7 hb7 hg7))
  have hx7 := H2.out.2.1 w7 hg7
  exact bodyPost_ret (results_row_tmp rfl _ _ w.heap.size 32 #[.pointer none, .pointer (some ⟨z, 0, none⟩)] (0, 0) _ rfl hb7 Tryz.underlying32 rfl (by kernel_rfl)) rfl ⟨z, rfl, hx7, H2.out.2.2.grown hg7 H2.out.2.2.size fun k hk => (by injection hk with hk; omega)⟩
end
end Go.Proofs.YtoaaplngdomdcaaGreat.MV

/- Contracts of the statements' helpers for lists of words: marks, sameness, lists that are lent with marks behind them. -/
namespace Go.Proofs.YtoaaplngdomdcaaGreat
open Go.RowKit

def markw (k i : Int) : Nat := ((1000003 * (k + 1) + i) % 4294967296).toNat
theorem markw_int (k i : Int) : ((markw k i : Nat) : Int) = (1000003 * (k + 1) + i) % 4294967296 := by
  unfold markw
  omega
set_option maxHeartbeats 400000 in
theorem markw_any (k i : Int) (w : World) (hk : 0 ≤ k) (hk2 : k ≤ 1000) (hi : 0 ≤ i) (hi2 : i ≤ 140737488355400) :
    Calls Tryz.prog 78 #[.int .i64 k, .int .i64 i] w fun e w' => e = .returned (.int .u32 ((markw k i : Nat) : Int)) ∧ w = w' := by
  have h1 : IntKind.i64.wrap (k + 1) = k + 1 := IntWalk.i64_in _ (by omega)
  have h2 : IntKind.i64.wrap (1000003 * (k + 1)) = 1000003 * (k + 1) := IntWalk.i64_in _ (by omega)
  have h3 : IntKind.i64.wrap (1000003 * (k + 1) + i) = 1000003 * (k + 1) + i := IntWalk.i64_in _ (by omega)
  have h4 : IntKind.u32.wrap (1000003 * (k + 1) + i) = ((markw k i : Nat) : Int) := by
    rw [markw_int]
    simp only [IntKind.wrap, IntKind.bits, IntKind.signed]
    simp
  generalize markw k i = z at *
  go_enter Tryz.func78, Tryz.ntmps78
  go_wp2
  go_ret
  exact ⟨rfl, rfl⟩
theorem samew_step (l m : List Nat) (k : Nat) (x y : Nat) (hx : l[k]? = some x) (hy : m[k]? = some y) (h : l.take k = m.take k) :
    (l.take (k + 1) = m.take (k + 1)) ↔ x = y := by
  rw [List.take_add_one, List.take_add_one, hx, hy, h]
  simp
set_option maxHeartbeats 400000 in
theorem samew_any (va vb : Value) (l m : List Nat) (w : World) (ha : Ny w .u32 va l) (hb : Ny w .u32 vb m) :
    Calls Tryz.prog 19 #[va, vb] w fun e w' => e = .returned (.bool (decide (l = m))) ∧ Below w.heap.size w w' := by
  obtain ⟨A, c, rfl, hc, hm, hca⟩ := ha.form
  obtain ⟨B, d, rfl, hd, hmd, hcb⟩ := hb.form
  unfold maxLen at hm hmd
  by_cases hl : l.length = m.length
  · have hne : ((l.length : Int) != (m.length : Int)) = false := by simp [hl]
    have HL : Hid (l.length = m.length) := hl
    clear hl
    go_enter Tryz.func19, Tryz.ntmps19
    go_wp2
    go_loopw [5] (fun i wr => ∃ k : Nat, k ≤ l.length ∧ i = .int .i64 k ∧ l.take k = m.take k ∧ Below w.heap.size w wr) (fun i _ => l.length - (intOf i).toNat)
    case atStart => exact ⟨0, by omega, rfl, by simp, Below.refl _ _⟩
    case round =>
      obtain ⟨k, hk, rfl, hq, hbel⟩ := hrel
      have HQ := hide hq
      clear hq
      by_cases hlt : k < l.length
      · have hlt2 : k < m.length := by have := HL.out; omega
        obtain ⟨x, hx⟩ : ∃ x, l[k]? = some x := ⟨_, List.getElem?_eq_getElem hlt⟩
        obtain ⟨y, hy⟩ : ∃ y, m[k]? = some y := ⟨_, List.getElem?_eq_getElem hlt2⟩
        obtain ⟨b, o, rfl, hbl, hcell⟩ := hca k x hx
        obtain ⟨b2, o2, rfl, hbl2, hcell2⟩ := hcb k y hy
        have hcx : wr.cell? ⟨b, o + k, none⟩ = some (.int .u32 (x : Int)) := (hbel.cell (p := ⟨b, o + k, none⟩) hbl).trans hcell
        have hcy : wr.cell? ⟨b2, o2 + k, none⟩ = some (.int .u32 (y : Int)) := (hbel.cell (p := ⟨b2, o2 + k, none⟩) hbl2).trans hcell2
        have HX := hide hx
        have HY := hide hy
        clear hx hy hcell hcell2 hca hcb
        have i1 : (k : Int) < (l.length : Int) := by omega
        have i2 : (k : Int) < (m.length : Int) := by omega
        have i3 : (0 : Int) ≤ (k : Int) := by omega
        by_cases hxy : x = y
        · have hd : ((x : Int) != (y : Int)) = false := by simp [hxy]
          go_wp2
          go_quiet (fail)
          go_wp2
          go_roundw
          case rel => exact ⟨k + 1, by omega, by go_num, (samew_step l m k x y HX.out HY.out HQ.out).2 hxy, below_drewN hbel _⟩
          case measure => simp [intOf]; omega
        · have hd : ((x : Int) != (y : Int)) = true := by
            rw [bne_iff_ne]; intro h; exact hxy ((by omega))
          go_wp2
          go_quiet (fail)
          go_wp2
          go_ret
          refine ⟨ret_bool ?_, below_drewN hbel _⟩
          refine (decide_eq_false fun h => hxy ((samew_step l m k x y HX.out HY.out HQ.out).1 (by rw [h]))).symm
      · have hge : ¬ ((k : Int) < (l.length : Int)) := by omega
        go_wp2
        go_ret
        refine ⟨ret_bool ?_, hbel⟩
        refine (decide_eq_true ?_).symm
        have := HQ.out
        rwa [List.take_of_length_le (by omega), List.take_of_length_le (by have := HL.out; omega)] at this
  · have hne : ((l.length : Int) != (m.length : Int)) = true := by rw [bne_iff_ne]; omega
    go_enter Tryz.func19, Tryz.ntmps19
    go_wp2
    go_ret
    exact ⟨ret_bool (decide_eq_false fun h => hl (by rw [h])).symm, Below.refl _ _⟩

/-- The first n marks behind a list of length len. -/
def marksw (k len n : Nat) : List Nat := (List.range n).map fun i => markw k ((len + i : Nat) : Int)
theorem marksw_succ (k len n : Nat) : marksw k len (n + 1) = marksw k len n ++ [markw k ((len + n : Nat) : Int)] := by
  simp [marksw, List.range_succ]
@[simp] theorem marksw_length (k len n : Nat) : (marksw k len n).length = n := by simp [marksw]
set_option maxHeartbeats 800000 in
theorem lentw_any (va : Value) (l : List Nat) (w : World) (ha : Ny w .u32 va l) (hl : l.length ≤ 35184372088000) :
    Calls Tryz.prog 51 #[va] w fun e w' => ∃ v, e = .returned v ∧ OwnN w' w.heap.size 22 .u32 v (l ++ marksw 0 l.length 70) ∧ Below w.heap.size w w' := by
  obtain ⟨A, c, rfl, hc, hm, hca⟩ := ha.form
  unfold maxLen at hm
  go_enter Tryz.func51, Tryz.ntmps51
  go_wp2
  go_loopw [3, 4] (fun v i wr => ∃ k : Nat, k ≤ l.length ∧ i = .int .i64 k ∧ OwnN wr w.heap.size 22 .u32 v (l.take k) ∧ Below w.heap.size w wr) (fun _ i _ => l.length - (intOf i).toNat)
  case atStart => exact ⟨0, by omega, rfl, OwnN.nil _ _ _ _, Below.refl _ _⟩
  case round =>
    obtain ⟨k, hk, rfl, hown, hbel⟩ := hrel
    have HO := hide hown
    clear hown
    by_cases hlt : k < l.length
    · obtain ⟨x, hx⟩ : ∃ x, l[k]? = some x := ⟨_, List.getElem?_eq_getElem hlt⟩
      obtain ⟨b, o, rfl, hbl, hcell⟩ := hca k x hx
      have hcx : wr.cell? ⟨b, o + k, none⟩ = some (.int .u32 (x : Int)) := (hbel.cell (p := ⟨b, o + k, none⟩) hbl).trans hcell
      have HX := hide hx
      clear hx hcell hca
      have hlk : (l.take k).length = k := by rw [List.length_take]; omega
      have HLK := hide hlk
      clear hlk
      go_wp2_with (at_builtin; go_loud (refine wpList_push1 elemW HO.out hbel hbel.size (by rw [List.length_take]; unfold maxLen; omega) (by rw [List.length_take]; omega) (.int .u32 (x : Int)) rfl rfl _ _ rfl rfl rfl ?_); intro v1 w1 ho1 hbel1 _ _ _; have hown1 := OwnN.push ho1; clear ho1)
      go_roundw
      case rel => exact ⟨k + 1, by omega, by go_num, by rw [take_snoc l k x HX.out]; exact hown1, hbel1⟩
      case measure => simp [intOf]; omega
    · have hkl : k = l.length := by omega
      subst hkl
      have hO2 := HO.out
      rw [List.take_of_length_le (Nat.le_refl _)] at hO2
      clear HO
      have HO := hide hO2
      clear hO2
      go_wp2
      go_loopw [3, 5] (fun v i wr => ∃ k : Nat, k ≤ 70 ∧ i = .int .i64 k ∧ OwnN wr w.heap.size 22 .u32 v (l ++ marksw 0 l.length k) ∧ Below w.heap.size w wr) (fun _ i _ => 70 - (intOf i).toNat)
      case atStart => exact ⟨0, by omega, rfl, by simpa [marksw] using HO.out, hbel⟩
      case round =>
        clear HO hbel
        obtain ⟨k, hk, rfl, hown, hbel⟩ := hrel
        have HO := hide hown
        clear hown
        by_cases hlt : k < 70
        · have hmk := fun w => markw_any 0 ((l.length + k : Nat) : Int) w (by omega) (by omega) (by omega) (by omega)
          rw [Int.natCast_add] at hmk
          go_wp2_with (first
            | (go_at_call 78; refine (hmk _).mono ?_; rintro e w' ⟨rfl, rfl⟩)
            | (at_builtin; go_loud (refine wpList_push1 elemW HO.out hbel hbel.size (by rw [List.length_append, marksw_length]; unfold maxLen; omega) (by rw [List.length_append, marksw_length]; omega) (.int .u32 ((markw 0 ((l.length + k : Nat) : Int) : Nat) : Int)) rfl rfl _ _ rfl rfl rfl ?_); intro v1 w1 ho1 hbel1 _ _ _; have hown1 := OwnN.push ho1; clear ho1))
          go_roundw
          case rel => exact ⟨k + 1, by omega, by go_num, by rw [marksw_succ, ← List.append_assoc]; exact hown1, hbel1⟩
          case measure => simp [intOf]; omega
        · have hkl : k = 70 := by omega
          subst hkl
          go_wp2
          go_ret
          exact ⟨_, rfl, HO.out, hbel⟩

set_option maxHeartbeats 400000 in
theorem keptw_any (vf va : Value) (f l : List Nat) (w : World) (hf : Ny w .u32 vf f) (ha : Ny w .u32 va l) (hl : l.length ≤ 35184372088000) :
    Calls Tryz.prog 53 #[vf, va] w fun e w' => e = .returned (.bool (decide (f = l ++ marksw 0 l.length 70))) ∧ Below w.heap.size w w' := by
  go_enter Tryz.func53, Tryz.ntmps53
  go_wp2_with fail
  refine (lentw_any va l w ha hl).mono ?_
  rintro e w1 ⟨v, rfl, hown, hbel⟩
  go_wp2_with fail
  refine (samew_any vf v f _ w1 (hf.below hbel) hown.ny).mono ?_
  rintro e w2 ⟨rfl, hbel2⟩
  go_wp2_with fail
  go_ret
  exact ⟨rfl, hbel.trans (hbel2.mono hbel.size)⟩

/-- What a list holds when i places are written over. -/
def overedw (_n i : Nat) (l : List Nat) : List Nat := ((List.range i).map fun j => markw 7 ((j + 3 : Nat) : Int)) ++ l.drop i
theorem overedw_set (l : List Nat) (i : Nat) (h : i < l.length) : (overedw l.length i l).set i (markw 7 ((i : Int) + 3)) = overedw l.length (i + 1) l := by
  unfold overedw
  rw [List.set_append_right _ _ (by simp), List.drop_eq_getElem_cons h]
  simp only [List.length_map, List.length_range, Nat.sub_self, List.set_cons_zero, List.range_succ, List.map_append, List.map_cons, List.map_nil, List.append_assoc, List.cons_append, List.nil_append]
  rfl
theorem overedw_length (l : List Nat) (n i : Nat) (h : i ≤ l.length) : (overedw n i l).length = l.length := by simp [overedw]; omega

set_option maxHeartbeats 400000 in
theorem overw_any (base : Nat) (v : Value) (l : List Nat) (w : World) (h : OwnN w base 22 .u32 v l) (hl : l.length ≤ 140737488355328) :
    Calls Tryz.prog 54 #[v] w fun e w' => e = .returned (.tuple #[]) ∧ Below base w w' ∧ w.grownBy w' v.ownBlock ∧ (∃ l', OwnN w' base 22 .u32 v l' ∧ l'.length = l.length) := by
  by_cases h0 : l.length = 0
  · have hl0 : l = [] := List.eq_nil_of_length_eq_zero h0
    subst hl0
    have HO := hide h
    obtain ⟨A, c, hv, _⟩ := h.ny.form
    subst hv
    clear h
    go_enter Tryz.func54, Tryz.ntmps54
    go_wp2
    go_loopw [2] (fun u2 wr => u2 = .int .i64 0 ∧ Below base w wr ∧ w.grownBy wr (Value.ownBlock (.slice A (List.length ([] : List Nat)) c)) ∧ OwnN wr base 22 .u32 (.slice A (List.length ([] : List Nat)) c) []) (fun _ _ => 0)
    case atStart => exact ⟨rfl, Below.refl _ _, World.grownBy.refl _ _, HO.out⟩
    case round =>
      obtain ⟨rfl, hb, hg, hw⟩ := hrel
      go_wp2
      go_end0
      exact ⟨rfl, hb, hg, [], hw, rfl⟩
  obtain ⟨g, cap, hv, hbg, _⟩ := h.form (by omega)
  subst hv
  have HO := hide h
  clear h
  go_enter Tryz.func54, Tryz.ntmps54
  go_wp2
  go_loopw [2] (fun u2 wr => ∃ i : Nat, i ≤ l.length ∧ u2 = .int .i64 (i : Int) ∧ Below base w wr ∧ w.grownBy wr (some g) ∧ OwnN wr base 22 .u32 (.slice (some ⟨g, 0, none⟩) l.length cap) (overedw l.length i l)) (fun i _ => l.length - (intOf i).toNat)
  case atStart => exact ⟨0, by omega, rfl, Below.refl _ _, World.grownBy.refl _ _, by simpa [overedw] using HO.out⟩
  case round =>
    obtain ⟨i, hi, rfl, hb, hg, ho⟩ := hrel
    clear HO
    have HO := hide ho
    by_cases hil : i < l.length
    · have hlen := overedw_length l l.length i hi
      have hfz := World.ownsRow.frozenAt (n := l.length) (xs := ncells .u32 (overedw l.length i l)) (by unfold OwnN at ho; rw [hlen] at ho; exact ho) i
      have hcc := World.ownsRow.cellAt (n := l.length) (xs := ncells .u32 (overedw l.length i l)) (by unfold OwnN at ho; rw [hlen] at ho; exact ho) i (by omega)
      have hcv : ∃ y, wr.cell? ⟨g, i, none⟩ = some y := by rw [hcc]; exact ⟨_, List.getElem?_eq_getElem (by rw [ncells_length]; omega)⟩
      obtain ⟨y, hcy⟩ := hcv
      have hmk := fun w => markw_any 7 ((i : Int) + 3) w (by omega) (by omega) (by omega) (by omega)
      have HG := hide hg
      clear hcc hlen ho hg
      go_wp2_with (go_at_call 78; ((with_reducible refine (hmk _).mono ?_)); rintro e w' ⟨rfl, rfl⟩)
      go_roundw
      case rel => exact ⟨i + 1, by omega, by go_num, hb.setCell hbg _, HG.out.trans_ (store_grown _ _ _ _), by rw [← overedw_set l i hil]; exact HO.out.store i _⟩
      case measure => simp [intOf]; omega
    · have hieq : i = l.length := by omega
      clear HO
      go_wp2
      go_end0
      refine ⟨rfl, hb, hg, _, ho, ?_⟩
      rw [overedw_length _ _ _ (by omega)]
/-- The beginning of a row, as 'full[:n]' gives it. -/
theorem OwnN.front {w : World} {base : Nat} {e : TypeId} {g n cap : Nat} {l r : List Nat} (h : OwnN w base e .u32 (.slice (some ⟨g, 0, none⟩) n cap) (l ++ r)) : Ny w .u32 (.slice (some ⟨g, 0, none⟩) l.length cap) l := by
  rcases h.2 with ⟨h0, _⟩ | ⟨g', cap', cur, hv, hg, hh, hnc, hcm, hcs, ht⟩
  · cases h0
  · injection hv with hA hn hc
    injection hA with hA
    injection hA with hA
    subst hA hc
    have hlt := (Blk.lt (w := w) (g := g) (t := e) (cs := cur) hh)
    have hlen : (l ++ r).length = l.length + r.length := List.length_append
    refine ⟨by simp, some ⟨g, 0, none⟩, cap, rfl, by omega, hcm, fun h0 => ⟨g, 0, rfl, hlt, fun j hj => ?_⟩⟩
    rw [Nat.zero_add, cell_of_row w g j cur e (0, 0) hh]
    have e1 : cur[j]? = (ncells .u32 (l ++ r))[j]? := by
      rw [← ht, List.getElem?_take_of_lt (by omega)]; simp
    rw [e1, ncells_append, List.getElem?_append_left (by simp; omega)]

end Go.Proofs.YtoaaplngdomdcaaGreat

/- Matrices of words: New. -/
namespace Go.Proofs.YtoaaplngdomdcaaGreat.MV
open Go.RowKit
section
variable {p gm : Nat} {hp : 0 < p}

/-- A number as the field tells it. -/
def own (hp : 0 < p) (x : Nat) : Fin p := ⟨x % p, Nat.mod_lt _ hp⟩
set_option maxRecDepth 100000 in
set_option maxHeartbeats 1600000 in
theorem newc_c (i j cols : Nat) (l : List Nat) (x : Nat) (ve : Value) (b1 b2 b3 : Nat) (w : World) (hk : Fk p gm w) (hi : i ≤ 256) (hj : j ≤ 256) (hc : cols ≤ 256) (hl : Ny w .u32 ve l) (hx : l[i * cols + j]? = some x) (hxb : (x : Int) ≤ 4294967295)
    (c1 : w.cell? ⟨b1, 0, none⟩ = some (modF gm)) (c2 : w.cell? ⟨b2, 0, none⟩ = some ve) (c3 : w.cell? ⟨b3, 0, none⟩ = some (.int .i64 (cols : Int))) :
    Calls Tryz.prog 129 #[.int .i64 (i : Int), .int .i64 (j : Int), .pointer (some ⟨b1, 0, none⟩), .pointer (some ⟨b2, 0, none⟩), .pointer (some ⟨b3, 0, none⟩)] w fun e w' => e = .returned (.int .u32 ((Fin.val (own hp x) : Nat) : Int)) ∧ Below w.heap.size w w' := by
  obtain ⟨A, c, rfl, hlc, hcm, hcell⟩ := hl.form
  unfold maxLen at hcm
  obtain ⟨b, o, rfl, hbl, hcx⟩ := hcell _ x hx
  have hlt : i * cols + j < l.length := (List.getElem?_eq_some_iff.1 hx).1
  have hm : i * cols ≤ 65536 := Nat.le_trans (Nat.mul_le_mul hi hc) (by omega)
  have hw1 : IntKind.i64.wrap ((i : Int) * (cols : Int)) = ((i * cols : Nat) : Int) := by
    rw [← Int.natCast_mul]
    simp [IntKind.wrap, IntKind.bits, IntKind.signed]
    omega
  generalize i * cols = M at *
  obtain ⟨I, hI⟩ : ∃ I, I = M + j := ⟨_, rfl⟩
  have hw2 : IntKind.i64.wrap ((M : Int) + (j : Int)) = (I : Int) := by
    simp [IntKind.wrap, IntKind.bits, IntKind.signed]
    omega
  rw [← hI] at hlt hcx
  clear hI hx hcell hl
  have i1 : (I : Int) < (l.length : Int) := by omega
  have i2 : (0 : Int) ≤ (I : Int) := by omega
  have m1 := meth_zero (gm := gm)
  have m2 := meth_add (gm := gm)
  have m3 := ahead_add (gm := gm)
  have Q1 : Hid (∀ W, Below w.heap.size w W → Calls Tryz.prog 165 #[.pointer (some ⟨gm, 0, none⟩)] W fun e w' => e = .returned (.int .u32 0) ∧ W = w') := fun W _ => mzero_any _ W
  have Q2 : Hid (∀ W, Below w.heap.size w W → Calls Tryz.prog 22 #[.pointer (some ⟨gm, 0, none⟩), .int .u32 (x : Int), .int .u32 0] W fun e w' => e = .returned (.int .u32 ((Fin.val (own hp x) : Nat) : Int)) ∧ W = w') := fun W hW => by
    have := madd_any (.pointer (some ⟨gm, 0, none⟩)) p x 0 W (hk.2.2.below hW) hp hk.2.1 hxb (by omega)
    exact this
  generalize own hp x = z at *
  clear hk
  go_enter Tryz.func129, Tryz.ntmps129
  go_wp2
  go_region_held3 (fun w' => w'.cell? ⟨b1, 0, none⟩ = some (modF gm) ∧ w'.cell? ⟨b2, 0, none⟩ = some (.slice (some ⟨b, o, none⟩) l.length c) ∧ w'.cell? ⟨b3, 0, none⟩ = some (.int .i64 (cols : Int)) ∧ w'.cell? ⟨b, o + I, none⟩ = some (.int .u32 (x : Int))) (go_keep)
    (first
      | (go_at_call 165; (with_reducible refine (Q1.out _ ?bb).mono ?_); (case bb => (repeat (first | with_reducible exact Below.refl _ _ | with_reducible refine Below.drew ?_))); rintro e w' ⟨rfl, rfl⟩)
      | (go_at_call 22; (with_reducible refine (Q2.out _ ?bb).mono ?_); (case bb => (repeat (first | with_reducible exact Below.refl _ _ | with_reducible refine Below.drew ?_))); rintro e w' ⟨rfl, rfl⟩))
  all_goals go_wp2
  all_goals go_ret
  all_goals exact ⟨rfl, by repeat (first | exact Below.refl _ _ | refine Below.drew ?_)⟩

set_option maxRecDepth 100000 in
set_option maxHeartbeats 1600000 in
theorem new_c (rows cols : Nat) (E : Nat → Nat → Nat) (ve : Value) (l : List Nat) (w : World) (hk : Fk p gm w) (hr : 1 ≤ rows ∧ rows ≤ 256) (hc : 1 ≤ cols ∧ cols ≤ 256) (hl : Ny w .u32 ve l) (hlen : l.length = rows * cols)
    (hE : ∀ i j, i < rows → j < cols → l[i * cols + j]? = some (E i j)) (hb : ∀ (i x : Nat), l[i]? = some x → (x : Int) ≤ 4294967295) :
    Calls Tryz.prog 81 #[modF gm, .int .i64 (rows : Int), .int .i64 (cols : Int), ve] w fun e w' =>
      ∃ g, e = .returned (.tuple #[.pointer (some ⟨g, 0, none⟩), .int .i64 0]) ∧ Mtx gm w' g rows cols (fun i j => own hp (E i j)) ∧ Below w.heap.size w w' := by
  have q1 := fun w => dims_c rows cols w hr hc
  obtain ⟨A, c, rfl, hlc, hcm, hcell⟩ := hl.form
  clear hcell
  have hm : rows * cols ≤ 65536 := Nat.le_trans (Nat.mul_le_mul hr.2 hc.2) (by omega)
  have hw1 : IntKind.i64.wrap ((rows : Int) * (cols : Int)) = (l.length : Int) := by
    rw [hlen, ← Int.natCast_mul]
    simp [IntKind.wrap, IntKind.bits, IntKind.signed]
    omega
  have HH := hide (And.intro hlen (And.intro hr (And.intro hc (And.intro hl (And.intro hE (And.intro hlc (And.intro hcm (And.intro hk hb))))))))
  clear hlen hr hc hl hE hlc hcm hm hk hb
  go_enter Tryz.func81, Tryz.ntmps81
  go_wp2_with fail
  refine (q1 _).mono ?_
  rintro e w' ⟨rfl, rfl⟩
  go_wp2_with fail
  have n1 := ((Blk.new w 132 #[modF gm]).alloc (.cells #[.int .i64 (cols : Int)] 3)).alloc (.cells #[.slice A l.length c] 23)
  have n2 := (Blk.new (w.alloc (.cells #[modF gm] 132)) 3 #[.int .i64 (cols : Int)]).alloc (.cells #[.slice A l.length c] 23)
  have n3 := Blk.new ((w.alloc (.cells #[modF gm] 132)).alloc (.cells #[.int .i64 (cols : Int)] 3)) 23 #[.slice A l.length c]
  have n4 := (((Below.refl w.heap.size w).alloc (Nat.le_refl _) (.cells #[modF gm] 132)).alloc (by simp) (.cells #[.int .i64 (cols : Int)] 3)).alloc (by simp; omega) (.cells #[.slice A l.length c] 23)
  simp only [World.size_alloc] at n2 n3
  generalize ((w.alloc (.cells #[modF gm] 132)).alloc (.cells #[.int .i64 (cols : Int)] 3)).alloc (.cells #[.slice A l.length c] 23) = W at *
  refine (laid_c rows cols 129 #[.pointer (some ⟨w.heap.size, 0, none⟩), .pointer (some ⟨w.heap.size + 1 + 1, 0, none⟩), .pointer (some ⟨w.heap.size + 1, 0, none⟩)] (fun i j => own hp (E i j)) W HH.out.2.1.2 HH.out.2.2.1.2
    (enters_of Tryz.func129 (by kernel_rfl) rfl) ?_).mono ?_
  · intro i j w' hi hj hb
    obtain ⟨hlen, hr, hc, hl, hE, hlc, hcm, hk, hbb⟩ := HH.out
    refine newc_c i j cols l (E i j) (.slice A l.length c) w.heap.size (w.heap.size + 1 + 1) (w.heap.size + 1) w' ((hk.below n4).below hb) (by omega) (by omega) hc.2 ((hl.below n4).below hb) (hE i j hi hj) (hbb _ _ (hE i j hi hj)) ?_ ?_ ?_
    · rw [(n1.below' hb).cell]; rfl
    · rw [(n3.below' hb).cell]; rfl
    · rw [(n2.below' hb).cell]; rfl
  · rintro e w' ⟨g, rfl, hmx, hb⟩
    have H4 := hide (And.intro n4 (And.intro hmx hb))
    clear n1 n2 n3 n4 hmx hb q1 hw1
    go_wp2
    go_ret2
    exact ⟨g, rfl, H4.out.2.1, H4.out.1.trans (H4.out.2.2.mono H4.out.1.size)⟩
end
end Go.Proofs.YtoaaplngdomdcaaGreat.MV

/- Words told as bytes. -/
namespace Go.Proofs.YtoaaplngdomdcaaGreat
open Go.RowKit

/-- From one world to another: older blocks written, new ones laid. -/
inductive Wr (B : Nat) : World → World → Prop
  | refl (w : World) : Wr B w w
  | step {w w1 w2 : World} {G : Nat} : Wr B w w1 → G < B → w1.grownBy w2 (some G) → Wr B w w2
  | keep {w w1 w2 : World} : Wr B w w1 → Below w1.heap.size w1 w2 → Wr B w w2
theorem Wr.mono {B C : Nat} {w w7 : World} (h : Wr B w w7) (hBC : B ≤ C) : Wr C w w7 := by
  induction h with
  | refl => exact .refl _
  | step _ hG hg ih => exact .step ih (Nat.lt_of_lt_of_le hG hBC) hg
  | keep _ hb ih => exact .keep ih hb
theorem Wr.trans {B : Nat} {w w5 w7 : World} (h : Wr B w w5) (k : Wr B w5 w7) : Wr B w w7 := by
  induction k with
  | refl => exact h
  | step _ hG hg ih => exact .step ih hG hg
  | keep _ hb ih => exact .keep ih hb
theorem u8_wrap (x : Nat) : IntKind.u8.wrap (x : Int) = ((UInt8.ofNat x).toNat : Int) := by
  simp [IntKind.wrap, IntKind.bits, IntKind.signed]
set_option maxHeartbeats 800000 in
theorem bytes_any (va : Value) (l : List Nat) (w : World) (ha : Ny w .u32 va l) (hl : l.length ≤ 35184372088000) :
    Calls Tryz.prog 44 #[va] w fun e w' => ∃ v, e = .returned v ∧ Own w' w.heap.size 5 v (l.map UInt8.ofNat) ∧ Below w.heap.size w w' := by
  obtain ⟨A, c, rfl, hc, hm, hca⟩ := ha.form
  unfold maxLen at hm
  go_enter Tryz.func44, Tryz.ntmps44
  go_wp2
  go_loopw [3, 4] (fun v i wr => ∃ k : Nat, k ≤ l.length ∧ i = .int .i64 k ∧ Own wr w.heap.size 5 v ((l.take k).map UInt8.ofNat) ∧ Below w.heap.size w wr) (fun _ i _ => l.length - (intOf i).toNat)
  case atStart => exact ⟨0, by omega, rfl, Own.nil _ _ _, Below.refl _ _⟩
  case round =>
    obtain ⟨k, hk, rfl, hown, hbel⟩ := hrel
    have HO := hide hown
    clear hown
    by_cases hlt : k < l.length
    · obtain ⟨x, hx⟩ : ∃ x, l[k]? = some x := ⟨_, List.getElem?_eq_getElem hlt⟩
      obtain ⟨b, o, rfl, hbl, hcell⟩ := hca k x hx
      have hcx : wr.cell? ⟨b, o + k, none⟩ = some (.int .u32 (x : Int)) := (hbel.cell (p := ⟨b, o + k, none⟩) hbl).trans hcell
      have hw := u8_wrap x
      have HX := hide hx
      clear hx hcell hca
      go_wp2_with (at_builtin; go_loud (refine wpList_pushB elem8 HO.out hbel hbel.size (by rw [List.length_map, List.length_take]; omega) (UInt8.ofNat x) rfl _ _ rfl rfl rfl ?_); intro v1 w1 hown1 hbel1 _ _)
      go_roundw
      case rel => exact ⟨k + 1, by omega, by go_num, by rw [take_snoc l k x HX.out, List.map_append]; exact hown1, hbel1⟩
      case measure => simp [intOf]; omega
    · have hkl : k = l.length := by omega
      subst hkl
      have hO2 := HO.out
      rw [List.take_of_length_le (Nat.le_refl _)] at hO2
      clear HO
      go_wp2
      go_ret
      exact ⟨_, rfl, hO2, hbel⟩
end Go.Proofs.YtoaaplngdomdcaaGreat

/- Matrices of words: New of a list of numbers, with what stands when an older block is written. -/
namespace Go.Proofs.YtoaaplngdomdcaaGreat.MV
open Go.RowKit
section
variable {p gm : Nat} {hp : 0 < p}
theorem mx_wr {w w7 : World} {base g B : Nat} {L : List (List Nat)} (h : Mw (modF gm) w base g L) (hw : Wr B w w7) (hB : B ≤ base) : Mw (modF gm) w7 base g L := by
  induction hw with
  | refl => exact h
  | step _ hG hg ih => exact mx_low ih (Nat.lt_of_lt_of_le hG hB) hg
  | keep _ hb ih => exact ih.below hb
/-- What lays a matrix, with what stands when older blocks are written, one behind the other. -/
theorem laid_s2 (rows cols : Nat) (K : FuncId) (cap : Array Value) (M : Nat → Nat → (Fin p)) (w : World) (hr : rows ≤ 256) (hc : cols ≤ 256)
    (hent : ∀ (args : Array Value) (w : World), (callFunc K args).run Tryz.prog w = .ok (.enter K args) w)
    (hcl : ∀ (i j : Nat) (w' : World), i < rows → j < cols → Below w.heap.size w w' → Calls Tryz.prog K (#[.int .i64 (i : Int), .int .i64 (j : Int)] ++ cap) w' fun e w'' => e = .returned (.int .u32 ((Fin.val (M i j) : Nat) : Int)) ∧ Below w'.heap.size w' w'') :
    Calls Tryz.prog 85 #[(modF gm), .int .i64 (rows : Int), .int .i64 (cols : Int), .func (.func K) #[] cap] w fun e w' => ∃ g, e = .returned (.pointer (some ⟨g, 0, none⟩)) ∧ Mtx gm w' g rows cols M ∧ Below w.heap.size w w' ∧ ∀ w7, Wr w.heap.size w' w7 → Mtx gm w7 g rows cols M := by
  refine (laidw_any 25 (.pointer (some ⟨gm, 0, none⟩)) rows cols K cap (fun i j => (M i j).val) w hr hc hent hcl).mono ?_
  rintro e w' ⟨g, rfl, hmx, hb⟩
  exact ⟨g, rfl, mt_of hmx, hb, fun w7 hw => mt_of (mx_wr hmx hw (Nat.le_refl _))⟩
set_option maxRecDepth 100000 in
set_option maxHeartbeats 1600000 in
theorem newl_c (rows cols : Nat) (ve : Value) (l : List Nat) (w : World) (hk : (Fk p gm) w) (hr : 1 ≤ rows ∧ rows ≤ 256) (hc : 1 ≤ cols ∧ cols ≤ 256)
    (hl : Ny w .u32 ve l) (hbd : ∀ (i x : Nat), l[i]? = some x → (x : Int) ≤ 4294967295)
    (hlen : l.length = rows * cols) :
    Calls Tryz.prog 81 #[(modF gm), .int .i64 (rows : Int), .int .i64 (cols : Int), ve] w fun e w' =>
      ∃ g, e = .returned (.tuple #[.pointer (some ⟨g, 0, none⟩), .int .i64 0]) ∧ Mtx gm w' g rows cols (fun i j => (own hp) (l.getD (i * cols + j) 0)) ∧ Below w.heap.size w w' ∧ ∀ w7, Wr w.heap.size w' w7 → Mtx gm w7 g rows cols (fun i j => (own hp) (l.getD (i * cols + j) 0)) := by
  have q1 := fun w => dims_c rows cols w hr hc
  have hE : ∀ i j, i < rows → j < cols → l[i * cols + j]? = some (l.getD (i * cols + j) 0) := fun i j hi hj => by
    have h1 : i * cols + j < l.length := by
      rw [hlen]
      have : (i + 1) * cols ≤ rows * cols := Nat.mul_le_mul_right _ hi
      rw [Nat.succ_mul] at this
      omega
    rw [List.getD_eq_getElem?_getD, List.getElem?_eq_getElem h1]
    rfl
  obtain ⟨A, c, rfl, hlc, hcm, hcell⟩ := hl.form
  clear hcell
  have hm : rows * cols ≤ 65536 := Nat.le_trans (Nat.mul_le_mul hr.2 hc.2) (by omega)
  have hw1 : IntKind.i64.wrap ((rows : Int) * (cols : Int)) = (l.length : Int) := by
    rw [hlen, ← Int.natCast_mul]
    simp [IntKind.wrap, IntKind.bits, IntKind.signed]
    omega
  have HH := hide (And.intro hlen (And.intro hr (And.intro hc (And.intro hl (And.intro hE (And.intro hlc (And.intro hcm (And.intro hk hbd))))))))
  clear hlen hr hc hl hE hlc hcm hm hk
  clear hbd
  go_enter Tryz.func81, Tryz.ntmps81
  go_wp2_with fail
  refine (q1 _).mono ?_
  rintro e w' ⟨rfl, rfl⟩
  go_wp2_with fail
  have n1 := ((Blk.new w 132 #[(modF gm)]).alloc (.cells #[.int .i64 (cols : Int)] 3)).alloc (.cells #[.slice A l.length c] 23)
  have n2 := (Blk.new (w.alloc (.cells #[(modF gm)] 132)) 3 #[.int .i64 (cols : Int)]).alloc (.cells #[.slice A l.length c] 23)
  have n3 := Blk.new ((w.alloc (.cells #[(modF gm)] 132)).alloc (.cells #[.int .i64 (cols : Int)] 3)) 23 #[.slice A l.length c]
  have n4 := (((Below.refl w.heap.size w).alloc (Nat.le_refl _) (.cells #[(modF gm)] 132)).alloc (by simp) (.cells #[.int .i64 (cols : Int)] 3)).alloc (by simp; omega) (.cells #[.slice A l.length c] 23)
  simp only [World.size_alloc] at n2 n3
  generalize ((w.alloc (.cells #[(modF gm)] 132)).alloc (.cells #[.int .i64 (cols : Int)] 3)).alloc (.cells #[.slice A l.length c] 23) = W at *
  refine (laid_s2 rows cols 129 #[.pointer (some ⟨w.heap.size, 0, none⟩), .pointer (some ⟨w.heap.size + 1 + 1, 0, none⟩), .pointer (some ⟨w.heap.size + 1, 0, none⟩)] (fun i j => (own hp) (l.getD (i * cols + j) 0)) W HH.out.2.1.2 HH.out.2.2.1.2
    (enters_of Tryz.func129 (by kernel_rfl) rfl) ?_).mono ?_
  · intro i j w' hi hj hb
    obtain ⟨hlen, hr, hc, hl, hE, hlc, hcm, hk, hbb⟩ := HH.out
    refine newc_c i j cols l (l.getD (i * cols + j) 0) (.slice A l.length c) w.heap.size (w.heap.size + 1 + 1) (w.heap.size + 1) w' ((hk.below n4).below hb) (by omega) (by omega) hc.2 ((hl.below n4).below hb) (hE i j hi hj) (hbb _ _ (hE i j hi hj)) ?_ ?_ ?_
    · rw [(n1.below' hb).cell]; rfl
    · rw [(n3.below' hb).cell]; rfl
    · rw [(n2.below' hb).cell]; rfl
  · rintro e w' ⟨g, rfl, hmx, hb, hlw⟩
    have H4 := hide (And.intro n4 (And.intro hmx (And.intro hb hlw)))
    clear n1 n2 n3 n4 hmx hb q1 hw1 hlw
    go_wp2
    go_ret2
    exact ⟨g, rfl, H4.out.2.1, H4.out.1.trans (H4.out.2.2.1.mono H4.out.1.size), fun w7 hw => H4.out.2.2.2 w7 (hw.mono H4.out.1.size)⟩
end
end Go.Proofs.YtoaaplngdomdcaaGreat.MV

/- The statements' fresh over words: New of what is lent, which is written over behind the call. -/
namespace Go.Proofs.YtoaaplngdomdcaaGreat.MV
open Go.RowKit
theorem row_tmp2 {P : Program} {fn : Func} {p u v : Tmp} {ty : TypeId} (h : fn.results = #[.cell p ty, .tmp u, .tmp v]) (tmps : Array Value) (w : World) (g : Nat) (t : TypeId) (cs : Array Value) (fr : Nat × Nat) (d : TypeDesc)
    (hp : tmps.getD p undef = .pointer (some ⟨g, 0, none⟩)) (hg : w.heap[g]? = some (.cells cs t fr))
    (hu : P.underlying ty = some d) (hd : (match d with | .struct _ | .array _ _ => true | _ => false) = true) (hi : (P.info? ty).map (·.size) = some cs.size) :
    (results fn tmps).run P w = .ok (.tuple #[.agg cs, tmps.getD u undef, tmps.getD v undef]) w := by
  have hp' : tmps[p]?.getD undef = .pointer (some ⟨g, 0, none⟩) := by simpa using hp
  simp only [results, h]
  simp [Sem.run_bind, Result.andThen, hp', asAddr, run_loadVar_row w g t ty cs fr d hg hu hd hi]
section
variable {p gm : Nat} {hp : 0 < p}
set_option maxRecDepth 100000 in
set_option maxHeartbeats 4000000 in
theorem fresh_c (rows cols : Nat) (ve : Value) (l : List Nat) (w : World) (hk : (Fk p gm) w) (hr : 1 ≤ rows ∧ rows ≤ 256) (hc : 1 ≤ cols ∧ cols ≤ 256)
    (hl : Ny w .u32 ve l) (hbd : ∀ (i x : Nat), l[i]? = some x → (x : Int) ≤ 4294967295) (hlen : l.length = rows * cols) (hp0 : 2 ≤ p) :
    Calls Tryz.prog 31 #[.int .u32 (p : Int), .pointer (some ⟨gm, 0, none⟩), .int .i64 (rows : Int), .int .i64 (cols : Int), ve] w fun e w' =>
      ∃ g, e = .returned (.tuple #[.agg #[.pointer none, .pointer (some ⟨g, 0, none⟩)], .int .i64 0, .bool true]) ∧ Mtx gm w' g rows cols (fun i j => (own hp) (l.getD (i * cols + j) 0)) ∧ Below w.heap.size w w' ∧ ∀ w7, Wr w.heap.size w' w7 → Mtx gm w7 g rows cols (fun i j => (own hp) (l.getD (i * cols + j) 0)) := by
  have hm : l.length ≤ 65536 := by rw [hlen]; exact Nat.le_trans (Nat.mul_le_mul hr.2 hc.2) (by omega)
  have i0 : ¬ (p : Int) = 0 := by omega
  have b0 := (Below.refl w.heap.size w).alloc (Nat.le_refl _) (.cells #[.pointer none, .pointer none] 32)
  have n0 := Blk.new w 32 #[.pointer none, .pointer none]
  have z0 : (w.alloc (.cells #[.pointer none, .pointer none] 32)).heap.size = w.heap.size + 1 := by simp
  have HH := hide (And.intro hr (And.intro hc (And.intro hbd (And.intro hlen (And.intro hk hl)))))
  obtain ⟨A, c, rfl, hlc, hcm, _⟩ := hl.form
  generalize hW0 : w.alloc (.cells #[.pointer none, .pointer none] 32) = W0 at b0 n0 z0
  have hl0 := HH.out.2.2.2.2.2.below b0
  have hk0 := HH.out.2.2.2.2.1.below b0
  have Q1 := hide (lentw_any _ l W0 hl0 (by omega))
  have HB0 := hide (And.intro b0 n0)
  have Z0 := hide z0
  clear hr hc hbd hlen hk hl b0 n0 hl0 z0
  go_enter Tryz.func31, Tryz.ntmps31
  go_wp2_with fail
  refine Q1.out.mono ?_
  rintro e w2 ⟨v, rfl, o2, b2⟩
  have HK := hide (hk0.below b2)
  have B2 := hide (And.intro b2 b2)
  have by2 := hide ((HH.out.2.2.2.2.2.below HB0.out.1).below b2)
  obtain ⟨g, cap, rfl, hg, hglt⟩ := o2.form (by simp)
  have hby := o2.front
  have k1 : l.length ≤ cap := by obtain ⟨A', c', hv, hc', _⟩ := hby.form; injection hv; omega
  have Q3 := hide (newl_c (hp := hp) rows cols _ l w2 HK.out HH.out.1 HH.out.2.1 hby HH.out.2.2.1 HH.out.2.2.2.1)
  have O2 := hide o2
  generalize hN : (l ++ marksw 0 l.length 70).length = N at *
  clear Q1 b2 o2 hby
  have k2 : (l.length : Int) ≤ (cap : Int) := by omega
  have k3 : (0 : Int) ≤ (l.length : Int) := by omega
  clear hk0
  have G1 := hide hglt
  clear hglt hg
  go_wp2_with fail
  refine Q3.out.mono ?_
  rintro e w3 ⟨x, rfl, _, b3, hlow⟩
  have B3 := hide (And.intro b3 hlow)
  have Q4 := hide (keptw_any _ _ _ l w3 (O2.out.below b3).ny (by2.out.below b3) (by omega))
  rw [decide_eq_true rfl] at Q4
  clear b3 hlow Q3
  go_wp2_with fail
  refine Q4.out.mono ?_
  rintro e w4 ⟨rfl, b4⟩
  have O4 := (O2.out.below B3.out.1).below b4
  have Q5 := hide (overw_any _ _ _ w4 O4 (by rw [hN, ← hN]; simp; omega))
  have B4 := hide b4
  clear O4 b4 Q4
  go_wp2_with fail
  refine Q5.out.mono ?_
  rintro e w5 ⟨rfl, hb5, hg5, _⟩
  have hg5' : Wr w2.heap.size w3 w5 := .step (.keep (.refl _) B4.out) G1.out hg5
  have hlo : w.heap.size < W0.heap.size := by have := Z0.out; omega
  have h5 := hide ((Below.step (Below.step (Below.step HB0.out.1 B2.out.2) B3.out.1) B4.out).trans (hb5.mono (Nat.le_of_lt hlo)))
  have hblk : Blk w5 w.heap.size 32 #[.pointer none, .pointer none] :=
    (((HB0.out.2.below' B2.out.2).below' B3.out.1).below' B4.out).below hb5 hlo
  have HX := hide hg5'
  clear Q5 hb5 hg5 hg5' hlo
  go_wp2_with ((with_reducible change wpList _ _ _ (⟨none, .store _ (.tmp 10) _, _, _, _, _⟩ :: _) _ _); go_loud (refine wpList_store_row (o := ⟨none, .store _ (.tmp 10) _, _, _, _, _⟩) hblk #[.pointer none, .pointer (some ⟨x, 0, none⟩)] rfl (by simp [Value.oneCell']) rfl 32 _ _ rfl (by kernel_rfl) rfl rfl ?_; intro w7 hb7 hg7))
  have hx7 : Wr w2.heap.size w3 w7 := .step HX.out (by have := Z0.out; have := B2.out.2.size; omega) hg7
  have hle : w.heap.size ≤ w2.heap.size := by have := Z0.out; have := B2.out.2.size; omega
  refine bodyPost_ret (row_tmp2 rfl _ _ w.heap.size 32 #[.pointer none, .pointer (some ⟨x, 0, none⟩)] (0, 0) _ rfl hb7 Tryz.underlying32 rfl (by kernel_rfl)) rfl ⟨x, rfl, B3.out.2 w7 hx7, h5.out.grown hg7 h5.out.size fun k hk => (by injection hk with hk; omega), fun w8 h8 => B3.out.2 w8 (hx7.trans (h8.mono hle))⟩
end
end Go.Proofs.YtoaaplngdomdcaaGreat.MV
