/- Plain: what the statements on matrices and codes ask of inverses, ranks, products and solutions. -/
import Derived.Test.YtoaaplngdomdcaaFpA
import Derived.Test.YtoaaplngdomdcaaRsAlg
namespace Go.Proofs.Ytoaaplngdomdcaa
namespace Fd
variable {α : Type} {F : Fd α}
/-- The rank of a square of n. -/
def rank (F : Fd α) (n : Nat) (M : Mat α) : Nat := (F.red n M n).2
/-- What stands behind, once the identity stands in front. -/
def invM (F : Fd α) (n : Nat) (M : Mat α) : Mat α := fun i j => (F.red n (beside n M F.ident) n).1 i (n + j)
def sol (F : Fd α) (n : Nat) (M : Mat α) (l : Nat → α) : Nat → α := fun i => (F.red n (beside n M fun i _ => F.add (l i) F.zero) n).1 i n
theorem rank_beside (n : Nat) (M N : Mat α) : (F.red n (beside n M N) n).2 = F.rank n M := red_beside_rank n M N
theorem rank_le (n : Nat) (M : Mat α) : F.rank n M ≤ n := (red_rank n M n).2
theorem Ok.invM_inv (h : F.Ok) {n : Nat} {M : Mat α} (hr : F.rank n M = n) : F.IsInv n M (F.invM n M) := h.inverse n M (by rw [rank_beside]; exact hr)
theorem IsInv.full {n : Nat} {M X : Mat α} (h : F.Ok) (hi : F.IsInv n M X) : F.rank n M = n := (h.rank_inj n M).2 (hi.inj h)
theorem Ok.right (h : F.Ok) {n : Nat} {M : Mat α} (hr : F.rank n M = n) {i j : Nat} (hi : i < n) (hj : j < n) : F.mulm n M (F.invM n M) i j = F.ident i j := (h.invM_inv hr).mul_right h hi hj
theorem Ok.left (h : F.Ok) {n : Nat} {M : Mat α} (hr : F.rank n M = n) {i j : Nat} (hi : i < n) (hj : j < n) : F.mulm n (F.invM n M) M i j = F.ident i j := (h.invM_inv hr).symm.mul_right h hi hj
theorem Ok.inv_full (h : F.Ok) {n : Nat} {M : Mat α} (hr : F.rank n M = n) : F.rank n (F.invM n M) = n := (h.invM_inv hr).symm.full h
theorem Ok.back (h : F.Ok) {n : Nat} {M : Mat α} (hr : F.rank n M = n) {i j : Nat} (hi : i < n) (hj : j < n) : F.invM n (F.invM n M) i j = M i j :=
  (h.invM_inv (h.inv_full hr)).unique h (h.invM_inv hr).symm hi hj
theorem Ok.solves (h : F.Ok) {n : Nat} {M : Mat α} (hr : F.rank n M = n) (l : Nat → α) {i : Nat} (hi : i < n) : F.dot n (M i) (F.sol n M l) = l i := by
  have := (h.red_beside n 1 M (fun i _ => F.add (l i) F.zero) (F.sol n M l) (fun _ => F.one) (by rw [rank_beside]; exact hr)).2 (fun k _ => by
    unfold dot sum sum sol
    rw [h.zero_add]
    show _ = F.mul _ F.one
    rw [h.mul_one]
    rfl) i hi
  rw [this]
  unfold dot sum sum
  rw [h.zero_add]
  show F.mul (F.add (l i) F.zero) F.one = l i
  rw [h.mul_one, h.add_zero]
theorem Ok.full_mul (h : F.Ok) {n : Nat} (A B : Mat α) : F.rank n (F.mulm n A B) = n ↔ F.rank n A = n ∧ F.rank n B = n := by
  unfold rank
  rw [h.rank_inj, h.rank_inj, h.rank_inj, h.inj_mulm]
theorem Ok.inv_mul (h : F.Ok) {n : Nat} {A B : Mat α} (ha : F.rank n A = n) (hb : F.rank n B = n) {i j : Nat} (hi : i < n) (hj : j < n) :
    F.mulm n (F.invM n B) (F.invM n A) i j = F.invM n (F.mulm n A B) i j :=
  ((h.invM_inv ha).mulm h (h.invM_inv hb)).unique h (h.invM_inv ((h.full_mul A B).2 ⟨ha, hb⟩)) hi hj
theorem mulm_congr {m n : Nat} {A A' B B' : Mat α} (ha : ∀ i j, i < n → j < m → A i j = A' i j) (hb : ∀ i j, i < m → j < n → B i j = B' i j) {i j : Nat} (hi : i < n) (hj : j < n) : F.mulm m A B i j = F.mulm m A' B' i j :=
  dot_congr (fun k hk => ha i k hi hk) fun k hk => hb k j hk hj
end Fd

theorem f8_sum (n : Nat) (f : Nat → UInt8) : F8.sum n f = sm (List.range n) f := by
  induction n with
  | zero => rfl
  | succ n ih =>
    rw [List.range_succ, sm_append, sm_cons, sm_nil, UInt8.xor_zero, ← ih]
    rfl
theorem f8_dot (n : Nat) (r y : Nat → UInt8) : F8.dot n r y = sm (List.range n) fun t => bmul (r t) (y t) := f8_sum n _
/-- Of any k unlike rows of the code nothing but noughts is made into noughts. -/
theorem code_full {k : Nat} (I : Nat → Nat) (hk : k ≤ 256) (hI : ∀ i j, i < k → j < k → I i = I j → i = j) (hb : ∀ i, i < k → I i < 256) : F8.rank k (fun i j => ent k (I i) j) = k := by
  refine (F8_ok.rank_inj k _).2 fun y hy i hi => ?_
  refine mds k ((List.range k).map I) y hk ?_ ?_ (by simp) ?_ i hi
  · rw [List.nodup_iff_pairwise_ne, List.pairwise_map]
    refine List.Pairwise.imp_of_mem (fun {a b} ha hb hne e => hne (hI a b (List.mem_range.1 ha) (List.mem_range.1 hb) e)) (List.nodup_iff_pairwise_ne.1 List.nodup_range)
  · intro x hx
    obtain ⟨a, ha, rfl⟩ := List.mem_map.1 hx
    exact hb a (List.mem_range.1 ha)
  · intro x hx
    obtain ⟨a, ha, rfl⟩ := List.mem_map.1 hx
    have := hy a (List.mem_range.1 ha)
    rw [f8_dot] at this
    exact this
/-- Any k blocks bring the first k back. -/
theorem code_back {k : Nat} (I : Nat → Nat) (hk : k ≤ 256) (hI : ∀ i j, i < k → j < k → I i = I j → i = j) (hb : ∀ i, i < k → I i < 256) (D : Nat → UInt8) {i : Nat} (hi : i < k) :
    (sm (List.range k) fun j => bmul (F8.invM k (fun i j => ent k (I i) j) i j) (encv k (I j) D)) = D i := by
  have := (F8_ok.invM_inv (code_full I hk hI hb) D fun j => encv k (I j) D).1 (fun j _ => by rw [f8_dot]; rfl) i hi
  rw [f8_dot] at this
  exact this
end Go.Proofs.Ytoaaplngdomdcaa
