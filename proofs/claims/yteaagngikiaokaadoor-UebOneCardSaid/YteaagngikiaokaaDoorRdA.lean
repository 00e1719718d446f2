/- Plain: what a Ueb's bytes are read as. -/
import Derived.Test.YteaagngikiaokaaDoorLayE
import Derived.Test.YteaagngikiaokaaDoorUebM
namespace Go.Proofs.YteaagngikiaokaaDoor
open Go.RowKit

structure US where
  k : Int
  n : Int
  seg : Int
  size : Int
  sh : List UInt8
  sg : List UInt8
deriving DecidableEq
def US.zero : US := ⟨0, 0, 0, 0, List.replicate 32 0, List.replicate 32 0⟩
def US.wf (u : US) : Prop := u.sh.length = 32 ∧ u.sg.length = 32
def US.cells (u : US) : Array Value := uebC u.k u.n u.seg u.size (bcells u.sh ++ bcells u.sg)
def US.may (u : US) : Prop := agOK u.k u.n u.seg u.size
def US.in (u : US) : Prop := (0 ≤ u.k ∧ u.k ≤ 2147483647) ∧ (0 ≤ u.n ∧ u.n ≤ 2147483647) ∧ (0 ≤ u.seg ∧ u.seg ≤ 2147483647) ∧ (0 ≤ u.size ∧ u.size ≤ 2147483647)
theorem US.zero_wf : US.zero.wf := by unfold US.wf US.zero; simp
theorem US.zero_in : US.zero.in := by unfold US.in US.zero; simp
theorem US.size_ {u : US} (h : u.wf) : u.cells.size = 68 := by unfold US.cells uebC; simp [h.1, h.2]
theorem rdN_in (l : List UInt8) : 0 ≤ rdN l 2147483647 ∧ rdN l 2147483647 ≤ 2147483647 := by
  unfold rdN rd
  split
  · rename_i x hx
    split at hx
    · rename_i y _
      split at hx
      · cases hx; omega
      · cases hx
    · cases hx
  · omega

/-- Which of the six names it is; 6 where it is none. -/
def kx (s : List UInt8) : Nat := if s = tK then 0 else if s = tN then 1 else if s = tSeg then 2 else if s = tSize then 3 else if s = tSegments then 4 else if s = tShares then 5 else 6
theorem kx_key : ∀ k, k < 6 → kx (keyB k).data.toList = k := by decide
theorem key_kx {s : List UInt8} {k : Nat} (h : kx s = k) (hk : k < 6) : s = (keyB k).data.toList := by
  unfold kx at h
  repeat' split at h
  all_goals subst h
  all_goals first
    | omega
    | (rename_i h; exact h)
theorem key_no {s : List UInt8} (h : ¬ kx s < 6) : ∀ k, k < 6 → s ≠ (keyB k).data.toList := fun k hk he => by
  rw [he, kx_key k hk] at h
  omega

def okV (k : Nat) (v : List UInt8) : Bool := if k < 4 then decide (rdE v 2147483647 = 0) else decide (v.length = 32)
def putU (u : US) (k : Nat) (v : List UInt8) : US := match k with
  | 0 => { u with k := rdN v 2147483647 }
  | 1 => { u with n := rdN v 2147483647 }
  | 2 => { u with seg := rdN v 2147483647 }
  | 3 => { u with size := rdN v 2147483647 }
  | 4 => { u with sg := v }
  | _ => { u with sh := v }
def stepU (u : US) (x : Rw) : Option US := if kx x.1 < 6 ∧ okV (kx x.1) x.2 = true then some (putU u (kx x.1) x.2) else none
def foldU : US → List Rw → Option US
  | u, [] => some u
  | u, x :: r => match stepU u x with
    | none => none
    | some u' => foldU u' r
theorem putU_wf {u : US} {k : Nat} {v : List UInt8} (h : u.wf) (hk : k < 6) (hv : okV k v = true) : (putU u k v).wf := by
  have hc : k = 0 ∨ k = 1 ∨ k = 2 ∨ k = 3 ∨ k = 4 ∨ k = 5 := by omega
  unfold okV at hv
  unfold US.wf at *
  rcases hc with rfl | rfl | rfl | rfl | rfl | rfl
  all_goals simp [putU] at hv ⊢
  all_goals first | exact h | exact ⟨h.1, hv⟩ | exact ⟨hv, h.2⟩
theorem putU_in {u : US} {k : Nat} {v : List UInt8} (h : u.in) (hk : k < 6) : (putU u k v).in := by
  have hc : k = 0 ∨ k = 1 ∨ k = 2 ∨ k = 3 ∨ k = 4 ∨ k = 5 := by omega
  have hr := rdN_in v
  unfold US.in at *
  rcases hc with rfl | rfl | rfl | rfl | rfl | rfl
  all_goals simp only [putU]
  all_goals omega
theorem putU_num {u : US} {k : Nat} {v : List UInt8} (hk : k < 4) : (putU u k v).cells = u.cells.setIfInBounds k (.int .i64 (rdN v 2147483647)) := by
  have hc : k = 0 ∨ k = 1 ∨ k = 2 ∨ k = 3 := by omega
  rcases hc with rfl | rfl | rfl | rfl
  all_goals simp [putU, US.cells, uebC]
theorem putU_dig {u : US} {k : Nat} {v : List UInt8} (h : u.wf) (hk : k < 6) (h4 : ¬ k < 4) (hv : v.length = 32) : (putU u k v).cells = (u.cells.toList.take (tgt 0 k).off ++ bcells v ++ u.cells.toList.drop ((tgt 0 k).off + (bcells v).length)).toArray := by
  have hc : k = 4 ∨ k = 5 := by omega
  unfold US.wf at h
  have e1 : (bcells u.sh).length = 32 := by simp [h.1]
  have e2 : (bcells u.sg).length = 32 := by simp [h.2]
  have e3 : (bcells v).length = 32 := by simp [hv]
  have d1 : (bcells u.sh).drop 32 = [] := List.drop_eq_nil_of_le (by omega)
  have d2 : (bcells u.sg).drop 32 = [] := List.drop_eq_nil_of_le (by omega)
  have t1 : (bcells u.sh).take 32 = bcells u.sh := List.take_of_length_le (by omega)
  rcases hc with rfl | rfl
  · simp [putU, US.cells, uebC, tgt, e3, List.take_append, List.drop_append, e1, e2, d1, d2, t1, hv]
  · simp [putU, US.cells, uebC, tgt, e3, List.take_append, List.drop_append, e1, e2, d1, d2, t1, hv]

theorem fold_some : ∀ (R : List Rw) (u u' : US), foldU u R = some u' → ∀ x ∈ R, kx x.1 < 6 ∧ okV (kx x.1) x.2 = true
  | [], _, _, _ => by simp
  | x :: r, u, u', h => by
    unfold foldU stepU at h
    intro y hy
    by_cases hx : kx x.1 < 6 ∧ okV (kx x.1) x.2 = true
    · rw [if_pos hx] at h
      rcases List.mem_cons.1 hy with rfl | hy
      · exact hx
      · exact fold_some r _ _ h y hy
    · rw [if_neg hx] at h; cases h
theorem fold_in : ∀ (R : List Rw) (u u' : US), u.wf → u.in → foldU u R = some u' → u'.wf ∧ u'.in
  | [], u, u', hw, hi, h => by cases h; exact ⟨hw, hi⟩
  | x :: r, u, u', hw, hi, h => by
    unfold foldU stepU at h
    by_cases hx : kx x.1 < 6 ∧ okV (kx x.1) x.2 = true
    · rw [if_pos hx] at h
      exact fold_in r _ _ (putU_wf hw hx.1 hx.2) (putU_in hi hx.1) h
    · rw [if_neg hx] at h; cases h

def rk : Nat → Nat
  | 3 => 5
  | 4 => 3
  | 5 => 4
  | k => k
theorem rk_lt : ∀ i, i < 6 → ∀ j, j < 6 → leB (keyB j).data.toList (keyB i).data.toList = false → rk i < rk j := by decide
theorem rk_6 : ∀ i, i < 6 → rk i < 6 := by decide
theorem rk_inj : ∀ i, i < 6 → ∀ j, j < 6 → rk i = rk j → i = j := by decide

/-- Six rows that may be, of known names: the six names in their order. -/
theorem six {R : List Rw} (hm : may R) (hl : R.length = 6) (hk : ∀ x ∈ R, kx x.1 < 6) : ∃ v0 v1 v2 v3 v4 v5, R = [(tK, v0), (tN, v1), (tSeg, v2), (tSegments, v3), (tShares, v4), (tSize, v5)] := by
  match R, hl with
  | [x0, x1, x2, x3, x4, x5], _ =>
    have h1 := hm 1 (by simp)
    have h2 := hm 2 (by simp)
    have h3 := hm 3 (by simp)
    have h4 := hm 4 (by simp)
    have h5 := hm 5 (by simp)
    have k0 := hk x0 (by simp)
    have k1 := hk x1 (by simp)
    have k2 := hk x2 (by simp)
    have k3 := hk x3 (by simp)
    have k4 := hk x4 (by simp)
    have k5 := hk x5 (by simp)
    obtain ⟨a0, v0⟩ := x0
    obtain ⟨a1, v1⟩ := x1
    obtain ⟨a2, v2⟩ := x2
    obtain ⟨a3, v3⟩ := x3
    obtain ⟨a4, v4⟩ := x4
    obtain ⟨a5, v5⟩ := x5
    simp [rowB] at h1 h2 h3 h4 h5
    simp only at k0 k1 k2 k3 k4 k5
    have e0 := key_kx rfl k0
    have e1 := key_kx rfl k1
    have e2 := key_kx rfl k2
    have e3 := key_kx rfl k3
    have e4 := key_kx rfl k4
    have e5 := key_kx rfl k5
    have r1 := rk_lt _ k0 _ k1 (by rw [← e0, ← e1]; exact h1.2)
    have r2 := rk_lt _ k1 _ k2 (by rw [← e1, ← e2]; exact h2.2)
    have r3 := rk_lt _ k2 _ k3 (by rw [← e2, ← e3]; exact h3.2)
    have r4 := rk_lt _ k3 _ k4 (by rw [← e3, ← e4]; exact h4.2)
    have r5 := rk_lt _ k4 _ k5 (by rw [← e4, ← e5]; exact h5.2)
    have s5 := rk_6 _ k5
    have g0 : kx a0 = 0 := rk_inj _ k0 0 (by omega) (by show _ = 0; omega)
    have g1 : kx a1 = 1 := rk_inj _ k1 1 (by omega) (by show _ = 1; omega)
    have g2 : kx a2 = 2 := rk_inj _ k2 2 (by omega) (by show _ = 2; omega)
    have g3 : kx a3 = 4 := rk_inj _ k3 4 (by omega) (by show _ = 3; omega)
    have g4 : kx a4 = 5 := rk_inj _ k4 5 (by omega) (by show _ = 4; omega)
    have g5 : kx a5 = 3 := rk_inj _ k5 3 (by omega) (by show _ = 5; omega)
    refine ⟨v0, v1, v2, v3, v4, v5, ?_⟩
    rw [key_kx g0 (by omega), key_kx g1 (by omega), key_kx g2 (by omega), key_kx g3 (by omega), key_kx g4 (by omega), key_kx g5 (by omega)]
    rfl

def goodV (v0 v1 v2 v3 v4 v5 : List UInt8) : Prop := rdE v0 2147483647 = 0 ∧ rdE v1 2147483647 = 0 ∧ rdE v2 2147483647 = 0 ∧ rdE v5 2147483647 = 0 ∧ v3.length = 32 ∧ v4.length = 32
instance (v0 v1 v2 v3 v4 v5 : List UInt8) : Decidable (goodV v0 v1 v2 v3 v4 v5) := by unfold goodV; infer_instance
theorem stepU_k (u : US) (k : Nat) (s v : List UInt8) (h : kx s = k) (hk : k < 6) : stepU u (s, v) = if okV k v = true then some (putU u k v) else none := by
  unfold stepU
  simp only [h]
  by_cases h2 : okV k v = true
  · rw [if_pos ⟨hk, h2⟩, if_pos h2]
  · rw [if_neg (fun h3 => h2 h3.2), if_neg h2]
theorem fold_six (v0 v1 v2 v3 v4 v5 : List UInt8) : foldU US.zero [(tK, v0), (tN, v1), (tSeg, v2), (tSegments, v3), (tShares, v4), (tSize, v5)] = if goodV v0 v1 v2 v3 v4 v5 then some ⟨rdN v0 2147483647, rdN v1 2147483647, rdN v2 2147483647, rdN v5 2147483647, v4, v3⟩ else none := by
  have e0 : kx tK = 0 := by decide
  have e1 : kx tN = 1 := by decide
  have e2 : kx tSeg = 2 := by decide
  have e3 : kx tSegments = 4 := by decide
  have e4 : kx tShares = 5 := by decide
  have e5 : kx tSize = 3 := by decide
  simp only [foldU, stepU_k _ _ _ _ e0 (by omega), stepU_k _ _ _ _ e1 (by omega), stepU_k _ _ _ _ e2 (by omega), stepU_k _ _ _ _ e3 (by omega), stepU_k _ _ _ _ e4 (by omega), stepU_k _ _ _ _ e5 (by omega)]
  unfold goodV okV
  by_cases h0 : rdE v0 2147483647 = 0 <;> by_cases h1 : rdE v1 2147483647 = 0 <;> by_cases h2 : rdE v2 2147483647 = 0 <;> by_cases h3 : v3.length = 32 <;> by_cases h4 : v4.length = 32 <;> by_cases h5 : rdE v5 2147483647 = 0 <;> simp [h0, h1, h2, h3, h4, h5, putU]

def readU (b : List UInt8) : US × Nat × Nat :=
  if (unpack b).2.2 = 0 then
    match (if (unpack b).1.length = 6 then foldU US.zero (unpack b).1 else none) with
    | none => (US.zero, 0, 132)
    | some u => if agOK u.k u.n u.seg u.size then (u, 0, 0) else (US.zero, 0, 133)
  else (US.zero, (unpack b).2.1, (unpack b).2.2)
def readV (r : US × Nat × Nat) : Ending := .returned (.tuple #[.agg r.1.cells, .int .i64 (r.2.1 : Int), .int .i64 (r.2.2 : Int)])
theorem readU_form {b : List UInt8} {p : Nat} (h : unpack b = ([], p, 131)) : readU b = (US.zero, p, 131) := by unfold readU; rw [h]; rfl
theorem readU_len {b : List UInt8} {R : List Rw} (h : unpack b = (R, 0, 0)) (hl : R.length ≠ 6) : readU b = (US.zero, 0, 132) := by unfold readU; rw [h]; simp [hl]
theorem readU_no {b : List UInt8} {R : List Rw} (h : unpack b = (R, 0, 0)) (hf : foldU US.zero R = none) : readU b = (US.zero, 0, 132) := by unfold readU; rw [h]; simp [hf]
theorem readU_some {b : List UInt8} {R : List Rw} {u : US} (h : unpack b = (R, 0, 0)) (hl : R.length = 6) (hf : foldU US.zero R = some u) : readU b = if agOK u.k u.n u.seg u.size then (u, 0, 0) else (US.zero, 0, 133) := by unfold readU; rw [h]; simp [hf, hl]
end Go.Proofs.YteaagngikiaokaaDoor
