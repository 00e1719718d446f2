/- Matrices of bytes: Same, Pick. -/
import Derived.Test.YtoaaplngdomdcaaMbK
import Derived.Test.YtoaaplngdomdcaaRsC
namespace Go.Proofs.Ytoaaplngdomdcaa.MB
open Go.RowKit

/-- Is it so? -/
noncomputable def soB (p : Prop) : Bool := @decide p (Classical.propDecidable p)
theorem soB_true {p : Prop} (h : p) : soB p = true := @decide_eq_true _ (Classical.propDecidable _) h
theorem soB_false {p : Prop} (h : ¬ p) : soB p = false := @decide_eq_false _ (Classical.propDecidable _) h
section

variable {w : World} {base g n m : Nat} {M : Nat → Nat → UInt8}

set_option maxHeartbeats 800000 in
theorem equal_c (A B : Option Addr) (c d m : Nat) (r s : Nat → UInt8) (w : World) (hm : m ≤ 140737488355328) (ha : ∀ j, j < m → ∃ b o, A = some ⟨b, o, none⟩ ∧ w.cell? ⟨b, o + j, none⟩ = some (.int .u8 ((UInt8.toNat (r j) : Nat) : Int)))
    (hb : ∀ j, j < m → ∃ b o, B = some ⟨b, o, none⟩ ∧ w.cell? ⟨b, o + j, none⟩ = some (.int .u8 ((UInt8.toNat (s j) : Nat) : Int))) :
    Calls Try.prog 102 #[.slice A m c, .slice B m d] w fun e w' => e = .returned (.bool (soB (∀ j, j < m → r j = s j))) ∧ Dr w w' := by
  have hne : ((m : Int) != (m : Int)) = false := by simp
  have HA := hide ha
  have HB := hide hb
  clear ha hb
  go_enter Try.func102, Try.ntmps102
  go_wp2
  go_loopw [5, 13] (fun _ u13 wr => ∃ k : Nat, k ≤ m ∧ u13 = .int .i64 (k : Int) ∧ (∀ j, j < k → r j = s j) ∧ Dr w wr) (fun _ u13 _ => m - (intOf u13).toNat)
  case atStart => exact ⟨0, by omega, rfl, fun j h => by omega, Dr.refl _⟩
  case round =>
    obtain ⟨k, hk, rfl, hq, hw⟩ := hrel
    have HQ := hide hq
    clear hq
    by_cases hlt : k < m
    · obtain ⟨b, o, rfl, hx⟩ := HA.out k hlt
      obtain ⟨b2, o2, rfl, hy⟩ := HB.out k hlt
      rw [← hw.cell] at hx hy
      have i1 : (k : Int) < (m : Int) := by omega
      have i3 : (0 : Int) ≤ (k : Int) := by omega
      by_cases hxy : r k = s k
      · have HE := hide hxy
        rw [← hxy] at hy
        obtain ⟨x, hx0⟩ : ∃ x, x = r k := ⟨_, rfl⟩
        rw [← hx0] at hx hy
        clear hxy hx0
        have hd : (((UInt8.toNat x : Nat) : Int) != ((UInt8.toNat x : Nat) : Int)) = false := by simp
        go_wp2
        go_quiet (fail)
        go_wp2
        go_roundw
        case rel => exact ⟨k + 1, by omega, by go_num, fun j hj => (by
          rcases Nat.lt_or_ge j k with h | h
          · exact HQ.out j h
          · rw [show j = k by omega]; exact HE.out), hw.drewN _⟩
        case measure => simp [intOf]; omega
      · have HE := hide hxy
        have hd : (((UInt8.toNat (r k) : Nat) : Int) != ((UInt8.toNat (s k) : Nat) : Int)) = true := by rw [bne_iff_ne]; exact fun h => hxy (en_inj.1 h)
        obtain ⟨x, hrx⟩ : ∃ x, x = r k := ⟨_, rfl⟩
        obtain ⟨y, hsy⟩ : ∃ y, y = s k := ⟨_, rfl⟩
        rw [← hrx] at hx hd
        rw [← hsy] at hy hd
        clear hrx hsy hxy
        go_wp2
        go_quiet (fail)
        go_wp2
        go_ret
        exact ⟨ret_bool (soB_false fun h => HE.out (h k hlt)).symm, hw.drewN _⟩
    · have hge : ¬ ((k : Int) < (m : Int)) := by omega
      go_wp2
      go_ret
      exact ⟨ret_bool (soB_true fun j hj => HQ.out j (by omega)).symm, hw⟩

set_option maxHeartbeats 1600000 in
theorem eqf_c (u v : Value) {N : Nat → Nat → UInt8} (h1 : Rd en w u n m M) (h2 : Rd en w v n m N) (hn : n ≤ 4096) (hm : m ≤ 140737488355328) :
    Calls Try.prog 136 #[u, v, .func (.func 102) #[] #[]] w fun e w' => e = .returned (.bool (soB (∀ i j, i < n → j < m → M i j = N i j))) ∧ Dr w w' := by
  obtain ⟨A, c, rfl, _, hcm, ha⟩ := h1
  obtain ⟨B, d, rfl, _, hdm, hb⟩ := h2
  unfold maxLen at hcm hdm
  have hne : ((n : Int) != (n : Int)) = false := by simp
  have HA := hide ha
  have HB := hide hb
  clear ha hb hcm hdm
  go_enter Try.func136, Try.ntmps136
  go_wp2
  go_loopw [7, 8, 9, 17] (fun _ _ _ u17 wr => ∃ k : Nat, k ≤ n ∧ u17 = .int .i64 (k : Int) ∧ (∀ i j, i < k → j < m → M i j = N i j) ∧ Dr w wr) (fun _ _ _ u17 _ => n - (intOf u17).toNat)
  case atStart => exact ⟨0, by omega, rfl, fun i j h => by omega, Dr.refl _⟩
  case round =>
    obtain ⟨k, hk, rfl, hq, hw⟩ := hrel
    have HQ := hide hq
    clear hq
    by_cases hlt : k < n
    · obtain ⟨b, o, A2, c2, rfl, _, hx, _, _, hx2⟩ := HA.out k hlt
      obtain ⟨b2, o2, B2, d2, rfl, _, hy, _, _, hy2⟩ := HB.out k hlt
      have q := equal_c A2 B2 c2 d2 m (M k) (N k) wr hm (fun j hj => by
        obtain ⟨b, o, e, _, hc⟩ := hx2 j hj
        exact ⟨b, o, e, (hw.cell _).trans hc⟩) (fun j hj => by
        obtain ⟨b, o, e, _, hc⟩ := hy2 j hj
        exact ⟨b, o, e, (hw.cell _).trans hc⟩)
      rw [← hw.cell] at hx hy
      have i1 : (k : Int) < (n : Int) := by omega
      have i3 : (0 : Int) ≤ (k : Int) := by omega
      clear hx2 hy2
      by_cases hxy : ∀ j, j < m → M k j = N k j
      · rw [soB_true hxy] at q
        have HE := hide hxy
        clear hxy
        go_wp2_with fail
        refine q.mono ?_
        rintro e w2 ⟨rfl, hd2⟩
        go_wp2
        go_roundw
        case rel => exact ⟨k + 1, by omega, by go_num, fun i j hi hj => (by
          rcases Nat.lt_or_ge i k with h | h
          · exact HQ.out i j h hj
          · rw [show i = k by omega]; exact HE.out j hj), (by obtain ⟨a, rfl⟩ := hd2; exact hw.drewN a)⟩
        case measure => simp [intOf]; omega
      · rw [soB_false hxy] at q
        have HE := hide hxy
        clear hxy
        go_wp2_with fail
        refine q.mono ?_
        rintro e w2 ⟨rfl, hd2⟩
        go_wp2
        go_ret
        exact ⟨ret_bool (soB_false fun h => HE.out fun j hj => h k j hlt hj).symm, (by obtain ⟨a, rfl⟩ := hd2; exact hw.drewN a)⟩
    · have hge : ¬ ((k : Int) < (n : Int)) := by omega
      go_wp2
      go_ret
      exact ⟨ret_bool (soB_true fun i j hi hj => HQ.out i j (by omega) hj).symm, hw⟩

set_option maxRecDepth 100000 in
set_option maxHeartbeats 1600000 in
theorem same_c (x y : Nat) {N : Nat → Nat → UInt8} (h1 : Mtx w x n m M) (h2 : Mtx w y n m N) (hn : n ≤ 4096) (hm : m ≤ 140737488355328) :
    Calls Try.prog 78 #[.pointer (some ⟨x, 0, none⟩), .pointer (some ⟨y, 0, none⟩)] w fun e w' => e = .returned (.bool (soB (∀ i j, i < n → j < m → M i j = N i j))) ∧ Dr w w' := by
  have Q1 := hide (fun k : Nat => made_c (h1.below (below_drewN (Below.refl _ w) k)))
  have Q2 := hide (fun k : Nat => made_c (h2.below (below_drewN (Below.refl _ w) k)))
  obtain ⟨u, hb1, hr1⟩ := h1
  obtain ⟨v, hb2, hr2⟩ := h2
  have c1 : w.cell? ⟨x, 1, none⟩ = some u := by rw [hb1.cell]; rfl
  have c2 : w.cell? ⟨y, 1, none⟩ = some v := by rw [hb2.cell]; rfl
  have Q3 := hide (fun k : Nat => eqf_c u v (hr1.below (below_drewN (Below.refl _ w) k)) (hr2.below (below_drewN (Below.refl _ w) k)) hn hm)
  obtain ⟨A, c, rfl, _⟩ := hr1
  obtain ⟨B, d, rfl, _⟩ := hr2
  generalize soB (∀ i j, i < n → j < m → M i j = N i j) = z at *
  clear hb1 hb2 
  go_enter Try.func78, Try.ntmps78
  go_wp2
  go_quiet (first
    | (go_at_call 132; first | (with_reducible exact Calls.quiet_of_same ((Q1.out _).mono fun _ _ ⟨a, b⟩ => ⟨a, b.symm⟩)) | (with_reducible exact Calls.quiet_of_same ((Q2.out _).mono fun _ _ ⟨a, b⟩ => ⟨a, b.symm⟩)))
    | (go_at_call 136; with_reducible exact Calls.quiet_of (Q3.out _)))
  go_wp2
  go_ret
  exact ⟨rfl, _, rfl⟩
end
end Go.Proofs.Ytoaaplngdomdcaa.MB
