/- Matrices of bytes: Pick. -/
import Derived.Test.YtoaaplngdomdcaaMbL
import Derived.Test.YtoaaplngdomdcaaNls
namespace Go.Proofs.Ytoaaplngdomdcaa.MB
open Go.RowKit
section

variable {w : World} {base g n m : Nat} {M : Nat → Nat → UInt8}

set_option maxHeartbeats 1600000 in
theorem pick1_c (x b1 b2 i r j : Nat) (v : Value) (L : List Nat) (h : Mtx w x n m M) (hv : Ny w .i64 v L) (hi : L[i]? = some r) (hr : r < n) (hj : j < m) (c1 : w.cell? ⟨b1, 0, none⟩ = some (.pointer (some ⟨x, 0, none⟩))) (c2 : w.cell? ⟨b2, 0, none⟩ = some v) :
    Calls Try.prog 143 #[.int .i64 (i : Int), .int .i64 (j : Int), .pointer (some ⟨b1, 0, none⟩), .pointer (some ⟨b2, 0, none⟩)] w fun e w' => e = .returned (.int .u8 ((UInt8.toNat (M r j) : Nat) : Int)) ∧ Below w.heap.size w w' := by
  obtain ⟨A, c, _, h1, _, _, h2⟩ := Mt.form h
  obtain ⟨b, o, B, d, rfl, _, h3, _, _, h4⟩ := h2 r hr
  obtain ⟨b3, o3, rfl, _, h5⟩ := h4 j hj
  obtain ⟨E, e, rfl, _, _, h6⟩ := hv.form
  obtain ⟨b4, o4, rfl, _, h7⟩ := h6 i r hi
  generalize M r j = y at *
  have hlt : i < L.length := (List.getElem?_eq_some_iff.1 hi).1
  have i0 : (i : Int) < (L.length : Int) := by omega
  have i00 : (0 : Int) ≤ (i : Int) := by omega
  have i1 : (r : Int) < (n : Int) := by omega
  have i2 : (0 : Int) ≤ (r : Int) := by omega
  have i3 : (j : Int) < (m : Int) := by omega
  have i4 : (0 : Int) ≤ (j : Int) := by omega
  clear h h2 h4 h6 hi hv
  go_enter Try.func143, Try.ntmps143
  go_wp2
  go_quiet (fail)
  go_wp2
  go_ret
  exact ⟨rfl, by first | exact Below.refl _ _ | exact below_drewN (Below.refl _ _) _⟩

set_option maxRecDepth 100000 in
set_option maxHeartbeats 4000000 in
theorem pick_ok (x : Nat) (v : Value) (L : List Nat) (h : Mtx w x n m M) (hv : Ny w .i64 v L) (hL : 1 ≤ L.length ∧ L.length ≤ 256) (hr : ∀ (i r : Nat), L[i]? = some r → r < n) (hm : m ≤ 256) :
    Calls Try.prog 101 #[.pointer (some ⟨x, 0, none⟩), v] w fun e w' => ∃ z, e = .returned (.tuple #[.pointer (some ⟨z, 0, none⟩), .int .i64 0]) ∧ Mtx w' z L.length m (fun i j => M (L.getD i 0) j) ∧ Below w.heap.size w w' := by
  have HV0 := hide hv
  obtain ⟨E, e, rfl, hle, hlm, hcell⟩ := hv.form
  have n1 := (Blk.new w 56 #[.pointer (some ⟨x, 0, none⟩)]).alloc (.cells #[.slice E L.length e] 68)
  have n2 := Blk.new (w.alloc (.cells #[.pointer (some ⟨x, 0, none⟩)] 56)) 68 #[.slice E L.length e]
  have b1 := ((Below.refl w.heap.size w).alloc (Nat.le_refl _) (.cells #[.pointer (some ⟨x, 0, none⟩)] 56)).alloc (by simp) (.cells #[.slice E L.length e] 68)
  simp only [World.size_alloc] at n2
  have hn1 : 1 ≤ n := by
    obtain ⟨r, hr0⟩ : ∃ r, L[0]? = some r := ⟨_, List.getElem?_eq_getElem (by omega)⟩
    have := hr 0 r hr0
    omega
  have HH := hide (And.intro h (And.intro hL (And.intro hr (And.intro hn1 hm))))
  have HC := hide hcell
  have l1 : ¬ (L.length : Int) < 1 := by omega
  have l2 : ¬ (L.length : Int) > 256 := by omega
  clear h hv hcell hr hn1 hm hle hlm
  go_enter Try.func101, Try.ntmps101
  go_wp2_with fail
  generalize (w.alloc (.cells #[.pointer (some ⟨x, 0, none⟩)] 56)).alloc (.cells #[.slice E L.length e] 68) = W at n1 n2 b1 ⊢
  obtain ⟨B, hB⟩ : ∃ B, B = w.heap.size := ⟨_, rfl⟩
  rw [← hB] at n1 n2 ⊢
  have HX : Hid (∀ W', Below W.heap.size W W' → Mtx W' x n m M ∧ Ny W' .i64 (.slice E L.length e) L ∧ W'.cell? ⟨B, 0, none⟩ = some (.pointer (some ⟨x, 0, none⟩)) ∧ W'.cell? ⟨B + 1, 0, none⟩ = some (.slice E L.length e) ∧ W'.cell? ⟨x, 0, none⟩ = some gfF) := fun W' hW => by
    have e1 := (HH.out.1.below b1).below hW
    obtain ⟨_, _, c0, _⟩ := Mt.form e1
    exact ⟨e1, (HV0.out.below b1).below hW, by rw [(n1.below' hW).cell]; rfl, by rw [(n2.below' hW).cell]; rfl, c0⟩
  have HCW : Hid (∀ (i r : Nat), L[i]? = some r → ∃ b o, E = some ⟨b, o, none⟩ ∧ W.cell? ⟨b, o + i, none⟩ = some (.int .i64 (r : Int))) := fun i r hi => by
    obtain ⟨b, o, e1, e2, e3⟩ := HC.out i r hi
    exact ⟨b, o, e1, (b1.cell (p := ⟨b, o + i, none⟩) e2).trans e3⟩
  have HB := hide b1
  clear n1 n2 b1 hB HC
  obtain ⟨_, _, c1, c2, c3⟩ := HX.out W (Below.refl _ _)
  have q1 := made_c (HX.out W (Below.refl _ _)).1
  have q2 := rows_c (HX.out W (Below.refl _ _)).1
  refine q1.mono ?_
  rintro e w' ⟨rfl, rfl⟩
  clear q1
  go_wp2_with fail
  go_loopw [7, 21] (fun _ u21 wr => ∃ k : Nat, k ≤ L.length ∧ u21 = .int .i64 (k : Int) ∧ W = wr) (fun _ u21 _ => L.length - (intOf u21).toNat)
  case atStart => exact ⟨0, by omega, rfl, rfl⟩
  case round =>
    obtain ⟨k, hk, rfl, rfl⟩ := hrel
    by_cases hlt : k < L.length
    · obtain ⟨r, hr0⟩ : ∃ r, L[k]? = some r := ⟨_, List.getElem?_eq_getElem hlt⟩
      obtain ⟨b, o, rfl, hcx⟩ := HCW.out k r hr0
      have hrn := HH.out.2.2.1 k r hr0
      have i1 : (k : Int) < (L.length : Int) := by omega
      have i2 : (0 : Int) ≤ (k : Int) := by omega
      have i3 : ¬ (r : Int) < 0 := by omega
      have i4 : ¬ (r : Int) ≥ (n : Int) := by omega
      clear hr0
      go_wp2_with fail
      refine q2.mono ?_
      rintro e w' ⟨rfl, rfl⟩
      go_wp2
      go_roundw
      case rel => exact ⟨k + 1, by omega, by go_num, trivial⟩
      case measure => simp [intOf]; omega
    · have hge : ¬ ((k : Int) < (L.length : Int)) := by omega
      have Q6 : Hid (∀ W', Below W.heap.size W W' → Calls Try.prog 119 #[.pointer (some ⟨x, 0, none⟩)] W' fun e w' => e = .returned (.int .i64 (m : Int)) ∧ W' = w') := fun W' hW => cols_c (HX.out W' hW).1 (by have := HH.out.2.2.2.1; omega)
      have Q7 : Hid (∀ W', Below W.heap.size W W' → Calls Try.prog 117 #[gfF, .int .i64 (L.length : Int), .int .i64 (m : Int), .func (.func 143) #[] #[.pointer (some ⟨B, 0, none⟩), .pointer (some ⟨B + 1, 0, none⟩)]] W' fun e w' => ∃ z, e = .returned (.pointer (some ⟨z, 0, none⟩)) ∧ Mtx w' z L.length m (fun i j => M (L.getD i 0) j) ∧ Below W.heap.size W w') := fun W' hW =>
        (laid_c L.length m 143 #[.pointer (some ⟨B, 0, none⟩), .pointer (some ⟨B + 1, 0, none⟩)] (fun i j => M (L.getD i 0) j) W' HH.out.2.1.2 HH.out.2.2.2.2 (enters_of Try.func143 (by kernel_rfl) rfl) (fun i j w' hi hj hb => by
          obtain ⟨a1, a2, a3, a4, a5⟩ := HX.out w' (Below.step hW hb)
          obtain ⟨r, hr0⟩ : ∃ r, L[i]? = some r := ⟨_, List.getElem?_eq_getElem hi⟩
          have e0 : L.getD i 0 = r := by rw [List.getD_eq_getElem?_getD, hr0]; rfl
          rw [e0]
          exact pick1_c x B (B + 1) i r j _ L a1 a2 hr0 (HH.out.2.2.1 i r hr0) hj a3 a4)).mono fun e w' ⟨z, a, b, c⟩ => ⟨z, a, b, Below.step hW c⟩
      have HX2 : Hid (∀ W', Below W.heap.size W W' → W'.cell? ⟨B, 0, none⟩ = some (.pointer (some ⟨x, 0, none⟩)) ∧ W'.cell? ⟨B + 1, 0, none⟩ = some (.slice E L.length e) ∧ W'.cell? ⟨x, 0, none⟩ = some gfF) := fun W' hW => (HX.out W' hW).2.2
      clear q2
      go_wp2_with fail
      go_region_held3 (fun w' => w'.cell? ⟨B, 0, none⟩ = some (.pointer (some ⟨x, 0, none⟩)) ∧ w'.cell? ⟨B + 1, 0, none⟩ = some (.slice E L.length e) ∧ w'.cell? ⟨x, 0, none⟩ = some gfF) (first | go_keep | exact HX2.out _ q9)
        (first
          | (go_at_call 119; (with_reducible refine (Q6.out _ ?bb).mono ?_); (case bb => (repeat (first | with_reducible exact Below.refl _ _ | with_reducible refine Below.drew ?_))); rintro e w2 ⟨rfl, rfl⟩)
          | (go_at_call 117; (with_reducible refine (Q7.out _ ?bb).mono ?_); (case bb => (repeat (first | with_reducible exact Below.refl _ _ | with_reducible refine Below.drew ?_))); rintro e w2 ⟨z, rfl, hz, q9⟩; have HZ := hide hz; clear hz))
      all_goals
        go_wp2
        go_ret2
        exact ⟨z, rfl, HZ.out, HB.out.trans (q9.mono HB.out.size)⟩
end
end Go.Proofs.Ytoaaplngdomdcaa.MB
