/- Matrices of bytes: a row times a column; a row taken from the others; rows with more behind them. -/
import Derived.Test.YtoaaplngdomdcaaMbC
import Derived.Deep.RegionHeld3
import Derived.Shelf.Abstract
namespace Go.Proofs.Ytoaaplngdomdcaa.MB
open Go.RowKit
section

variable {w : World} {g n m : Nat} {M : Nat → Nat → UInt8}

set_option maxRecDepth 100000 in
set_option maxHeartbeats 4000000 in
theorem dot_c (h : Mtx w g n m M) (hk : Fk w) {r : Nat} (hr : r < n) (hm : m ≤ 4096) (K : FuncId) (cap : Array Value) (y : Nat → UInt8)
    (hent : ∀ (args : Array Value) (w : World), (callFunc K args).run Try.prog w = .ok (.enter K args) w)
    (hcl : ∀ (k : Nat) (w' : World), k < m → Below w.heap.size w w' → Calls Try.prog K (#[.int .i64 (k : Int)] ++ cap) w' fun e w'' => e = .returned (.int .u8 ((UInt8.toNat (y k) : Nat) : Int)) ∧ Below w'.heap.size w' w'') :
    Calls Try.prog 134 #[.pointer (some ⟨g, 0, none⟩), .int .i64 (r : Int), .func (.func K) #[] cap] w fun e w' => e = .returned (.int .u8 ((UInt8.toNat (F8.dot m (M r) y) : Nat) : Int)) ∧ Below w.heap.size w w' := by
  have m1 := meth_zero
  have m2 := meth_add
  have m3 := ahead_add
  have m4 := meth_mul
  have m5 := ahead_mul
  have HK := hide hk
  have hgl := Mt.lt h
  have HS : Hid (∀ W, Below w.heap.size w W → W.cell? ⟨g, 0, none⟩ = some gfF) := fun W hW => by
    obtain ⟨_, _, c0, _⟩ := Mt.form (h.below hW)
    exact c0
  have s0 := HS.out w (Below.refl _ _)
  obtain ⟨A, c, _, h1, hnc, hcm, h2⟩ := Mt.form h
  obtain ⟨b, o, B, d, rfl, hbl, h3, hmd, hdm, h4⟩ := h2 r hr
  have H4 := hide h4
  have i1 : (r : Int) < (n : Int) := by omega
  have i2 : (0 : Int) ≤ (r : Int) := by omega
  have HCL := hide hcl
  have HZ := hide (show ∀ k, k ≤ m → ∃ Z, F8.sum k (fun t => F8.mul (M r t) (y t)) = Z from fun k _ => ⟨_, rfl⟩)
  unfold Fd.dot
  clear h hk h2 h4 hcl hnc hcm hdm
  have q0 := fzero_c w HK.out
  go_enter Try.func134, Try.ntmps134
  go_wp2_with fail
  refine q0.mono ?_
  rintro e w1 ⟨rfl, rfl⟩
  clear q0
  have hb1 : Below w.heap.size w (w.alloc (.cells #[] 128)) := (Below.refl w.heap.size w).alloc (Nat.le_refl _) _
  have h1' := (hb1.cell (p := ⟨g, 1, none⟩) hgl).trans h1
  have h3' := (hb1.cell (p := ⟨b, o + r, none⟩) hbl).trans h3
  go_wp2_with fail
  go_loopw [7, 8, 9, 23] (fun u7 _ _ u23 wr => ∃ k : Nat, k ≤ m ∧ u23 = .int .i64 (k : Int) ∧ u7 = .int .u8 ((UInt8.toNat (F8.sum k fun t => F8.mul (M r t) (y t)) : Nat) : Int) ∧ Below w.heap.size w wr) (fun _ _ _ u23 _ => m - (intOf u23).toNat)
  case atStart => exact ⟨0, by omega, rfl, rfl, hb1⟩
  case round =>
    clear hb1
    obtain ⟨k, hk, rfl, rfl, hbel⟩ := hrel
    by_cases hlt : k < m
    · have j1 : (k : Int) < (m : Int) := by omega
      have j2 : (0 : Int) ≤ (k : Int) := by omega
      obtain ⟨b2, o2, rfl, hl2, hc2⟩ := H4.out k hlt
      have hc3 := (hbel.cell (p := ⟨b2, o2 + k, none⟩) hl2).trans hc2
      have hg0 := HS.out wr hbel
      obtain ⟨x, hx⟩ : ∃ x, x = M r k := ⟨_, rfl⟩
      obtain ⟨s, hs⟩ : ∃ s, s = F8.sum k fun t => F8.mul (M r t) (y t) := ⟨_, rfl⟩
      obtain ⟨Y, hY⟩ : ∃ Y, Y = y k := ⟨_, rfl⟩
      have HE := hide (show (F8.sum (k + 1) fun t => F8.mul (M r t) (y t)) = F8.add s (F8.mul x Y) by rw [hs, hx, hY]; rfl)
      have Q1 : Hid (∀ W, Below wr.heap.size wr W → Calls Try.prog K (#[.int .i64 (k : Int)] ++ cap) W fun e w'' => e = .returned (.int .u8 ((UInt8.toNat Y : Nat) : Int)) ∧ Below wr.heap.size wr w'') := fun W hW => by
        rw [hY]
        exact (HCL.out k W hlt (hbel.trans (hW.mono hbel.size))).mono fun e w'' ⟨a, b⟩ => ⟨a, hW.trans (b.mono hW.size)⟩
      have Q2 : Hid (∀ W, Below wr.heap.size wr W → Calls Try.prog 183 #[(.agg #[]), .int .u8 ((UInt8.toNat x : Nat) : Int), .int .u8 ((UInt8.toNat Y : Nat) : Int)] W fun e w'' => e = .returned (.int .u8 ((UInt8.toNat (F8.mul x Y) : Nat) : Int)) ∧ Below wr.heap.size wr w'') := fun W hW =>
        (fmul_c x Y W ((HK.out.below hbel).below hW)).mono fun e w'' ⟨a, b⟩ => ⟨a, by subst b; first | exact hW | exact hW.alloc hW.size _⟩
      have Q3 : Hid (∀ z W, Below wr.heap.size wr W → Calls Try.prog 181 #[(.agg #[]), .int .u8 ((UInt8.toNat s : Nat) : Int), .int .u8 ((UInt8.toNat z : Nat) : Int)] W fun e w'' => e = .returned (.int .u8 ((UInt8.toNat (F8.add s z) : Nat) : Int)) ∧ Below wr.heap.size wr w'') := fun z W hW =>
        (fadd_c s z W ((HK.out.below hbel).below hW)).mono fun e w'' ⟨a, b⟩ => ⟨a, by subst b; first | exact hW | exact hW.alloc hW.size _⟩
      have HS2 : Hid (∀ W, Below wr.heap.size wr W → W.cell? ⟨g, 0, none⟩ = some gfF) := fun W hW => HS.out W (hbel.trans (hW.mono hbel.size))
      have hE := hent #[.int .i64 (k : Int)]
      rw [← hx] at hc3
      rw [← hs]
      clear hx hs hY hc2 HCL
      go_wp2_with fail
      go_region_held3 (fun w' => w'.cell? ⟨g, 0, none⟩ = some gfF) (first | go_keep | exact HS2.out _ (by assumption) | exact HS2.out _ (Below.drew (by assumption)))
        (first
          | (go_at_call 183; (with_reducible refine (Q2.out _ ?bb).mono ?_); (case bb => (repeat (first | with_reducible exact Below.refl _ _ | with_reducible assumption | with_reducible refine Below.drew ?_))); rintro e w2 ⟨rfl, q2⟩)
          | (go_at_call 181; (with_reducible refine (Q3.out _ _ ?bb).mono ?_); (case bb => (repeat (first | with_reducible exact Below.refl _ _ | with_reducible assumption | with_reducible refine Below.drew ?_))); rintro e w3 ⟨rfl, q3⟩)
          | ((with_reducible refine (Q1.out _ ?bb).mono ?_); (case bb => (repeat (first | with_reducible exact Below.refl _ _ | with_reducible assumption | with_reducible refine Below.drew ?_))); rintro e w1 ⟨rfl, q1⟩))
      all_goals
        go_wp2
        go_roundw
        case rel => exact ⟨k + 1, by omega, by go_num, by rw [HE.out], hbel.trans (Below.mono (by repeat (first | with_reducible exact q3 | with_reducible refine Below.drew ?_)) hbel.size)⟩
        case measure => simp [intOf]; omega
    · have hkm : k = m := by omega
      subst hkm
      go_wp2
      go_ret
      exact ⟨rfl, hbel⟩
end
end Go.Proofs.Ytoaaplngdomdcaa.MB
