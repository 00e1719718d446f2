/- Joined texts: MbP, MbQ, MbR, MwF, KitW, Cvt, MbS, MbT, MatS, MbU, MatE, MwG, MvF, MvA, MvC, MvD, MvE. -/
import Derived.Test.YtoaaplngdomdcaaJ6
import Derived.Test.YtoaaplngdomdcaaJ1
import Derived.Laws.Cover3
import Derived.Lib.EndianMore
import Derived.Deep.Upon
import Derived.Deep.RegionHeld3
import Derived.Test.YtoaaplngdomdcaaJ2
import Derived.Shelf.Abstract

/- Matrices of bytes: Pick. -/
namespace Go.Proofs.Ytoaaplngdomdcaa.MB
open Go.RowKit
section

variable {w : World} {base g n m : Nat} {M : Nat → Nat → UInt8}

set_option maxHeartbeats 1600000 in
theorem pick1_c (x b1 b2 i r j : Nat) (v : Value) (L : List Nat) (h : Mtx w x n m M) (hv : Ny w .i64 v L) (hi : L[i]? = some r) (hr : r < n) (hj : j < m) (c1 : w.cell? ⟨b1, 0, none⟩ = some (.pointer (some ⟨x, 0, none⟩))) (c2 : w.cell? ⟨b2, 0, none⟩ = some v) :
    Calls Try.prog 143 #[.int .i64 (i : Int), .int .i64 (j : Int), .pointer (some ⟨b1, 0, none⟩), .pointer (some ⟨b2, 0, none⟩)] w fun e w' => e = .returned (.int .u8 ((UInt8.toNat (M r j) : Nat) : Int)) ∧ Below w.heap.size w w' := by
  obtain ⟨A, c, _, h1, _, _, h2⟩ := Mt.form h
  obtain ⟨b, o, B, d, rfl, _, h3, _, _, h4⟩ := h2 r hr
  obtain ⟨b3, o3, rfl, _, h5⟩ := h4 j hj
  obtain ⟨E, e, rfl, _, _, h6⟩ := hv.form
  obtain ⟨b4, o4, rfl, _, h7⟩ := h6 i r hi
  generalize M r j = y at *
  have hlt : i < L.length := (List.getElem?_eq_some_iff.1 hi).1
  have i0 : (i : Int) < (L.length : Int) := by omega
  have i00 : (0 : Int) ≤ (i : Int) := by omega
  have i1 : (r : Int) < (n : Int) := by omega
  have i2 : (0 : Int) ≤ (r : Int) := by omega
  have i3 : (j : Int) < (m : Int) := by omega
  have i4 : (0 : Int) ≤ (j : Int) := by omega
  clear h h2 h4 h6 hi hv
  go_enter Try.func143, Try.ntmps143
  go_wp2
  go_quiet (fail)
  go_wp2
  go_ret
  exact ⟨rfl, by first | exact Below.refl _ _ | exact below_drewN (Below.refl _ _) _⟩

set_option maxRecDepth 100000 in
set_option maxHeartbeats 4000000 in
theorem pick_ok (x : Nat) (v : Value) (L : List Nat) (h : Mtx w x n m M) (hv : Ny w .i64 v L) (hL : 1 ≤ L.length ∧ L.length ≤ 256) (hr : ∀ (i r : Nat), L[i]? = some r → r < n) (hm : m ≤ 256) :
    Calls Try.prog 101 #[.pointer (some ⟨x, 0, none⟩), v] w fun e w' => ∃ z, e = .returned (.tuple #[.pointer (some ⟨z, 0, none⟩), .int .i64 0]) ∧ Mtx w' z L.length m (fun i j => M (L.getD i 0) j) ∧ Below w.heap.size w w' := by
  have HV0 := hide hv
  obtain ⟨E, e, rfl, hle, hlm, hcell⟩ := hv.form
  have n1 := (Blk.new w 56 #[.pointer (some ⟨x, 0, none⟩)]).alloc (.cells #[.slice E L.length e] 68)
  have n2 := Blk.new (w.alloc (.cells #[.pointer (some ⟨x, 0, none⟩)] 56)) 68 #[.slice E L.length e]
  have b1 := ((Below.refl w.heap.size w).alloc (Nat.le_refl _) (.cells #[.pointer (some ⟨x, 0, none⟩)] 56)).alloc (by simp) (.cells #[.slice E L.length e] 68)
  simp only [World.size_alloc] at n2
  have hn1 : 1 ≤ n := by
    obtain ⟨r, hr0⟩ : ∃ r, L[0]? = some r := ⟨_, List.getElem?_eq_getElem (by omega)⟩
    have := hr 0 r hr0
    omega
  have HH := hide (And.intro h (And.intro hL (And.intro hr (And.intro hn1 hm))))
  have HC := hide hcell
  have l1 : ¬ (L.length : Int) < 1 := by omega
  have l2 : ¬ (L.length : Int) > 256 := by omega
  clear h hv hcell hr hn1 hm hle hlm
  go_enter Try.func101, Try.ntmps101
  go_wp2_with fail
  generalize (w.alloc (.cells #[.pointer (some ⟨x, 0, none⟩)] 56)).alloc (.cells #[.slice E L.length e] 68) = W at n1 n2 b1 ⊢
  obtain ⟨B, hB⟩ : ∃ B, B = w.heap.size := ⟨_, rfl⟩
  rw [← hB] at n1 n2 ⊢
  have HX : Hid (∀ W', Below W.heap.size W W' → Mtx W' x n m M ∧ Ny W' .i64 (.slice E L.length e) L ∧ W'.cell? ⟨B, 0, none⟩ = some (.pointer (some ⟨x, 0, none⟩)) ∧ W'.cell? ⟨B + 1, 0, none⟩ = some (.slice E L.length e) ∧ W'.cell? ⟨x, 0, none⟩ = some gfF) := fun W' hW => by
    have e1 := (HH.out.1.below b1).below hW
    obtain ⟨_, _, c0, _⟩ := Mt.form e1
    exact ⟨e1, (HV0.out.below b1).below hW, by rw [(n1.below' hW).cell]; rfl, by rw [(n2.below' hW).cell]; rfl, c0⟩
  have HCW : Hid (∀ (i r : Nat), L[i]? = some r → ∃ b o, E = some ⟨b, o, none⟩ ∧ W.cell? ⟨b, o + i, none⟩ = some (.int .i64 (r : Int))) := fun i r hi => by
    obtain ⟨b, o, e1, e2, e3⟩ := HC.out i r hi
    exact ⟨b, o, e1, (b1.cell (p := ⟨b, o + i, none⟩) e2).trans e3⟩
  have HB := hide b1
  clear n1 n2 b1 hB HC
  obtain ⟨_, _, c1, c2, c3⟩ := HX.out W (Below.refl _ _)
  have q1 := made_c (HX.out W (Below.refl _ _)).1
  have q2 := rows_c (HX.out W (Below.refl _ _)).1
  refine q1.mono ?_
  rintro e w' ⟨rfl, rfl⟩
  clear q1
  go_wp2_with fail
  go_loopw [7, 21] (fun _ u21 wr => ∃ k : Nat, k ≤ L.length ∧ u21 = .int .i64 (k : Int) ∧ W = wr) (fun _ u21 _ => L.length - (intOf u21).toNat)
  case atStart => exact ⟨0, by omega, rfl, rfl⟩
  case round =>
    obtain ⟨k, hk, rfl, rfl⟩ := hrel
    by_cases hlt : k < L.length
    · obtain ⟨r, hr0⟩ : ∃ r, L[k]? = some r := ⟨_, List.getElem?_eq_getElem hlt⟩
      obtain ⟨b, o, rfl, hcx⟩ := HCW.out k r hr0
      have hrn := HH.out.2.2.1 k r hr0
      have i1 : (k : Int) < (L.length : Int) := by omega
      have i2 : (0 : Int) ≤ (k : Int) := by omega
      have i3 : ¬ (r : Int) < 0 := by omega
      have i4 : ¬ (r : Int) ≥ (n : Int) := by omega
      clear hr0
      go_wp2_with fail
      refine q2.mono ?_
      rintro e w' ⟨rfl, rfl⟩
      go_wp2
      go_roundw
      case rel => exact ⟨k + 1, by omega, by go_num, trivial⟩
      case measure => simp [intOf]; omega
    · have hge : ¬ ((k : Int) < (L.length : Int)) := by omega
      have Q6 : Hid (∀ W', Below W.heap.size W W' → Calls Try.prog 119 #[.pointer (some ⟨x, 0, none⟩)] W' fun e w' => e = .returned (.int .i64 (m : Int)) ∧ W' = w') := fun W' hW => cols_c (HX.out W' hW).1 (by have := HH.out.2.2.2.1; omega)
      have Q7 : Hid (∀ W', Below W.heap.size W W' → Calls Try.prog 117 #[gfF, .int .i64 (L.length : Int), .int .i64 (m : Int), .func (.func 143) #[] #[.pointer (some ⟨B, 0, none⟩), .pointer (some ⟨B + 1, 0, none⟩)]] W' fun e w' => ∃ z, e = .returned (.pointer (some ⟨z, 0, none⟩)) ∧ Mtx w' z L.length m (fun i j => M (L.getD i 0) j) ∧ Below W.heap.size W w') := fun W' hW =>
        (laid_c L.length m 143 #[.pointer (some ⟨B, 0, none⟩), .pointer (some ⟨B + 1, 0, none⟩)] (fun i j => M (L.getD i 0) j) W' HH.out.2.1.2 HH.out.2.2.2.2 (enters_of Try.func143 (by kernel_rfl) rfl) (fun i j w' hi hj hb => by
          obtain ⟨a1, a2, a3, a4, a5⟩ := HX.out w' (Below.step hW hb)
          obtain ⟨r, hr0⟩ : ∃ r, L[i]? = some r := ⟨_, List.getElem?_eq_getElem hi⟩
          have e0 : L.getD i 0 = r := by rw [List.getD_eq_getElem?_getD, hr0]; rfl
          rw [e0]
          exact pick1_c x B (B + 1) i r j _ L a1 a2 hr0 (HH.out.2.2.1 i r hr0) hj a3 a4)).mono fun e w' ⟨z, a, b, c⟩ => ⟨z, a, b, Below.step hW c⟩
      have HX2 : Hid (∀ W', Below W.heap.size W W' → W'.cell? ⟨B, 0, none⟩ = some (.pointer (some ⟨x, 0, none⟩)) ∧ W'.cell? ⟨B + 1, 0, none⟩ = some (.slice E L.length e) ∧ W'.cell? ⟨x, 0, none⟩ = some gfF) := fun W' hW => (HX.out W' hW).2.2
      clear q2
      go_wp2_with fail
      go_region_held3 (fun w' => w'.cell? ⟨B, 0, none⟩ = some (.pointer (some ⟨x, 0, none⟩)) ∧ w'.cell? ⟨B + 1, 0, none⟩ = some (.slice E L.length e) ∧ w'.cell? ⟨x, 0, none⟩ = some gfF) (first | go_keep | exact HX2.out _ q9)
        (first
          | (go_at_call 119; (with_reducible refine (Q6.out _ ?bb).mono ?_); (case bb => (repeat (first | with_reducible exact Below.refl _ _ | with_reducible refine Below.drew ?_))); rintro e w2 ⟨rfl, rfl⟩)
          | (go_at_call 117; (with_reducible refine (Q7.out _ ?bb).mono ?_); (case bb => (repeat (first | with_reducible exact Below.refl _ _ | with_reducible refine Below.drew ?_))); rintro e w2 ⟨z, rfl, hz, q9⟩; have HZ := hide hz; clear hz))
      all_goals
        go_wp2
        go_ret2
        exact ⟨z, rfl, HZ.out, HB.out.trans (q9.mono HB.out.size)⟩
end
end Go.Proofs.Ytoaaplngdomdcaa.MB

/- What the statements call a matrix, over bytes: mul, inverse, same, at, there, identity. -/
namespace Go.Proofs.Ytoaaplngdomdcaa.MB
open Go.RowKit
section

variable {w : World} {base g n m : Nat} {M : Nat → Nat → UInt8}

set_option maxHeartbeats 1600000 in
theorem there_c (g : Nat) (w : World) : Calls Try.prog 36 #[.agg #[.pointer (some ⟨g, 0, none⟩), .pointer none]] w fun e w' => e = .returned (.bool true) ∧ Below w.heap.size w w' := by
  have b1 := (Below.refl w.heap.size w).alloc (Nat.le_refl _) (.cells #[.pointer (some ⟨g, 0, none⟩), .pointer none] 59)
  have HB := hide b1
  clear b1
  go_enter Try.func36, Try.ntmps36
  go_wp2
  go_ret
  exact ⟨rfl, HB.out⟩
set_option maxHeartbeats 1600000 in
theorem there_none (w : World) : Calls Try.prog 36 #[.agg #[.pointer none, .pointer none]] w fun e w' => e = .returned (.bool false) ∧ Below w.heap.size w w' := by
  have b1 := (Below.refl w.heap.size w).alloc (Nat.le_refl _) (.cells #[.pointer none, .pointer none] 59)
  have HB := hide b1
  clear b1
  go_enter Try.func36, Try.ntmps36
  go_wp2
  go_ret
  exact ⟨rfl, HB.out⟩
set_option maxHeartbeats 1600000 in
theorem msame_c (x y : Nat) {N : Nat → Nat → UInt8} (h1 : Mtx w x n m M) (h2 : Mtx w y n m N) (hn : n ≤ 4096) (hm : m ≤ 4096) :
    Calls Try.prog 38 #[.agg #[.pointer (some ⟨x, 0, none⟩), .pointer none], .agg #[.pointer (some ⟨y, 0, none⟩), .pointer none]] w fun e w' => e = .returned (.bool (soB (∀ i j, i < n → j < m → M i j = N i j))) ∧ Below w.heap.size w w' := by
  have b1 := ((Below.refl w.heap.size w).alloc (Nat.le_refl _) (.cells #[.pointer (some ⟨x, 0, none⟩), .pointer none] 59)).alloc (by simp) (.cells #[.pointer (some ⟨y, 0, none⟩), .pointer none] 59)
  have q := same_c x y (h1.below b1) (h2.below b1) hn (by omega)
  have HB := hide b1
  generalize soB (∀ i j, i < n → j < m → M i j = N i j) = z at *
  clear b1 h1 h2
  go_enter Try.func38, Try.ntmps38
  go_wp2_with fail
  refine q.mono ?_
  rintro e w2 ⟨rfl, hd⟩
  have HD := hide (HB.out.trans (hd.below.mono HB.out.size))
  clear q hd
  go_wp2
  go_ret
  exact ⟨rfl, HD.out⟩
set_option maxRecDepth 100000 in
set_option maxHeartbeats 1600000 in
theorem minv_c (h : Mtx w g n n M) (hk : Fk w) (hn : 1 ≤ n ∧ n ≤ 256) :
    Calls Try.prog 39 #[.agg #[.pointer (some ⟨g, 0, none⟩), .pointer none]] w fun e w' => Below w.heap.size w w' ∧
      ((F8.rank n M = n ∧ ∃ x, e = .returned (.tuple #[.agg #[.pointer (some ⟨x, 0, none⟩), .pointer none], .int .i64 0]) ∧ Mtx w' x n n (F8.invM n M)) ∨ (F8.rank n M ≠ n ∧ e = .returned (.tuple #[.agg #[.pointer none, .pointer none], .int .i64 71]))) := by
  have b1 := ((Below.refl w.heap.size w).alloc (Nat.le_refl _) (.cells #[.pointer (some ⟨g, 0, none⟩), .pointer none] 59)).alloc (by simp) (.cells #[.pointer none, .pointer none] 59)
  have n2 := Blk.new (w.alloc (.cells #[.pointer (some ⟨g, 0, none⟩), .pointer none] 59)) 59 #[.pointer none, .pointer none]
  have q := inverse_c (h.below b1) (hk.below b1) hn
  simp only [World.size_alloc] at n2
  have HB := hide (And.intro b1 n2)
  clear b1 n2 h hk
  go_enter Try.func39, Try.ntmps39
  go_wp2_with fail
  refine q.mono ?_
  rintro e w2 ⟨hb2, ⟨hr, x, rfl, hx, hlw⟩ | ⟨hr, rfl⟩⟩
  · have hblk := HB.out.2.below' hb2
    have hkeep : ∀ w7, w2.grownBy w7 (some (w.heap.size + 1)) → Mtx w7 x n n (F8.invM n M) := fun w7 hg => hlw _ w7 (by simp) hg
    have H2 := hide (And.intro hr (And.intro hx (And.intro hkeep (HB.out.1.trans (hb2.mono HB.out.1.size)))))
    clear q hr hx hb2 hlw hkeep
    go_wp2_with ((with_reducible change wpList _ _ _ (⟨none, .store _ (.tmp 2) _, _, _, _, _⟩ :: _) _ _); go_loud (refine wpList_store_row (o := ⟨none, .store _ (.tmp 2) _, _, _, _, _⟩) hblk #[.pointer (some ⟨x, 0, none⟩), .pointer none] rfl (by simp [Value.oneCell']) rfl 59 _ _ rfl (by kernel_rfl) rfl rfl ?_; intro w7 hb7 hg7))
    have hx7 := H2.out.2.2.1 w7 hg7
    refine bodyPost_ret (results_row_tmp rfl _ _ (w.heap.size + 1) 59 #[.pointer (some ⟨x, 0, none⟩), .pointer none] (0, 0) _ rfl hb7 Try.underlying59 rfl (by kernel_rfl)) rfl ⟨H2.out.2.2.2.grown hg7 H2.out.2.2.2.size fun k hk => (by injection hk with hk; omega), .inl ⟨H2.out.1, x, rfl, hx7⟩⟩
  · have hblk := HB.out.2.below' hb2
    have H2 := hide (And.intro hr (HB.out.1.trans (hb2.mono HB.out.1.size)))
    clear q hr hb2
    go_wp2_with ((with_reducible change wpList _ _ _ (⟨none, .store _ (.tmp 2) _, _, _, _, _⟩ :: _) _ _); go_loud (refine wpList_store_row (o := ⟨none, .store _ (.tmp 2) _, _, _, _, _⟩) hblk #[.pointer none, .pointer none] rfl (by simp [Value.oneCell']) rfl 59 _ _ rfl (by kernel_rfl) rfl rfl ?_; intro w7 hb7 hg7))
    exact bodyPost_ret (results_row_tmp rfl _ _ (w.heap.size + 1) 59 #[.pointer none, .pointer none] (0, 0) _ rfl hb7 Try.underlying59 rfl (by kernel_rfl)) rfl ⟨H2.out.2.grown hg7 H2.out.2.size fun k hk => (by injection hk with hk; omega), .inr ⟨H2.out.1, rfl⟩⟩
end
end Go.Proofs.Ytoaaplngdomdcaa.MB

/- What the statements call a matrix, over bytes: products, single elements, the identity. -/
namespace Go.Proofs.Ytoaaplngdomdcaa.MB
open Go.RowKit
section

variable {w : World} {base g n m : Nat} {M : Nat → Nat → UInt8}

set_option maxRecDepth 100000 in
set_option maxHeartbeats 1600000 in
theorem mmul_c (x y k : Nat) {N : Nat → Nat → UInt8} (h : Mtx w x n k M) (h2 : Mtx w y k m N) (hf : Fk w) (hn : 1 ≤ n ∧ n ≤ 256) (hk : 1 ≤ k ∧ k ≤ 256) (hm : m ≤ 256) :
    Calls Try.prog 37 #[.agg #[.pointer (some ⟨x, 0, none⟩), .pointer none], .agg #[.pointer (some ⟨y, 0, none⟩), .pointer none]] w fun e w' => ∃ z, e = .returned (.tuple #[.agg #[.pointer (some ⟨z, 0, none⟩), .pointer none], .int .i64 0]) ∧ Mtx w' z n m (F8.mulm k M N) ∧ Below w.heap.size w w' := by
  have b1 := (((Below.refl w.heap.size w).alloc (Nat.le_refl _) (.cells #[.pointer (some ⟨x, 0, none⟩), .pointer none] 59)).alloc (by simp) (.cells #[.pointer (some ⟨y, 0, none⟩), .pointer none] 59)).alloc (by simp; omega) (.cells #[.pointer none, .pointer none] 59)
  have n2 := Blk.new ((w.alloc (.cells #[.pointer (some ⟨x, 0, none⟩), .pointer none] 59)).alloc (.cells #[.pointer (some ⟨y, 0, none⟩), .pointer none] 59)) 59 #[.pointer none, .pointer none]
  have q := mul_c x y k (h.below b1) (h2.below b1) (hf.below b1) hn hk hm
  simp only [World.size_alloc] at n2
  have HB := hide (And.intro b1 n2)
  clear b1 n2 h h2 hf
  go_enter Try.func37, Try.ntmps37
  go_wp2_with fail
  refine q.mono ?_
  rintro e w2 ⟨z, rfl, hz, hb2, hlw⟩
  have hblk := HB.out.2.below' hb2
  have hkeep : ∀ w7, w2.grownBy w7 (some (w.heap.size + 1 + 1)) → Mtx w7 z n m (F8.mulm k M N) := fun w7 hg => hlw _ w7 (by simp) hg
  have H2 := hide (And.intro hz (And.intro hkeep (HB.out.1.trans (hb2.mono HB.out.1.size))))
  clear q hz hb2 hlw hkeep
  go_wp2_with ((with_reducible change wpList _ _ _ (⟨none, .store _ (.tmp 4) _, _, _, _, _⟩ :: _) _ _); go_loud (refine wpList_store_row (o := ⟨none, .store _ (.tmp 4) _, _, _, _, _⟩) hblk #[.pointer (some ⟨z, 0, none⟩), .pointer none] rfl (by simp [Value.oneCell']) rfl 59 _ _ rfl (by kernel_rfl) rfl rfl ?_; intro w7 hb7 hg7))
  have hx7 := H2.out.2.1 w7 hg7
  exact bodyPost_ret (results_row_tmp rfl _ _ (w.heap.size + 1 + 1) 59 #[.pointer (some ⟨z, 0, none⟩), .pointer none] (0, 0) _ rfl hb7 Try.underlying59 rfl (by kernel_rfl)) rfl ⟨z, rfl, hx7, H2.out.2.2.grown hg7 H2.out.2.2.size fun k hk => (by injection hk with hk; omega)⟩

set_option maxHeartbeats 1600000 in
theorem mat_at_c (x i j : Nat) (h : Mtx w x n m M) (hi : i < n) (hj : j < m) :
    Calls Try.prog 74 #[.agg #[.pointer (some ⟨x, 0, none⟩), .pointer none], .int .i64 (i : Int), .int .i64 (j : Int)] w fun e w' => e = .returned (.tuple #[.int .u32 ((UInt8.toNat (M i j) : Nat) : Int), .int .i64 0]) ∧ Below w.heap.size w w' := by
  have b1 := (Below.refl w.heap.size w).alloc (Nat.le_refl _) (.cells #[.pointer (some ⟨x, 0, none⟩), .pointer none] 59)
  have q := at_c (h.below b1) hi hj
  have hw : IntKind.u32.wrap ((M i j).toNat : Int) = ((M i j).toNat : Int) := by have := (M i j).toNat_lt; simp [IntKind.wrap, IntKind.bits, IntKind.signed]; omega
  generalize M i j = z at *
  have HB := hide b1
  clear b1 h
  go_enter Try.func74, Try.ntmps74
  go_wp2_with fail
  refine q.mono ?_
  rintro e w2 ⟨rfl, rfl⟩
  clear q
  go_wp2
  go_ret2
  exact ⟨rfl, HB.out⟩

set_option maxRecDepth 100000 in
set_option maxHeartbeats 1600000 in
theorem mident_c (n : Nat) (w : World) (hk : Fk w) (hn : 1 ≤ n ∧ n ≤ 256) :
    Calls Try.prog 35 #[.int .u32 0, .pointer none, .int .i64 (n : Int)] w fun e w' => ∃ z, e = .returned (.tuple #[.agg #[.pointer (some ⟨z, 0, none⟩), .pointer none], .int .i64 0]) ∧ Mtx w' z n n F8.ident ∧ Below w.heap.size w w' := by
  have b1 := (Below.refl w.heap.size w).alloc (Nat.le_refl _) (.cells #[.pointer none, .pointer none] 59)
  have n2 := Blk.new w 59 #[.pointer none, .pointer none]
  have q := ident_c n _ (hk.below b1) hn
  have HB := hide (And.intro b1 n2)
  clear b1 n2 hk
  go_enter Try.func35, Try.ntmps35
  go_wp2_with fail
  refine q.mono ?_
  rintro e w2 ⟨z, rfl, hz, hb2, hlw⟩
  have hblk := HB.out.2.below' hb2
  have hkeep : ∀ w7, w2.grownBy w7 (some w.heap.size) → Mtx w7 z n n F8.ident := fun w7 hg => hlw _ w7 (by simp) hg
  have H2 := hide (And.intro hz (And.intro hkeep (HB.out.1.trans (hb2.mono HB.out.1.size))))
  clear q hz hb2 hlw hkeep
  go_wp2_with ((with_reducible change wpList _ _ _ (⟨none, .store _ (.tmp 6) _, _, _, _, _⟩ :: _) _ _); go_loud (refine wpList_store_row (o := ⟨none, .store _ (.tmp 6) _, _, _, _, _⟩) hblk #[.pointer (some ⟨z, 0, none⟩), .pointer none] rfl (by simp [Value.oneCell']) rfl 59 _ _ rfl (by kernel_rfl) rfl rfl ?_; intro w7 hb7 hg7))
  have hx7 := H2.out.2.1 w7 hg7
  exact bodyPost_ret (results_row_tmp rfl _ _ w.heap.size 59 #[.pointer (some ⟨z, 0, none⟩), .pointer none] (0, 0) _ rfl hb7 Try.underlying59 rfl (by kernel_rfl)) rfl ⟨z, rfl, hx7, H2.out.2.2.grown hg7 H2.out.2.2.size fun k hk => (by injection hk with hk; omega)⟩
end
end Go.Proofs.Ytoaaplngdomdcaa.MB

/- Contracts of the matrices of words: what lays one out of a function of places. -/
namespace Go.Proofs.Ytoaaplngdomdcaa
open Go.RowKit

theorem elemW : Elem1 Try.prog 53 22 (.int .u32 0) 4 := ⟨Try.underlying53, by kernel_rfl, rfl⟩
theorem elemWL : Elem1 Try.prog 80 53 (.slice none 0 0) 24 := ⟨Try.underlying80, by kernel_rfl, rfl⟩

/-- A matrix of words: its block holds the field and the rows L, which are of the call's own. -/
def Mw (F : Value) (w : World) (base g : Nat) (L : List (List Nat)) : Prop :=
  base ≤ g ∧ ∃ v, Blk w g 82 #[F, v] ∧ OwnNL w base 22 53 .u32 v L
theorem Mw.below {F : Value} {w w' : World} {base g : Nat} {L : List (List Nat)} (h : Mw F w base g L) (hb : Below w.heap.size w w') : Mw F w' base g L := by
  obtain ⟨h0, v, h1, h2⟩ := h
  exact ⟨h0, v, h1.below' hb, h2.below hb⟩

theorem laidw_step {F : Value} {w w' : World} {base g : Nat} {v v' u : Value} {L : List (List Nat)} {l : List Nat} {xs : List Value} (hb : Blk w g 82 #[F, v]) (h1 : w.ownsRow base 53 1 v L.length xs)
    (h2 : ∀ (i : Nat) (l : List Nat), L[i]? = some l → ∃ x, xs[i]? = some x ∧ OwnN w base 22 .u32 x l) (hu : OwnN w base 22 .u32 u l) (h' : w'.ownsRow base 53 1 v' (L.length + 1) (xs ++ [u])) (hg : w.grownBy w' v.ownBlock) :
    w'.cell? ⟨g, 1, none⟩ = some v ∧ w'.frozen? ⟨g, 1, none⟩ = false ∧ Blk w' g 82 #[F, v] ∧ OwnNL w' base 22 53 .u32 v' (L ++ [l]) := by
  have hk := hb.grown hg (by
    rcases own_blk_ne h1 hb (by decide) with h | h
    · intro e; rw [h] at e; cases e
    · exact fun e => h e.symm)
  exact ⟨by rw [hk.cell]; rfl, hk.frozen 1, hk, OwnNL.pushed (by decide) h1 h2 hu h' hg⟩

set_option maxRecDepth 100000 in
set_option maxHeartbeats 1600000 in
theorem laidw_any (ft : TypeId) (fv : Value) (rows cols : Nat) (K : FuncId) (cap : Array Value) (E : Nat → Nat → Nat) (w : World) (hr : rows ≤ 256) (hc : cols ≤ 256)
    (hent : ∀ (args : Array Value) (w : World), (callFunc K args).run Try.prog w = .ok (.enter K args) w)
    (hcl : ∀ (i j : Nat) (w' : World), i < rows → j < cols → Below w.heap.size w w' → Calls Try.prog K (#[.int .i64 (i : Int), .int .i64 (j : Int)] ++ cap) w' fun e w'' => e = .returned (.int .u32 ((E i j : Nat) : Int)) ∧ Below w'.heap.size w' w'') :
    Calls Try.prog 81 #[.iface ft fv, .int .i64 (rows : Int), .int .i64 (cols : Int), .func (.func K) #[] cap] w fun e w' => ∃ g, e = .returned (.pointer (some ⟨g, 0, none⟩)) ∧ Mw (.iface ft fv) w' w.heap.size g (rowsN cols E rows) ∧ Below w.heap.size w w' := by
  have hn1 := Blk.new w 82 #[.iface ft fv, .slice none 0 0]
  have hn2 := (Below.refl w.heap.size w).alloc (Nat.le_refl _) (.cells #[.iface ft fv, .slice none 0 0] 82)
  have H := hide (And.intro hn1 hn2)
  clear hn1 hn2
  go_enter Try.func81, Try.ntmps81
  go_wp2
  go_loopw [10, 11, 12, 17, 24] (fun _ _ _ u17 _ wr => ∃ k : Nat, k ≤ rows ∧ u17 = .int .i64 (k : Int) ∧ Mw (.iface ft fv) wr w.heap.size w.heap.size (rowsN cols E k) ∧ Below w.heap.size w wr) (fun _ _ _ u17 _ _ => rows - (intOf u17).toNat)
  case atStart => exact ⟨0, by omega, rfl, ⟨Nat.le_refl _, _, H.out.1, OwnNL.nil _ _ _ _ _⟩, H.out.2⟩
  case round =>
    clear H
    obtain ⟨k, hk, rfl, hmx, hbel⟩ := hrel
    obtain ⟨wr', hwr'⟩ : ∃ x, x = wr := ⟨_, rfl⟩
    subst hwr'
    have HM := hide hmx
    clear hmx
    by_cases hlt : k < rows
    · have i1 : (k : Int) < (rows : Int) := by omega
      obtain ⟨i, hi, hz, h1, h2⟩ := info_parts elemW.hi
      have HI := hide (And.intro hi (And.intro hz (And.intro h1 h2)))
      clear hi hz h1 h2
      go_wp2_with (at_make; refine wpList_make_full wr' rfl _ _ 53 rfl wr'.heap.size 22 i (.int .u32 0) 1 Try.underlying53 HI.out.1 HI.out.2.1 HI.out.2.2.1 .i64 .i64 _ _ cols rfl rfl rfl rfl (by rw [HI.out.2.2.2]; omega) (by unfold maxLen; omega) (Nat.le_refl _) ?_; intro w1 ho1 hg1)
      rw [made_nums] at ho1
      have hb1 : Below wr'.heap.size wr' w1 := (Below.refl wr'.heap.size wr').grown hg1 (Nat.le_refl _) (fun k hk => by cases hk)
      have HO := hide (show OwnN w1 wr'.heap.size 22 .u32 (.slice (some ⟨wr'.heap.size, 0, none⟩) cols cols) (fillN cols 0 (E k)) by
        rw [fillN_zero]; unfold OwnN; rw [List.length_replicate]; exact ho1)
      clear ho1 hg1 HI
      go_loopw [12, 24] (fun _ u24 w2 => ∃ j : Nat, j ≤ cols ∧ u24 = .int .i64 (j : Int) ∧ OwnN w2 wr'.heap.size 22 .u32 (.slice (some ⟨wr'.heap.size, 0, none⟩) cols cols) (fillN cols j (E k)) ∧ Below wr'.heap.size wr' w2) (fun _ u24 _ => cols - (intOf u24).toNat)
      case atStart => exact ⟨0, by omega, rfl, HO.out, hb1⟩
      case round =>
        clear HO hb1
        obtain ⟨j, hj, rfl, hown, hb2⟩ := hrel
        have HO := hide hown
        clear hown
        by_cases hjl : j < cols
        · have i2 : (j : Int) < (cols : Int) := by omega
          have i3 : (0 : Int) ≤ (j : Int) := by omega
          have q := hcl k j _ hlt hjl (hbel.trans (hb2.mono hbel.size))
          have hE := hent #[.int .i64 (k : Int), .int .i64 (j : Int)]
          go_wp2_with fail
          refine q.mono ?_
          rintro e w3 ⟨rfl, hb3⟩
          have ho3 := HO.out.below hb3
          have hlen := fillN_length (E k) hj
          have hfz := World.ownsRow.frozenAt (n := cols) (xs := ncells .u32 (fillN cols j (E k))) (by unfold OwnN at ho3; rw [hlen] at ho3; exact ho3) j
          have hcc := World.ownsRow.cellAt (n := cols) (xs := ncells .u32 (fillN cols j (E k))) (by unfold OwnN at ho3; rw [hlen] at ho3; exact ho3) j (by omega)
          obtain ⟨y, hcy⟩ : ∃ y, w3.cell? ⟨wr'.heap.size, j, none⟩ = some y := by rw [hcc]; exact ⟨_, List.getElem?_eq_getElem (by rw [ncells_length]; omega)⟩
          have HO3 := hide ho3
          have HL := hide hlen
          clear hcc ho3 hlen q HO hE
          go_wp2
          go_roundw
          case rel =>
            refine ⟨j + 1, by omega, by go_num, ?_, (hb2.trans (hb3.mono hb2.size)).setCell (Nat.le_refl _) _⟩
            rw [← fillN_set (E k) hjl]
            exact HO3.out.store j _
          case measure => simp [intOf]; omega
        · have hjc : j = cols := by omega
          subst hjc
          rw [fillN_full] at HO
          have hm2 := HM.out.below hb2
          obtain ⟨_, v, hblk, xs, hxs, hxl⟩ := hm2
          have hbel2 := hbel.trans (hb2.mono hbel.size)
          have hcv : wr.cell? ⟨w.heap.size, 1, none⟩ = some v := by rw [hblk.cell]; rfl
          have H1 := hide (And.intro hblk (And.intro hxs hxl))
          have hlr := rowsN_length j E k
          have HLR := hide hlr
          clear hblk hxs hxl hlr HM
          go_wp2_with (at_builtin; go_loud (refine wpList_push1 elemWL H1.out.2.1 hbel2 hbel2.size (by rw [HLR.out]; unfold maxLen; omega) (by rw [HLR.out]; omega) (.slice (some ⟨wr'.heap.size, 0, none⟩) j j) rfl rfl _ _ rfl rfl rfl ?_); intro v1 w4 ho4 hb4 _ hg4 _; obtain ⟨A1, c1, hv1, _⟩ := (Sl.of_own ho4).form; subst hv1; have h4 := laidw_step H1.out.1 H1.out.2.1 H1.out.2.2 (HO.out.mono_ hbel.size) ho4 hg4; have hc4 := h4.1; have hf4 := h4.2.1; have HK4 := hide h4.2.2.1; have HP4 := hide h4.2.2.2; clear h4 ho4)
          go_roundw
          case rel =>
            refine ⟨k + 1, by omega, by go_num, ⟨Nat.le_refl _, _, HK4.out.set_ 1 _, ?_⟩, hb4.setCell (Nat.le_refl _) _⟩
            rw [rowsN_succ]
            have hP := HP4.out
            rw [HLR.out] at hP
            exact hP.kept HK4.out (by decide) (by decide) (store_grown _ _ _ _)
          case measure => simp [intOf]; omega
    · have hkr : k = rows := by omega
      subst hkr
      go_wp2
      go_ret
      exact ⟨_, rfl, HM.out, hbel⟩
end Go.Proofs.Ytoaaplngdomdcaa

/- Contracts of the statements' helpers for lists of words: marks, sameness, lists that are lent with marks behind them. -/
namespace Go.Proofs.Ytoaaplngdomdcaa
open Go.RowKit

def markw (k i : Int) : Nat := ((1000003 * (k + 1) + i) % 4294967296).toNat
theorem markw_int (k i : Int) : ((markw k i : Nat) : Int) = (1000003 * (k + 1) + i) % 4294967296 := by
  unfold markw
  omega
set_option maxHeartbeats 400000 in
theorem markw_any (k i : Int) (w : World) (hk : 0 ≤ k) (hk2 : k ≤ 1000) (hi : 0 ≤ i) (hi2 : i ≤ 140737488355400) :
    Calls Try.prog 153 #[.int .i64 k, .int .i64 i] w fun e w' => e = .returned (.int .u32 ((markw k i : Nat) : Int)) ∧ w = w' := by
  have h1 : IntKind.i64.wrap (k + 1) = k + 1 := IntWalk.i64_in _ (by omega)
  have h2 : IntKind.i64.wrap (1000003 * (k + 1)) = 1000003 * (k + 1) := IntWalk.i64_in _ (by omega)
  have h3 : IntKind.i64.wrap (1000003 * (k + 1) + i) = 1000003 * (k + 1) + i := IntWalk.i64_in _ (by omega)
  have h4 : IntKind.u32.wrap (1000003 * (k + 1) + i) = ((markw k i : Nat) : Int) := by
    rw [markw_int]
    simp only [IntKind.wrap, IntKind.bits, IntKind.signed]
    simp
  generalize markw k i = z at *
  go_enter Try.func153, Try.ntmps153
  go_wp2
  go_ret
  exact ⟨rfl, rfl⟩
theorem samew_step (l m : List Nat) (k : Nat) (x y : Nat) (hx : l[k]? = some x) (hy : m[k]? = some y) (h : l.take k = m.take k) :
    (l.take (k + 1) = m.take (k + 1)) ↔ x = y := by
  rw [List.take_add_one, List.take_add_one, hx, hy, h]
  simp
set_option maxHeartbeats 400000 in
theorem samew_any (va vb : Value) (l m : List Nat) (w : World) (ha : Ny w .u32 va l) (hb : Ny w .u32 vb m) :
    Calls Try.prog 154 #[va, vb] w fun e w' => e = .returned (.bool (decide (l = m))) ∧ Below w.heap.size w w' := by
  obtain ⟨A, c, rfl, hc, hm, hca⟩ := ha.form
  obtain ⟨B, d, rfl, hd, hmd, hcb⟩ := hb.form
  unfold maxLen at hm hmd
  by_cases hl : l.length = m.length
  · have hne : ((l.length : Int) != (m.length : Int)) = false := by simp [hl]
    have HL : Hid (l.length = m.length) := hl
    clear hl
    go_enter Try.func154, Try.ntmps154
    go_wp2
    go_loopw [5] (fun i wr => ∃ k : Nat, k ≤ l.length ∧ i = .int .i64 k ∧ l.take k = m.take k ∧ Below w.heap.size w wr) (fun i _ => l.length - (intOf i).toNat)
    case atStart => exact ⟨0, by omega, rfl, by simp, Below.refl _ _⟩
    case round =>
      obtain ⟨k, hk, rfl, hq, hbel⟩ := hrel
      have HQ := hide hq
      clear hq
      by_cases hlt : k < l.length
      · have hlt2 : k < m.length := by have := HL.out; omega
        obtain ⟨x, hx⟩ : ∃ x, l[k]? = some x := ⟨_, List.getElem?_eq_getElem hlt⟩
        obtain ⟨y, hy⟩ : ∃ y, m[k]? = some y := ⟨_, List.getElem?_eq_getElem hlt2⟩
        obtain ⟨b, o, rfl, hbl, hcell⟩ := hca k x hx
        obtain ⟨b2, o2, rfl, hbl2, hcell2⟩ := hcb k y hy
        have hcx : wr.cell? ⟨b, o + k, none⟩ = some (.int .u32 (x : Int)) := (hbel.cell (p := ⟨b, o + k, none⟩) hbl).trans hcell
        have hcy : wr.cell? ⟨b2, o2 + k, none⟩ = some (.int .u32 (y : Int)) := (hbel.cell (p := ⟨b2, o2 + k, none⟩) hbl2).trans hcell2
        have HX := hide hx
        have HY := hide hy
        clear hx hy hcell hcell2 hca hcb
        have i1 : (k : Int) < (l.length : Int) := by omega
        have i2 : (k : Int) < (m.length : Int) := by omega
        have i3 : (0 : Int) ≤ (k : Int) := by omega
        by_cases hxy : x = y
        · have hd : ((x : Int) != (y : Int)) = false := by simp [hxy]
          go_wp2
          go_quiet (fail)
          go_wp2
          go_roundw
          case rel => exact ⟨k + 1, by omega, by go_num, (samew_step l m k x y HX.out HY.out HQ.out).2 hxy, below_drewN hbel _⟩
          case measure => simp [intOf]; omega
        · have hd : ((x : Int) != (y : Int)) = true := by
            rw [bne_iff_ne]; intro h; exact hxy ((by omega))
          go_wp2
          go_quiet (fail)
          go_wp2
          go_ret
          refine ⟨ret_bool ?_, below_drewN hbel _⟩
          refine (decide_eq_false fun h => hxy ((samew_step l m k x y HX.out HY.out HQ.out).1 (by rw [h]))).symm
      · have hge : ¬ ((k : Int) < (l.length : Int)) := by omega
        go_wp2
        go_ret
        refine ⟨ret_bool ?_, hbel⟩
        refine (decide_eq_true ?_).symm
        have := HQ.out
        rwa [List.take_of_length_le (by omega), List.take_of_length_le (by have := HL.out; omega)] at this
  · have hne : ((l.length : Int) != (m.length : Int)) = true := by rw [bne_iff_ne]; omega
    go_enter Try.func154, Try.ntmps154
    go_wp2
    go_ret
    exact ⟨ret_bool (decide_eq_false fun h => hl (by rw [h])).symm, Below.refl _ _⟩

/-- The first n marks behind a list of length len. -/
def marksw (k len n : Nat) : List Nat := (List.range n).map fun i => markw k ((len + i : Nat) : Int)
theorem marksw_succ (k len n : Nat) : marksw k len (n + 1) = marksw k len n ++ [markw k ((len + n : Nat) : Int)] := by
  simp [marksw, List.range_succ]
@[simp] theorem marksw_length (k len n : Nat) : (marksw k len n).length = n := by simp [marksw]
set_option maxHeartbeats 800000 in
theorem lentw_any (va : Value) (l : List Nat) (w : World) (ha : Ny w .u32 va l) (hl : l.length ≤ 35184372088000) :
    Calls Try.prog 128 #[va] w fun e w' => ∃ v, e = .returned v ∧ OwnN w' w.heap.size 22 .u32 v (l ++ marksw 0 l.length 70) ∧ Below w.heap.size w w' := by
  obtain ⟨A, c, rfl, hc, hm, hca⟩ := ha.form
  unfold maxLen at hm
  go_enter Try.func128, Try.ntmps128
  go_wp2
  go_loopw [3, 4] (fun v i wr => ∃ k : Nat, k ≤ l.length ∧ i = .int .i64 k ∧ OwnN wr w.heap.size 22 .u32 v (l.take k) ∧ Below w.heap.size w wr) (fun _ i _ => l.length - (intOf i).toNat)
  case atStart => exact ⟨0, by omega, rfl, OwnN.nil _ _ _ _, Below.refl _ _⟩
  case round =>
    obtain ⟨k, hk, rfl, hown, hbel⟩ := hrel
    have HO := hide hown
    clear hown
    by_cases hlt : k < l.length
    · obtain ⟨x, hx⟩ : ∃ x, l[k]? = some x := ⟨_, List.getElem?_eq_getElem hlt⟩
      obtain ⟨b, o, rfl, hbl, hcell⟩ := hca k x hx
      have hcx : wr.cell? ⟨b, o + k, none⟩ = some (.int .u32 (x : Int)) := (hbel.cell (p := ⟨b, o + k, none⟩) hbl).trans hcell
      have HX := hide hx
      clear hx hcell hca
      have hlk : (l.take k).length = k := by rw [List.length_take]; omega
      have HLK := hide hlk
      clear hlk
      go_wp2_with (at_builtin; go_loud (refine wpList_push1 elemW HO.out hbel hbel.size (by rw [List.length_take]; unfold maxLen; omega) (by rw [List.length_take]; omega) (.int .u32 (x : Int)) rfl rfl _ _ rfl rfl rfl ?_); intro v1 w1 ho1 hbel1 _ _ _; have hown1 := OwnN.push ho1; clear ho1)
      go_roundw
      case rel => exact ⟨k + 1, by omega, by go_num, by rw [take_snoc l k x HX.out]; exact hown1, hbel1⟩
      case measure => simp [intOf]; omega
    · have hkl : k = l.length := by omega
      subst hkl
      have hO2 := HO.out
      rw [List.take_of_length_le (Nat.le_refl _)] at hO2
      clear HO
      have HO := hide hO2
      clear hO2
      go_wp2
      go_loopw [3, 5] (fun v i wr => ∃ k : Nat, k ≤ 70 ∧ i = .int .i64 k ∧ OwnN wr w.heap.size 22 .u32 v (l ++ marksw 0 l.length k) ∧ Below w.heap.size w wr) (fun _ i _ => 70 - (intOf i).toNat)
      case atStart => exact ⟨0, by omega, rfl, by simpa [marksw] using HO.out, hbel⟩
      case round =>
        clear HO hbel
        obtain ⟨k, hk, rfl, hown, hbel⟩ := hrel
        have HO := hide hown
        clear hown
        by_cases hlt : k < 70
        · have hmk := fun w => markw_any 0 ((l.length + k : Nat) : Int) w (by omega) (by omega) (by omega) (by omega)
          rw [Int.natCast_add] at hmk
          go_wp2_with (first
            | (go_at_call 153; refine (hmk _).mono ?_; rintro e w' ⟨rfl, rfl⟩)
            | (at_builtin; go_loud (refine wpList_push1 elemW HO.out hbel hbel.size (by rw [List.length_append, marksw_length]; unfold maxLen; omega) (by rw [List.length_append, marksw_length]; omega) (.int .u32 ((markw 0 ((l.length + k : Nat) : Int) : Nat) : Int)) rfl rfl _ _ rfl rfl rfl ?_); intro v1 w1 ho1 hbel1 _ _ _; have hown1 := OwnN.push ho1; clear ho1))
          go_roundw
          case rel => exact ⟨k + 1, by omega, by go_num, by rw [marksw_succ, ← List.append_assoc]; exact hown1, hbel1⟩
          case measure => simp [intOf]; omega
        · have hkl : k = 70 := by omega
          subst hkl
          go_wp2
          go_ret
          exact ⟨_, rfl, HO.out, hbel⟩

set_option maxHeartbeats 400000 in
theorem keptw_any (vf va : Value) (f l : List Nat) (w : World) (hf : Ny w .u32 vf f) (ha : Ny w .u32 va l) (hl : l.length ≤ 35184372088000) :
    Calls Try.prog 129 #[vf, va] w fun e w' => e = .returned (.bool (decide (f = l ++ marksw 0 l.length 70))) ∧ Below w.heap.size w w' := by
  go_enter Try.func129, Try.ntmps129
  go_wp2_with fail
  refine (lentw_any va l w ha hl).mono ?_
  rintro e w1 ⟨v, rfl, hown, hbel⟩
  go_wp2_with fail
  refine (samew_any vf v f _ w1 (hf.below hbel) hown.ny).mono ?_
  rintro e w2 ⟨rfl, hbel2⟩
  go_wp2_with fail
  go_ret
  exact ⟨rfl, hbel.trans (hbel2.mono hbel.size)⟩

/-- What a list holds when i places are written over. -/
def overedw (_n i : Nat) (l : List Nat) : List Nat := ((List.range i).map fun j => markw 7 ((j + 3 : Nat) : Int)) ++ l.drop i
theorem overedw_set (l : List Nat) (i : Nat) (h : i < l.length) : (overedw l.length i l).set i (markw 7 ((i : Int) + 3)) = overedw l.length (i + 1) l := by
  unfold overedw
  rw [List.set_append_right _ _ (by simp), List.drop_eq_getElem_cons h]
  simp only [List.length_map, List.length_range, Nat.sub_self, List.set_cons_zero, List.range_succ, List.map_append, List.map_cons, List.map_nil, List.append_assoc, List.cons_append, List.nil_append]
  rfl
theorem overedw_length (l : List Nat) (n i : Nat) (h : i ≤ l.length) : (overedw n i l).length = l.length := by simp [overedw]; omega

set_option maxHeartbeats 400000 in
theorem overw_any (base : Nat) (v : Value) (l : List Nat) (w : World) (h : OwnN w base 22 .u32 v l) (hl : l.length ≤ 140737488355328) :
    Calls Try.prog 130 #[v] w fun e w' => e = .returned (.tuple #[]) ∧ Below base w w' ∧ w.grownBy w' v.ownBlock ∧ (∃ l', OwnN w' base 22 .u32 v l' ∧ l'.length = l.length) := by
  by_cases h0 : l.length = 0
  · have hl0 : l = [] := List.eq_nil_of_length_eq_zero h0
    subst hl0
    have HO := hide h
    obtain ⟨A, c, hv, _⟩ := h.ny.form
    subst hv
    clear h
    go_enter Try.func130, Try.ntmps130
    go_wp2
    go_loopw [2] (fun u2 wr => u2 = .int .i64 0 ∧ Below base w wr ∧ w.grownBy wr (Value.ownBlock (.slice A (List.length ([] : List Nat)) c)) ∧ OwnN wr base 22 .u32 (.slice A (List.length ([] : List Nat)) c) []) (fun _ _ => 0)
    case atStart => exact ⟨rfl, Below.refl _ _, World.grownBy.refl _ _, HO.out⟩
    case round =>
      obtain ⟨rfl, hb, hg, hw⟩ := hrel
      go_wp2
      go_end0
      exact ⟨rfl, hb, hg, [], hw, rfl⟩
  obtain ⟨g, cap, hv, hbg, _⟩ := h.form (by omega)
  subst hv
  have HO := hide h
  clear h
  go_enter Try.func130, Try.ntmps130
  go_wp2
  go_loopw [2] (fun u2 wr => ∃ i : Nat, i ≤ l.length ∧ u2 = .int .i64 (i : Int) ∧ Below base w wr ∧ w.grownBy wr (some g) ∧ OwnN wr base 22 .u32 (.slice (some ⟨g, 0, none⟩) l.length cap) (overedw l.length i l)) (fun i _ => l.length - (intOf i).toNat)
  case atStart => exact ⟨0, by omega, rfl, Below.refl _ _, World.grownBy.refl _ _, by simpa [overedw] using HO.out⟩
  case round =>
    obtain ⟨i, hi, rfl, hb, hg, ho⟩ := hrel
    clear HO
    have HO := hide ho
    by_cases hil : i < l.length
    · have hlen := overedw_length l l.length i hi
      have hfz := World.ownsRow.frozenAt (n := l.length) (xs := ncells .u32 (overedw l.length i l)) (by unfold OwnN at ho; rw [hlen] at ho; exact ho) i
      have hcc := World.ownsRow.cellAt (n := l.length) (xs := ncells .u32 (overedw l.length i l)) (by unfold OwnN at ho; rw [hlen] at ho; exact ho) i (by omega)
      have hcv : ∃ y, wr.cell? ⟨g, i, none⟩ = some y := by rw [hcc]; exact ⟨_, List.getElem?_eq_getElem (by rw [ncells_length]; omega)⟩
      obtain ⟨y, hcy⟩ := hcv
      have hmk := fun w => markw_any 7 ((i : Int) + 3) w (by omega) (by omega) (by omega) (by omega)
      have HG := hide hg
      clear hcc hlen ho hg
      go_wp2_with (go_at_call 153; ((with_reducible refine (hmk _).mono ?_)); rintro e w' ⟨rfl, rfl⟩)
      go_roundw
      case rel => exact ⟨i + 1, by omega, by go_num, hb.setCell hbg _, HG.out.trans_ (store_grown _ _ _ _), by rw [← overedw_set l i hil]; exact HO.out.store i _⟩
      case measure => simp [intOf]; omega
    · have hieq : i = l.length := by omega
      clear HO
      go_wp2
      go_end0
      refine ⟨rfl, hb, hg, _, ho, ?_⟩
      rw [overedw_length _ _ _ (by omega)]
/-- The beginning of a row, as 'full[:n]' gives it. -/
theorem OwnN.front {w : World} {base : Nat} {e : TypeId} {g n cap : Nat} {l r : List Nat} (h : OwnN w base e .u32 (.slice (some ⟨g, 0, none⟩) n cap) (l ++ r)) : Ny w .u32 (.slice (some ⟨g, 0, none⟩) l.length cap) l := by
  rcases h.2 with ⟨h0, _⟩ | ⟨g', cap', cur, hv, hg, hh, hnc, hcm, hcs, ht⟩
  · cases h0
  · injection hv with hA hn hc
    injection hA with hA
    injection hA with hA
    subst hA hc
    have hlt := (Blk.lt (w := w) (g := g) (t := e) (cs := cur) hh)
    have hlen : (l ++ r).length = l.length + r.length := List.length_append
    refine ⟨by simp, some ⟨g, 0, none⟩, cap, rfl, by omega, hcm, fun h0 => ⟨g, 0, rfl, hlt, fun j hj => ?_⟩⟩
    rw [Nat.zero_add, cell_of_row w g j cur e (0, 0) hh]
    have e1 : cur[j]? = (ncells .u32 (l ++ r))[j]? := by
      rw [← ht, List.getElem?_take_of_lt (by omega)]; simp
    rw [e1, ncells_append, List.getElem?_append_left (by simp; omega)]

end Go.Proofs.Ytoaaplngdomdcaa

/- Words told as bytes. -/
namespace Go.Proofs.Ytoaaplngdomdcaa
open Go.RowKit

/-- From one world to another: older blocks written, new ones laid. -/
inductive Wr (B : Nat) : World → World → Prop
  | refl (w : World) : Wr B w w
  | step {w w1 w2 : World} {G : Nat} : Wr B w w1 → G < B → w1.grownBy w2 (some G) → Wr B w w2
  | keep {w w1 w2 : World} : Wr B w w1 → Below w1.heap.size w1 w2 → Wr B w w2
theorem Wr.mono {B C : Nat} {w w7 : World} (h : Wr B w w7) (hBC : B ≤ C) : Wr C w w7 := by
  induction h with
  | refl => exact .refl _
  | step _ hG hg ih => exact .step ih (Nat.lt_of_lt_of_le hG hBC) hg
  | keep _ hb ih => exact .keep ih hb
theorem Wr.trans {B : Nat} {w w5 w7 : World} (h : Wr B w w5) (k : Wr B w5 w7) : Wr B w w7 := by
  induction k with
  | refl => exact h
  | step _ hG hg ih => exact .step ih hG hg
  | keep _ hb ih => exact .keep ih hb
theorem u8_wrap (x : Nat) : IntKind.u8.wrap (x : Int) = ((UInt8.ofNat x).toNat : Int) := by
  simp [IntKind.wrap, IntKind.bits, IntKind.signed]
set_option maxHeartbeats 800000 in
theorem bytes_any (va : Value) (l : List Nat) (w : World) (ha : Ny w .u32 va l) (hl : l.length ≤ 35184372088000) :
    Calls Try.prog 124 #[va] w fun e w' => ∃ v, e = .returned v ∧ Own w' w.heap.size 5 v (l.map UInt8.ofNat) ∧ Below w.heap.size w w' := by
  obtain ⟨A, c, rfl, hc, hm, hca⟩ := ha.form
  unfold maxLen at hm
  go_enter Try.func124, Try.ntmps124
  go_wp2
  go_loopw [3, 4] (fun v i wr => ∃ k : Nat, k ≤ l.length ∧ i = .int .i64 k ∧ Own wr w.heap.size 5 v ((l.take k).map UInt8.ofNat) ∧ Below w.heap.size w wr) (fun _ i _ => l.length - (intOf i).toNat)
  case atStart => exact ⟨0, by omega, rfl, Own.nil _ _ _, Below.refl _ _⟩
  case round =>
    obtain ⟨k, hk, rfl, hown, hbel⟩ := hrel
    have HO := hide hown
    clear hown
    by_cases hlt : k < l.length
    · obtain ⟨x, hx⟩ : ∃ x, l[k]? = some x := ⟨_, List.getElem?_eq_getElem hlt⟩
      obtain ⟨b, o, rfl, hbl, hcell⟩ := hca k x hx
      have hcx : wr.cell? ⟨b, o + k, none⟩ = some (.int .u32 (x : Int)) := (hbel.cell (p := ⟨b, o + k, none⟩) hbl).trans hcell
      have hw := u8_wrap x
      have HX := hide hx
      clear hx hcell hca
      go_wp2_with (at_builtin; go_loud (refine wpList_pushB elem8 HO.out hbel hbel.size (by rw [List.length_map, List.length_take]; omega) (UInt8.ofNat x) rfl _ _ rfl rfl rfl ?_); intro v1 w1 hown1 hbel1 _ _)
      go_roundw
      case rel => exact ⟨k + 1, by omega, by go_num, by rw [take_snoc l k x HX.out, List.map_append]; exact hown1, hbel1⟩
      case measure => simp [intOf]; omega
    · have hkl : k = l.length := by omega
      subst hkl
      have hO2 := HO.out
      rw [List.take_of_length_le (Nat.le_refl _)] at hO2
      clear HO
      go_wp2
      go_ret
      exact ⟨_, rfl, hO2, hbel⟩
end Go.Proofs.Ytoaaplngdomdcaa

/- Matrices of bytes: New of a list of numbers, with what stands when an older block is written. -/
namespace Go.Proofs.Ytoaaplngdomdcaa.MB
open Go.RowKit
section

theorem mx_wr {w w7 : World} {base g B : Nat} {L : List (List UInt8)} (h : Mx w base g L) (hw : Wr B w w7) (hB : B ≤ base) : Mx w7 base g L := by
  induction hw with
  | refl => exact h
  | step _ hG hg ih => exact mx_low ih (Nat.lt_of_lt_of_le hG hB) hg
  | keep _ hb ih => exact ih.below hb
/-- What lays a matrix, with what stands when older blocks are written, one behind the other. -/
theorem laid_s2 (rows cols : Nat) (K : FuncId) (cap : Array Value) (M : Nat → Nat → UInt8) (w : World) (hr : rows ≤ 256) (hc : cols ≤ 256)
    (hent : ∀ (args : Array Value) (w : World), (callFunc K args).run Try.prog w = .ok (.enter K args) w)
    (hcl : ∀ (i j : Nat) (w' : World), i < rows → j < cols → Below w.heap.size w w' → Calls Try.prog K (#[.int .i64 (i : Int), .int .i64 (j : Int)] ++ cap) w' fun e w'' => e = .returned (.int .u8 ((UInt8.toNat (M i j) : Nat) : Int)) ∧ Below w'.heap.size w' w'') :
    Calls Try.prog 117 #[gfF, .int .i64 (rows : Int), .int .i64 (cols : Int), .func (.func K) #[] cap] w fun e w' => ∃ g, e = .returned (.pointer (some ⟨g, 0, none⟩)) ∧ Mtx w' g rows cols M ∧ Below w.heap.size w w' ∧ ∀ w7, Wr w.heap.size w' w7 → Mtx w7 g rows cols M := by
  refine (laid_any rows cols K cap M w hr hc hent hcl).mono ?_
  rintro e w' ⟨g, rfl, hmx, hb⟩
  exact ⟨g, rfl, mt_of hmx, hb, fun w7 hw => mt_of (mx_wr hmx hw (Nat.le_refl _))⟩
set_option maxRecDepth 100000 in
set_option maxHeartbeats 1600000 in
theorem newl_c (rows cols : Nat) (ve : Value) (l : List Nat) (w : World) (hk : Fk w) (hr : 1 ≤ rows ∧ rows ≤ 256) (hc : 1 ≤ cols ∧ cols ≤ 256)
    (hl : By w ve (l.map UInt8.ofNat))
    (hlen : l.length = rows * cols) :
    Calls Try.prog 67 #[gfF, .int .i64 (rows : Int), .int .i64 (cols : Int), ve] w fun e w' =>
      ∃ g, e = .returned (.tuple #[.pointer (some ⟨g, 0, none⟩), .int .i64 0]) ∧ Mtx w' g rows cols (fun i j => UInt8.ofNat (l.getD (i * cols + j) 0)) ∧ Below w.heap.size w w' ∧ ∀ w7, Wr w.heap.size w' w7 → Mtx w7 g rows cols (fun i j => UInt8.ofNat (l.getD (i * cols + j) 0)) := by
  have q1 := fun w => dims_c rows cols w hr hc
  have hE : ∀ i j, i < rows → j < cols → l[i * cols + j]? = some (l.getD (i * cols + j) 0) := fun i j hi hj => by
    have h1 : i * cols + j < l.length := by
      rw [hlen]
      have : (i + 1) * cols ≤ rows * cols := Nat.mul_le_mul_right _ hi
      rw [Nat.succ_mul] at this
      omega
    rw [List.getD_eq_getElem?_getD, List.getElem?_eq_getElem h1]
    rfl
  obtain ⟨A, c, rfl, hlc, hcm, hcell⟩ := hl.form
  clear hcell
  have hln : (l.map UInt8.ofNat).length = l.length := List.length_map ..
  rw [hln] at hlc hl ⊢
  have hm : rows * cols ≤ 65536 := Nat.le_trans (Nat.mul_le_mul hr.2 hc.2) (by omega)
  have hw1 : IntKind.i64.wrap ((rows : Int) * (cols : Int)) = (l.length : Int) := by
    rw [hlen, ← Int.natCast_mul]
    simp [IntKind.wrap, IntKind.bits, IntKind.signed]
    omega
  have HH := hide (And.intro hlen (And.intro hr (And.intro hc (And.intro hl (And.intro hE (And.intro hlc (And.intro hcm (And.intro hk True.intro))))))))
  clear hlen hr hc hl hE hlc hcm hm hk
  go_enter Try.func67, Try.ntmps67
  go_wp2_with fail
  refine (q1 _).mono ?_
  rintro e w' ⟨rfl, rfl⟩
  go_wp2_with fail
  have n1 := ((Blk.new w 167 #[gfF]).alloc (.cells #[.int .i64 (cols : Int)] 3)).alloc (.cells #[.slice A l.length c] 38)
  have n2 := (Blk.new (w.alloc (.cells #[gfF] 167)) 3 #[.int .i64 (cols : Int)]).alloc (.cells #[.slice A l.length c] 38)
  have n3 := Blk.new ((w.alloc (.cells #[gfF] 167)).alloc (.cells #[.int .i64 (cols : Int)] 3)) 38 #[.slice A l.length c]
  have n4 := (((Below.refl w.heap.size w).alloc (Nat.le_refl _) (.cells #[gfF] 167)).alloc (by simp) (.cells #[.int .i64 (cols : Int)] 3)).alloc (by simp; omega) (.cells #[.slice A l.length c] 38)
  simp only [World.size_alloc] at n2 n3
  generalize ((w.alloc (.cells #[gfF] 167)).alloc (.cells #[.int .i64 (cols : Int)] 3)).alloc (.cells #[.slice A l.length c] 38) = W at *
  refine (laid_s2 rows cols 118 #[.pointer (some ⟨w.heap.size, 0, none⟩), .pointer (some ⟨w.heap.size + 1 + 1, 0, none⟩), .pointer (some ⟨w.heap.size + 1, 0, none⟩)] (fun i j => UInt8.ofNat (l.getD (i * cols + j) 0)) W HH.out.2.1.2 HH.out.2.2.1.2
    (enters_of Try.func118 (by kernel_rfl) rfl) ?_).mono ?_
  · intro i j w' hi hj hb
    obtain ⟨hlen, hr, hc, hl, hE, hlc, hcm, hk, hbb⟩ := HH.out
    refine newc_any i j cols (l.map UInt8.ofNat) (UInt8.ofNat (l.getD (i * cols + j) 0)) (.slice A l.length c) w.heap.size (w.heap.size + 1 + 1) (w.heap.size + 1) w' (by omega) (by omega) hc.2 ((hl.below n4).below hb) (by rw [List.getElem?_map, hE i j hi hj]; rfl) ?_ ?_ ?_
    · rw [(n1.below' hb).cell]; rfl
    · rw [(n3.below' hb).cell]; rfl
    · rw [(n2.below' hb).cell]; rfl
  · rintro e w' ⟨g, rfl, hmx, hb, hlw⟩
    have H4 := hide (And.intro n4 (And.intro hmx (And.intro hb hlw)))
    clear n1 n2 n3 n4 hmx hb q1 hw1 hlw
    go_wp2
    go_ret2
    exact ⟨g, rfl, H4.out.2.1, H4.out.1.trans (H4.out.2.2.1.mono H4.out.1.size), fun w7 hw => H4.out.2.2.2 w7 (hw.mono H4.out.1.size)⟩
end
end Go.Proofs.Ytoaaplngdomdcaa.MB

/- The statements' fresh over bytes: New of what is lent, which is written over behind the call. -/
namespace Go.Proofs.Ytoaaplngdomdcaa.MB
open Go.RowKit
theorem row_tmp2 {P : Program} {fn : Func} {p u v : Tmp} {ty : TypeId} (h : fn.results = #[.cell p ty, .tmp u, .tmp v]) (tmps : Array Value) (w : World) (g : Nat) (t : TypeId) (cs : Array Value) (fr : Nat × Nat) (d : TypeDesc)
    (hp : tmps.getD p undef = .pointer (some ⟨g, 0, none⟩)) (hg : w.heap[g]? = some (.cells cs t fr))
    (hu : P.underlying ty = some d) (hd : (match d with | .struct _ | .array _ _ => true | _ => false) = true) (hi : (P.info? ty).map (·.size) = some cs.size) :
    (results fn tmps).run P w = .ok (.tuple #[.agg cs, tmps.getD u undef, tmps.getD v undef]) w := by
  have hp' : tmps[p]?.getD undef = .pointer (some ⟨g, 0, none⟩) := by simpa using hp
  simp only [results, h]
  simp [Sem.run_bind, Result.andThen, hp', asAddr, run_loadVar_row w g t ty cs fr d hg hu hd hi]
section

set_option maxRecDepth 100000 in
set_option maxHeartbeats 4000000 in
theorem fresh_c (rows cols : Nat) (ve : Value) (l : List Nat) (w : World) (hk : Fk w) (hr : 1 ≤ rows ∧ rows ≤ 256) (hc : 1 ≤ cols ∧ cols ≤ 256)
    (hl : Ny w .u32 ve l) (hbd : ∀ (i x : Nat), l[i]? = some x → (x : Int) ≤ 4294967295) (hlen : l.length = rows * cols) :
    Calls Try.prog 75 #[.int .u32 0, .pointer none, .int .i64 (rows : Int), .int .i64 (cols : Int), ve] w fun e w' =>
      ∃ g, e = .returned (.tuple #[.agg #[.pointer (some ⟨g, 0, none⟩), .pointer none], .int .i64 0, .bool true]) ∧ Mtx w' g rows cols (fun i j => UInt8.ofNat (l.getD (i * cols + j) 0)) ∧ Below w.heap.size w w' ∧ ∀ w7, Wr w.heap.size w' w7 → Mtx w7 g rows cols (fun i j => UInt8.ofNat (l.getD (i * cols + j) 0)) := by
  have hm : l.length ≤ 65536 := by rw [hlen]; exact Nat.le_trans (Nat.mul_le_mul hr.2 hc.2) (by omega)
  have b0 := (Below.refl w.heap.size w).alloc (Nat.le_refl _) (.cells #[.pointer none, .pointer none] 59)
  have n0 := Blk.new w 59 #[.pointer none, .pointer none]
  have z0 : (w.alloc (.cells #[.pointer none, .pointer none] 59)).heap.size = w.heap.size + 1 := by simp
  have HH := hide (And.intro hr (And.intro hc (And.intro hbd (And.intro hlen (And.intro hk hl)))))
  obtain ⟨A, c, rfl, hlc, hcm, _⟩ := hl.form
  generalize hW0 : w.alloc (.cells #[.pointer none, .pointer none] 59) = W0 at b0 n0 z0
  have hl0 := HH.out.2.2.2.2.2.below b0
  have hk0 := HH.out.2.2.2.2.1.below b0
  have Q1 := hide (bytes_any _ l W0 hl0 (by omega))
  have HB0 := hide (And.intro b0 n0)
  have Z0 := hide z0
  clear hr hc hbd hlen hk hl b0 n0 hl0 z0
  go_enter Try.func75, Try.ntmps75
  go_wp2_with fail
  refine Q1.out.mono ?_
  rintro e w1 ⟨vb, rfl, o1, b1⟩
  obtain ⟨bl, hbl⟩ : ∃ bl, bl = l.map UInt8.ofNat := ⟨_, rfl⟩
  rw [← hbl] at o1
  have HBLL := hide (show bl.length = l.length by rw [hbl]; exact List.length_map ..)
  have HBL := hide hbl
  obtain ⟨A2, c2, rfl, _⟩ := o1.by_.form
  have Q2 := hide (lent_any _ bl w1 o1.by_ (by have := HBLL.out; omega))
  have O1 := hide (And.intro o1 b1)
  clear o1 b1 Q1 hbl
  go_wp2_with fail
  refine Q2.out.mono ?_
  rintro e w2 ⟨v, rfl, o2, b2⟩
  have HK := hide (hk0.below (O1.out.2.trans (b2.mono O1.out.2.size)))
  have B2 := hide (And.intro b2 (O1.out.2.trans (b2.mono O1.out.2.size)))
  have by2 := hide (O1.out.1.by_.below b2)
  obtain ⟨g, cap, rfl, hg, hglt⟩ := o2.form (by simp)
  have hby := o2.front
  have k1 : bl.length ≤ cap := by obtain ⟨A', c', hv, hc', _⟩ := hby.form; injection hv; omega
  have Q3 := hide (newl_c rows cols _ l w2 HK.out HH.out.1 HH.out.2.1 (by rw [← HBL.out]; exact hby) HH.out.2.2.2.1)
  have O2 := hide o2
  generalize hN : (bl ++ marks 0 bl.length 70).length = N at *
  clear Q2 b2 o2 hby
  have k2 : (bl.length : Int) ≤ (cap : Int) := by omega
  have k3 : (0 : Int) ≤ (bl.length : Int) := by omega
  clear hk0
  have G1 := hide hglt
  clear hglt hg
  go_wp2_with fail
  refine Q3.out.mono ?_
  rintro e w3 ⟨x, rfl, _, b3, hlow⟩
  have B3 := hide (And.intro b3 hlow)
  have Q4 := hide (kept_any _ _ _ bl w3 (O2.out.below b3).by_ (by2.out.below b3) (by have := HBLL.out; omega))
  rw [decide_eq_true rfl] at Q4
  clear b3 hlow Q3
  go_wp2_with fail
  refine Q4.out.mono ?_
  rintro e w4 ⟨rfl, b4⟩
  have O4 := (O2.out.below B3.out.1).below b4
  have Q5 := hide (over_any _ _ _ w4 O4 (by have := HBLL.out; rw [hN, ← hN]; simp; omega))
  have B4 := hide b4
  clear O4 b4 Q4
  go_wp2_with fail
  refine Q5.out.mono ?_
  rintro e w5 ⟨rfl, hb5, hg5, _⟩
  have hg5' : Wr w2.heap.size w3 w5 := .step (.keep (.refl _) B4.out) G1.out hg5
  have hlo : w.heap.size < w1.heap.size := by have := Z0.out; have := O1.out.2.size; omega
  have h5 := hide ((Below.step (Below.step (Below.step HB0.out.1 B2.out.2) B3.out.1) B4.out).trans (hb5.mono (Nat.le_of_lt hlo)))
  have hblk : Blk w5 w.heap.size 59 #[.pointer none, .pointer none] :=
    (((HB0.out.2.below' B2.out.2).below' B3.out.1).below' B4.out).below hb5 hlo
  have HX := hide hg5'
  clear Q5 hb5 hg5 hg5' hlo
  go_wp2_with ((with_reducible change wpList _ _ _ (⟨none, .store _ (.tmp 10) _, _, _, _, _⟩ :: _) _ _); go_loud (refine wpList_store_row (o := ⟨none, .store _ (.tmp 10) _, _, _, _, _⟩) hblk #[.pointer (some ⟨x, 0, none⟩), .pointer none] rfl (by simp [Value.oneCell']) rfl 59 _ _ rfl (by kernel_rfl) rfl rfl ?_; intro w7 hb7 hg7))
  have hx7 : Wr w2.heap.size w3 w7 := .step HX.out (by have := Z0.out; have := B2.out.2.size; omega) hg7
  have hle : w.heap.size ≤ w2.heap.size := by have := Z0.out; have := B2.out.2.size; omega
  refine bodyPost_ret (row_tmp2 rfl _ _ w.heap.size 59 #[.pointer (some ⟨x, 0, none⟩), .pointer none] (0, 0) _ rfl hb7 Try.underlying59 rfl (by kernel_rfl)) rfl ⟨x, rfl, B3.out.2 w7 hx7, h5.out.grown hg7 h5.out.size fun k hk => (by injection hk with hk; omega), fun w8 h8 => B3.out.2 w8 (hx7.trans (h8.mono hle))⟩
end
end Go.Proofs.Ytoaaplngdomdcaa.MB

/- What a drawn region with a matrix' load and store needs. -/
namespace Go.Proofs.Ytoaaplngdomdcaa
open Go.RowKit

theorem noPanic_norm {Q : Exit → Act → World → Prop} {a : Act} {w : World} (h : Q .normal a w) : NoPanic Q .normal a w := h
theorem there_blk {w : World} {g n : Nat} {t : TypeId} {cs : Array Value} (h : Blk w g t cs) (hn : cs.size = n) : w.there g 0 n := fun j hj => ⟨by rw [Nat.zero_add, h.cell j, Array.getElem?_eq_getElem (by omega)]; rfl, by rw [Nat.zero_add]; exact h.frozen j⟩
theorem res_mid_tmp {P : Program} {fn : Func} {p u : Tmp} {ty : TypeId} (h : fn.results = #[.cell p ty, .tmp u]) (tmps : Array Value) (w : World) (g : Nat) (cs : List Value) (d : TypeDesc)
    (hp : tmps.getD p undef = .pointer (some ⟨g, 0, none⟩)) (hr : w.rangeAt g 0 cs) (hu : P.underlying ty = some d) (hd : d.isRow = true) (hi : (P.info? ty).map (·.size) = some cs.length) :
    (results fn tmps).run P w = .ok (.tuple #[.agg cs.toArray, tmps.getD u undef]) w := by
  rw [results_cell_tmp h, hp]
  simp [asAddr, run_loadVar_mid w g 0 ty cs d hr hu hd hi, Result.andThen]
theorem mat_store {W : World} {g : Nat} {a b : Option Addr} (h : W.there g 0 2) : (Instr.storeAt 59 (.pointer (some ⟨g, 0, none⟩)) (.agg #[.pointer a, .pointer b])).run Try.prog W = .ok () (W.setCells g 0 [.pointer a, .pointer b]) :=
  run_storeAt_mid (P := Try.prog) W g 0 59 #[.pointer a, .pointer b] (by exact h) (by kernel_rfl) (by simp [Value.oneCell'])
theorem mat_storeC {W : World} {g : Nat} {a b : Option Addr} (h : W.there g 0 2) : (storeCells ⟨g, 0, none⟩ [.pointer a, .pointer b]).run Try.prog W = .ok () (W.setCells g 0 [.pointer a, .pointer b]) := by
  have := run_storeCells_cells (P := Try.prog) g 0 [.pointer a, .pointer b] 0 W (fun j hj => by simpa using (h j hj).1) (fun j hj => by simpa using (h j hj).2) (by simp [Value.oneCell'])
  simpa using this
theorem keepM {w : World} {g2 g n : Nat} {u v : Value} {vs : List Value} (h : w.cell? ⟨g2, 0, none⟩ = some u ∧ w.cell? ⟨g2, 1, none⟩ = some v ∧ w.there g 0 n) (hne : g2 ≠ g) : (w.setCells g 0 vs).cell? ⟨g2, 0, none⟩ = some u ∧ (w.setCells g 0 vs).cell? ⟨g2, 1, none⟩ = some v ∧ (w.setCells g 0 vs).there g 0 n :=
  ⟨(World.cell?_of_block (w := w) (World.heap_setCells_other w g 0 vs (World.block_lt_of_cell? _ _ h.1) hne)).trans h.1, (World.cell?_of_block (w := w) (World.heap_setCells_other w g 0 vs (World.block_lt_of_cell? _ _ h.2.1) hne)).trans h.2.1, World.there_setCells h.2.2 _ _ _⟩
/-- The first k elements, noughts where they are too few. -/
def padN (es : List Nat) (k : Nat) : List Nat := (List.range k).map fun i => es.getD i 0
@[simp] theorem padN_length (es : List Nat) (k : Nat) : (padN es k).length = k := by simp [padN]
theorem padN_succ (es : List Nat) (k : Nat) : padN es (k + 1) = padN es k ++ [es.getD k 0] := by simp [padN, List.range_succ]
theorem padN_get (es : List Nat) (k i : Nat) (h : i < k) : (padN es k).getD i 0 = es.getD i 0 := by
  unfold padN
  rw [List.getD_eq_getElem?_getD, List.getElem?_map, List.getElem?_range h]
  rfl
theorem padN_bound (es : List Nat) (k : Nat) (hbd : ∀ (i x : Nat), es[i]? = some x → (x : Int) ≤ 4294967295) (i x : Nat) (h : (padN es k)[i]? = some x) : (x : Int) ≤ 4294967295 := by
  unfold padN at h
  rw [List.getElem?_map] at h
  rcases hr : (List.range k)[i]? with _ | j
  · rw [hr] at h; cases h
  · rw [hr] at h
    injection h with h
    rw [← h]
    show ((es.getD j 0 : Nat) : Int) ≤ 4294967295
    rw [List.getD_eq_getElem?_getD]
    rcases he : es[j]? with _ | y
    · simp
    · exact hbd j y he
end Go.Proofs.Ytoaaplngdomdcaa

/- The statements' square over bytes. -/
namespace Go.Proofs.Ytoaaplngdomdcaa.MB
open Go.RowKit
attribute [local go_sem high] mat_store
attribute [local go_sem high] mat_storeC
section

set_option maxRecDepth 100000 in
set_option maxHeartbeats 4000000 in
theorem square_c (n : Nat) (ve : Value) (es : List Nat) (w : World) (hk : Fk w) (hn : 1 ≤ n ∧ n ≤ 256)
    (he : Ny w .u32 ve es) (hbd : ∀ (i x : Nat), es[i]? = some x → (x : Int) ≤ 4294967295) :
    Calls Try.prog 34 #[.int .u32 0, .pointer none, .int .i64 (n : Int), ve] w fun e w' =>
      ∃ g, e = .returned (.tuple #[.agg #[.pointer (some ⟨g, 0, none⟩), .pointer none], .bool true]) ∧ Mtx w' g n n (fun i j => UInt8.ofNat (es.getD (i * n + j) 0)) ∧ Below w.heap.size w w' := by
  have hN0 : n * n ≤ 65536 := Nat.le_trans (Nat.mul_le_mul hn.2 hn.2) (by omega)
  obtain ⟨N, hN⟩ : ∃ N, N = n * n := ⟨_, rfl⟩
  rw [← hN] at hN0
  have hw1 : IntKind.i64.wrap ((n : Int) * (n : Int)) = (N : Int) := by
    rw [show (n : Int) * (n : Int) = (N : Int) by rw [hN, Int.natCast_mul]]
    simp [IntKind.wrap, IntKind.bits, IntKind.signed]
    omega
  have HN := hide hN
  obtain ⟨A, c, rfl, hlc, hcm, hca⟩ := he.form
  unfold maxLen at hcm
  have b0 := (Below.refl w.heap.size w).alloc (Nat.le_refl _) (.cells #[.pointer none, .pointer none] 59)
  have n0 := Blk.new w 59 #[.pointer none, .pointer none]
  have z0 : (w.alloc (.cells #[.pointer none, .pointer none] 59)).heap.size = w.heap.size + 1 := by simp
  have HH := hide (And.intro hn (And.intro hbd (And.intro hk he)))
  have HC := hide hca
  generalize hW0 : w.alloc (.cells #[.pointer none, .pointer none] 59) = W0 at b0 n0 z0
  have HB0 := hide (And.intro b0 (And.intro n0 z0))
  clear hN hn hbd hk he hca b0 n0 z0
  go_enter Try.func34, Try.ntmps34
  go_wp2_with fail
  go_loopw [10, 11, 12] (fun v i x wr => ∃ k : Nat, k ≤ N ∧ i = .int .i64 k ∧ OwnN wr W0.heap.size 22 .u32 v (padN es k) ∧ Below W0.heap.size W0 wr) (fun _ i _ _ => N - (intOf i).toNat)
  case atStart => exact ⟨0, by omega, rfl, OwnN.nil _ _ _ _, Below.refl _ _⟩
  case round =>
    obtain ⟨k, hk, rfl, hown, hbel⟩ := hrel
    have HO := hide hown
    clear hown
    by_cases hlt : k < N
    · by_cases hin : k < es.length
      · obtain ⟨x, hx⟩ : ∃ x, es[k]? = some x := ⟨_, List.getElem?_eq_getElem hin⟩
        obtain ⟨b, o, rfl, hbl, hcell⟩ := HC.out k x hx
        have hcx : wr.cell? ⟨b, o + k, none⟩ = some (.int .u32 (x : Int)) := (hbel.cell (p := ⟨b, o + k, none⟩) (Nat.lt_of_lt_of_le hbl HB0.out.1.size)).trans ((HB0.out.1.cell (p := ⟨b, o + k, none⟩) hbl).trans hcell)
        have HX := hide (show es.getD k 0 = x by rw [List.getD_eq_getElem?_getD, hx]; rfl)
        clear hx hcell
        have j1 : (k : Int) < (es.length : Int) := by omega
        have j2 : (k : Int) < (N : Int) := by omega
        go_wp2_with (at_builtin; go_loud (refine wpList_push1 elemW HO.out hbel hbel.size (by rw [padN_length]; unfold maxLen; omega) (by rw [padN_length]; omega) (.int .u32 (x : Int)) rfl rfl _ _ rfl rfl rfl ?_); intro v1 w1 ho1 hbel1 _ _ _; have hown1 := OwnN.push ho1; clear ho1)
        go_roundw
        case rel => exact ⟨k + 1, by omega, by go_num, by rw [padN_succ, HX.out]; exact hown1, hbel1⟩
        case measure => simp [intOf]; omega
      · have HX := hide (show es.getD k 0 = 0 by rw [List.getD_eq_getElem?_getD, List.getElem?_eq_none (by omega)]; rfl)
        have j1 : ¬ (k : Int) < (es.length : Int) := by omega
        have j2 : (k : Int) < (N : Int) := by omega
        go_wp2_with (at_builtin; go_loud (refine wpList_push1 elemW HO.out hbel hbel.size (by rw [padN_length]; unfold maxLen; omega) (by rw [padN_length]; omega) (.int .u32 0) rfl rfl _ _ rfl rfl rfl ?_); intro v1 w1 ho1 hbel1 _ _ _; have hown1 := OwnN.push (x := 0) ho1; clear ho1)
        go_roundw
        case rel => exact ⟨k + 1, by omega, by go_num, by rw [padN_succ, HX.out]; exact hown1, hbel1⟩
        case measure => simp [intOf]; omega
    · have hkl : k = N := by omega
      subst hkl
      have j2 : ¬ (k : Int) < (k : Int) := by omega
      have q := fresh_c n n u10 (padN es k) wr ((HH.out.2.2.1.below HB0.out.1).below hbel) HH.out.1 HH.out.1 HO.out.ny (padN_bound es k HH.out.2.1) (by rw [padN_length]; exact HN.out)
      have HR := hide (And.intro hbel (Below.step HB0.out.1 hbel))
      clear HO hbel
      go_wp2_with fail
      refine q.mono ?_
      rintro e w2 ⟨g, rfl, hmx, hb2, hlw⟩
      have H2 := hide (And.intro hb2 hlw)
      clear q hmx hb2 hlw
      go_wp2_with ((with_reducible change wpList _ _ _ (⟨none, .store _ (.tmp 13) _, _, _, _, _⟩ :: _) _ _); go_loud (refine wpList_store_row (o := ⟨none, .store _ (.tmp 13) _, _, _, _, _⟩) (Blk.new w2 _ _) #[.pointer (some ⟨g, 0, none⟩), .pointer none] rfl (by simp [Value.oneCell']) rfl 59 _ _ rfl (by kernel_rfl) rfl rfl ?_; intro w3 hb3 hg3))
      have HB3 := hide (show Below w2.heap.size w2 w3 from ((Below.refl _ w2).alloc (Nat.le_refl _) _).grown hg3 (by simp) (fun k hk => by cases hk; exact Nat.le_refl _))
      have hbl8 : Blk w3 w.heap.size 59 #[.pointer none, .pointer none] := ((HB0.out.2.1.below' HR.out.1).below' H2.out.1).below' HB3.out
      have HNE := hide (show w2.heap.size ≠ w.heap.size by have := HB0.out.2.2; have := HR.out.1.size; have := H2.out.1.size; omega)
      have H23 := hide (Below.step HR.out.2 (Below.step H2.out.1 HB3.out))
      obtain ⟨G, hG⟩ : ∃ G, G = w2.heap.size := ⟨_, rfl⟩
      rw [← hG] at hb3 HNE ⊢
      have HS : Hid (∀ W, Below w3.heap.size w3 W → W.cell? ⟨G, 0, none⟩ = some (.pointer (some ⟨g, 0, none⟩)) ∧ W.cell? ⟨G, 1, none⟩ = some (.pointer none) ∧ W.there w.heap.size 0 2) := fun W hW => ⟨by rw [(hb3.below' hW).cell]; rfl, by rw [(hb3.below' hW).cell]; rfl, there_blk (hbl8.below' hW) rfl⟩
      have hS := HS.out w3 (Below.refl _ _)
      have Q5 := hide (fun W => there_c g W)
      clear hb3 hbl8 hg3 hG
      refine wp_region_noPanic ?_
      refine wp_region_held_drew (S := fun w' => w'.cell? ⟨G, 0, none⟩ = some (.pointer (some ⟨g, 0, none⟩)) ∧ w'.cell? ⟨G, 1, none⟩ = some (.pointer none) ∧ w'.there w.heap.size 0 2) (by kernel_rfl) (HS.out _ (Below.refl _ _).drew) (fun hHeld => ?_)
      refine wpAnyH_take (i := 0) (v := ?_) rfl (by kernel_rfl) (by kernel_rfl) (by kernel_rfl) (fun _ _ _ h => h) (Or.inl ⟨by rfl, ?_⟩) (by assumption) ?_
      rotate_left
      · (intro w9 hSw; (try dsimp only at hSw); go_simp; try with_reducible rfl)
      try simp only [Act.put, List.setIfInBounds_toArray, List.set_cons_zero, List.set_cons_succ, List.getElem_toArray, List.getElem_cons_succ, List.getElem_cons_zero]
      refine wpAnyH_take (i := 1) (v := ?_) rfl (by kernel_rfl) (by kernel_rfl) (by kernel_rfl) (fun _ _ _ h => h) (Or.inl ⟨by rfl, ?_⟩) (by assumption) ?_
      rotate_left
      · (intro w9 hSw; (try dsimp only at hSw); go_simp; try with_reducible rfl)
      try simp only [Act.put, List.setIfInBounds_toArray, List.set_cons_zero, List.set_cons_succ, List.getElem_toArray, List.getElem_cons_succ, List.getElem_cons_zero]
      refine wpAnyH_take (i := 2) (v := ?_) rfl (by kernel_rfl) (by kernel_rfl) (by kernel_rfl) (fun _ _ _ h => h) (Or.inl ⟨by rfl, ?_⟩) (by assumption) ?_
      rotate_left
      · (intro w9 hSw; (try dsimp only at hSw); go_simp; try with_reducible rfl)
      try simp only [Act.put, List.setIfInBounds_toArray, List.set_cons_zero, List.set_cons_succ, List.getElem_toArray, List.getElem_cons_succ, List.getElem_cons_zero]
      refine wpAnyH_take (i := 3) (v := ?_) rfl (by kernel_rfl) (by kernel_rfl) (by kernel_rfl) (fun _ _ _ h => h) (Or.inl ⟨by rfl, ?_⟩) (by assumption) ?_
      rotate_left
      · (intro w9 hSw; (try dsimp only at hSw); go_simp; try with_reducible rfl)
      try simp only [Act.put, List.setIfInBounds_toArray, List.set_cons_zero, List.set_cons_succ, List.getElem_toArray, List.getElem_cons_succ, List.getElem_cons_zero]
      refine wpAnyH_take (i := 4) (v := ?_) rfl (by kernel_rfl) (by kernel_rfl) (by kernel_rfl) (fun _ _ _ h => h) (Or.inl ⟨by rfl, ?_⟩) (by assumption) ?_
      rotate_left
      · (intro w9 hSw; (try dsimp only at hSw); go_simp; try with_reducible rfl)
      try simp only [Act.put, List.setIfInBounds_toArray, List.set_cons_zero, List.set_cons_succ, List.getElem_toArray, List.getElem_cons_succ, List.getElem_cons_zero]
      refine wpAnyH_take (i := 5) (v := ?_) rfl (by kernel_rfl) (by kernel_rfl) (by kernel_rfl) (fun _ _ _ h => h) (Or.inl ⟨by rfl, ?_⟩) (by assumption) ?_
      rotate_left
      · (intro w9 hSw; (try dsimp only at hSw); go_simp; try with_reducible rfl)
      try simp only [Act.put, List.setIfInBounds_toArray, List.set_cons_zero, List.set_cons_succ, List.getElem_toArray, List.getElem_cons_succ, List.getElem_cons_zero]
      refine wpAnyH_take (i := 6) (v := ?_) rfl (by kernel_rfl) (by kernel_rfl) (by kernel_rfl) (fun _ _ _ h => h) (Or.inl ⟨by rfl, ?_⟩) (by assumption) ?_
      rotate_left
      · (intro w9 hSw; (try dsimp only at hSw); go_simp; try with_reducible rfl)
      try simp only [Act.put, List.setIfInBounds_toArray, List.set_cons_zero, List.set_cons_succ, List.getElem_toArray, List.getElem_cons_succ, List.getElem_cons_zero]
      refine wpAnyH_take (i := 7) (v := ?_) rfl (by kernel_rfl) (by kernel_rfl) (by kernel_rfl) (fun _ _ _ h => h) (Or.inl ⟨by rfl, ?_⟩) (by assumption) ?_
      rotate_left
      · (intro w9 hSw; (try dsimp only at hSw); go_simp; try with_reducible rfl)
      try simp only [Act.put, List.setIfInBounds_toArray, List.set_cons_zero, List.set_cons_succ, List.getElem_toArray, List.getElem_cons_succ, List.getElem_cons_zero]
      refine wpAnyH_ready (rs := [8]) (by kernel_rfl) (by simp) ?_
      refine AllReadyH.cons rfl (fun K hK => ?_) AllReadyH.nil
      go_simp
      refine (Q5.out _).mono ?_
      rintro e w5 ⟨rfl, hb5⟩
      have hb5' : Below w3.heap.size w3 w5 := Below.step (Below.refl _ _).drew hb5
      refine hK.out _ _ (HS.out _ hb5') (fun hHeld => ?_)
      clear hK K
      try simp only [Act.put, List.setIfInBounds_toArray, List.set_cons_zero, List.set_cons_succ, List.getElem_toArray, List.getElem_cons_succ, List.getElem_cons_zero]
      refine wpAnyH_take (i := 9) (v := ?_) rfl (by kernel_rfl) (by kernel_rfl) (by kernel_rfl) (fun _ _ _ h => h) (Or.inl ⟨by rfl, ?_⟩) (by assumption) ?_
      rotate_left
      · (intro w9 hSw; (try dsimp only at hSw); go_simp; try with_reducible rfl)
      try simp only [Act.put, List.setIfInBounds_toArray, List.set_cons_zero, List.set_cons_succ, List.getElem_toArray, List.getElem_cons_succ, List.getElem_cons_zero]
      refine wpAnyH_ready (rs := [10]) (by kernel_rfl) (by simp) ?_
      refine AllReadyH.cons rfl (fun K hK => ?_) AllReadyH.nil
      rw [if_pos (by rfl)]
      refine wp_store_mid 59 _ _ rfl w.heap.size 0 #[.pointer (some ⟨g, 0, none⟩), .pointer none] rfl rfl hHeld.2.2 (by kernel_rfl) (by simp [Value.oneCell']) ?_
      refine hK.out _ _ (keepM hHeld HNE.out) (fun hHeld2 => ?_)
      clear hK K
      try simp only [Act.put, List.setIfInBounds_toArray, List.set_cons_zero, List.set_cons_succ, List.getElem_toArray, List.getElem_cons_succ, List.getElem_cons_zero]
      refine wpAnyH_take (i := 11) (v := ?_) rfl (by kernel_rfl) (by kernel_rfl) (by kernel_rfl) (fun _ _ _ h => h) (Or.inl ⟨by rfl, ?_⟩) (by assumption) ?_
      rotate_left
      · (intro w9 hSw; (try dsimp only at hSw); go_simp; try with_reducible rfl)
      try simp only [Act.put, List.setIfInBounds_toArray, List.set_cons_zero, List.set_cons_succ, List.getElem_toArray, List.getElem_cons_succ, List.getElem_cons_zero]
      refine wpAnyH_done (by kernel_rfl) ?_ _
      refine noPanic_norm ?_
      have hgs : w5.grownBy (w5.setCells w.heap.size 0 [.pointer (some ⟨g, 0, none⟩), .pointer none]) (some w.heap.size) := by
        have b := Lib.below_setCells_w (Nat.le_refl w.heap.size) [.pointer (some ⟨g, 0, none⟩), .pointer none] 0 w5
        exact ⟨b.os, b.tape, b.output, b.size, fun k hk hne => World.heap_setCells_other _ _ _ _ hk (fun e => hne (by rw [e]))⟩
      have hmx := H2.out.2 _ (.step (.keep (.keep (.refl _) HB3.out) hb5') (by have := HB0.out.2.2; have := HR.out.1.size; omega) hgs)
      have hbb := (Below.step H23.out hb5').trans (Lib.below_setCells_w (Nat.le_refl w.heap.size) [.pointer (some ⟨g, 0, none⟩), .pointer none] 0 w5)
      have hmx2 := hmx.congr (M' := fun i j => UInt8.ofNat (es.getD (i * n + j) 0)) (fun i j hi hj => by
        rw [padN_get]
        rw [HN.out]
        have : (i + 1) * n ≤ n * n := Nat.mul_le_mul_right _ hi
        rw [Nat.succ_mul] at this
        omega)
      have HF := hide (And.intro hmx2 (And.intro hbb hHeld.2.2))
      clear hmx hmx2 hbb hgs hb5 hb5' hHeld hHeld2
      go_wp2_with fail
      try simp only [Act.put, List.setIfInBounds_toArray, List.set_cons_zero, List.set_cons_succ, List.getElem_toArray, List.getElem_cons_succ, List.getElem_cons_zero]
      refine bodyPost_ret (v := .tuple #[.agg #[.pointer (some ⟨g, 0, none⟩), .pointer none], .bool true]) ?_ ?_ ⟨g, rfl, HF.out.1, HF.out.2.1⟩
      · refine (res_mid_tmp rfl _ _ w.heap.size [.pointer (some ⟨g, 0, none⟩), .pointer none] _ ?_ (World.rangeAt_setCells_same _ _ _ _ HF.out.2.2) Try.underlying59 rfl (by kernel_rfl)).trans ?_
        · kernel_rfl
        · kernel_rfl
      · rfl
end
end Go.Proofs.Ytoaaplngdomdcaa.MB

/- NewMod. -/
namespace Go.Proofs.Ytoaaplngdomdcaa
open Go.RowKit

set_option maxHeartbeats 800000 in
theorem newmod_no (p : Nat) (w : World) (hp2 : (p : Int) ≤ 4294967295) (h : primeR p = false) :
    Calls Try.prog 12 #[.int .u32 (p : Int)] w fun e w' => e = .returned (.tuple #[.pointer none, .int .i64 73]) ∧ w = w' := by
  have h1 := prime_any p w hp2
  have hx : 2147483648 < p ∨ (p ≤ 2147483648 ∧ primeB p = false) := by
    unfold primeR at h
    simp at h
    by_cases h2 : p ≤ 2147483648
    · right
      refine ⟨h2, ?_⟩
      cases hb : primeB p
      · rfl
      · have := h hb; omega
    · left; omega
  clear h
  rcases hx with hx | ⟨hx, hb⟩
  · go_enter Try.func12, Try.ntmps12
    go_wp2
    go_ret2
    exact ⟨rfl, rfl⟩
  · rw [hb] at h1
    clear hb
    go_enter Try.func12, Try.ntmps12
    go_wp2_with fail
    refine h1.mono ?_
    rintro e w' ⟨rfl, rfl⟩
    go_wp2
    go_ret2
    exact ⟨rfl, rfl⟩

set_option maxHeartbeats 800000 in
theorem newmod_yes (p : Nat) (w : World) (h : primeR p = true) :
    Calls Try.prog 12 #[.int .u32 (p : Int)] w fun e w' => ∃ g, e = .returned (.tuple #[.pointer (some ⟨g, 0, none⟩), .int .i64 0]) ∧ MP w' (.pointer (some ⟨g, 0, none⟩)) p ∧ Below w.heap.size w w' := by
  have hx : primeB p = true ∧ p ≤ 2147483648 := by
    unfold primeR at h
    simpa using h
  obtain ⟨hb, hp⟩ := hx
  have h1 := prime_any p w (by omega)
  rw [hb] at h1
  clear hb h
  go_enter Try.func12, Try.ntmps12
  go_wp2_with fail
  refine h1.mono ?_
  rintro e w' ⟨rfl, rfl⟩
  go_wp2
  go_ret2
  refine ⟨_, rfl, ⟨_, rfl, ?_, ?_⟩, (Below.refl _ w).alloc (Nat.le_refl _) _⟩
  · simp
  · exact (Blk.new w _ _).cell 0
end Go.Proofs.Ytoaaplngdomdcaa

/- Contracts of the matrices of words over a Mod: Identity. -/
namespace Go.Proofs.Ytoaaplngdomdcaa
open Go.RowKit

/-- A Mod, as matrices hold it. -/
abbrev modF (g : Nat) : Value := .iface 24 (.pointer (some ⟨g, 0, none⟩))
theorem methw_one (n : Nat) (A : Option Addr) (w : World) : (method (n + 1) 24 (.pointer A) "One").run Try.prog w = .ok (15, .pointer A) w := by kernel_rfl
theorem methw_zero (n : Nat) (A : Option Addr) (w : World) : (method (n + 1) 24 (.pointer A) "Zero").run Try.prog w = .ok (14, .pointer A) w := by kernel_rfl
theorem methw_add (n : Nat) (A : Option Addr) (w : World) : (method (n + 1) 24 (.pointer A) "Add").run Try.prog w = .ok (18, .pointer A) w := by kernel_rfl
theorem methw_sub (n : Nat) (A : Option Addr) (w : World) : (method (n + 1) 24 (.pointer A) "Sub").run Try.prog w = .ok (20, .pointer A) w := by kernel_rfl
theorem methw_mul (n : Nat) (A : Option Addr) (w : World) : (method (n + 1) 24 (.pointer A) "Mul").run Try.prog w = .ok (22, .pointer A) w := by kernel_rfl
theorem methw_inv (n : Nat) (A : Option Addr) (w : World) : (method (n + 1) 24 (.pointer A) "Inverse").run Try.prog w = .ok (16, .pointer A) w := by kernel_rfl
def ahead? (nm : String) : Prop := ∀ (n : Nat) (A : Option Addr) (w : World), (nilAhead (n + 1) 24 (.pointer A) nm).run Try.prog w = .ok (some false) w
theorem aheadw_add : ahead? "Add" := fun n A w => by kernel_rfl
theorem aheadw_one : ahead? "One" := fun n A w => by kernel_rfl

/-- The identity's elements. -/
def idE (i j : Nat) : Nat := if i = j then 1 else 0

set_option maxRecDepth 100000 in
set_option maxHeartbeats 1600000 in
theorem identc_any (i j g p b : Nat) (w : World) (hi : i ≤ 256) (hj : j ≤ 256) (hm : MP w (.pointer (some ⟨g, 0, none⟩)) p) (hp : 1 < p) (hp2 : p ≤ 2147483648) (c1 : w.cell? ⟨b, 0, none⟩ = some (modF g)) :
    Calls Try.prog 83 #[.int .i64 (i : Int), .int .i64 (j : Int), .pointer (some ⟨b, 0, none⟩)] w fun e w' => e = .returned (.int .u32 ((idE i j : Nat) : Int)) ∧ Below w.heap.size w w' := by
  have m1 := methw_one
  have m2 := methw_zero
  have Q1 := hide (mone_any (.pointer (some ⟨g, 0, none⟩)) p w hm hp hp2)
  have Q2 := hide (mzero_any (.pointer (some ⟨g, 0, none⟩)) w)
  clear hm
  unfold idE
  by_cases h : i = j
  · subst h
    rw [if_pos rfl]
    go_enter Try.func83, Try.ntmps83
    go_wp2_with fail
    refine Q1.out.mono ?_
    rintro e w' ⟨rfl, rfl⟩
    go_wp2
    go_ret
    exact ⟨rfl, Below.refl _ _⟩
  · rw [if_neg h]
    have i1 : ¬ (i : Int) = (j : Int) := by omega
    clear h
    go_enter Try.func83, Try.ntmps83
    go_wp2_with fail
    refine Q2.out.mono ?_
    rintro e w' ⟨rfl, rfl⟩
    go_wp2
    go_ret
    exact ⟨rfl, Below.refl _ _⟩

theorem dimsw_any (r c : Nat) (w : World) (hr : 1 ≤ r ∧ r ≤ 256) (hc : 1 ≤ c ∧ c ≤ 256) :
    Calls Try.prog 80 #[.int .i64 (r : Int), .int .i64 (c : Int)] w fun e w' => e = .returned (.bool true) ∧ w = w' := by
  have i1 : (r : Int) ≥ 1 := by omega
  have i2 : (r : Int) ≤ 256 := by omega
  have i3 : (c : Int) ≥ 1 := by omega
  have i4 : (c : Int) ≤ 256 := by omega
  go_enter Try.func80, Try.ntmps80
  go_wp2
  go_ret
  exact ⟨rfl, rfl⟩

set_option maxRecDepth 100000 in
set_option maxHeartbeats 1600000 in
theorem identw_any (n g p : Nat) (w : World) (hn : 1 ≤ n ∧ n ≤ 256) (hm : MP w (.pointer (some ⟨g, 0, none⟩)) p) (hp : 1 < p) (hp2 : p ≤ 2147483648) :
    Calls Try.prog 41 #[modF g, .int .i64 (n : Int)] w fun e w' =>
      ∃ x base, e = .returned (.tuple #[.pointer (some ⟨x, 0, none⟩), .int .i64 0]) ∧ w.heap.size ≤ base ∧ Mw (modF g) w' base x (rowsN n idE n) ∧ Below w.heap.size w w' := by
  have q1 := fun w => dimsw_any n n w hn hn
  have HM := hide hm
  have HN := hide hn
  clear hm hn
  go_enter Try.func41, Try.ntmps41
  go_wp2_with fail
  refine (q1 _).mono ?_
  rintro e w' ⟨rfl, rfl⟩
  go_wp2_with fail
  have n1 := Blk.new w 79 #[modF g]
  have n4 := (Below.refl w.heap.size w).alloc (Nat.le_refl _) (.cells #[modF g] 79)
  generalize w.alloc (.cells #[modF g] 79) = W at *
  refine (laidw_any 24 (.pointer (some ⟨g, 0, none⟩)) n n 83 #[.pointer (some ⟨w.heap.size, 0, none⟩)] idE W HN.out.2 HN.out.2
    (enters_of Try.func83 (by kernel_rfl) rfl) ?_).mono ?_
  · intro i j w' hi hj hb
    have hn := HN.out
    refine identc_any i j g p w.heap.size w' (by omega) (by omega) ((HM.out.below n4).below hb) hp hp2 ?_
    rw [(n1.below' hb).cell]; rfl
  · rintro e w' ⟨x, rfl, hmx, hb⟩
    have H4 := hide (And.intro n4 (And.intro hmx hb))
    clear n1 n4 hmx hb q1
    go_wp2
    go_ret2
    exact ⟨x, W.heap.size, rfl, H4.out.1.size, H4.out.2.1, H4.out.1.trans (H4.out.2.2.mono H4.out.1.size)⟩
end Go.Proofs.Ytoaaplngdomdcaa

/- The field of the numbers below a prime as matrices of words call it: its methods' contracts. -/
namespace Go.Proofs.Ytoaaplngdomdcaa.MV
open Go.RowKit

/-- The Mod of the prime p lies in block gm. -/
def Fk (p gm : Nat) (w : World) : Prop := PrimeN p ∧ p ≤ 2147483648 ∧ MP w (.pointer (some ⟨gm, 0, none⟩)) p
section
variable {p gm : Nat} {hp : 0 < p}
theorem Fk.below {w w' : World} (h : Fk p gm w) (hb : Below w.heap.size w w') : Fk p gm w' := ⟨h.1, h.2.1, h.2.2.below hb⟩
theorem Fk.keep {w w' : World} {base : Nat} (h : Fk p gm w) (hl : gm < base) (hb : Below base w w') : Fk p gm w' := by
  obtain ⟨h1, h2, g, e, h3, h4⟩ := h
  injection e with e
  injection e with e
  injection e with e _ _
  subst e
  have := hb.size
  refine ⟨h1, h2, gm, rfl, by omega, ?_⟩
  rw [World.cell?_of_block (hb.block gm hl)]
  exact h4
def en (x : Fin p) : Value := .int .u32 ((Fin.val x : Nat) : Int)
theorem en_inj {x y : Fin p} : ((Fin.val x : Nat) : Int) = ((Fin.val y : Nat) : Int) ↔ x = y := ⟨fun h => Fin.ext (by omega), fun h => by rw [h]⟩
theorem le32 {p : Nat} (h : p ≤ 2147483648) (x : Fin p) : ((Fin.val x : Nat) : Int) ≤ 4294967295 := by have := x.2; omega

theorem fzero_c (w : World) (_ : Fk p gm w) : Calls Try.prog 14 #[.pointer (some ⟨gm, 0, none⟩)] w fun e w' => e = .returned (.int .u32 ((Fin.val (Fp p hp).zero : Nat) : Int)) ∧ w = w' := by
  refine (mzero_any _ w).mono ?_
  rintro e w' ⟨rfl, rfl⟩
  exact ⟨rfl, rfl⟩
theorem fone_c (w : World) (h : Fk p gm w) : Calls Try.prog 15 #[.pointer (some ⟨gm, 0, none⟩)] w fun e w' => e = .returned (.int .u32 ((Fin.val (Fp p hp).one : Nat) : Int)) ∧ w = w' := by
  have h1 := h.1.1
  refine (mone_any _ p w h.2.2 h1 h.2.1).mono ?_
  rintro e w' ⟨rfl, rfl⟩
  refine ⟨?_, rfl⟩
  show _ = Ending.returned (.int .u32 ((1 % p : Nat) : Int))
  rw [Nat.mod_eq_of_lt h1]
  rfl
theorem fadd_c (x y : Fin p) (w : World) (h : Fk p gm w) : Calls Try.prog 18 #[.pointer (some ⟨gm, 0, none⟩), .int .u32 ((Fin.val x : Nat) : Int), .int .u32 ((Fin.val y : Nat) : Int)] w fun e w' => e = .returned (.int .u32 ((Fin.val ((Fp p hp).add x y) : Nat) : Int)) ∧ w = w' := by
  refine (madd_any _ p x.1 y.1 w h.2.2 hp h.2.1 (le32 h.2.1 x) (le32 h.2.1 y)).mono ?_
  rintro e w' ⟨rfl, rfl⟩
  exact ⟨rfl, rfl⟩
theorem fsub_c (x y : Fin p) (w : World) (h : Fk p gm w) : Calls Try.prog 20 #[.pointer (some ⟨gm, 0, none⟩), .int .u32 ((Fin.val x : Nat) : Int), .int .u32 ((Fin.val y : Nat) : Int)] w fun e w' => e = .returned (.int .u32 ((Fin.val ((Fp p hp).sub x y) : Nat) : Int)) ∧ ∃ q, w' = w.drewN q := by
  refine (msub_any _ p x.1 y.1 w h.2.2 hp h.2.1 (le32 h.2.1 x) (le32 h.2.1 y)).mono ?_
  rintro e w' ⟨rfl, q, rfl⟩
  exact ⟨rfl, q, rfl⟩
theorem fmul_c (x y : Fin p) (w : World) (h : Fk p gm w) : Calls Try.prog 22 #[.pointer (some ⟨gm, 0, none⟩), .int .u32 ((Fin.val x : Nat) : Int), .int .u32 ((Fin.val y : Nat) : Int)] w fun e w' => e = .returned (.int .u32 ((Fin.val ((Fp p hp).mul x y) : Nat) : Int)) ∧ w = w' := by
  refine (mmul_any _ p x.1 y.1 w h.2.2 hp h.2.1 (le32 h.2.1 x) (le32 h.2.1 y)).mono ?_
  rintro e w' ⟨rfl, rfl⟩
  refine ⟨?_, rfl⟩
  show _ = Ending.returned (.int .u32 ((fmul p x.1 y.1 : Nat) : Int))
  rw [fmul_mod]
theorem finv_some {x y : Fin p} (e0 : (Fp p hp).inv x = some y) (w : World) (h : Fk p gm w) : Calls Try.prog 16 #[.pointer (some ⟨gm, 0, none⟩), .int .u32 ((Fin.val x : Nat) : Int)] w fun e w' => e = .returned (.tuple #[.int .u32 ((Fin.val y : Nat) : Int), .bool true]) ∧ w = w' := by
  have e1 : (if x.1 % p = 0 then none else some (⟨finv p x.1, Nat.mod_lt _ hp⟩ : Fin p)) = some y := e0
  split at e1
  · cases e1
  · rename_i h0
    injection e1 with e1
    subst e1
    refine (minverse_any _ p x.1 w h.2.2 h.1.1 h.2.1 (le32 h.2.1 x)).mono ?_
    rintro e w' ⟨rfl, rfl⟩
    rw [if_neg h0]
    exact ⟨rfl, rfl⟩
theorem finv_none {x : Fin p} (e0 : (Fp p hp).inv x = none) (w : World) (h : Fk p gm w) : Calls Try.prog 16 #[.pointer (some ⟨gm, 0, none⟩), .int .u32 ((Fin.val x : Nat) : Int)] w fun e w' => e = .returned (.tuple #[.int .u32 0, .bool false]) ∧ w = w' := by
  have h0 : x.1 % p = 0 := by
    have := ((Fp_ok hp h.1).inv_none x).1 e0
    rw [this]
    exact Nat.zero_mod p
  refine (minverse_any _ p x.1 w h.2.2 h.1.1 h.2.1 (le32 h.2.1 x)).mono ?_
  rintro e w' ⟨rfl, rfl⟩
  rw [if_pos h0]
  exact ⟨rfl, rfl⟩
theorem mt_of {w : World} {base g rows cols : Nat} {E : Nat → Nat → Fin p} (h : Mw (modF gm) w base g (rowsN cols (fun i j => (E i j).val) rows)) : Mt 82 (modF gm) en w g rows cols E := by
  obtain ⟨_, v, hb, ho⟩ := h
  obtain ⟨A, c, rfl, hc, hm, hcell⟩ := ho.ls.form
  rw [rowsN_length] at hc hb
  refine ⟨_, hb, A, c, rfl, hc, hm, fun i hi => ?_⟩
  obtain ⟨b, o, x, hA, hlt, hcx, hby⟩ := hcell i ((List.range cols).map fun j => (E i j).val) (by rw [rowsN, List.getElem?_map, List.getElem?_range hi]; rfl)
  obtain ⟨B, d, rfl, hd, hdm, h2⟩ := hby.form
  rw [List.length_map, List.length_range] at hd hcx
  exact ⟨b, o, B, d, hA, hlt, hcx, hd, hdm, fun j hj => h2 j _ (by rw [List.getElem?_map, List.getElem?_range hj]; rfl)⟩
/-- What lays a matrix out of a function of places. -/
theorem laid_c (rows cols : Nat) (K : FuncId) (cap : Array Value) (M : Nat → Nat → Fin p) (w : World) (hr : rows ≤ 256) (hc : cols ≤ 256)
    (hent : ∀ (args : Array Value) (w : World), (callFunc K args).run Try.prog w = .ok (.enter K args) w)
    (hcl : ∀ (i j : Nat) (w' : World), i < rows → j < cols → Below w.heap.size w w' → Calls Try.prog K (#[.int .i64 (i : Int), .int .i64 (j : Int)] ++ cap) w' fun e w'' => e = .returned (.int .u32 ((Fin.val (M i j) : Nat) : Int)) ∧ Below w'.heap.size w' w'') :
    Calls Try.prog 81 #[modF gm, .int .i64 (rows : Int), .int .i64 (cols : Int), .func (.func K) #[] cap] w fun e w' => ∃ g, e = .returned (.pointer (some ⟨g, 0, none⟩)) ∧ Mt 82 (modF gm) en w' g rows cols M ∧ Below w.heap.size w w' := by
  refine (laidw_any 24 (.pointer (some ⟨gm, 0, none⟩)) rows cols K cap (fun i j => (M i j).val) w hr hc hent hcl).mono ?_
  rintro e w' ⟨g, rfl, hmx, hb⟩
  exact ⟨g, rfl, mt_of hmx, hb⟩
end
end Go.Proofs.Ytoaaplngdomdcaa.MV

/- Matrices of words: made, Rows, Cols, At, dot. -/
namespace Go.Proofs.Ytoaaplngdomdcaa.MV
open Go.RowKit
section
variable {p gm : Nat} {hp : 0 < p}

theorem meth_zero (n : Nat) (w : World) : (method (n + 1) 24 (.pointer (some ⟨gm, 0, none⟩)) "Zero").run Try.prog w = .ok (14, (.pointer (some ⟨gm, 0, none⟩))) w := by kernel_rfl
theorem meth_one (n : Nat) (w : World) : (method (n + 1) 24 (.pointer (some ⟨gm, 0, none⟩)) "One").run Try.prog w = .ok (15, (.pointer (some ⟨gm, 0, none⟩))) w := by kernel_rfl
theorem meth_add (n : Nat) (w : World) : (method (n + 1) 24 (.pointer (some ⟨gm, 0, none⟩)) "Add").run Try.prog w = .ok (18, (.pointer (some ⟨gm, 0, none⟩))) w := by kernel_rfl
theorem meth_sub (n : Nat) (w : World) : (method (n + 1) 24 (.pointer (some ⟨gm, 0, none⟩)) "Sub").run Try.prog w = .ok (20, (.pointer (some ⟨gm, 0, none⟩))) w := by kernel_rfl
theorem meth_mul (n : Nat) (w : World) : (method (n + 1) 24 (.pointer (some ⟨gm, 0, none⟩)) "Mul").run Try.prog w = .ok (22, (.pointer (some ⟨gm, 0, none⟩))) w := by kernel_rfl
theorem meth_inv (n : Nat) (w : World) : (method (n + 1) 24 (.pointer (some ⟨gm, 0, none⟩)) "Inverse").run Try.prog w = .ok (16, (.pointer (some ⟨gm, 0, none⟩))) w := by kernel_rfl
theorem ahead_zero (n : Nat) (w : World) : (nilAhead (n + 1) 24 (.pointer (some ⟨gm, 0, none⟩)) "Zero").run Try.prog w = .ok (some false) w := by kernel_rfl
theorem ahead_one (n : Nat) (w : World) : (nilAhead (n + 1) 24 (.pointer (some ⟨gm, 0, none⟩)) "One").run Try.prog w = .ok (some false) w := by kernel_rfl
theorem ahead_add (n : Nat) (w : World) : (nilAhead (n + 1) 24 (.pointer (some ⟨gm, 0, none⟩)) "Add").run Try.prog w = .ok (some false) w := by kernel_rfl
theorem ahead_sub (n : Nat) (w : World) : (nilAhead (n + 1) 24 (.pointer (some ⟨gm, 0, none⟩)) "Sub").run Try.prog w = .ok (some false) w := by kernel_rfl
theorem ahead_mul (n : Nat) (w : World) : (nilAhead (n + 1) 24 (.pointer (some ⟨gm, 0, none⟩)) "Mul").run Try.prog w = .ok (some false) w := by kernel_rfl
theorem ahead_inv (n : Nat) (w : World) : (nilAhead (n + 1) 24 (.pointer (some ⟨gm, 0, none⟩)) "Inverse").run Try.prog w = .ok (some false) w := by kernel_rfl

/-- A matrix of words. -/
abbrev Mtx (gm : Nat) {p : Nat} (w : World) (g n m : Nat) (M : Nat → Nat → Fin p) : Prop := Mt 82 (modF gm) en w g n m M
variable {w : World} {g n m : Nat} {M : Nat → Nat → (Fin p)}
theorem Mt.form (h : Mtx gm w g n m M) : ∃ A c, w.cell? ⟨g, 0, none⟩ = some (modF gm) ∧ w.cell? ⟨g, 1, none⟩ = some (.slice A n c) ∧ n ≤ c ∧ c ≤ maxLen ∧ ∀ i, i < n → ∃ b o B d, A = some ⟨b, o, none⟩ ∧ b < w.heap.size ∧ w.cell? ⟨b, o + i, none⟩ = some (.slice B m d) ∧ m ≤ d ∧ d ≤ maxLen ∧
    ∀ j, j < m → ∃ b2 o2, B = some ⟨b2, o2, none⟩ ∧ b2 < w.heap.size ∧ w.cell? ⟨b2, o2 + j, none⟩ = some (.int .u32 ((Fin.val (M i j) : Nat) : Int)) := by
  obtain ⟨v, hb, A, c, rfl, h1, h2, h3⟩ := h
  exact ⟨A, c, by rw [hb.cell]; rfl, by rw [hb.cell]; rfl, h1, h2, h3⟩

theorem made_c (h : Mtx gm w g n m M) : Calls Try.prog 84 #[.pointer (some ⟨g, 0, none⟩)] w fun e w' => e = .returned (.bool true) ∧ w = w' := by
  obtain ⟨A, c, h0, _⟩ := Mt.form h
  clear h
  go_enter Try.func84, Try.ntmps84
  go_wp2
  go_ret
  exact ⟨rfl, rfl⟩
theorem rows_c (h : Mtx gm w g n m M) : Calls Try.prog 48 #[.pointer (some ⟨g, 0, none⟩)] w fun e w' => e = .returned (.int .i64 (n : Int)) ∧ w = w' := by
  have q := made_c h
  obtain ⟨A, c, _, h1, _⟩ := Mt.form h
  clear h
  go_enter Try.func48, Try.ntmps48
  go_wp2_with fail
  refine q.mono ?_
  rintro e w' ⟨rfl, rfl⟩
  go_wp2
  go_ret
  exact ⟨rfl, rfl⟩
theorem cols_c (h : Mtx gm w g n m M) (hn : 0 < n) : Calls Try.prog 49 #[.pointer (some ⟨g, 0, none⟩)] w fun e w' => e = .returned (.int .i64 (m : Int)) ∧ w = w' := by
  have q := made_c h
  obtain ⟨A, c, _, h1, _, _, h2⟩ := Mt.form h
  obtain ⟨b, o, B, d, rfl, _, h3, _⟩ := h2 0 hn
  rw [Nat.add_zero] at h3
  have i0 : (0 : Int) < (n : Int) := by omega
  clear h h2
  go_enter Try.func49, Try.ntmps49
  go_wp2_with fail
  refine q.mono ?_
  rintro e w' ⟨rfl, rfl⟩
  go_wp2
  go_ret
  exact ⟨rfl, rfl⟩
set_option maxHeartbeats 800000 in
theorem at_c (h : Mtx gm w g n m M) {i j : Nat} (hi : i < n) (hj : j < m) : Calls Try.prog 42 #[.pointer (some ⟨g, 0, none⟩), .int .i64 (i : Int), .int .i64 (j : Int)] w fun e w' => e = .returned (.tuple #[.int .u32 ((Fin.val (M i j) : Nat) : Int), .int .i64 0]) ∧ w = w' := by
  have q1 := made_c h
  have q2 := rows_c h
  have q3 := cols_c h (by omega)
  obtain ⟨A, c, _, h1, _, _, h2⟩ := Mt.form h
  obtain ⟨b, o, B, d, rfl, _, h3, _, _, h4⟩ := h2 i hi
  obtain ⟨b2, o2, rfl, _, h5⟩ := h4 j hj
  have i1 : (i : Int) < (n : Int) := by omega
  have i2 : (j : Int) < (m : Int) := by omega
  have i3 : (0 : Int) ≤ (i : Int) := by omega
  have i4 : (0 : Int) ≤ (j : Int) := by omega
  generalize M i j = x at *
  clear h h2 h4
  go_enter Try.func42, Try.ntmps42
  go_wp2_with fail
  refine q1.mono ?_
  rintro e w' ⟨rfl, rfl⟩
  go_wp2_with fail
  refine q2.mono ?_
  rintro e w' ⟨rfl, rfl⟩
  go_wp2_with fail
  refine q3.mono ?_
  rintro e w' ⟨rfl, rfl⟩
  go_wp2
  go_ret2
  exact ⟨rfl, rfl⟩
end
end Go.Proofs.Ytoaaplngdomdcaa.MV

/- The library's Grow and Concat at lists of words: two lists laid behind one another. -/
namespace Go.Proofs.Ytoaaplngdomdcaa.MV
open Go.RowKit

theorem elemI : Elem1 Try.prog 53 22 (.int .u32 0) 4 := ⟨Try.underlying53, by kernel_rfl, rfl⟩
theorem elemO : Elem1 Try.prog 80 53 (.slice none 0 0) 24 := ⟨Try.underlying80, by kernel_rfl, rfl⟩
theorem own_new (w : World) (n c : Nat) (h1 : n ≤ c) (h2 : c ≤ maxLen) :
    (w.alloc (.cells (Builtin.zeroCells #[.int .u32 0] n ++ Builtin.zeroCells #[.int .u32 0] (c - n)) 22)).drew.ownsRow w.heap.size 22 1 (.slice (some ⟨w.heap.size, 0, none⟩) 0 c) 0 [] := by
  have := (Blk.new w 22 (Builtin.zeroCells #[.int .u32 0] n ++ Builtin.zeroCells #[.int .u32 0] (c - n))).drew.own (base := w.heap.size) (e := 22) (n := 0) (cap := c) (sz := 1) rfl (Nat.le_refl _) (by simp [size_zeroCells]; omega) (Nat.zero_le _) h2
  simpa using this
set_option maxRecDepth 100000 in
set_option maxHeartbeats 1000000 in
theorem grow_c (n : Nat) (w : World) (hn : n ≤ 1048576) :
    Calls Try.prog 157 #[.slice none 0 0, .int .i64 (n : Int)] w fun e w' => ∃ v, e = .returned v ∧ w'.ownsRow w.heap.size 22 1 v 0 [] ∧ Below w.heap.size w w' := by
  by_cases h0 : n = 0
  · have g1 : (n : Int) = 0 := by omega
    rw [g1]
    go_enter Try.func157, Try.ntmps157
    go_wp2
    go_ret
    exact ⟨_, rfl, World.ownsRow_nil _ _ _ _, Below.refl _ _⟩
  · have g1 : ¬ (n : Int) < 0 := by omega
    have g2 : (0 : Int) < (n : Int) := by omega
    have g3 : ¬ (281474976710656 : Int) < (n : Int) * ((Try.t22).bytes : Int) := by
      have : ((Try.t22).bytes : Int) = 4 := by kernel_rfl
      rw [this]; omega
    have g4 : ¬ 281474976710656 < Builtin.nextslicecap n 0 * (Try.t22).bytes := by
      have h1 : (Try.t22).bytes = 4 := by kernel_rfl
      have h2 : Builtin.nextslicecap n 0 = n := by unfold Builtin.nextslicecap; simp; omega
      rw [h1, h2]; omega
    go_enter Try.func157, Try.ntmps157
    go_wp2
    go_ret
    refine ⟨_, rfl, ?_, ?_⟩
    · exact own_new w n _ (grownCap_ge w n 0 22) (grownCap_le_maxLen w n 0 22 (by unfold maxLen; omega))
    · exact ((Below.refl _ w).alloc (Nat.le_refl _) _).drew
set_option maxRecDepth 100000 in
set_option maxHeartbeats 2000000 in
/-- Two lists laid behind one another. -/
theorem concat_c (g a b : Nat) (u v : Value) (xs ys : List Value) (w : World) (h0 : w.cell? ⟨g, 0, none⟩ = some u) (h1 : w.cell? ⟨g, 1, none⟩ = some v) (hg : g < w.heap.size) (hu : Sl w 1 u a xs) (hv : Sl w 1 v b ys) (ha : a ≤ 4096) (hb : b ≤ 4096) (hx : ∀ x ∈ xs, x.oneCell' = true) (hy : ∀ y ∈ ys, y.oneCell' = true) :
    Calls Try.prog 141 #[.slice (some ⟨g, 0, none⟩) 2 2] w fun e w' => ∃ r, e = .returned r ∧ w'.ownsRow w.heap.size 22 1 r (a + b) (xs ++ ys) ∧ Below w.heap.size w w' := by
  obtain ⟨Au, cu, rfl, -, -, -⟩ := hu.form
  obtain ⟨Av, cv, rfl, -, -, -⟩ := hv.form
  have HG := hide (grow_c (a + b))
  have HU := hide (And.intro hu (And.intro hv (And.intro hx hy)))
  have HB := hide (And.intro ha hb)
  have e1 : (a : Int) + (b : Int) = ((a + b : Nat) : Int) := by omega
  obtain ⟨s, hs⟩ : ∃ s, s = a + b := ⟨_, rfl⟩
  rw [← hs] at HG e1
  have HS := hide hs
  have l1 : (s : Int) ≤ 8192 := by omega
  have l2 : (a : Int) ≤ 4096 := by omega
  clear hu hv hx hy hs
  go_enter Try.func141, Try.ntmps141
  go_wp2
  go_loopw [3, 11] (fun u3 u11 wr => ((u11 = .int .i64 0 ∧ u3 = .int .i64 0) ∨ (u11 = .int .i64 1 ∧ u3 = .int .i64 (a : Int)) ∨ (u11 = .int .i64 2 ∧ u3 = .int .i64 (s : Int))) ∧ w = wr) (fun _ i _ => 2 - (intOf i).toNat)
  case atStart => exact ⟨.inl ⟨rfl, rfl⟩, rfl⟩
  case round =>
    obtain ⟨⟨rfl, rfl⟩ | ⟨rfl, rfl⟩ | ⟨rfl, rfl⟩, rfl⟩ := hrel
    · go_wp2
      go_roundw
      case rel => simp
      case measure => simp [intOf]
    · go_wp2
      go_roundw
      case rel => simp [e1]
      case measure => simp [intOf]
    · have HG2 := hide (show Calls Try.prog 157 #[.slice none 0 0, .int .i64 (s : Int)] w _ from HG.out w (by omega))
      go_wp2_with (go_at_call 157; refine HG2.out.mono ?_; rintro e w1 ⟨v0, rfl, o1, b1⟩)
      have HI := hide (And.intro o1 b1)
      clear o1 b1
      go_loopw [6, 27] (fun u6 u27 wr => ((u27 = .int .i64 0 ∧ wr.ownsRow w.heap.size 22 1 u6 0 []) ∨ (u27 = .int .i64 1 ∧ wr.ownsRow w.heap.size 22 1 u6 a xs) ∨ (u27 = .int .i64 2 ∧ wr.ownsRow w.heap.size 22 1 u6 (a + b) (xs ++ ys))) ∧ Below w.heap.size w wr) (fun _ i _ => 2 - (intOf i).toNat)
      case atStart => exact ⟨.inl ⟨rfl, HI.out.1⟩, HI.out.2⟩
      case round =>
        clear HI
        obtain ⟨⟨rfl, ho⟩ | ⟨rfl, ho⟩ | ⟨rfl, ho⟩, hb⟩ := hrel
        · have HO := hide ho
          have c0 : wr.cell? ⟨g, 0, none⟩ = some (.slice Au a cu) := (hb.cell (p := ⟨g, 0, none⟩) hg).trans h0
          clear ho
          go_wp2_with (at_builtin; go_loud (refine wpList_pushQ elemI HO.out hb hb.size (HU.out.1.below hb) (by have := HB.out; unfold maxLen; omega) (by have := HB.out; omega) HU.out.2.2.1 rfl _ _ rfl rfl rfl ?_); intro v2 w2 o2 b2)
          go_roundw
          case rel => exact ⟨.inr (.inl ⟨rfl, by simpa using o2⟩), b2⟩
          case measure => simp [intOf]
        · have HO := hide ho
          have c0 : wr.cell? ⟨g, 1, none⟩ = some (.slice Av b cv) := (hb.cell (p := ⟨g, 1, none⟩) hg).trans h1
          clear ho
          go_wp2_with (at_builtin; go_loud (refine wpList_pushQ elemI HO.out hb hb.size (HU.out.2.1.below hb) (by have := HB.out; unfold maxLen; omega) (by have := HB.out; omega) HU.out.2.2.2 rfl _ _ rfl rfl rfl ?_); intro v2 w2 o2 b2)
          go_roundw
          case rel => exact ⟨.inr (.inr ⟨rfl, o2⟩), b2⟩
          case measure => simp [intOf]
        · go_wp2
          go_ret
          exact ⟨_, rfl, ho, hb⟩
end Go.Proofs.Ytoaaplngdomdcaa.MV

/- Matrices of words: a row times a column; a row taken from the others; rows with more behind them. -/
namespace Go.Proofs.Ytoaaplngdomdcaa.MV
open Go.RowKit
section
variable {p gm : Nat} {hp : 0 < p}
variable {w : World} {g n m : Nat} {M : Nat → Nat → (Fin p)}

set_option maxRecDepth 100000 in
set_option maxHeartbeats 4000000 in
theorem dot_c (h : Mtx gm w g n m M) (hk : (Fk p gm) w) {r : Nat} (hr : r < n) (hm : m ≤ 4096) (K : FuncId) (cap : Array Value) (y : Nat → (Fin p))
    (hent : ∀ (args : Array Value) (w : World), (callFunc K args).run Try.prog w = .ok (.enter K args) w)
    (hcl : ∀ (k : Nat) (w' : World), k < m → Below w.heap.size w w' → Calls Try.prog K (#[.int .i64 (k : Int)] ++ cap) w' fun e w'' => e = .returned (.int .u32 ((Fin.val (y k) : Nat) : Int)) ∧ Below w'.heap.size w' w'') :
    Calls Try.prog 86 #[.pointer (some ⟨g, 0, none⟩), .int .i64 (r : Int), .func (.func K) #[] cap] w fun e w' => e = .returned (.int .u32 ((Fin.val ((Fp p hp).dot m (M r) y) : Nat) : Int)) ∧ Below w.heap.size w w' := by
  have m1 := meth_zero (gm := gm)
  have m2 := meth_add (gm := gm)
  have m3 := ahead_add (gm := gm)
  have m4 := meth_mul (gm := gm)
  have m5 := ahead_mul (gm := gm)
  have HK := hide hk
  have hgl := Mt.lt h
  have HS : Hid (∀ W, Below w.heap.size w W → W.cell? ⟨g, 0, none⟩ = some (modF gm)) := fun W hW => by
    obtain ⟨_, _, c0, _⟩ := Mt.form (h.below hW)
    exact c0
  have s0 := HS.out w (Below.refl _ _)
  obtain ⟨A, c, _, h1, hnc, hcm, h2⟩ := Mt.form h
  obtain ⟨b, o, B, d, rfl, hbl, h3, hmd, hdm, h4⟩ := h2 r hr
  have H4 := hide h4
  have i1 : (r : Int) < (n : Int) := by omega
  have i2 : (0 : Int) ≤ (r : Int) := by omega
  have HCL := hide hcl
  have HZ := hide (show ∀ k, k ≤ m → ∃ Z, (Fp p hp).sum k (fun t => (Fp p hp).mul (M r t) (y t)) = Z from fun k _ => ⟨_, rfl⟩)
  unfold Fd.dot
  clear h hk h2 h4 hcl hnc hcm hdm
  have q0 := fzero_c (hp := hp) w HK.out
  go_enter Try.func86, Try.ntmps86
  go_wp2_with fail
  refine q0.mono ?_
  rintro e w1 ⟨rfl, rfl⟩
  clear q0
  have hb1 : Below w.heap.size w w := Below.refl _ _
  go_wp2_with fail
  go_loopw [7, 8, 9, 23] (fun u7 _ _ u23 wr => ∃ k : Nat, k ≤ m ∧ u23 = .int .i64 (k : Int) ∧ u7 = .int .u32 ((Fin.val ((Fp p hp).sum k fun t => (Fp p hp).mul (M r t) (y t)) : Nat) : Int) ∧ Below w.heap.size w wr) (fun _ _ _ u23 _ => m - (intOf u23).toNat)
  case atStart => exact ⟨0, by omega, rfl, rfl, hb1⟩
  case round =>
    clear hb1
    obtain ⟨k, hk, rfl, rfl, hbel⟩ := hrel
    by_cases hlt : k < m
    · have j1 : (k : Int) < (m : Int) := by omega
      have j2 : (0 : Int) ≤ (k : Int) := by omega
      obtain ⟨b2, o2, rfl, hl2, hc2⟩ := H4.out k hlt
      have hc3 := (hbel.cell (p := ⟨b2, o2 + k, none⟩) hl2).trans hc2
      have hg0 := HS.out wr hbel
      obtain ⟨x, hx⟩ : ∃ x, x = M r k := ⟨_, rfl⟩
      obtain ⟨s, hs⟩ : ∃ s, s = (Fp p hp).sum k fun t => (Fp p hp).mul (M r t) (y t) := ⟨_, rfl⟩
      obtain ⟨Y, hY⟩ : ∃ Y, Y = y k := ⟨_, rfl⟩
      have HE := hide (show ((Fp p hp).sum (k + 1) fun t => (Fp p hp).mul (M r t) (y t)) = (Fp p hp).add s ((Fp p hp).mul x Y) by rw [hs, hx, hY]; rfl)
      have Q1 : Hid (∀ W, Below wr.heap.size wr W → Calls Try.prog K (#[.int .i64 (k : Int)] ++ cap) W fun e w'' => e = .returned (.int .u32 ((Fin.val Y : Nat) : Int)) ∧ Below wr.heap.size wr w'') := fun W hW => by
        rw [hY]
        exact (HCL.out k W hlt (hbel.trans (hW.mono hbel.size))).mono fun e w'' ⟨a, b⟩ => ⟨a, hW.trans (b.mono hW.size)⟩
      have Q2 : Hid (∀ W, Below wr.heap.size wr W → Calls Try.prog 22 #[(.pointer (some ⟨gm, 0, none⟩)), .int .u32 ((Fin.val x : Nat) : Int), .int .u32 ((Fin.val Y : Nat) : Int)] W fun e w'' => e = .returned (.int .u32 ((Fin.val ((Fp p hp).mul x Y) : Nat) : Int)) ∧ Below wr.heap.size wr w'') := fun W hW =>
        (fmul_c (hp := hp) x Y W ((HK.out.below hbel).below hW)).mono fun e w'' ⟨a, b⟩ => ⟨a, by subst b; first | exact hW | exact hW.alloc hW.size _⟩
      have Q3 : Hid (∀ z W, Below wr.heap.size wr W → Calls Try.prog 18 #[(.pointer (some ⟨gm, 0, none⟩)), .int .u32 ((Fin.val s : Nat) : Int), .int .u32 ((Fin.val z : Nat) : Int)] W fun e w'' => e = .returned (.int .u32 ((Fin.val ((Fp p hp).add s z) : Nat) : Int)) ∧ Below wr.heap.size wr w'') := fun z W hW =>
        (fadd_c (hp := hp) s z W ((HK.out.below hbel).below hW)).mono fun e w'' ⟨a, b⟩ => ⟨a, by subst b; first | exact hW | exact hW.alloc hW.size _⟩
      have HS2 : Hid (∀ W, Below wr.heap.size wr W → W.cell? ⟨g, 0, none⟩ = some (modF gm)) := fun W hW => HS.out W (hbel.trans (hW.mono hbel.size))
      have hE := hent #[.int .i64 (k : Int)]
      rw [← hx] at hc3
      rw [← hs]
      clear hx hs hY hc2 HCL
      go_wp2_with fail
      go_region_held3 (fun w' => w'.cell? ⟨g, 0, none⟩ = some (modF gm)) (first | go_keep | exact HS2.out _ (by assumption) | exact HS2.out _ (Below.drew (by assumption)))
        (first
          | (go_at_call 22; (with_reducible refine (Q2.out _ ?bb).mono ?_); (case bb => (repeat (first | with_reducible exact Below.refl _ _ | with_reducible assumption | with_reducible refine Below.drew ?_))); rintro e w2 ⟨rfl, q2⟩)
          | (go_at_call 18; (with_reducible refine (Q3.out _ _ ?bb).mono ?_); (case bb => (repeat (first | with_reducible exact Below.refl _ _ | with_reducible assumption | with_reducible refine Below.drew ?_))); rintro e w3 ⟨rfl, q3⟩)
          | ((with_reducible refine (Q1.out _ ?bb).mono ?_); (case bb => (repeat (first | with_reducible exact Below.refl _ _ | with_reducible assumption | with_reducible refine Below.drew ?_))); rintro e w1 ⟨rfl, q1⟩))
      all_goals
        go_wp2
        go_roundw
        case rel => exact ⟨k + 1, by omega, by go_num, by rw [HE.out], hbel.trans (Below.mono (by repeat (first | with_reducible exact q3 | with_reducible refine Below.drew ?_)) hbel.size)⟩
        case measure => simp [intOf]; omega
    · have hkm : k = m := by omega
      subst hkm
      go_wp2
      go_ret
      exact ⟨rfl, hbel⟩
end
end Go.Proofs.Ytoaaplngdomdcaa.MV

/- Matrices of words: rows with more behind them. -/
namespace Go.Proofs.Ytoaaplngdomdcaa.MV
open Go.RowKit
section
variable {p gm : Nat} {hp : 0 < p}
variable {w : World} {g n m : Nat} {M : Nat → Nat → (Fin p)}

abbrev Gr {p : Nat} (w : World) (base g n m : Nat) (M : Nat → Nat → Fin p) : Prop := Grid 53 22 en w base g n m M
abbrev GrO {p : Nat} (w : World) (base : Nat) (v : Value) (n m : Nat) (M : Nat → Nat → Fin p) : Prop := GridO 53 22 en w base v n m M
theorem rcells_one (r : Nat → (Fin p)) (e : Nat) : ∀ x ∈ rcells en r e, x.oneCell' = true := fun x hx => by
  obtain ⟨_, _, rfl⟩ := List.mem_map.1 hx
  rfl

set_option maxRecDepth 100000 in
set_option maxHeartbeats 4000000 in
theorem beside_c (h : Mtx gm w g n m M) (hn : n ≤ 256) (hm : 0 < m ∧ m ≤ 1024) (e : Nat) (he : e ≤ 1024) (N : Nat → Nat → (Fin p)) (K : FuncId) (cap : Array Value)
    (hent : ∀ (args : Array Value) (w : World), (callFunc K args).run Try.prog w = .ok (.enter K args) w)
    (hcl : ∀ (i : Nat) (w' : World), i < n → Below w.heap.size w w' → Calls Try.prog K (#[.int .i64 (i : Int)] ++ cap) w' fun x w'' => ∃ v, x = .returned v ∧ Sl w'' 1 v e (rcells en (N i) e) ∧ Below w'.heap.size w' w'') :
    Calls Try.prog 90 #[.pointer (some ⟨g, 0, none⟩), .func (.func K) #[] cap] w fun x w' => ∃ v, x = .returned v ∧ GrO w' w.heap.size v n (m + e) (Fd.beside m M N) ∧ Below w.heap.size w w' := by
  obtain ⟨_, hblk, hrd⟩ := h
  obtain ⟨A, c, rfl, hnc, hcm, hcell⟩ := hrd.sl
  have h1 : w.cell? ⟨g, 1, none⟩ = some (.slice A n c) := by rw [hblk.cell]; rfl
  have HC := hide hcell
  have HCL := hide hcl
  have HN := hide (And.intro hn (And.intro hm he))
  clear hcell hcl hblk hrd hnc hcm hm he
  go_enter Try.func90, Try.ntmps90
  go_wp2_with fail
  go_loopw [5, 6, 7, 13] (fun u5 _ _ u13 wr => ∃ k : Nat, k ≤ n ∧ u13 = .int .i64 (k : Int) ∧ GrO wr w.heap.size u5 k (m + e) (Fd.beside m M N) ∧ Below w.heap.size w wr) (fun _ _ _ u13 _ => n - (intOf u13).toNat)
  case atStart => exact ⟨0, by omega, rfl, GridO.nil _ _ _ _ _ _ _, Below.refl _ _⟩
  case round =>
    obtain ⟨k, hk, rfl, hg, hbel⟩ := hrel
    have HG := hide hg
    clear hg
    by_cases hlt : k < n
    · have i1 : (k : Int) < (n : Int) := by omega
      have i2 : (0 : Int) ≤ (k : Int) := by omega
      obtain ⟨b, o, B, d, rfl, hbl, hcx, hsl⟩ := HC.out k hlt
      have hcx2 := (hbel.cell (p := ⟨b, o + k, none⟩) hbl).trans hcx
      have q := HCL.out k wr hlt hbel
      have hE := hent #[.int .i64 (k : Int)]
      have HSL := hide hsl
      clear hsl hcx
      go_wp2_with fail
      refine q.mono ?_
      rintro x w2 ⟨v, rfl, hs2, hb2⟩
      obtain ⟨A2, c2, rfl, -, -, -⟩ := hs2.form
      have hbel2 := hbel.trans (hb2.mono hbel.size)
      have n3 := Blk.new w2 53 #[.slice B m d, .slice A2 e c2]
      have b3 := (Below.refl w2.heap.size w2).alloc (Nat.le_refl _) (.cells #[.slice B m d, .slice A2 e c2] 53)
      have s1 := (HSL.out.below hbel2).below b3
      have s2 := hs2.below b3
      have H2 := hide (And.intro hbel2 (And.intro b3 hb2))
      clear q hE hs2 hb2 hbel2 b3
      go_wp2_with fail
      generalize hW3 : w2.alloc (.cells #[.slice B m d, .slice A2 e c2] 53) = W3 at *
      have q4 := concat_c w2.heap.size m e (.slice B m d) (.slice A2 e c2) _ _ W3 (by rw [n3.cell]; rfl) (by rw [n3.cell]; rfl) n3.lt s1 s2 (by have := HN.out; omega) (by have := HN.out; omega) (rcells_one _ _) (rcells_one _ _)
      clear hW3
      refine q4.mono ?_
      rintro x w4 ⟨r, rfl, ho4, hb4⟩
      obtain ⟨b4, cap4, cur, rfl, hbb, hblk4, hmc, hcm, hcur⟩ := own_blk ho4 (by have := HN.out; omega)
      have hbel4 := (H2.out.1.trans (H2.out.2.1.mono H2.out.1.size)).trans (hb4.mono (Nat.le_trans H2.out.1.size H2.out.2.1.size))
      have hbw := (H2.out.2.2.trans (H2.out.2.1.mono H2.out.2.2.size)).trans (hb4.mono (Nat.le_trans H2.out.2.2.size H2.out.2.1.size))
      have hle : wr.heap.size ≤ b4 := Nat.le_trans (Nat.le_trans H2.out.2.2.size H2.out.2.1.size) hbb
      obtain ⟨xs, hxs, hnext⟩ := GridO.form (w := w4) HG.out (by decide) hbw
      have HX := hide (hnext b4 cap4 cur)
      have HY := hide (show wr.heap.size ≤ b4 ∧ w.heap.size ≤ b4 ∧ Blk w4 b4 22 cur ∧ m + e ≤ cap4 ∧ cap4 ≤ maxLen ∧ ∀ j, j < m + e → cur[j]? = some (en (Fd.beside m M N k j)) from
        ⟨hle, Nat.le_trans hbel.size hle, hblk4, hmc, hcm, fun j hj => by rw [hcur j hj, rcells_beside hj]; rfl⟩)
      have HXS := hide hxs
      have HB4 := hide hbel4
      have hk2 : k + 1 ≤ 257 := by omega
      clear q4 s1 s2 n3 ho4 hb4 hblk4 hcur hbb hmc hcm hnext hxs hbw hle H2 hbel4 HG
      go_wp2_with (at_builtin; go_loud (refine wpList_push1 elemO HXS.out HB4.out HB4.out.size (by unfold maxLen; omega) (by omega) (.slice (some ⟨b4, 0, none⟩) (m + e) cap4) rfl rfl _ _ rfl rfl rfl ?_); intro v5 w5 ho5 hb5 _ hg5 _; have HG5 := hide (HX.out v5 w5 HY.out.1 HY.out.2.1 HY.out.2.2.1 HY.out.2.2.2.1 HY.out.2.2.2.2.1 HY.out.2.2.2.2.2 ho5 hg5); clear ho5 hg5)
      go_roundw
      case rel => exact ⟨k + 1, by omega, by go_num, HG5.out, hb5⟩
      case measure => simp [intOf]; omega
    · have hkn : k = n := by omega
      subst hkn
      go_wp2
      go_ret
      exact ⟨_, rfl, HG.out, hbel⟩
end
end Go.Proofs.Ytoaaplngdomdcaa.MV
