/- Matrices of bytes: Mul. -/
import Derived.Test.YtoaaplngdomdcaaMbJ
namespace Go.Proofs.Ytoaaplngdomdcaa.MB
open Go.RowKit
section

variable {w : World} {base g n m : Nat} {M : Nat → Nat → UInt8}

set_option maxHeartbeats 1600000 in
theorem mul2_c (x b1 b2 k j : Nat) (h : Mtx w x n m M) (hk : k < n) (hj : j < m) (c1 : w.cell? ⟨b1, 0, none⟩ = some (.pointer (some ⟨x, 0, none⟩))) (c2 : w.cell? ⟨b2, 0, none⟩ = some (.int .i64 (j : Int))) :
    Calls Try.prog 135 #[.int .i64 (k : Int), .pointer (some ⟨b1, 0, none⟩), .pointer (some ⟨b2, 0, none⟩)] w fun e w' => e = .returned (.int .u8 ((UInt8.toNat (M k j) : Nat) : Int)) ∧ Below w.heap.size w w' := by
  obtain ⟨A, c, _, h1, _, _, h2⟩ := Mt.form h
  obtain ⟨b, o, B, d, rfl, _, h3, _, _, h4⟩ := h2 k hk
  obtain ⟨b3, o3, rfl, _, h5⟩ := h4 j hj
  generalize M k j = y at *
  have i1 : (k : Int) < (n : Int) := by omega
  have i2 : (0 : Int) ≤ (k : Int) := by omega
  have i3 : (j : Int) < (m : Int) := by omega
  have i4 : (0 : Int) ≤ (j : Int) := by omega
  clear h h2 h4
  go_enter Try.func135, Try.ntmps135
  go_wp2
  go_quiet (fail)
  go_wp2
  go_ret
  exact ⟨rfl, by first | exact Below.refl _ _ | exact below_drewN (Below.refl _ _) _⟩

set_option maxRecDepth 100000 in
set_option maxHeartbeats 1600000 in
theorem mul1_c (x y b1 b2 k i j : Nat) {N : Nat → Nat → UInt8} (h : Mtx w x n k M) (h2 : Mtx w y k m N) (hf : Fk w) (hi : i < n) (hj : j < m) (hk : k ≤ 256) (c1 : w.cell? ⟨b1, 0, none⟩ = some (.pointer (some ⟨x, 0, none⟩))) (c2 : w.cell? ⟨b2, 0, none⟩ = some (.pointer (some ⟨y, 0, none⟩))) :
    Calls Try.prog 133 #[.int .i64 (i : Int), .int .i64 (j : Int), .pointer (some ⟨b1, 0, none⟩), .pointer (some ⟨b2, 0, none⟩)] w fun e w' => e = .returned (.int .u8 ((UInt8.toNat (F8.mulm k M N i j) : Nat) : Int)) ∧ Below w.heap.size w w' := by
  have hl2 := World.block_lt_of_cell? _ _ c2
  have n1 := Blk.new w 3 #[.int .i64 (j : Int)]
  have b1' := (Below.refl w.heap.size w).alloc (Nat.le_refl _) (.cells #[.int .i64 (j : Int)] 3)
  have q := dot_c (h.below b1') (hf.below b1') hi (by omega) 135 #[.pointer (some ⟨b2, 0, none⟩), .pointer (some ⟨w.heap.size, 0, none⟩)] (fun t => N t j) (enters_of Try.func135 (by kernel_rfl) rfl)
    (fun t w' ht hb => mul2_c y b2 w.heap.size t j ((h2.below b1').below hb) ht hj ((hb.cell (p := ⟨b2, 0, none⟩) (Nat.lt_of_lt_of_le hl2 b1'.size)).trans ((b1'.cell (p := ⟨b2, 0, none⟩) hl2).trans c2)) (by rw [(n1.below' hb).cell]; rfl))
  have c1' := (b1'.cell (p := ⟨b1, 0, none⟩) (World.block_lt_of_cell? _ _ c1)).trans c1
  have HQ := hide q
  have HB := hide b1'
  show Calls Try.prog 133 _ w fun e w' => e = .returned (.int .u8 ((UInt8.toNat (F8.dot k (M i) fun t => N t j) : Nat) : Int)) ∧ Below w.heap.size w w'
  generalize (F8.dot k (M i) fun t => N t j) = z at *
  clear h h2 hf q b1' n1 c1 c2 hl2
  go_enter Try.func133, Try.ntmps133
  go_wp2_with fail
  refine HQ.out.mono ?_
  rintro e w2 ⟨rfl, hb⟩
  go_wp2
  go_ret
  exact ⟨rfl, HB.out.trans (hb.mono HB.out.size)⟩

set_option maxRecDepth 100000 in
set_option maxHeartbeats 4000000 in
theorem mul_c (x y k : Nat) {N : Nat → Nat → UInt8} (h : Mtx w x n k M) (h2 : Mtx w y k m N) (hf : Fk w) (hn : 1 ≤ n ∧ n ≤ 256) (hk : 1 ≤ k ∧ k ≤ 256) (hm : m ≤ 256) :
    Calls Try.prog 77 #[.pointer (some ⟨x, 0, none⟩), .pointer (some ⟨y, 0, none⟩)] w fun e w' => ∃ z, e = .returned (.tuple #[.pointer (some ⟨z, 0, none⟩), .int .i64 0]) ∧ Mtx w' z n m (F8.mulm k M N) ∧ Below w.heap.size w w' := by
  have n1 := (Blk.new w 56 #[.pointer (some ⟨x, 0, none⟩)]).alloc (.cells #[.pointer (some ⟨y, 0, none⟩)] 56)
  have n2 := Blk.new (w.alloc (.cells #[.pointer (some ⟨x, 0, none⟩)] 56)) 56 #[.pointer (some ⟨y, 0, none⟩)]
  have b1 := ((Below.refl w.heap.size w).alloc (Nat.le_refl _) (.cells #[.pointer (some ⟨x, 0, none⟩)] 56)).alloc (by simp) (.cells #[.pointer (some ⟨y, 0, none⟩)] 56)
  simp only [World.size_alloc] at n2
  have HH := hide (And.intro h (And.intro h2 (And.intro hf (And.intro hn (And.intro hk hm)))))
  have hne : ((k : Int) != (k : Int)) = false := by simp
  clear h h2 hf hn hk hm
  go_enter Try.func77, Try.ntmps77
  go_wp2_with fail
  generalize (w.alloc (.cells #[.pointer (some ⟨x, 0, none⟩)] 56)).alloc (.cells #[.pointer (some ⟨y, 0, none⟩)] 56) = W at n1 n2 b1 ⊢
  have HX : Hid (∀ W', Below W.heap.size W W' → Mtx W' x n k M ∧ Mtx W' y k m N ∧ W'.cell? ⟨w.heap.size, 0, none⟩ = some (.pointer (some ⟨x, 0, none⟩)) ∧ W'.cell? ⟨w.heap.size + 1, 0, none⟩ = some (.pointer (some ⟨y, 0, none⟩)) ∧ W'.cell? ⟨x, 0, none⟩ = some gfF ∧ Fk W') := fun W' hW => by
    have e1 := (HH.out.1.below b1).below hW
    obtain ⟨_, _, c0, _⟩ := Mt.form e1
    exact ⟨e1, (HH.out.2.1.below b1).below hW, by rw [(n1.below' hW).cell]; rfl, by rw [(n2.below' hW).cell]; rfl, c0, (HH.out.2.2.1.below b1).below hW⟩
  have HB := hide b1
  clear n1 n2 b1
  obtain ⟨_, _, c1, c2, c3, _⟩ := HX.out W (Below.refl _ _)
  have q1 := made_c (HX.out W (Below.refl _ _)).1
  have q2 := made_c (HX.out W (Below.refl _ _)).2.1
  obtain ⟨B, hB⟩ : ∃ B, B = w.heap.size := ⟨_, rfl⟩
  rw [← hB] at c1 c2 HX ⊢
  clear hB
  refine q1.mono ?_
  rintro e w' ⟨rfl, rfl⟩
  go_wp2_with fail
  refine q2.mono ?_
  rintro e w' ⟨rfl, rfl⟩
  go_wp2_with fail
  clear q1 q2
  have Q3 : Hid (∀ W', Below W.heap.size W W' → Calls Try.prog 119 #[.pointer (some ⟨x, 0, none⟩)] W' fun e w' => e = .returned (.int .i64 (k : Int)) ∧ W' = w') := fun W' hW => cols_c (HX.out W' hW).1 (by have := HH.out.2.2.2; omega)
  have Q4 : Hid (∀ W', Below W.heap.size W W' → Calls Try.prog 122 #[.pointer (some ⟨y, 0, none⟩)] W' fun e w' => e = .returned (.int .i64 (k : Int)) ∧ W' = w') := fun W' hW => rows_c (HX.out W' hW).2.1
  have Q5 : Hid (∀ W', Below W.heap.size W W' → Calls Try.prog 122 #[.pointer (some ⟨x, 0, none⟩)] W' fun e w' => e = .returned (.int .i64 (n : Int)) ∧ W' = w') := fun W' hW => rows_c (HX.out W' hW).1
  have Q6 : Hid (∀ W', Below W.heap.size W W' → Calls Try.prog 119 #[.pointer (some ⟨y, 0, none⟩)] W' fun e w' => e = .returned (.int .i64 (m : Int)) ∧ W' = w') := fun W' hW => cols_c (HX.out W' hW).2.1 (by have := HH.out.2.2.2; omega)
  have Q7 : Hid (∀ W', Below W.heap.size W W' → Calls Try.prog 117 #[gfF, .int .i64 (n : Int), .int .i64 (m : Int), .func (.func 133) #[] #[.pointer (some ⟨B, 0, none⟩), .pointer (some ⟨B + 1, 0, none⟩)]] W' fun e w' => ∃ z, e = .returned (.pointer (some ⟨z, 0, none⟩)) ∧ Mtx w' z n m (F8.mulm k M N) ∧ Below W.heap.size W w') := fun W' hW =>
    (laid_c n m 133 #[.pointer (some ⟨B, 0, none⟩), .pointer (some ⟨B + 1, 0, none⟩)] (F8.mulm k M N) W' (by have := HH.out.2.2.2; omega) (by have := HH.out.2.2.2; omega) (enters_of Try.func133 (by kernel_rfl) rfl) (fun i j w' hi hj hb => by
      obtain ⟨a1, a2, a3, a4, a5, a6⟩ := HX.out w' (Below.step hW hb)
      exact mul1_c x y B (B + 1) k i j a1 a2 a6 hi hj (by have := HH.out.2.2.2; omega) a3 a4)).mono fun e w' ⟨z, a, b, c⟩ => ⟨z, a, b, Below.step hW c⟩
  go_region_held3 (fun w' => w'.cell? ⟨B, 0, none⟩ = some (.pointer (some ⟨x, 0, none⟩)) ∧ w'.cell? ⟨B + 1, 0, none⟩ = some (.pointer (some ⟨y, 0, none⟩))) (go_keep)
    (first
      | (go_at_call 119; (with_reducible refine (Q3.out _ ?bb).mono ?_); (case bb => (repeat (first | with_reducible exact Below.refl _ _ | with_reducible refine Below.drew ?_))); rintro e w2 ⟨rfl, rfl⟩)
      | (go_at_call 122; (with_reducible refine (Q4.out _ ?bb).mono ?_); (case bb => (repeat (first | with_reducible exact Below.refl _ _ | with_reducible refine Below.drew ?_))); rintro e w2 ⟨rfl, rfl⟩))
  go_wp2_with fail
  have HX2 : Hid (∀ W', Below W.heap.size W W' → W'.cell? ⟨B, 0, none⟩ = some (.pointer (some ⟨x, 0, none⟩)) ∧ W'.cell? ⟨B + 1, 0, none⟩ = some (.pointer (some ⟨y, 0, none⟩)) ∧ W'.cell? ⟨x, 0, none⟩ = some gfF) := fun W' hW => ⟨(HX.out W' hW).2.2.1, (HX.out W' hW).2.2.2.1, (HX.out W' hW).2.2.2.2.1⟩
  go_region_held3 (fun w' => w'.cell? ⟨B, 0, none⟩ = some (.pointer (some ⟨x, 0, none⟩)) ∧ w'.cell? ⟨B + 1, 0, none⟩ = some (.pointer (some ⟨y, 0, none⟩)) ∧ w'.cell? ⟨x, 0, none⟩ = some gfF) (first | go_keep | exact HX2.out _ q9)
    (first
      | (go_at_call 122; (with_reducible refine (Q5.out _ ?bb).mono ?_); (case bb => (repeat (first | with_reducible exact Below.refl _ _ | with_reducible refine Below.drew ?_))); rintro e w2 ⟨rfl, rfl⟩)
      | (go_at_call 119; (with_reducible refine (Q6.out _ ?bb).mono ?_); (case bb => (repeat (first | with_reducible exact Below.refl _ _ | with_reducible refine Below.drew ?_))); rintro e w2 ⟨rfl, rfl⟩)
      | (go_at_call 117; (with_reducible refine (Q7.out _ ?bb).mono ?_); (case bb => (repeat (first | with_reducible exact Below.refl _ _ | with_reducible refine Below.drew ?_))); rintro e w2 ⟨z, rfl, hz, q9⟩; have HZ := hide hz; clear hz))
  all_goals
    go_wp2
    go_ret2
    exact ⟨z, rfl, HZ.out, HB.out.trans (q9.mono HB.out.size)⟩
end
end Go.Proofs.Ytoaaplngdomdcaa.MB
