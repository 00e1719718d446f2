/- Joined texts: MvI, MvJ, MvK, MvL, MvP, MvQ, MvR, MvN, MvS, MvT, MvU, AwkM, MbW, MbZA, MbV. -/
import Derived.Test.YtoaaplngdomdcaaGreatJ9
import Derived.Test.YtoaaplngdomdcaaGreatJ6
import Derived.Deep.DeepCutAuto
import Derived.Test.YtoaaplngdomdcaaGreatJ7

/- Matrices of words: Identity, and what Inverse hands to others. -/
namespace Go.Proofs.YtoaaplngdomdcaaGreat.MV
open Go.RowKit
section
variable {p gm : Nat} {hp : 0 < p}
variable {w : World} {base g n m : Nat} {M : Nat → Nat → (Fin p)}

theorem mx_low {w w7 : World} {base g G : Nat} {L : List (List Nat)} (h : Mw (modF gm) w base g L) (hG : G < base) (hg7 : w.grownBy w7 (some G)) : Mw (modF gm) w7 base g L := by
  have low : ∀ {e : TypeId} {v : Value} {n : Nat} {xs : List Value}, w.ownsRow base e 1 v n xs → w7.ownsRow base e 1 v n xs := fun {e v n xs} ho => ho.kept hg7 (by
    rcases hb : v.ownBlock with _ | b
    · exact .inl rfl
    · refine .inr fun e => ?_
      have := (ho.lt b hb).1
      injection e with e
      omega)
  obtain ⟨h0, v, h1, xs, h2, h3⟩ := h
  refine ⟨h0, v, h1.grown hg7 (fun e => (by injection e with e; omega)), xs, low h2, fun i l hl => ?_⟩
  obtain ⟨x, hx, ho⟩ := h3 i l hl
  exact ⟨x, hx, low ho⟩
/-- What lays a matrix, with what stands when an older block is written. -/
theorem laid_s (rows cols : Nat) (K : FuncId) (cap : Array Value) (M : Nat → Nat → (Fin p)) (w : World) (hr : rows ≤ 256) (hc : cols ≤ 256)
    (hent : ∀ (args : Array Value) (w : World), (callFunc K args).run Tryz.prog w = .ok (.enter K args) w)
    (hcl : ∀ (i j : Nat) (w' : World), i < rows → j < cols → Below w.heap.size w w' → Calls Tryz.prog K (#[.int .i64 (i : Int), .int .i64 (j : Int)] ++ cap) w' fun e w'' => e = .returned (.int .u32 ((Fin.val (M i j) : Nat) : Int)) ∧ Below w'.heap.size w' w'') :
    Calls Tryz.prog 85 #[(modF gm), .int .i64 (rows : Int), .int .i64 (cols : Int), .func (.func K) #[] cap] w fun e w' => ∃ g, e = .returned (.pointer (some ⟨g, 0, none⟩)) ∧ Mtx gm w' g rows cols M ∧ Below w.heap.size w w' ∧ ∀ G w7, G < w.heap.size → w'.grownBy w7 (some G) → Mtx gm w7 g rows cols M := by
  refine (laidw_any 25 (.pointer (some ⟨gm, 0, none⟩)) rows cols K cap (fun i j => (M i j).val) w hr hc hent hcl).mono ?_
  rintro e w' ⟨g, rfl, hmx, hb⟩
  exact ⟨g, rfl, mt_of hmx, hb, fun G w7 hG hg7 => mt_of (mx_low hmx hG hg7)⟩
theorem dims_c (r c : Nat) (w : World) (hr : 1 ≤ r ∧ r ≤ 256) (hc : 1 ≤ c ∧ c ≤ 256) :
    Calls Tryz.prog 82 #[.int .i64 (r : Int), .int .i64 (c : Int)] w fun e w' => e = .returned (.bool true) ∧ w = w' := by
  have i1 : (r : Int) ≥ 1 := by omega
  have i2 : (r : Int) ≤ 256 := by omega
  have i3 : (c : Int) ≥ 1 := by omega
  have i4 : (c : Int) ≤ 256 := by omega
  go_enter Tryz.func82, Tryz.ntmps82
  go_wp2
  go_ret
  exact ⟨rfl, rfl⟩
set_option maxRecDepth 100000 in
set_option maxHeartbeats 1600000 in
theorem identc_c (i j b : Nat) (w : World) (hk : (Fk p gm) w) (hi : i ≤ 256) (hj : j ≤ 256) (c1 : w.cell? ⟨b, 0, none⟩ = some (modF gm)) :
    Calls Tryz.prog 86 #[.int .i64 (i : Int), .int .i64 (j : Int), .pointer (some ⟨b, 0, none⟩)] w fun e w' => e = .returned (.int .u32 ((Fin.val ((Fp p hp).ident i j) : Nat) : Int)) ∧ Below w.heap.size w w' := by
  have m1 := meth_one (gm := gm)
  have m2 := meth_zero (gm := gm)
  have Q1 := hide (fone_c (hp := hp) w hk)
  have Q2 := hide (fzero_c (hp := hp) w hk)
  clear hk
  unfold Fd.ident
  by_cases h : i = j
  · subst h
    rw [if_pos rfl]
    go_enter Tryz.func86, Tryz.ntmps86
    go_wp2_with fail
    refine Q1.out.mono ?_
    rintro e w' ⟨rfl, rfl⟩
    go_wp2
    go_ret
    exact ⟨rfl, by first | exact Below.refl _ _ | exact (Below.refl _ _).alloc (Nat.le_refl _) _⟩
  · rw [if_neg h]
    have i1 : ¬ (i : Int) = (j : Int) := by omega
    clear h
    go_enter Tryz.func86, Tryz.ntmps86
    go_wp2_with fail
    refine Q2.out.mono ?_
    rintro e w' ⟨rfl, rfl⟩
    go_wp2
    go_ret
    exact ⟨rfl, by first | exact Below.refl _ _ | exact (Below.refl _ _).alloc (Nat.le_refl _) _⟩
set_option maxRecDepth 100000 in
set_option maxHeartbeats 1600000 in
theorem ident_c (n : Nat) (w : World) (hk : (Fk p gm) w) (hn : 1 ≤ n ∧ n ≤ 256) :
    Calls Tryz.prog 33 #[(modF gm), .int .i64 (n : Int)] w fun e w' =>
      ∃ x, e = .returned (.tuple #[.pointer (some ⟨x, 0, none⟩), .int .i64 0]) ∧ Mtx gm w' x n n (Fp p hp).ident ∧ Below w.heap.size w w' ∧ ∀ G w7, G < w.heap.size → w'.grownBy w7 (some G) → Mtx gm w7 x n n (Fp p hp).ident := by
  have q1 := fun w => dims_c n n w hn hn
  have HM := hide hk
  have HN := hide hn
  clear hk hn
  go_enter Tryz.func33, Tryz.ntmps33
  go_wp2_with fail
  refine (q1 _).mono ?_
  rintro e w' ⟨rfl, rfl⟩
  go_wp2_with fail
  have n1 := Blk.new w 132 #[(modF gm)]
  have n4 := (Below.refl w.heap.size w).alloc (Nat.le_refl _) (.cells #[(modF gm)] 132)
  generalize w.alloc (.cells #[(modF gm)] 132) = W at *
  refine (laid_s n n 86 #[.pointer (some ⟨w.heap.size, 0, none⟩)] (Fp p hp).ident W HN.out.2 HN.out.2
    (enters_of Tryz.func86 (by kernel_rfl) rfl) ?_).mono ?_
  · intro i j w' hi hj hb
    have hn := HN.out
    refine identc_c (hp := hp) i j w.heap.size w' ((HM.out.below n4).below hb) (by omega) (by omega) ?_
    rw [(n1.below' hb).cell]; rfl
  · rintro e w' ⟨x, rfl, hmx, hb, hlw⟩
    have H4 := hide (And.intro n4 (And.intro hmx (And.intro hb hlw)))
    clear n1 n4 hmx hb hlw q1
    go_wp2
    go_ret2
    exact ⟨x, rfl, H4.out.2.1, H4.out.1.trans (H4.out.2.2.1.mono H4.out.1.size), fun G w7 hG hg7 => H4.out.2.2.2 G w7 (Nat.lt_of_lt_of_le hG H4.out.1.size) hg7⟩

/-- A row of the identity, as Inverse lays it behind. -/
theorem inv1_c (x b i : Nat) (h : Mtx gm w x n m M) (hi : i < n) (c1 : w.cell? ⟨b, 0, none⟩ = some (.pointer (some ⟨x, 0, none⟩))) :
    Calls Tryz.prog 94 #[.int .i64 (i : Int), .pointer (some ⟨b, 0, none⟩)] w fun e w' => ∃ v, e = .returned v ∧ Sl w' 1 v m (rcells en (M i) m) ∧ Below w.heap.size w w' := by
  obtain ⟨_, hblk, hrd⟩ := h
  obtain ⟨A, c, rfl, hnc, hcm, hcell⟩ := hrd.sl
  have h1 : w.cell? ⟨x, 1, none⟩ = some (.slice A n c) := by rw [hblk.cell]; rfl
  obtain ⟨b2, o, B, d, rfl, hbl, hcx, hsl⟩ := hcell i hi
  have i1 : (i : Int) < (n : Int) := by omega
  have i2 : (0 : Int) ≤ (i : Int) := by omega
  have HS := hide hsl
  clear hcell hblk hrd hsl
  go_enter Tryz.func94, Tryz.ntmps94
  go_wp2
  go_ret
  exact ⟨_, rfl, HS.out, Below.refl _ _⟩
set_option maxHeartbeats 1600000 in
/-- An element of what was reckoned, as Inverse lays it out. -/
theorem inv2_c (b1 b2 i j k cap : Nat) (hg : Gr w base g n m M) (hi : i < n) (hj : k + j < m) (hm : m ≤ 4096) (hcap : n ≤ cap) (c1 : w.cell? ⟨b1, 0, none⟩ = some (.slice (some ⟨g, 0, none⟩) n cap)) (c2 : w.cell? ⟨b2, 0, none⟩ = some (.int .i64 (k : Int))) :
    Calls Tryz.prog 96 #[.int .i64 (i : Int), .int .i64 (j : Int), .pointer (some ⟨b1, 0, none⟩), .pointer (some ⟨b2, 0, none⟩)] w fun e w' => e = .returned (.int .u32 ((Fin.val (M i (k + j)) : Nat) : Int)) ∧ Below w.heap.size w w' := by
  obtain ⟨b, cb, hb1, hb2, hb3, hb4, hb5, hb6, hb7⟩ := hg.at_ (by decide) hi
  obtain ⟨hv1, _, _⟩ := hb7 (k + j) hj
  have hv2 : w.cell? ⟨b, k + j, none⟩ = some (.int .u32 ((Fin.val (M i (k + j)) : Nat) : Int)) := hv1
  generalize M i (k + j) = x at *
  obtain ⟨s, hs⟩ : ∃ s, s = k + j := ⟨_, rfl⟩
  rw [← hs] at hv2 hj
  have hw : IntKind.i64.wrap ((k : Int) + (j : Int)) = (s : Int) := by
    rw [show (k : Int) + (j : Int) = (s : Int) by omega]
    exact IntWalk.i64_in _ (by omega)
  have i1 : (i : Int) < (n : Int) := by omega
  have i2 : (0 : Int) ≤ (i : Int) := by omega
  have i3 : (s : Int) < (m : Int) := by omega
  have i4 : (0 : Int) ≤ (s : Int) := by omega
  clear hs hb2 hb3 hb4 hb5 hb6 hb7 hv1 hg
  go_enter Tryz.func96, Tryz.ntmps96
  go_wp2
  go_quiet (fail)
  go_wp2
  go_ret
  exact ⟨rfl, by first | exact Below.refl _ _ | exact below_drewN (Below.refl _ _) _⟩
end
end Go.Proofs.YtoaaplngdomdcaaGreat.MV

/- Matrices of words: Inverse. -/
namespace Go.Proofs.YtoaaplngdomdcaaGreat.MV
open Go.RowKit
section
variable {p gm : Nat} {hp : 0 < p}
variable {w : World} {base g n m : Nat} {M : Nat → Nat → (Fin p)}

theorem lo_of {w : World} {base : Nat} (h : Fk p gm w) (hb : w.heap.size ≤ base) : gm < base := by
  obtain ⟨_, _, g, e, h3, _⟩ := h
  injection e with e
  injection e with e
  injection e with e _ _
  omega
set_option maxRecDepth 100000 in
set_option maxHeartbeats 2000000 in
theorem inv_dims (h : Mtx gm w g n m M) (hn : 1 ≤ n) (hnm : n ≠ m) :
    Calls Tryz.prog 35 #[.pointer (some ⟨g, 0, none⟩)] w fun e w' => e = .returned (.tuple #[.pointer none, .int .i64 70]) ∧ Below w.heap.size w w' := by
  have q1 := made_c h
  have q2 := rows_c h
  have HH := hide h
  have hne : ((n : Int) != (m : Int)) = true := by rw [bne_iff_ne]; omega
  clear h hnm
  go_enter Tryz.func35, Tryz.ntmps35
  go_wp2_with fail
  refine q1.mono ?_
  rintro e w' ⟨rfl, rfl⟩
  go_wp2_with fail
  refine q2.mono ?_
  rintro e w' ⟨rfl, rfl⟩
  clear q1 q2
  go_wp2_with fail
  have n1 := Blk.new w 3 #[.int .i64 (n : Int)]
  have b1 := (Below.refl w.heap.size w).alloc (Nat.le_refl _) (.cells #[.int .i64 (n : Int)] 3)
  generalize w.alloc (.cells #[.int .i64 (n : Int)] 3) = W1 at n1 b1 ⊢
  have cN : W1.cell? ⟨w.heap.size, 0, none⟩ = some (.int .i64 (n : Int)) := by rw [n1.cell]; rfl
  have H1 := hide b1
  have Q4 : Hid (∀ W, Below W1.heap.size W1 W → Calls Tryz.prog 40 #[.pointer (some ⟨g, 0, none⟩)] W fun e w' => e = .returned (.int .i64 (m : Int)) ∧ W = w') := fun W hW => cols_c ((HH.out.below H1.out).below hW) (by omega)
  clear n1 b1
  go_region_held3 (fun w' => w'.cell? ⟨w.heap.size, 0, none⟩ = some (.int .i64 (n : Int))) (go_keep)
    (first | (go_at_call 40; (with_reducible refine (Q4.out _ ?bb).mono ?_); (case bb => (repeat (first | with_reducible exact Below.refl _ _ | with_reducible refine Below.drew ?_))); rintro e w2 ⟨rfl, rfl⟩))
  go_wp2
  go_ret2
  exact ⟨rfl, H1.out.drew⟩

set_option maxRecDepth 100000 in
set_option maxHeartbeats 8000000 in
theorem inverse_c (h : Mtx gm w g n n M) (hk : (Fk p gm) w) (hn : 1 ≤ n ∧ n ≤ 256) :
    Calls Tryz.prog 35 #[.pointer (some ⟨g, 0, none⟩)] w fun e w' => Below w.heap.size w w' ∧
      (((Fp p hp).rank n M = n ∧ ∃ x, e = .returned (.tuple #[.pointer (some ⟨x, 0, none⟩), .int .i64 0]) ∧ Mtx gm w' x n n ((Fp p hp).invM n M) ∧ ∀ G w7, G < w.heap.size → w'.grownBy w7 (some G) → Mtx gm w7 x n n ((Fp p hp).invM n M)) ∨ ((Fp p hp).rank n M ≠ n ∧ e = .returned (.tuple #[.pointer none, .int .i64 71]))) := by
  have q1 := made_c h
  have q2 := rows_c h
  have HH := hide (And.intro h (And.intro hk hn))
  clear h hk hn
  go_enter Tryz.func35, Tryz.ntmps35
  go_wp2_with fail
  refine q1.mono ?_
  rintro e w' ⟨rfl, rfl⟩
  go_wp2_with fail
  refine q2.mono ?_
  rintro e w' ⟨rfl, rfl⟩
  clear q1 q2
  go_wp2_with fail
  have n1 := Blk.new w 3 #[.int .i64 (n : Int)]
  have b1 := (Below.refl w.heap.size w).alloc (Nat.le_refl _) (.cells #[.int .i64 (n : Int)] 3)
  generalize w.alloc (.cells #[.int .i64 (n : Int)] 3) = W1 at n1 b1 ⊢
  obtain ⟨N, hN⟩ : ∃ N, N = w.heap.size := ⟨_, rfl⟩
  rw [← hN] at n1 ⊢
  have hNlt : N < W1.heap.size := n1.lt
  have HN := hide hN
  have H1 := hide (And.intro n1 b1)
  have cN : W1.cell? ⟨N, 0, none⟩ = some (.int .i64 (n : Int)) := by rw [n1.cell]; rfl
  have Q4 : Hid (∀ W, Below W1.heap.size W1 W → Calls Tryz.prog 40 #[.pointer (some ⟨g, 0, none⟩)] W fun e w' => e = .returned (.int .i64 (n : Int)) ∧ W = w') := fun W hW => cols_c ((HH.out.1.below H1.out.2).below hW) (by have := HH.out.2.2; omega)
  have hne : ((n : Int) != (n : Int)) = false := by simp
  clear n1 b1 hN
  go_region_held3 (fun w' => w'.cell? ⟨N, 0, none⟩ = some (.int .i64 (n : Int))) (go_keep)
    (first | (go_at_call 40; (with_reducible refine (Q4.out _ ?bb).mono ?_); (case bb => (repeat (first | with_reducible exact Below.refl _ _ | with_reducible refine Below.drew ?_))); rintro e w2 ⟨rfl, rfl⟩))
  clear Q4
  have cg : W1.cell? ⟨g, 0, none⟩ = some (modF gm) := by
    obtain ⟨_, _, c0, _⟩ := Mt.form (HH.out.1.below H1.out.2)
    exact c0
  have Q6 : Hid (∀ W, Below W1.heap.size W1 W → Calls Tryz.prog 33 #[(modF gm), .int .i64 (n : Int)] W fun e w' => ∃ x, e = .returned (.tuple #[.pointer (some ⟨x, 0, none⟩), .int .i64 0]) ∧ Mtx gm w' x n n (Fp p hp).ident ∧ Below W.heap.size W w' ∧ ∀ G w7, G < W.heap.size → w'.grownBy w7 (some G) → Mtx gm w7 x n n (Fp p hp).ident) := fun W hW => ident_c (hp := hp) n W ((HH.out.2.1.below H1.out.2).below hW) HH.out.2.2
  have HS6 : Hid (∀ W, Below W1.heap.size W1 W → W.cell? ⟨g, 0, none⟩ = some (modF gm) ∧ W.cell? ⟨N, 0, none⟩ = some (.int .i64 (n : Int))) := fun W hW => ⟨(hW.cell (World.block_lt_of_cell? _ _ cg)).trans cg, (hW.cell (World.block_lt_of_cell? _ _ cN)).trans cN⟩
  go_upto_region 6 with fail
  go_cut [5, 6] (fun u5 u6 wx => ∃ gx go : Nat, u5 = .pointer (some ⟨go, 0, none⟩) ∧ u6 = .int .i64 0 ∧ Blk wx go 30 #[.pointer (some ⟨gx, 0, none⟩)] ∧ Mtx gm wx gx n n (Fp p hp).ident ∧ Below W1.heap.size W1 wx)
  case first =>
    go_region_held3 (fun w' => w'.cell? ⟨g, 0, none⟩ = some (modF gm) ∧ w'.cell? ⟨N, 0, none⟩ = some (.int .i64 (n : Int))) (first | go_keep | exact HS6.out _ (by (repeat (first | with_reducible exact Below.refl _ _ | with_reducible refine Below.drew ?_ | with_reducible refine Below.al0 ?_ _ | with_reducible refine Below.step ?_ hb2 | refine Below.setCell ?_ (by exact Nat.le_refl _) _))))
      (first | (go_at_call 33; (with_reducible refine (Q6.out _ ?bb).mono ?_); (case bb => (repeat (first | with_reducible exact Below.refl _ _ | with_reducible refine Below.drew ?_ | with_reducible refine Below.al0 ?_ _))); rintro e w2 ⟨x, rfl, hmx, hb2, hlow⟩; (try (have kb := (((Blk.new W1 30 #[.pointer none]).drew).drew).below' hb2; have c5 : w2.cell? ⟨W1.heap.size, 0, none⟩ = some (.pointer none) := (kb.cell 0).trans rfl; have f5 : w2.frozen? ⟨W1.heap.size, 0, none⟩ = false := kb.frozen 0; have HKB := hide kb; clear kb)); have HX := hide (And.intro hmx hlow); clear hmx hlow))
    · go_wp2_with fail
      go_meet
      exact ⟨x, w2.heap.size, rfl, rfl, Blk.new w2 _ _, HX.out.1.below ((Below.refl _ w2).alloc (Nat.le_refl _) _), by (repeat (first | with_reducible exact Below.refl _ _ | with_reducible refine Below.drew ?_ | with_reducible refine Below.al0 ?_ _ | with_reducible refine Below.step ?_ hb2 | refine Below.setCell ?_ (by exact Nat.le_refl _) _))⟩
    · go_wp2_with fail
      go_meet
      exact ⟨x, W1.heap.size, rfl, rfl, HKB.out.set_ 0 _, HX.out.2 _ _ (by show W1.heap.size < (W1.alloc _).heap.size; simp) (store_grown _ _ _ _), by (repeat (first | with_reducible exact Below.refl _ _ | with_reducible refine Below.drew ?_ | with_reducible refine Below.al0 ?_ _ | with_reducible refine Below.step ?_ hb2 | refine Below.setCell ?_ (by exact Nat.le_refl _) _))⟩
  case rest =>
    obtain ⟨gx, go, rfl, rfl, hbo, hmi, hbc⟩ := hcut
    have hbw : Below w.heap.size w wc := Below.step H1.out.2 hbc
    have q7 := beside_c (HH.out.1.below hbw) HH.out.2.2.2 (by have := HH.out.2.2; omega) n (by have := HH.out.2.2; omega) (Fp p hp).ident 94 #[.pointer (some ⟨go, 0, none⟩)] (enters_of Tryz.func94 (by kernel_rfl) rfl)
      (fun i w' hi hb => inv1_c gx go i (hmi.below hb) hi (by rw [(hbo.below' hb).cell]; rfl))
    have HC := hide (And.intro hbc hbw)
    have cNc := (HS6.out wc hbc).2
    have cgc := (HS6.out wc hbc).1
    clear hbo hmi hbc hbw Q6 HS6 cg cN
    go_wp2_with fail
    refine q7.mono ?_
    rintro e w3 ⟨v, rfl, hgo, hb3⟩
    obtain ⟨gr, cap, rfl, hnc, hcm, hgr⟩ := hgo.grid (by have := HH.out.2.2; omega)
    clear q7 hgo
    go_wp2_with fail
    have n3 := Blk.new w3 61 #[.slice (some ⟨gr, 0, none⟩) n cap]
    have b3 := (Below.refl w3.heap.size w3).alloc (Nat.le_refl _) (.cells #[.slice (some ⟨gr, 0, none⟩) n cap] 61)
    have hg3 := hgr.below b3
    have hbc3 := hb3.trans (b3.mono hb3.size)
    generalize w3.alloc (.cells #[.slice (some ⟨gr, 0, none⟩) n cap] 61) = W3 at n3 b3 hg3 hbc3 ⊢
    generalize w3.heap.size = T at n3 b3 ⊢
    have hk3 := HH.out.2.1.below (Below.step HC.out.2 hbc3)
    have hlo3 := lo_of HH.out.2.1 HC.out.2.size
    obtain ⟨rk, hrk⟩ : ∃ rk, rk = (Fp p hp).rank n M := ⟨_, rfl⟩
    have hrl : rk ≤ n := by rw [hrk]; exact Fd.rank_le _ _
    have HR := hide hrk
    have Q8 : Hid (∀ W, Below W3.heap.size W3 W → Calls Tryz.prog 95 #[(modF gm), .slice (some ⟨gr, 0, none⟩) n cap, .int .i64 (n : Int)] W fun e w' => e = .returned (.int .i64 (rk : Int)) ∧ Gr w' wc.heap.size gr n (n + n) ((Fp p hp).red n (Fd.beside n M (Fp p hp).ident) n).1 ∧ Below wc.heap.size W3 w' ∧ Kt 23 22 W3 w') := fun W hW => by
      refine (reduced_c (hp := hp) cap n (hg3.below hW) (hk3.below hW) hlo3 (by omega) (by have := HH.out.2.2; omega) (by have := HH.out.2.2; omega) (Nat.le_trans hbc3.size hW.size) ⟨hnc, hcm⟩).mono fun e w' ⟨a, b, c, d⟩ => ⟨?_, b, (hW.mono hbc3.size).trans c, ((Kt.refl _ _ _).below hW).trans d⟩
      rw [a, hrk, Fd.rank_beside]
    have cN3 := (hbc3.cell (World.block_lt_of_cell? _ _ cNc)).trans cNc
    have cg3 := (hbc3.cell (World.block_lt_of_cell? _ _ cgc)).trans cgc
    have cT3 : W3.cell? ⟨T, 0, none⟩ = some (.slice (some ⟨gr, 0, none⟩) n cap) := by rw [n3.cell]; rfl
    have HS8 : Hid (∀ W2, Below wc.heap.size W3 W2 → Kt 23 22 W3 W2 → W2.cell? ⟨g, 0, none⟩ = some (modF gm) ∧ W2.cell? ⟨T, 0, none⟩ = some (.slice (some ⟨gr, 0, none⟩) n cap) ∧ W2.cell? ⟨N, 0, none⟩ = some (.int .i64 (n : Int))) := fun W2 h1 h2 =>
      ⟨(World.cell?_of_block (h1.block g (World.block_lt_of_cell? _ _ cgc))).trans cg3, by rw [(h2 _ _ _ n3 (by decide) (by decide)).cell]; rfl, (World.cell?_of_block (h1.block N (World.block_lt_of_cell? _ _ cNc))).trans cN3⟩
    have HC3 := hide (And.intro hbc3 (And.intro hnc hcm))
    clear n3 b3 hg3 hgr hb3 hbc3 hk3 hlo3 hnc hcm cNc cgc hrk
    by_cases hf : rk = n
    · subst hf
      go_region_held3 (fun w' => w'.cell? ⟨g, 0, none⟩ = some (modF gm) ∧ w'.cell? ⟨T, 0, none⟩ = some (.slice (some ⟨gr, 0, none⟩) rk cap) ∧ w'.cell? ⟨N, 0, none⟩ = some (.int .i64 (rk : Int))) (first | go_keep | exact HS8.out _ hB5 hK5)
        (first | (go_at_call 95; (with_reducible refine (Q8.out _ ?bb).mono ?_); (case bb => (repeat (first | with_reducible exact Below.refl _ _ | with_reducible refine Below.drew ?_))); rintro e w5 ⟨rfl, hG5, hB5, hK5⟩))
      obtain ⟨s1, s2, s3⟩ := HS8.out _ hB5 hK5
      have hb5 := HC3.out.1.trans hB5
      have HG5 := hide (And.intro hG5 hb5)
      clear Q8 HS8 hG5 hB5 hK5 hb5 cN3 cg3 cT3
      have HS10 : Hid (∀ W, Below w5.heap.size w5 W → W.cell? ⟨g, 0, none⟩ = some (modF gm) ∧ W.cell? ⟨T, 0, none⟩ = some (.slice (some ⟨gr, 0, none⟩) rk cap) ∧ W.cell? ⟨N, 0, none⟩ = some (.int .i64 (rk : Int))) := fun W hW =>
        ⟨(hW.cell (World.block_lt_of_cell? _ _ s1)).trans s1, (hW.cell (World.block_lt_of_cell? _ _ s2)).trans s2, (hW.cell (World.block_lt_of_cell? _ _ s3)).trans s3⟩
      have Q10 : Hid (∀ W, Below w5.heap.size w5 W → Calls Tryz.prog 85 #[(modF gm), .int .i64 (rk : Int), .int .i64 (rk : Int), .func (.func 96) #[] #[.pointer (some ⟨T, 0, none⟩), .pointer (some ⟨N, 0, none⟩)]] W fun e w' => ∃ x, e = .returned (.pointer (some ⟨x, 0, none⟩)) ∧ Mtx gm w' x rk rk ((Fp p hp).invM rk M) ∧ Below w5.heap.size w5 w' ∧ ∀ G w7, G < w5.heap.size → w'.grownBy w7 (some G) → Mtx gm w7 x rk rk ((Fp p hp).invM rk M)) := fun W hW =>
        (laid_s rk rk 96 #[.pointer (some ⟨T, 0, none⟩), .pointer (some ⟨N, 0, none⟩)] ((Fp p hp).invM rk M) W HH.out.2.2.2 HH.out.2.2.2 (enters_of Tryz.func96 (by kernel_rfl) rfl) (fun i j w' hi hj hb =>
          inv2_c T N i j rk cap (HG5.out.1.below (Below.step hW hb)) hi (by omega) (by have := HH.out.2.2; omega) HC3.out.2.1 (HS10.out w' (Below.step hW hb)).2.1 (HS10.out w' (Below.step hW hb)).2.2)).mono fun e w' ⟨x, a, b, c, d⟩ => ⟨x, a, b, Below.step hW c, fun G w7 hG hg7 => d G w7 (Nat.lt_of_lt_of_le hG hW.size) hg7⟩
      go_wp2_with fail
      go_region_held3 (fun w' => w'.cell? ⟨g, 0, none⟩ = some (modF gm) ∧ w'.cell? ⟨N, 0, none⟩ = some (.int .i64 (rk : Int))) (first | go_keep | exact ⟨(HS10.out _ q10).1, (HS10.out _ q10).2.2⟩)
        (first | (go_at_call 85; (with_reducible refine (Q10.out _ ?bb).mono ?_); (case bb => (repeat (first | with_reducible exact Below.refl _ _ | with_reducible refine Below.drew ?_))); rintro e w6 ⟨x, rfl, hmx, q10, hlw⟩; have HM := hide (And.intro hmx hlw); clear hmx hlw))
      have HE := hide (HC.out.2.trans ((HG5.out.2.trans (q10.mono HG5.out.2.size)).mono HC.out.2.size))
      have HSZ := hide (Nat.le_trans HC.out.2.size HG5.out.2.size)
      clear Q10 HS10 q10
      go_wp2
      go_ret2
      exact ⟨HE.out, .inl ⟨HR.out.symm, x, rfl, HM.out.1, fun G w7 hG hg7 => HM.out.2 G w7 (Nat.lt_of_lt_of_le hG HSZ.out) hg7⟩⟩
    · have i8 : (rk : Int) < (n : Int) := by omega
      go_region_held3 (fun w' => w'.cell? ⟨g, 0, none⟩ = some (modF gm) ∧ w'.cell? ⟨T, 0, none⟩ = some (.slice (some ⟨gr, 0, none⟩) n cap) ∧ w'.cell? ⟨N, 0, none⟩ = some (.int .i64 (n : Int))) (first | go_keep | exact HS8.out _ hB5 hK5)
        (first | (go_at_call 95; (with_reducible refine (Q8.out _ ?bb).mono ?_); (case bb => (repeat (first | with_reducible exact Below.refl _ _ | with_reducible refine Below.drew ?_))); rintro e w5 ⟨rfl, hG5, hB5, hK5⟩))
      have HE := hide (HC.out.2.trans ((HC3.out.1.trans hB5).mono HC.out.2.size))
      clear Q8 HS8 hG5 hB5 hK5
      go_wp2
      go_ret2
      exact ⟨HE.out, .inr ⟨fun e => hf (HR.out.trans e), rfl⟩⟩
end
end Go.Proofs.YtoaaplngdomdcaaGreat.MV

/- Matrices of words: Mul. -/
namespace Go.Proofs.YtoaaplngdomdcaaGreat.MV
open Go.RowKit
section
variable {p gm : Nat} {hp : 0 < p}
variable {w : World} {base g n m : Nat} {M : Nat → Nat → (Fin p)}

set_option maxHeartbeats 1600000 in
theorem mul2_c (x b1 b2 k j : Nat) (h : Mtx gm w x n m M) (hk : k < n) (hj : j < m) (c1 : w.cell? ⟨b1, 0, none⟩ = some (.pointer (some ⟨x, 0, none⟩))) (c2 : w.cell? ⟨b2, 0, none⟩ = some (.int .i64 (j : Int))) :
    Calls Tryz.prog 107 #[.int .i64 (k : Int), .pointer (some ⟨b1, 0, none⟩), .pointer (some ⟨b2, 0, none⟩)] w fun e w' => e = .returned (.int .u32 ((Fin.val (M k j) : Nat) : Int)) ∧ Below w.heap.size w w' := by
  obtain ⟨A, c, _, h1, _, _, h2⟩ := Mt.form h
  obtain ⟨b, o, B, d, rfl, _, h3, _, _, h4⟩ := h2 k hk
  obtain ⟨b3, o3, rfl, _, h5⟩ := h4 j hj
  generalize M k j = y at *
  have i1 : (k : Int) < (n : Int) := by omega
  have i2 : (0 : Int) ≤ (k : Int) := by omega
  have i3 : (j : Int) < (m : Int) := by omega
  have i4 : (0 : Int) ≤ (j : Int) := by omega
  clear h h2 h4
  go_enter Tryz.func107, Tryz.ntmps107
  go_wp2
  go_quiet (fail)
  go_wp2
  go_ret
  exact ⟨rfl, by first | exact Below.refl _ _ | exact below_drewN (Below.refl _ _) _⟩

set_option maxRecDepth 100000 in
set_option maxHeartbeats 1600000 in
theorem mul1_c (x y b1 b2 k i j : Nat) {N : Nat → Nat → (Fin p)} (h : Mtx gm w x n k M) (h2 : Mtx gm w y k m N) (hf : (Fk p gm) w) (hi : i < n) (hj : j < m) (hk : k ≤ 256) (c1 : w.cell? ⟨b1, 0, none⟩ = some (.pointer (some ⟨x, 0, none⟩))) (c2 : w.cell? ⟨b2, 0, none⟩ = some (.pointer (some ⟨y, 0, none⟩))) :
    Calls Tryz.prog 105 #[.int .i64 (i : Int), .int .i64 (j : Int), .pointer (some ⟨b1, 0, none⟩), .pointer (some ⟨b2, 0, none⟩)] w fun e w' => e = .returned (.int .u32 ((Fin.val ((Fp p hp).mulm k M N i j) : Nat) : Int)) ∧ Below w.heap.size w w' := by
  have hl2 := World.block_lt_of_cell? _ _ c2
  have n1 := Blk.new w 3 #[.int .i64 (j : Int)]
  have b1' := (Below.refl w.heap.size w).alloc (Nat.le_refl _) (.cells #[.int .i64 (j : Int)] 3)
  have q := dot_c (hp := hp) (h.below b1') (hf.below b1') hi (by omega) 107 #[.pointer (some ⟨b2, 0, none⟩), .pointer (some ⟨w.heap.size, 0, none⟩)] (fun t => N t j) (enters_of Tryz.func107 (by kernel_rfl) rfl)
    (fun t w' ht hb => mul2_c y b2 w.heap.size t j ((h2.below b1').below hb) ht hj ((hb.cell (p := ⟨b2, 0, none⟩) (Nat.lt_of_lt_of_le hl2 b1'.size)).trans ((b1'.cell (p := ⟨b2, 0, none⟩) hl2).trans c2)) (by rw [(n1.below' hb).cell]; rfl))
  have c1' := (b1'.cell (p := ⟨b1, 0, none⟩) (World.block_lt_of_cell? _ _ c1)).trans c1
  have HQ := hide q
  have HB := hide b1'
  show Calls Tryz.prog 105 _ w fun e w' => e = .returned (.int .u32 ((Fin.val ((Fp p hp).dot k (M i) fun t => N t j) : Nat) : Int)) ∧ Below w.heap.size w w'
  generalize ((Fp p hp).dot k (M i) fun t => N t j) = z at *
  clear h h2 hf q b1' n1 c1 c2 hl2
  go_enter Tryz.func105, Tryz.ntmps105
  go_wp2_with fail
  refine HQ.out.mono ?_
  rintro e w2 ⟨rfl, hb⟩
  go_wp2
  go_ret
  exact ⟨rfl, HB.out.trans (hb.mono HB.out.size)⟩

set_option maxRecDepth 100000 in
set_option maxHeartbeats 4000000 in
theorem mul_c (x y k : Nat) {N : Nat → Nat → (Fin p)} (h : Mtx gm w x n k M) (h2 : Mtx gm w y k m N) (hf : (Fk p gm) w) (hn : 1 ≤ n ∧ n ≤ 256) (hk : 1 ≤ k ∧ k ≤ 256) (hm : m ≤ 256) :
    Calls Tryz.prog 56 #[.pointer (some ⟨x, 0, none⟩), .pointer (some ⟨y, 0, none⟩)] w fun e w' => ∃ z, e = .returned (.tuple #[.pointer (some ⟨z, 0, none⟩), .int .i64 0]) ∧ Mtx gm w' z n m ((Fp p hp).mulm k M N) ∧ Below w.heap.size w w' ∧ ∀ G w7, G < w.heap.size → w'.grownBy w7 (some G) → Mtx gm w7 z n m ((Fp p hp).mulm k M N) := by
  have n1 := (Blk.new w 30 #[.pointer (some ⟨x, 0, none⟩)]).alloc (.cells #[.pointer (some ⟨y, 0, none⟩)] 30)
  have n2 := Blk.new (w.alloc (.cells #[.pointer (some ⟨x, 0, none⟩)] 30)) 30 #[.pointer (some ⟨y, 0, none⟩)]
  have b1 := ((Below.refl w.heap.size w).alloc (Nat.le_refl _) (.cells #[.pointer (some ⟨x, 0, none⟩)] 30)).alloc (by simp) (.cells #[.pointer (some ⟨y, 0, none⟩)] 30)
  simp only [World.size_alloc] at n2
  have HH := hide (And.intro h (And.intro h2 (And.intro hf (And.intro hn (And.intro hk hm)))))
  have hne : ((k : Int) != (k : Int)) = false := by simp
  clear h h2 hf hn hk hm
  go_enter Tryz.func56, Tryz.ntmps56
  go_wp2_with fail
  generalize (w.alloc (.cells #[.pointer (some ⟨x, 0, none⟩)] 30)).alloc (.cells #[.pointer (some ⟨y, 0, none⟩)] 30) = W at n1 n2 b1 ⊢
  have HX : Hid (∀ W', Below W.heap.size W W' → Mtx gm W' x n k M ∧ Mtx gm W' y k m N ∧ W'.cell? ⟨w.heap.size, 0, none⟩ = some (.pointer (some ⟨x, 0, none⟩)) ∧ W'.cell? ⟨w.heap.size + 1, 0, none⟩ = some (.pointer (some ⟨y, 0, none⟩)) ∧ W'.cell? ⟨x, 0, none⟩ = some (modF gm) ∧ (Fk p gm) W') := fun W' hW => by
    have e1 := (HH.out.1.below b1).below hW
    obtain ⟨_, _, c0, _⟩ := Mt.form e1
    exact ⟨e1, (HH.out.2.1.below b1).below hW, by rw [(n1.below' hW).cell]; rfl, by rw [(n2.below' hW).cell]; rfl, c0, (HH.out.2.2.1.below b1).below hW⟩
  have HB := hide b1
  clear n1 n2 b1
  obtain ⟨_, _, c1, c2, c3, _⟩ := HX.out W (Below.refl _ _)
  have q1 := made_c (HX.out W (Below.refl _ _)).1
  have q2 := made_c (HX.out W (Below.refl _ _)).2.1
  obtain ⟨B, hB⟩ : ∃ B, B = w.heap.size := ⟨_, rfl⟩
  rw [← hB] at c1 c2 HX ⊢
  clear hB
  refine q1.mono ?_
  rintro e w' ⟨rfl, rfl⟩
  go_wp2_with fail
  refine q2.mono ?_
  rintro e w' ⟨rfl, rfl⟩
  go_wp2_with fail
  clear q1 q2
  have Q3 : Hid (∀ W', Below W.heap.size W W' → Calls Tryz.prog 40 #[.pointer (some ⟨x, 0, none⟩)] W' fun e w' => e = .returned (.int .i64 (k : Int)) ∧ W' = w') := fun W' hW => cols_c (HX.out W' hW).1 (by have := HH.out.2.2.2; omega)
  have Q4 : Hid (∀ W', Below W.heap.size W W' → Calls Tryz.prog 39 #[.pointer (some ⟨y, 0, none⟩)] W' fun e w' => e = .returned (.int .i64 (k : Int)) ∧ W' = w') := fun W' hW => rows_c (HX.out W' hW).2.1
  have Q5 : Hid (∀ W', Below W.heap.size W W' → Calls Tryz.prog 39 #[.pointer (some ⟨x, 0, none⟩)] W' fun e w' => e = .returned (.int .i64 (n : Int)) ∧ W' = w') := fun W' hW => rows_c (HX.out W' hW).1
  have Q6 : Hid (∀ W', Below W.heap.size W W' → Calls Tryz.prog 40 #[.pointer (some ⟨y, 0, none⟩)] W' fun e w' => e = .returned (.int .i64 (m : Int)) ∧ W' = w') := fun W' hW => cols_c (HX.out W' hW).2.1 (by have := HH.out.2.2.2; omega)
  have Q7 : Hid (∀ W', Below W.heap.size W W' → Calls Tryz.prog 85 #[(modF gm), .int .i64 (n : Int), .int .i64 (m : Int), .func (.func 105) #[] #[.pointer (some ⟨B, 0, none⟩), .pointer (some ⟨B + 1, 0, none⟩)]] W' fun e w' => ∃ z, e = .returned (.pointer (some ⟨z, 0, none⟩)) ∧ Mtx gm w' z n m ((Fp p hp).mulm k M N) ∧ Below W.heap.size W w' ∧ ∀ G w7, G < W.heap.size → w'.grownBy w7 (some G) → Mtx gm w7 z n m ((Fp p hp).mulm k M N)) := fun W' hW =>
    (laid_s n m 105 #[.pointer (some ⟨B, 0, none⟩), .pointer (some ⟨B + 1, 0, none⟩)] ((Fp p hp).mulm k M N) W' (by have := HH.out.2.2.2; omega) (by have := HH.out.2.2.2; omega) (enters_of Tryz.func105 (by kernel_rfl) rfl) (fun i j w' hi hj hb => by
      obtain ⟨a1, a2, a3, a4, a5, a6⟩ := HX.out w' (Below.step hW hb)
      exact mul1_c (hp := hp) x y B (B + 1) k i j a1 a2 a6 hi hj (by have := HH.out.2.2.2; omega) a3 a4)).mono fun e w' ⟨z, a, b, c, d⟩ => ⟨z, a, b, Below.step hW c, fun G w7 hG hg7 => d G w7 (Nat.lt_of_lt_of_le hG hW.size) hg7⟩
  go_region_held3 (fun w' => w'.cell? ⟨B, 0, none⟩ = some (.pointer (some ⟨x, 0, none⟩)) ∧ w'.cell? ⟨B + 1, 0, none⟩ = some (.pointer (some ⟨y, 0, none⟩))) (go_keep)
    (first
      | (go_at_call 40; (with_reducible refine (Q3.out _ ?bb).mono ?_); (case bb => (repeat (first | with_reducible exact Below.refl _ _ | with_reducible refine Below.drew ?_))); rintro e w2 ⟨rfl, rfl⟩)
      | (go_at_call 39; (with_reducible refine (Q4.out _ ?bb).mono ?_); (case bb => (repeat (first | with_reducible exact Below.refl _ _ | with_reducible refine Below.drew ?_))); rintro e w2 ⟨rfl, rfl⟩))
  go_wp2_with fail
  have HX2 : Hid (∀ W', Below W.heap.size W W' → W'.cell? ⟨B, 0, none⟩ = some (.pointer (some ⟨x, 0, none⟩)) ∧ W'.cell? ⟨B + 1, 0, none⟩ = some (.pointer (some ⟨y, 0, none⟩)) ∧ W'.cell? ⟨x, 0, none⟩ = some (modF gm)) := fun W' hW => ⟨(HX.out W' hW).2.2.1, (HX.out W' hW).2.2.2.1, (HX.out W' hW).2.2.2.2.1⟩
  go_region_held3 (fun w' => w'.cell? ⟨B, 0, none⟩ = some (.pointer (some ⟨x, 0, none⟩)) ∧ w'.cell? ⟨B + 1, 0, none⟩ = some (.pointer (some ⟨y, 0, none⟩)) ∧ w'.cell? ⟨x, 0, none⟩ = some (modF gm)) (first | go_keep | exact HX2.out _ q9)
    (first
      | (go_at_call 39; (with_reducible refine (Q5.out _ ?bb).mono ?_); (case bb => (repeat (first | with_reducible exact Below.refl _ _ | with_reducible refine Below.drew ?_))); rintro e w2 ⟨rfl, rfl⟩)
      | (go_at_call 40; (with_reducible refine (Q6.out _ ?bb).mono ?_); (case bb => (repeat (first | with_reducible exact Below.refl _ _ | with_reducible refine Below.drew ?_))); rintro e w2 ⟨rfl, rfl⟩)
      | (go_at_call 85; (with_reducible refine (Q7.out _ ?bb).mono ?_); (case bb => (repeat (first | with_reducible exact Below.refl _ _ | with_reducible refine Below.drew ?_))); rintro e w2 ⟨z, rfl, hz, q9, hlw⟩; have HZ := hide (And.intro hz hlw); clear hz hlw))
  all_goals
    go_wp2
    go_ret2
    exact ⟨z, rfl, HZ.out.1, HB.out.trans (q9.mono HB.out.size), fun G w7 hG hg7 => HZ.out.2 G w7 (Nat.lt_of_lt_of_le hG HB.out.size) hg7⟩
end
end Go.Proofs.YtoaaplngdomdcaaGreat.MV

/- Matrices of words: Same, Pick. -/
namespace Go.Proofs.YtoaaplngdomdcaaGreat.MV
open Go.RowKit

/-- Is it so? -/
noncomputable def soB (p : Prop) : Bool := @decide p (Classical.propDecidable p)
theorem soB_true {p : Prop} (h : p) : soB p = true := @decide_eq_true _ (Classical.propDecidable _) h
theorem soB_false {p : Prop} (h : ¬ p) : soB p = false := @decide_eq_false _ (Classical.propDecidable _) h
section
variable {p gm : Nat} {hp : 0 < p}
variable {w : World} {base g n m : Nat} {M : Nat → Nat → (Fin p)}

set_option maxHeartbeats 800000 in
theorem equal_c (A B : Option Addr) (c d m : Nat) (r s : Nat → (Fin p)) (w : World) (hm : m ≤ 140737488355328) (ha : ∀ j, j < m → ∃ b o, A = some ⟨b, o, none⟩ ∧ w.cell? ⟨b, o + j, none⟩ = some (.int .u32 ((Fin.val (r j) : Nat) : Int)))
    (hb : ∀ j, j < m → ∃ b o, B = some ⟨b, o, none⟩ ∧ w.cell? ⟨b, o + j, none⟩ = some (.int .u32 ((Fin.val (s j) : Nat) : Int))) :
    Calls Tryz.prog 111 #[.slice A m c, .slice B m d] w fun e w' => e = .returned (.bool (soB (∀ j, j < m → r j = s j))) ∧ Dr w w' := by
  have hne : ((m : Int) != (m : Int)) = false := by simp
  have HA := hide ha
  have HB := hide hb
  clear ha hb
  go_enter Tryz.func111, Tryz.ntmps111
  go_wp2
  go_loopw [5, 13] (fun _ u13 wr => ∃ k : Nat, k ≤ m ∧ u13 = .int .i64 (k : Int) ∧ (∀ j, j < k → r j = s j) ∧ Dr w wr) (fun _ u13 _ => m - (intOf u13).toNat)
  case atStart => exact ⟨0, by omega, rfl, fun j h => by omega, Dr.refl _⟩
  case round =>
    obtain ⟨k, hk, rfl, hq, hw⟩ := hrel
    have HQ := hide hq
    clear hq
    by_cases hlt : k < m
    · obtain ⟨b, o, rfl, hx⟩ := HA.out k hlt
      obtain ⟨b2, o2, rfl, hy⟩ := HB.out k hlt
      rw [← hw.cell] at hx hy
      have i1 : (k : Int) < (m : Int) := by omega
      have i3 : (0 : Int) ≤ (k : Int) := by omega
      by_cases hxy : r k = s k
      · have HE := hide hxy
        rw [← hxy] at hy
        obtain ⟨x, hx0⟩ : ∃ x, x = r k := ⟨_, rfl⟩
        rw [← hx0] at hx hy
        clear hxy hx0
        have hd : (((Fin.val x : Nat) : Int) != ((Fin.val x : Nat) : Int)) = false := by simp
        go_wp2
        go_quiet (fail)
        go_wp2
        go_roundw
        case rel => exact ⟨k + 1, by omega, by go_num, fun j hj => (by
          rcases Nat.lt_or_ge j k with h | h
          · exact HQ.out j h
          · rw [show j = k by omega]; exact HE.out), hw.drewN _⟩
        case measure => simp [intOf]; omega
      · have HE := hide hxy
        have hd : (((Fin.val (r k) : Nat) : Int) != ((Fin.val (s k) : Nat) : Int)) = true := by rw [bne_iff_ne]; exact fun h => hxy (en_inj.1 h)
        obtain ⟨x, hrx⟩ : ∃ x, x = r k := ⟨_, rfl⟩
        obtain ⟨y, hsy⟩ : ∃ y, y = s k := ⟨_, rfl⟩
        rw [← hrx] at hx hd
        rw [← hsy] at hy hd
        clear hrx hsy hxy
        go_wp2
        go_quiet (fail)
        go_wp2
        go_ret
        exact ⟨ret_bool (soB_false fun h => HE.out (h k hlt)).symm, hw.drewN _⟩
    · have hge : ¬ ((k : Int) < (m : Int)) := by omega
      go_wp2
      go_ret
      exact ⟨ret_bool (soB_true fun j hj => HQ.out j (by omega)).symm, hw⟩

set_option maxHeartbeats 1600000 in
theorem eqf_c (u v : Value) {N : Nat → Nat → (Fin p)} (h1 : Rd en w u n m M) (h2 : Rd en w v n m N) (hn : n ≤ 4096) (hm : m ≤ 140737488355328) :
    Calls Tryz.prog 110 #[u, v, .func (.func 111) #[] #[]] w fun e w' => e = .returned (.bool (soB (∀ i j, i < n → j < m → M i j = N i j))) ∧ Dr w w' := by
  obtain ⟨A, c, rfl, _, hcm, ha⟩ := h1
  obtain ⟨B, d, rfl, _, hdm, hb⟩ := h2
  unfold maxLen at hcm hdm
  have hne : ((n : Int) != (n : Int)) = false := by simp
  have HA := hide ha
  have HB := hide hb
  clear ha hb hcm hdm
  go_enter Tryz.func110, Tryz.ntmps110
  go_wp2
  go_loopw [7, 8, 9, 17] (fun _ _ _ u17 wr => ∃ k : Nat, k ≤ n ∧ u17 = .int .i64 (k : Int) ∧ (∀ i j, i < k → j < m → M i j = N i j) ∧ Dr w wr) (fun _ _ _ u17 _ => n - (intOf u17).toNat)
  case atStart => exact ⟨0, by omega, rfl, fun i j h => by omega, Dr.refl _⟩
  case round =>
    obtain ⟨k, hk, rfl, hq, hw⟩ := hrel
    have HQ := hide hq
    clear hq
    by_cases hlt : k < n
    · obtain ⟨b, o, A2, c2, rfl, _, hx, _, _, hx2⟩ := HA.out k hlt
      obtain ⟨b2, o2, B2, d2, rfl, _, hy, _, _, hy2⟩ := HB.out k hlt
      have q := equal_c A2 B2 c2 d2 m (M k) (N k) wr hm (fun j hj => by
        obtain ⟨b, o, e, _, hc⟩ := hx2 j hj
        exact ⟨b, o, e, (hw.cell _).trans hc⟩) (fun j hj => by
        obtain ⟨b, o, e, _, hc⟩ := hy2 j hj
        exact ⟨b, o, e, (hw.cell _).trans hc⟩)
      rw [← hw.cell] at hx hy
      have i1 : (k : Int) < (n : Int) := by omega
      have i3 : (0 : Int) ≤ (k : Int) := by omega
      clear hx2 hy2
      by_cases hxy : ∀ j, j < m → M k j = N k j
      · rw [soB_true hxy] at q
        have HE := hide hxy
        clear hxy
        go_wp2_with fail
        refine q.mono ?_
        rintro e w2 ⟨rfl, hd2⟩
        go_wp2
        go_roundw
        case rel => exact ⟨k + 1, by omega, by go_num, fun i j hi hj => (by
          rcases Nat.lt_or_ge i k with h | h
          · exact HQ.out i j h hj
          · rw [show i = k by omega]; exact HE.out j hj), (by obtain ⟨a, rfl⟩ := hd2; exact hw.drewN a)⟩
        case measure => simp [intOf]; omega
      · rw [soB_false hxy] at q
        have HE := hide hxy
        clear hxy
        go_wp2_with fail
        refine q.mono ?_
        rintro e w2 ⟨rfl, hd2⟩
        go_wp2
        go_ret
        exact ⟨ret_bool (soB_false fun h => HE.out fun j hj => h k j hlt hj).symm, (by obtain ⟨a, rfl⟩ := hd2; exact hw.drewN a)⟩
    · have hge : ¬ ((k : Int) < (n : Int)) := by omega
      go_wp2
      go_ret
      exact ⟨ret_bool (soB_true fun i j hi hj => HQ.out i j (by omega) hj).symm, hw⟩

set_option maxRecDepth 100000 in
set_option maxHeartbeats 1600000 in
theorem same_c (x y : Nat) {N : Nat → Nat → (Fin p)} (h1 : Mtx gm w x n m M) (h2 : Mtx gm w y n m N) (hn : n ≤ 4096) (hm : m ≤ 140737488355328) :
    Calls Tryz.prog 58 #[.pointer (some ⟨x, 0, none⟩), .pointer (some ⟨y, 0, none⟩)] w fun e w' => e = .returned (.bool (soB (∀ i j, i < n → j < m → M i j = N i j))) ∧ Dr w w' := by
  have Q1 := hide (fun k : Nat => made_c (h1.below (below_drewN (Below.refl _ w) k)))
  have Q2 := hide (fun k : Nat => made_c (h2.below (below_drewN (Below.refl _ w) k)))
  obtain ⟨u, hb1, hr1⟩ := h1
  obtain ⟨v, hb2, hr2⟩ := h2
  have c1 : w.cell? ⟨x, 1, none⟩ = some u := by rw [hb1.cell]; rfl
  have c2 : w.cell? ⟨y, 1, none⟩ = some v := by rw [hb2.cell]; rfl
  have Q3 := hide (fun k : Nat => eqf_c u v (hr1.below (below_drewN (Below.refl _ w) k)) (hr2.below (below_drewN (Below.refl _ w) k)) hn hm)
  obtain ⟨A, c, rfl, _⟩ := hr1
  obtain ⟨B, d, rfl, _⟩ := hr2
  generalize soB (∀ i j, i < n → j < m → M i j = N i j) = z at *
  clear hb1 hb2 
  go_enter Tryz.func58, Tryz.ntmps58
  go_wp2
  go_quiet (first
    | (go_at_call 92; first | (with_reducible exact Calls.quiet_of_same ((Q1.out _).mono fun _ _ ⟨a, b⟩ => ⟨a, b.symm⟩)) | (with_reducible exact Calls.quiet_of_same ((Q2.out _).mono fun _ _ ⟨a, b⟩ => ⟨a, b.symm⟩)))
    | (go_at_call 110; with_reducible exact Calls.quiet_of (Q3.out _)))
  go_wp2
  go_ret
  exact ⟨rfl, _, rfl⟩
end
end Go.Proofs.YtoaaplngdomdcaaGreat.MV

/- Matrices of words: Pick. -/
namespace Go.Proofs.YtoaaplngdomdcaaGreat.MV
open Go.RowKit
section
variable {p gm : Nat} {hp : 0 < p}
variable {w : World} {base g n m : Nat} {M : Nat → Nat → (Fin p)}

set_option maxHeartbeats 1600000 in
theorem pick1_c (x b1 b2 i r j : Nat) (v : Value) (L : List Nat) (h : Mtx gm w x n m M) (hv : Ny w .i64 v L) (hi : L[i]? = some r) (hr : r < n) (hj : j < m) (c1 : w.cell? ⟨b1, 0, none⟩ = some (.pointer (some ⟨x, 0, none⟩))) (c2 : w.cell? ⟨b2, 0, none⟩ = some v) :
    Calls Tryz.prog 115 #[.int .i64 (i : Int), .int .i64 (j : Int), .pointer (some ⟨b1, 0, none⟩), .pointer (some ⟨b2, 0, none⟩)] w fun e w' => e = .returned (.int .u32 ((Fin.val (M r j) : Nat) : Int)) ∧ Below w.heap.size w w' := by
  obtain ⟨A, c, _, h1, _, _, h2⟩ := Mt.form h
  obtain ⟨b, o, B, d, rfl, _, h3, _, _, h4⟩ := h2 r hr
  obtain ⟨b3, o3, rfl, _, h5⟩ := h4 j hj
  obtain ⟨E, e, rfl, _, _, h6⟩ := hv.form
  obtain ⟨b4, o4, rfl, _, h7⟩ := h6 i r hi
  generalize M r j = y at *
  have hlt : i < L.length := (List.getElem?_eq_some_iff.1 hi).1
  have i0 : (i : Int) < (L.length : Int) := by omega
  have i00 : (0 : Int) ≤ (i : Int) := by omega
  have i1 : (r : Int) < (n : Int) := by omega
  have i2 : (0 : Int) ≤ (r : Int) := by omega
  have i3 : (j : Int) < (m : Int) := by omega
  have i4 : (0 : Int) ≤ (j : Int) := by omega
  clear h h2 h4 h6 hi hv
  go_enter Tryz.func115, Tryz.ntmps115
  go_wp2
  go_quiet (fail)
  go_wp2
  go_ret
  exact ⟨rfl, by first | exact Below.refl _ _ | exact below_drewN (Below.refl _ _) _⟩

set_option maxRecDepth 100000 in
set_option maxHeartbeats 4000000 in
theorem pick_ok (x : Nat) (v : Value) (L : List Nat) (h : Mtx gm w x n m M) (hv : Ny w .i64 v L) (hL : 1 ≤ L.length ∧ L.length ≤ 256) (hr : ∀ (i r : Nat), L[i]? = some r → r < n) (hm : m ≤ 256) :
    Calls Tryz.prog 64 #[.pointer (some ⟨x, 0, none⟩), v] w fun e w' => ∃ z, e = .returned (.tuple #[.pointer (some ⟨z, 0, none⟩), .int .i64 0]) ∧ Mtx gm w' z L.length m (fun i j => M (L.getD i 0) j) ∧ Below w.heap.size w w' := by
  have HV0 := hide hv
  obtain ⟨E, e, rfl, hle, hlm, hcell⟩ := hv.form
  have n1 := (Blk.new w 30 #[.pointer (some ⟨x, 0, none⟩)]).alloc (.cells #[.slice E L.length e] 55)
  have n2 := Blk.new (w.alloc (.cells #[.pointer (some ⟨x, 0, none⟩)] 30)) 55 #[.slice E L.length e]
  have b1 := ((Below.refl w.heap.size w).alloc (Nat.le_refl _) (.cells #[.pointer (some ⟨x, 0, none⟩)] 30)).alloc (by simp) (.cells #[.slice E L.length e] 55)
  simp only [World.size_alloc] at n2
  have hn1 : 1 ≤ n := by
    obtain ⟨r, hr0⟩ : ∃ r, L[0]? = some r := ⟨_, List.getElem?_eq_getElem (by omega)⟩
    have := hr 0 r hr0
    omega
  have HH := hide (And.intro h (And.intro hL (And.intro hr (And.intro hn1 hm))))
  have HC := hide hcell
  have l1 : ¬ (L.length : Int) < 1 := by omega
  have l2 : ¬ (L.length : Int) > 256 := by omega
  clear h hv hcell hr hn1 hm hle hlm
  go_enter Tryz.func64, Tryz.ntmps64
  go_wp2_with fail
  generalize (w.alloc (.cells #[.pointer (some ⟨x, 0, none⟩)] 30)).alloc (.cells #[.slice E L.length e] 55) = W at n1 n2 b1 ⊢
  obtain ⟨B, hB⟩ : ∃ B, B = w.heap.size := ⟨_, rfl⟩
  rw [← hB] at n1 n2 ⊢
  have HX : Hid (∀ W', Below W.heap.size W W' → Mtx gm W' x n m M ∧ Ny W' .i64 (.slice E L.length e) L ∧ W'.cell? ⟨B, 0, none⟩ = some (.pointer (some ⟨x, 0, none⟩)) ∧ W'.cell? ⟨B + 1, 0, none⟩ = some (.slice E L.length e) ∧ W'.cell? ⟨x, 0, none⟩ = some (modF gm)) := fun W' hW => by
    have e1 := (HH.out.1.below b1).below hW
    obtain ⟨_, _, c0, _⟩ := Mt.form e1
    exact ⟨e1, (HV0.out.below b1).below hW, by rw [(n1.below' hW).cell]; rfl, by rw [(n2.below' hW).cell]; rfl, c0⟩
  have HCW : Hid (∀ (i r : Nat), L[i]? = some r → ∃ b o, E = some ⟨b, o, none⟩ ∧ W.cell? ⟨b, o + i, none⟩ = some (.int .i64 (r : Int))) := fun i r hi => by
    obtain ⟨b, o, e1, e2, e3⟩ := HC.out i r hi
    exact ⟨b, o, e1, (b1.cell (p := ⟨b, o + i, none⟩) e2).trans e3⟩
  have HB := hide b1
  clear n1 n2 b1 hB HC
  obtain ⟨_, _, c1, c2, c3⟩ := HX.out W (Below.refl _ _)
  have q1 := made_c (HX.out W (Below.refl _ _)).1
  have q2 := rows_c (HX.out W (Below.refl _ _)).1
  refine q1.mono ?_
  rintro e w' ⟨rfl, rfl⟩
  clear q1
  go_wp2_with fail
  go_loopw [7, 21] (fun _ u21 wr => ∃ k : Nat, k ≤ L.length ∧ u21 = .int .i64 (k : Int) ∧ W = wr) (fun _ u21 _ => L.length - (intOf u21).toNat)
  case atStart => exact ⟨0, by omega, rfl, rfl⟩
  case round =>
    obtain ⟨k, hk, rfl, rfl⟩ := hrel
    by_cases hlt : k < L.length
    · obtain ⟨r, hr0⟩ : ∃ r, L[k]? = some r := ⟨_, List.getElem?_eq_getElem hlt⟩
      obtain ⟨b, o, rfl, hcx⟩ := HCW.out k r hr0
      have hrn := HH.out.2.2.1 k r hr0
      have i1 : (k : Int) < (L.length : Int) := by omega
      have i2 : (0 : Int) ≤ (k : Int) := by omega
      have i3 : ¬ (r : Int) < 0 := by omega
      have i4 : ¬ (r : Int) ≥ (n : Int) := by omega
      clear hr0
      go_wp2_with fail
      refine q2.mono ?_
      rintro e w' ⟨rfl, rfl⟩
      go_wp2
      go_roundw
      case rel => exact ⟨k + 1, by omega, by go_num, trivial⟩
      case measure => simp [intOf]; omega
    · have hge : ¬ ((k : Int) < (L.length : Int)) := by omega
      have Q6 : Hid (∀ W', Below W.heap.size W W' → Calls Tryz.prog 40 #[.pointer (some ⟨x, 0, none⟩)] W' fun e w' => e = .returned (.int .i64 (m : Int)) ∧ W' = w') := fun W' hW => cols_c (HX.out W' hW).1 (by have := HH.out.2.2.2.1; omega)
      have Q7 : Hid (∀ W', Below W.heap.size W W' → Calls Tryz.prog 85 #[(modF gm), .int .i64 (L.length : Int), .int .i64 (m : Int), .func (.func 115) #[] #[.pointer (some ⟨B, 0, none⟩), .pointer (some ⟨B + 1, 0, none⟩)]] W' fun e w' => ∃ z, e = .returned (.pointer (some ⟨z, 0, none⟩)) ∧ Mtx gm w' z L.length m (fun i j => M (L.getD i 0) j) ∧ Below W.heap.size W w') := fun W' hW =>
        (laid_c L.length m 115 #[.pointer (some ⟨B, 0, none⟩), .pointer (some ⟨B + 1, 0, none⟩)] (fun i j => M (L.getD i 0) j) W' HH.out.2.1.2 HH.out.2.2.2.2 (enters_of Tryz.func115 (by kernel_rfl) rfl) (fun i j w' hi hj hb => by
          obtain ⟨a1, a2, a3, a4, a5⟩ := HX.out w' (Below.step hW hb)
          obtain ⟨r, hr0⟩ : ∃ r, L[i]? = some r := ⟨_, List.getElem?_eq_getElem hi⟩
          have e0 : L.getD i 0 = r := by rw [List.getD_eq_getElem?_getD, hr0]; rfl
          rw [e0]
          exact pick1_c x B (B + 1) i r j _ L a1 a2 hr0 (HH.out.2.2.1 i r hr0) hj a3 a4)).mono fun e w' ⟨z, a, b, c⟩ => ⟨z, a, b, Below.step hW c⟩
      have HX2 : Hid (∀ W', Below W.heap.size W W' → W'.cell? ⟨B, 0, none⟩ = some (.pointer (some ⟨x, 0, none⟩)) ∧ W'.cell? ⟨B + 1, 0, none⟩ = some (.slice E L.length e) ∧ W'.cell? ⟨x, 0, none⟩ = some (modF gm)) := fun W' hW => (HX.out W' hW).2.2
      clear q2
      go_wp2_with fail
      go_region_held3 (fun w' => w'.cell? ⟨B, 0, none⟩ = some (.pointer (some ⟨x, 0, none⟩)) ∧ w'.cell? ⟨B + 1, 0, none⟩ = some (.slice E L.length e) ∧ w'.cell? ⟨x, 0, none⟩ = some (modF gm)) (first | go_keep | exact HX2.out _ q9)
        (first
          | (go_at_call 40; (with_reducible refine (Q6.out _ ?bb).mono ?_); (case bb => (repeat (first | with_reducible exact Below.refl _ _ | with_reducible refine Below.drew ?_))); rintro e w2 ⟨rfl, rfl⟩)
          | (go_at_call 85; (with_reducible refine (Q7.out _ ?bb).mono ?_); (case bb => (repeat (first | with_reducible exact Below.refl _ _ | with_reducible refine Below.drew ?_))); rintro e w2 ⟨z, rfl, hz, q9⟩; have HZ := hide hz; clear hz))
      all_goals
        go_wp2
        go_ret2
        exact ⟨z, rfl, HZ.out, HB.out.trans (q9.mono HB.out.size)⟩
end
end Go.Proofs.YtoaaplngdomdcaaGreat.MV

/- What the statements call a matrix, over words: mul, inverse, same, at, there, identity. -/
namespace Go.Proofs.YtoaaplngdomdcaaGreat.MV
open Go.RowKit
section
variable {p gm : Nat} {hp : 0 < p}
variable {w : World} {base g n m : Nat} {M : Nat → Nat → (Fin p)}

set_option maxHeartbeats 1600000 in
theorem there_c (g : Nat) (w : World) : Calls Tryz.prog 11 #[.agg #[.pointer none, .pointer (some ⟨g, 0, none⟩)]] w fun e w' => e = .returned (.bool true) ∧ Below w.heap.size w w' := by
  have b1 := (Below.refl w.heap.size w).alloc (Nat.le_refl _) (.cells #[.pointer none, .pointer (some ⟨g, 0, none⟩)] 32)
  have HB := hide b1
  clear b1
  go_enter Tryz.func11, Tryz.ntmps11
  go_wp2
  go_ret
  exact ⟨rfl, HB.out⟩
set_option maxHeartbeats 1600000 in
theorem there_none (w : World) : Calls Tryz.prog 11 #[.agg #[.pointer none, .pointer none]] w fun e w' => e = .returned (.bool false) ∧ Below w.heap.size w w' := by
  have b1 := (Below.refl w.heap.size w).alloc (Nat.le_refl _) (.cells #[.pointer none, .pointer none] 32)
  have HB := hide b1
  clear b1
  go_enter Tryz.func11, Tryz.ntmps11
  go_wp2
  go_ret
  exact ⟨rfl, HB.out⟩
set_option maxHeartbeats 1600000 in
theorem msame_c (x y : Nat) {N : Nat → Nat → (Fin p)} (h1 : Mtx gm w x n m M) (h2 : Mtx gm w y n m N) (hn : n ≤ 4096) (hm : m ≤ 4096) :
    Calls Tryz.prog 17 #[.agg #[.pointer none, .pointer (some ⟨x, 0, none⟩)], .agg #[.pointer none, .pointer (some ⟨y, 0, none⟩)]] w fun e w' => e = .returned (.bool (soB (∀ i j, i < n → j < m → M i j = N i j))) ∧ Below w.heap.size w w' := by
  have b1 := ((Below.refl w.heap.size w).alloc (Nat.le_refl _) (.cells #[.pointer none, .pointer (some ⟨x, 0, none⟩)] 32)).alloc (by simp) (.cells #[.pointer none, .pointer (some ⟨y, 0, none⟩)] 32)
  have q := same_c x y (h1.below b1) (h2.below b1) hn (by omega)
  have HB := hide b1
  generalize soB (∀ i j, i < n → j < m → M i j = N i j) = z at *
  clear b1 h1 h2
  go_enter Tryz.func17, Tryz.ntmps17
  go_wp2_with fail
  refine q.mono ?_
  rintro e w2 ⟨rfl, hd⟩
  have HD := hide (HB.out.trans (hd.below.mono HB.out.size))
  clear q hd
  go_wp2
  go_ret
  exact ⟨rfl, HD.out⟩
set_option maxRecDepth 100000 in
set_option maxHeartbeats 1600000 in
theorem minv_c (h : Mtx gm w g n n M) (hk : (Fk p gm) w) (hn : 1 ≤ n ∧ n ≤ 256) :
    Calls Tryz.prog 12 #[.agg #[.pointer none, .pointer (some ⟨g, 0, none⟩)]] w fun e w' => Below w.heap.size w w' ∧
      (((Fp p hp).rank n M = n ∧ ∃ x, e = .returned (.tuple #[.agg #[.pointer none, .pointer (some ⟨x, 0, none⟩)], .int .i64 0]) ∧ Mtx gm w' x n n ((Fp p hp).invM n M)) ∨ ((Fp p hp).rank n M ≠ n ∧ e = .returned (.tuple #[.agg #[.pointer none, .pointer none], .int .i64 71]))) := by
  have b1 := ((Below.refl w.heap.size w).alloc (Nat.le_refl _) (.cells #[.pointer none, .pointer (some ⟨g, 0, none⟩)] 32)).alloc (by simp) (.cells #[.pointer none, .pointer none] 32)
  have n2 := Blk.new (w.alloc (.cells #[.pointer none, .pointer (some ⟨g, 0, none⟩)] 32)) 32 #[.pointer none, .pointer none]
  have q := inverse_c (hp := hp) (h.below b1) (hk.below b1) hn
  simp only [World.size_alloc] at n2
  have HB := hide (And.intro b1 n2)
  clear b1 n2 h hk
  go_enter Tryz.func12, Tryz.ntmps12
  go_wp2_with fail
  refine q.mono ?_
  rintro e w2 ⟨hb2, ⟨hr, x, rfl, hx, hlw⟩ | ⟨hr, rfl⟩⟩
  · have hblk := HB.out.2.below' hb2
    have hkeep : ∀ w7, w2.grownBy w7 (some (w.heap.size + 1)) → Mtx gm w7 x n n ((Fp p hp).invM n M) := fun w7 hg => hlw _ w7 (by simp) hg
    have H2 := hide (And.intro hr (And.intro hx (And.intro hkeep (HB.out.1.trans (hb2.mono HB.out.1.size)))))
    clear q hr hx hb2 hlw hkeep
    go_wp2_with ((with_reducible change wpList _ _ _ (⟨none, .store _ (.tmp 2) _, _, _, _, _⟩ :: _) _ _); go_loud (refine wpList_store_row (o := ⟨none, .store _ (.tmp 2) _, _, _, _, _⟩) hblk #[.pointer none, .pointer (some ⟨x, 0, none⟩)] rfl (by simp [Value.oneCell']) rfl 32 _ _ rfl (by kernel_rfl) rfl rfl ?_; intro w7 hb7 hg7))
    have hx7 := H2.out.2.2.1 w7 hg7
    refine bodyPost_ret (results_row_tmp rfl _ _ (w.heap.size + 1) 32 #[.pointer none, .pointer (some ⟨x, 0, none⟩)] (0, 0) _ rfl hb7 Tryz.underlying32 rfl (by kernel_rfl)) rfl ⟨H2.out.2.2.2.grown hg7 H2.out.2.2.2.size fun k hk => (by injection hk with hk; omega), .inl ⟨H2.out.1, x, rfl, hx7⟩⟩
  · have hblk := HB.out.2.below' hb2
    have H2 := hide (And.intro hr (HB.out.1.trans (hb2.mono HB.out.1.size)))
    clear q hr hb2
    go_wp2_with ((with_reducible change wpList _ _ _ (⟨none, .store _ (.tmp 2) _, _, _, _, _⟩ :: _) _ _); go_loud (refine wpList_store_row (o := ⟨none, .store _ (.tmp 2) _, _, _, _, _⟩) hblk #[.pointer none, .pointer none] rfl (by simp [Value.oneCell']) rfl 32 _ _ rfl (by kernel_rfl) rfl rfl ?_; intro w7 hb7 hg7))
    exact bodyPost_ret (results_row_tmp rfl _ _ (w.heap.size + 1) 32 #[.pointer none, .pointer none] (0, 0) _ rfl hb7 Tryz.underlying32 rfl (by kernel_rfl)) rfl ⟨H2.out.2.grown hg7 H2.out.2.size fun k hk => (by injection hk with hk; omega), .inr ⟨H2.out.1, rfl⟩⟩
end
end Go.Proofs.YtoaaplngdomdcaaGreat.MV

/- What the statements call a matrix, over words: products, single elements, the identity. -/
namespace Go.Proofs.YtoaaplngdomdcaaGreat.MV
open Go.RowKit
section
variable {p gm : Nat} {hp : 0 < p}
variable {w : World} {base g n m : Nat} {M : Nat → Nat → (Fin p)}

set_option maxRecDepth 100000 in
set_option maxHeartbeats 1600000 in
theorem mmul_c (x y k : Nat) {N : Nat → Nat → (Fin p)} (h : Mtx gm w x n k M) (h2 : Mtx gm w y k m N) (hf : (Fk p gm) w) (hn : 1 ≤ n ∧ n ≤ 256) (hk : 1 ≤ k ∧ k ≤ 256) (hm : m ≤ 256) :
    Calls Tryz.prog 16 #[.agg #[.pointer none, .pointer (some ⟨x, 0, none⟩)], .agg #[.pointer none, .pointer (some ⟨y, 0, none⟩)]] w fun e w' => ∃ z, e = .returned (.tuple #[.agg #[.pointer none, .pointer (some ⟨z, 0, none⟩)], .int .i64 0]) ∧ Mtx gm w' z n m ((Fp p hp).mulm k M N) ∧ Below w.heap.size w w' := by
  have b1 := (((Below.refl w.heap.size w).alloc (Nat.le_refl _) (.cells #[.pointer none, .pointer (some ⟨x, 0, none⟩)] 32)).alloc (by simp) (.cells #[.pointer none, .pointer (some ⟨y, 0, none⟩)] 32)).alloc (by simp; omega) (.cells #[.pointer none, .pointer none] 32)
  have n2 := Blk.new ((w.alloc (.cells #[.pointer none, .pointer (some ⟨x, 0, none⟩)] 32)).alloc (.cells #[.pointer none, .pointer (some ⟨y, 0, none⟩)] 32)) 32 #[.pointer none, .pointer none]
  have q := mul_c (hp := hp) x y k (h.below b1) (h2.below b1) (hf.below b1) hn hk hm
  simp only [World.size_alloc] at n2
  have HB := hide (And.intro b1 n2)
  clear b1 n2 h h2 hf
  go_enter Tryz.func16, Tryz.ntmps16
  go_wp2_with fail
  refine q.mono ?_
  rintro e w2 ⟨z, rfl, hz, hb2, hlw⟩
  have hblk := HB.out.2.below' hb2
  have hkeep : ∀ w7, w2.grownBy w7 (some (w.heap.size + 1 + 1)) → Mtx gm w7 z n m ((Fp p hp).mulm k M N) := fun w7 hg => hlw _ w7 (by simp) hg
  have H2 := hide (And.intro hz (And.intro hkeep (HB.out.1.trans (hb2.mono HB.out.1.size))))
  clear q hz hb2 hlw hkeep
  go_wp2_with ((with_reducible change wpList _ _ _ (⟨none, .store _ (.tmp 4) _, _, _, _, _⟩ :: _) _ _); go_loud (refine wpList_store_row (o := ⟨none, .store _ (.tmp 4) _, _, _, _, _⟩) hblk #[.pointer none, .pointer (some ⟨z, 0, none⟩)] rfl (by simp [Value.oneCell']) rfl 32 _ _ rfl (by kernel_rfl) rfl rfl ?_; intro w7 hb7 hg7))
  have hx7 := H2.out.2.1 w7 hg7
  exact bodyPost_ret (results_row_tmp rfl _ _ (w.heap.size + 1 + 1) 32 #[.pointer none, .pointer (some ⟨z, 0, none⟩)] (0, 0) _ rfl hb7 Tryz.underlying32 rfl (by kernel_rfl)) rfl ⟨z, rfl, hx7, H2.out.2.2.grown hg7 H2.out.2.2.size fun k hk => (by injection hk with hk; omega)⟩

set_option maxHeartbeats 1600000 in
theorem mat_at_c (x i j : Nat) (h : Mtx gm w x n m M) (hi : i < n) (hj : j < m) :
    Calls Tryz.prog 14 #[.agg #[.pointer none, .pointer (some ⟨x, 0, none⟩)], .int .i64 (i : Int), .int .i64 (j : Int)] w fun e w' => e = .returned (.tuple #[.int .u32 ((Fin.val (M i j) : Nat) : Int), .int .i64 0]) ∧ Below w.heap.size w w' := by
  have b1 := (Below.refl w.heap.size w).alloc (Nat.le_refl _) (.cells #[.pointer none, .pointer (some ⟨x, 0, none⟩)] 32)
  have q := at_c (h.below b1) hi hj
  generalize M i j = z at *
  have HB := hide b1
  clear b1 h
  go_enter Tryz.func14, Tryz.ntmps14
  go_wp2_with fail
  refine q.mono ?_
  rintro e w2 ⟨rfl, rfl⟩
  clear q
  go_wp2
  go_ret2
  exact ⟨rfl, HB.out⟩

set_option maxRecDepth 100000 in
set_option maxHeartbeats 1600000 in
theorem mident_c (n : Nat) (w : World) (hk : (Fk p gm) w) (hn : 1 ≤ n ∧ n ≤ 256) (hp0 : 2 ≤ p) :
    Calls Tryz.prog 10 #[.int .u32 (p : Int), .pointer (some ⟨gm, 0, none⟩), .int .i64 (n : Int)] w fun e w' => ∃ z, e = .returned (.tuple #[.agg #[.pointer none, .pointer (some ⟨z, 0, none⟩)], .int .i64 0]) ∧ Mtx gm w' z n n (Fp p hp).ident ∧ Below w.heap.size w w' := by
  have b1 := (Below.refl w.heap.size w).alloc (Nat.le_refl _) (.cells #[.pointer none, .pointer none] 32)
  have n2 := Blk.new w 32 #[.pointer none, .pointer none]
  have q := ident_c (hp := hp) n _ (hk.below b1) hn
  have HB := hide (And.intro b1 n2)
  have i0 : ¬ (p : Int) = 0 := by omega
  clear b1 n2 hk
  go_enter Tryz.func10, Tryz.ntmps10
  go_wp2_with fail
  refine q.mono ?_
  rintro e w2 ⟨z, rfl, hz, hb2, hlw⟩
  have hblk := HB.out.2.below' hb2
  have hkeep : ∀ w7, w2.grownBy w7 (some w.heap.size) → Mtx gm w7 z n n (Fp p hp).ident := fun w7 hg => hlw _ w7 (by simp) hg
  have H2 := hide (And.intro hz (And.intro hkeep (HB.out.1.trans (hb2.mono HB.out.1.size))))
  clear q hz hb2 hlw hkeep
  go_wp2_with ((with_reducible change wpList _ _ _ (⟨none, .store _ (.tmp 6) _, _, _, _, _⟩ :: _) _ _); go_loud (refine wpList_store_row (o := ⟨none, .store _ (.tmp 6) _, _, _, _, _⟩) hblk #[.pointer none, .pointer (some ⟨z, 0, none⟩)] rfl (by simp [Value.oneCell']) rfl 32 _ _ rfl (by kernel_rfl) rfl rfl ?_; intro w7 hb7 hg7))
  have hx7 := H2.out.2.1 w7 hg7
  exact bodyPost_ret (results_row_tmp rfl _ _ w.heap.size 32 #[.pointer none, .pointer (some ⟨z, 0, none⟩)] (0, 0) _ rfl hb7 Tryz.underlying32 rfl (by kernel_rfl)) rfl ⟨z, rfl, hx7, H2.out.2.2.grown hg7 H2.out.2.2.size fun k hk => (by injection hk with hk; omega)⟩
end
end Go.Proofs.YtoaaplngdomdcaaGreat.MV

/- Matrices of words: New. -/
namespace Go.Proofs.YtoaaplngdomdcaaGreat.MV
open Go.RowKit
section
variable {p gm : Nat} {hp : 0 < p}

/-- A number as the field tells it. -/
def own (hp : 0 < p) (x : Nat) : Fin p := ⟨x % p, Nat.mod_lt _ hp⟩
set_option maxRecDepth 100000 in
set_option maxHeartbeats 1600000 in
theorem newc_c (i j cols : Nat) (l : List Nat) (x : Nat) (ve : Value) (b1 b2 b3 : Nat) (w : World) (hk : Fk p gm w) (hi : i ≤ 256) (hj : j ≤ 256) (hc : cols ≤ 256) (hl : Ny w .u32 ve l) (hx : l[i * cols + j]? = some x) (hxb : (x : Int) ≤ 4294967295)
    (c1 : w.cell? ⟨b1, 0, none⟩ = some (modF gm)) (c2 : w.cell? ⟨b2, 0, none⟩ = some ve) (c3 : w.cell? ⟨b3, 0, none⟩ = some (.int .i64 (cols : Int))) :
    Calls Tryz.prog 129 #[.int .i64 (i : Int), .int .i64 (j : Int), .pointer (some ⟨b1, 0, none⟩), .pointer (some ⟨b2, 0, none⟩), .pointer (some ⟨b3, 0, none⟩)] w fun e w' => e = .returned (.int .u32 ((Fin.val (own hp x) : Nat) : Int)) ∧ Below w.heap.size w w' := by
  obtain ⟨A, c, rfl, hlc, hcm, hcell⟩ := hl.form
  unfold maxLen at hcm
  obtain ⟨b, o, rfl, hbl, hcx⟩ := hcell _ x hx
  have hlt : i * cols + j < l.length := (List.getElem?_eq_some_iff.1 hx).1
  have hm : i * cols ≤ 65536 := Nat.le_trans (Nat.mul_le_mul hi hc) (by omega)
  have hw1 : IntKind.i64.wrap ((i : Int) * (cols : Int)) = ((i * cols : Nat) : Int) := by
    rw [← Int.natCast_mul]
    simp [IntKind.wrap, IntKind.bits, IntKind.signed]
    omega
  generalize i * cols = M at *
  obtain ⟨I, hI⟩ : ∃ I, I = M + j := ⟨_, rfl⟩
  have hw2 : IntKind.i64.wrap ((M : Int) + (j : Int)) = (I : Int) := by
    simp [IntKind.wrap, IntKind.bits, IntKind.signed]
    omega
  rw [← hI] at hlt hcx
  clear hI hx hcell hl
  have i1 : (I : Int) < (l.length : Int) := by omega
  have i2 : (0 : Int) ≤ (I : Int) := by omega
  have m1 := meth_zero (gm := gm)
  have m2 := meth_add (gm := gm)
  have m3 := ahead_add (gm := gm)
  have Q1 : Hid (∀ W, Below w.heap.size w W → Calls Tryz.prog 165 #[.pointer (some ⟨gm, 0, none⟩)] W fun e w' => e = .returned (.int .u32 0) ∧ W = w') := fun W _ => mzero_any _ W
  have Q2 : Hid (∀ W, Below w.heap.size w W → Calls Tryz.prog 22 #[.pointer (some ⟨gm, 0, none⟩), .int .u32 (x : Int), .int .u32 0] W fun e w' => e = .returned (.int .u32 ((Fin.val (own hp x) : Nat) : Int)) ∧ W = w') := fun W hW => by
    have := madd_any (.pointer (some ⟨gm, 0, none⟩)) p x 0 W (hk.2.2.below hW) hp hk.2.1 hxb (by omega)
    exact this
  generalize own hp x = z at *
  clear hk
  go_enter Tryz.func129, Tryz.ntmps129
  go_wp2
  go_region_held3 (fun w' => w'.cell? ⟨b1, 0, none⟩ = some (modF gm) ∧ w'.cell? ⟨b2, 0, none⟩ = some (.slice (some ⟨b, o, none⟩) l.length c) ∧ w'.cell? ⟨b3, 0, none⟩ = some (.int .i64 (cols : Int)) ∧ w'.cell? ⟨b, o + I, none⟩ = some (.int .u32 (x : Int))) (go_keep)
    (first
      | (go_at_call 165; (with_reducible refine (Q1.out _ ?bb).mono ?_); (case bb => (repeat (first | with_reducible exact Below.refl _ _ | with_reducible refine Below.drew ?_))); rintro e w' ⟨rfl, rfl⟩)
      | (go_at_call 22; (with_reducible refine (Q2.out _ ?bb).mono ?_); (case bb => (repeat (first | with_reducible exact Below.refl _ _ | with_reducible refine Below.drew ?_))); rintro e w' ⟨rfl, rfl⟩))
  all_goals go_wp2
  all_goals go_ret
  all_goals exact ⟨rfl, by repeat (first | exact Below.refl _ _ | refine Below.drew ?_)⟩

set_option maxRecDepth 100000 in
set_option maxHeartbeats 1600000 in
theorem new_c (rows cols : Nat) (E : Nat → Nat → Nat) (ve : Value) (l : List Nat) (w : World) (hk : Fk p gm w) (hr : 1 ≤ rows ∧ rows ≤ 256) (hc : 1 ≤ cols ∧ cols ≤ 256) (hl : Ny w .u32 ve l) (hlen : l.length = rows * cols)
    (hE : ∀ i j, i < rows → j < cols → l[i * cols + j]? = some (E i j)) (hb : ∀ (i x : Nat), l[i]? = some x → (x : Int) ≤ 4294967295) :
    Calls Tryz.prog 81 #[modF gm, .int .i64 (rows : Int), .int .i64 (cols : Int), ve] w fun e w' =>
      ∃ g, e = .returned (.tuple #[.pointer (some ⟨g, 0, none⟩), .int .i64 0]) ∧ Mtx gm w' g rows cols (fun i j => own hp (E i j)) ∧ Below w.heap.size w w' := by
  have q1 := fun w => dims_c rows cols w hr hc
  obtain ⟨A, c, rfl, hlc, hcm, hcell⟩ := hl.form
  clear hcell
  have hm : rows * cols ≤ 65536 := Nat.le_trans (Nat.mul_le_mul hr.2 hc.2) (by omega)
  have hw1 : IntKind.i64.wrap ((rows : Int) * (cols : Int)) = (l.length : Int) := by
    rw [hlen, ← Int.natCast_mul]
    simp [IntKind.wrap, IntKind.bits, IntKind.signed]
    omega
  have HH := hide (And.intro hlen (And.intro hr (And.intro hc (And.intro hl (And.intro hE (And.intro hlc (And.intro hcm (And.intro hk hb))))))))
  clear hlen hr hc hl hE hlc hcm hm hk hb
  go_enter Tryz.func81, Tryz.ntmps81
  go_wp2_with fail
  refine (q1 _).mono ?_
  rintro e w' ⟨rfl, rfl⟩
  go_wp2_with fail
  have n1 := ((Blk.new w 132 #[modF gm]).alloc (.cells #[.int .i64 (cols : Int)] 3)).alloc (.cells #[.slice A l.length c] 23)
  have n2 := (Blk.new (w.alloc (.cells #[modF gm] 132)) 3 #[.int .i64 (cols : Int)]).alloc (.cells #[.slice A l.length c] 23)
  have n3 := Blk.new ((w.alloc (.cells #[modF gm] 132)).alloc (.cells #[.int .i64 (cols : Int)] 3)) 23 #[.slice A l.length c]
  have n4 := (((Below.refl w.heap.size w).alloc (Nat.le_refl _) (.cells #[modF gm] 132)).alloc (by simp) (.cells #[.int .i64 (cols : Int)] 3)).alloc (by simp; omega) (.cells #[.slice A l.length c] 23)
  simp only [World.size_alloc] at n2 n3
  generalize ((w.alloc (.cells #[modF gm] 132)).alloc (.cells #[.int .i64 (cols : Int)] 3)).alloc (.cells #[.slice A l.length c] 23) = W at *
  refine (laid_c rows cols 129 #[.pointer (some ⟨w.heap.size, 0, none⟩), .pointer (some ⟨w.heap.size + 1 + 1, 0, none⟩), .pointer (some ⟨w.heap.size + 1, 0, none⟩)] (fun i j => own hp (E i j)) W HH.out.2.1.2 HH.out.2.2.1.2
    (enters_of Tryz.func129 (by kernel_rfl) rfl) ?_).mono ?_
  · intro i j w' hi hj hb
    obtain ⟨hlen, hr, hc, hl, hE, hlc, hcm, hk, hbb⟩ := HH.out
    refine newc_c i j cols l (E i j) (.slice A l.length c) w.heap.size (w.heap.size + 1 + 1) (w.heap.size + 1) w' ((hk.below n4).below hb) (by omega) (by omega) hc.2 ((hl.below n4).below hb) (hE i j hi hj) (hbb _ _ (hE i j hi hj)) ?_ ?_ ?_
    · rw [(n1.below' hb).cell]; rfl
    · rw [(n3.below' hb).cell]; rfl
    · rw [(n2.below' hb).cell]; rfl
  · rintro e w' ⟨g, rfl, hmx, hb⟩
    have H4 := hide (And.intro n4 (And.intro hmx hb))
    clear n1 n2 n3 n4 hmx hb q1 hw1
    go_wp2
    go_ret2
    exact ⟨g, rfl, H4.out.2.1, H4.out.1.trans (H4.out.2.2.mono H4.out.1.size)⟩
end
end Go.Proofs.YtoaaplngdomdcaaGreat.MV

/- Matrices of words: New of a list of numbers, with what stands when an older block is written. -/
namespace Go.Proofs.YtoaaplngdomdcaaGreat.MV
open Go.RowKit
section
variable {p gm : Nat} {hp : 0 < p}
theorem mx_wr {w w7 : World} {base g B : Nat} {L : List (List Nat)} (h : Mw (modF gm) w base g L) (hw : Wr B w w7) (hB : B ≤ base) : Mw (modF gm) w7 base g L := by
  induction hw with
  | refl => exact h
  | step _ hG hg ih => exact mx_low ih (Nat.lt_of_lt_of_le hG hB) hg
  | keep _ hb ih => exact ih.below hb
/-- What lays a matrix, with what stands when older blocks are written, one behind the other. -/
theorem laid_s2 (rows cols : Nat) (K : FuncId) (cap : Array Value) (M : Nat → Nat → (Fin p)) (w : World) (hr : rows ≤ 256) (hc : cols ≤ 256)
    (hent : ∀ (args : Array Value) (w : World), (callFunc K args).run Tryz.prog w = .ok (.enter K args) w)
    (hcl : ∀ (i j : Nat) (w' : World), i < rows → j < cols → Below w.heap.size w w' → Calls Tryz.prog K (#[.int .i64 (i : Int), .int .i64 (j : Int)] ++ cap) w' fun e w'' => e = .returned (.int .u32 ((Fin.val (M i j) : Nat) : Int)) ∧ Below w'.heap.size w' w'') :
    Calls Tryz.prog 85 #[(modF gm), .int .i64 (rows : Int), .int .i64 (cols : Int), .func (.func K) #[] cap] w fun e w' => ∃ g, e = .returned (.pointer (some ⟨g, 0, none⟩)) ∧ Mtx gm w' g rows cols M ∧ Below w.heap.size w w' ∧ ∀ w7, Wr w.heap.size w' w7 → Mtx gm w7 g rows cols M := by
  refine (laidw_any 25 (.pointer (some ⟨gm, 0, none⟩)) rows cols K cap (fun i j => (M i j).val) w hr hc hent hcl).mono ?_
  rintro e w' ⟨g, rfl, hmx, hb⟩
  exact ⟨g, rfl, mt_of hmx, hb, fun w7 hw => mt_of (mx_wr hmx hw (Nat.le_refl _))⟩
set_option maxRecDepth 100000 in
set_option maxHeartbeats 1600000 in
theorem newl_c (rows cols : Nat) (ve : Value) (l : List Nat) (w : World) (hk : (Fk p gm) w) (hr : 1 ≤ rows ∧ rows ≤ 256) (hc : 1 ≤ cols ∧ cols ≤ 256)
    (hl : Ny w .u32 ve l) (hbd : ∀ (i x : Nat), l[i]? = some x → (x : Int) ≤ 4294967295)
    (hlen : l.length = rows * cols) :
    Calls Tryz.prog 81 #[(modF gm), .int .i64 (rows : Int), .int .i64 (cols : Int), ve] w fun e w' =>
      ∃ g, e = .returned (.tuple #[.pointer (some ⟨g, 0, none⟩), .int .i64 0]) ∧ Mtx gm w' g rows cols (fun i j => (own hp) (l.getD (i * cols + j) 0)) ∧ Below w.heap.size w w' ∧ ∀ w7, Wr w.heap.size w' w7 → Mtx gm w7 g rows cols (fun i j => (own hp) (l.getD (i * cols + j) 0)) := by
  have q1 := fun w => dims_c rows cols w hr hc
  have hE : ∀ i j, i < rows → j < cols → l[i * cols + j]? = some (l.getD (i * cols + j) 0) := fun i j hi hj => by
    have h1 : i * cols + j < l.length := by
      rw [hlen]
      have : (i + 1) * cols ≤ rows * cols := Nat.mul_le_mul_right _ hi
      rw [Nat.succ_mul] at this
      omega
    rw [List.getD_eq_getElem?_getD, List.getElem?_eq_getElem h1]
    rfl
  obtain ⟨A, c, rfl, hlc, hcm, hcell⟩ := hl.form
  clear hcell
  have hm : rows * cols ≤ 65536 := Nat.le_trans (Nat.mul_le_mul hr.2 hc.2) (by omega)
  have hw1 : IntKind.i64.wrap ((rows : Int) * (cols : Int)) = (l.length : Int) := by
    rw [hlen, ← Int.natCast_mul]
    simp [IntKind.wrap, IntKind.bits, IntKind.signed]
    omega
  have HH := hide (And.intro hlen (And.intro hr (And.intro hc (And.intro hl (And.intro hE (And.intro hlc (And.intro hcm (And.intro hk hbd))))))))
  clear hlen hr hc hl hE hlc hcm hm hk
  clear hbd
  go_enter Tryz.func81, Tryz.ntmps81
  go_wp2_with fail
  refine (q1 _).mono ?_
  rintro e w' ⟨rfl, rfl⟩
  go_wp2_with fail
  have n1 := ((Blk.new w 132 #[(modF gm)]).alloc (.cells #[.int .i64 (cols : Int)] 3)).alloc (.cells #[.slice A l.length c] 23)
  have n2 := (Blk.new (w.alloc (.cells #[(modF gm)] 132)) 3 #[.int .i64 (cols : Int)]).alloc (.cells #[.slice A l.length c] 23)
  have n3 := Blk.new ((w.alloc (.cells #[(modF gm)] 132)).alloc (.cells #[.int .i64 (cols : Int)] 3)) 23 #[.slice A l.length c]
  have n4 := (((Below.refl w.heap.size w).alloc (Nat.le_refl _) (.cells #[(modF gm)] 132)).alloc (by simp) (.cells #[.int .i64 (cols : Int)] 3)).alloc (by simp; omega) (.cells #[.slice A l.length c] 23)
  simp only [World.size_alloc] at n2 n3
  generalize ((w.alloc (.cells #[(modF gm)] 132)).alloc (.cells #[.int .i64 (cols : Int)] 3)).alloc (.cells #[.slice A l.length c] 23) = W at *
  refine (laid_s2 rows cols 129 #[.pointer (some ⟨w.heap.size, 0, none⟩), .pointer (some ⟨w.heap.size + 1 + 1, 0, none⟩), .pointer (some ⟨w.heap.size + 1, 0, none⟩)] (fun i j => (own hp) (l.getD (i * cols + j) 0)) W HH.out.2.1.2 HH.out.2.2.1.2
    (enters_of Tryz.func129 (by kernel_rfl) rfl) ?_).mono ?_
  · intro i j w' hi hj hb
    obtain ⟨hlen, hr, hc, hl, hE, hlc, hcm, hk, hbb⟩ := HH.out
    refine newc_c i j cols l (l.getD (i * cols + j) 0) (.slice A l.length c) w.heap.size (w.heap.size + 1 + 1) (w.heap.size + 1) w' ((hk.below n4).below hb) (by omega) (by omega) hc.2 ((hl.below n4).below hb) (hE i j hi hj) (hbb _ _ (hE i j hi hj)) ?_ ?_ ?_
    · rw [(n1.below' hb).cell]; rfl
    · rw [(n3.below' hb).cell]; rfl
    · rw [(n2.below' hb).cell]; rfl
  · rintro e w' ⟨g, rfl, hmx, hb, hlw⟩
    have H4 := hide (And.intro n4 (And.intro hmx (And.intro hb hlw)))
    clear n1 n2 n3 n4 hmx hb q1 hw1 hlw
    go_wp2
    go_ret2
    exact ⟨g, rfl, H4.out.2.1, H4.out.1.trans (H4.out.2.2.1.mono H4.out.1.size), fun w7 hw => H4.out.2.2.2 w7 (hw.mono H4.out.1.size)⟩
end
end Go.Proofs.YtoaaplngdomdcaaGreat.MV

/- The statements' fresh over words: New of what is lent, which is written over behind the call. -/
namespace Go.Proofs.YtoaaplngdomdcaaGreat.MV
open Go.RowKit
theorem row_tmp2 {P : Program} {fn : Func} {p u v : Tmp} {ty : TypeId} (h : fn.results = #[.cell p ty, .tmp u, .tmp v]) (tmps : Array Value) (w : World) (g : Nat) (t : TypeId) (cs : Array Value) (fr : Nat × Nat) (d : TypeDesc)
    (hp : tmps.getD p undef = .pointer (some ⟨g, 0, none⟩)) (hg : w.heap[g]? = some (.cells cs t fr))
    (hu : P.underlying ty = some d) (hd : (match d with | .struct _ | .array _ _ => true | _ => false) = true) (hi : (P.info? ty).map (·.size) = some cs.size) :
    (results fn tmps).run P w = .ok (.tuple #[.agg cs, tmps.getD u undef, tmps.getD v undef]) w := by
  have hp' : tmps[p]?.getD undef = .pointer (some ⟨g, 0, none⟩) := by simpa using hp
  simp only [results, h]
  simp [Sem.run_bind, Result.andThen, hp', asAddr, run_loadVar_row w g t ty cs fr d hg hu hd hi]
section
variable {p gm : Nat} {hp : 0 < p}
set_option maxRecDepth 100000 in
set_option maxHeartbeats 4000000 in
theorem fresh_c (rows cols : Nat) (ve : Value) (l : List Nat) (w : World) (hk : (Fk p gm) w) (hr : 1 ≤ rows ∧ rows ≤ 256) (hc : 1 ≤ cols ∧ cols ≤ 256)
    (hl : Ny w .u32 ve l) (hbd : ∀ (i x : Nat), l[i]? = some x → (x : Int) ≤ 4294967295) (hlen : l.length = rows * cols) (hp0 : 2 ≤ p) :
    Calls Tryz.prog 31 #[.int .u32 (p : Int), .pointer (some ⟨gm, 0, none⟩), .int .i64 (rows : Int), .int .i64 (cols : Int), ve] w fun e w' =>
      ∃ g, e = .returned (.tuple #[.agg #[.pointer none, .pointer (some ⟨g, 0, none⟩)], .int .i64 0, .bool true]) ∧ Mtx gm w' g rows cols (fun i j => (own hp) (l.getD (i * cols + j) 0)) ∧ Below w.heap.size w w' ∧ ∀ w7, Wr w.heap.size w' w7 → Mtx gm w7 g rows cols (fun i j => (own hp) (l.getD (i * cols + j) 0)) := by
  have hm : l.length ≤ 65536 := by rw [hlen]; exact Nat.le_trans (Nat.mul_le_mul hr.2 hc.2) (by omega)
  have i0 : ¬ (p : Int) = 0 := by omega
  have b0 := (Below.refl w.heap.size w).alloc (Nat.le_refl _) (.cells #[.pointer none, .pointer none] 32)
  have n0 := Blk.new w 32 #[.pointer none, .pointer none]
  have z0 : (w.alloc (.cells #[.pointer none, .pointer none] 32)).heap.size = w.heap.size + 1 := by simp
  have HH := hide (And.intro hr (And.intro hc (And.intro hbd (And.intro hlen (And.intro hk hl)))))
  obtain ⟨A, c, rfl, hlc, hcm, _⟩ := hl.form
  generalize hW0 : w.alloc (.cells #[.pointer none, .pointer none] 32) = W0 at b0 n0 z0
  have hl0 := HH.out.2.2.2.2.2.below b0
  have hk0 := HH.out.2.2.2.2.1.below b0
  have Q1 := hide (lentw_any _ l W0 hl0 (by omega))
  have HB0 := hide (And.intro b0 n0)
  have Z0 := hide z0
  clear hr hc hbd hlen hk hl b0 n0 hl0 z0
  go_enter Tryz.func31, Tryz.ntmps31
  go_wp2_with fail
  refine Q1.out.mono ?_
  rintro e w2 ⟨v, rfl, o2, b2⟩
  have HK := hide (hk0.below b2)
  have B2 := hide (And.intro b2 b2)
  have by2 := hide ((HH.out.2.2.2.2.2.below HB0.out.1).below b2)
  obtain ⟨g, cap, rfl, hg, hglt⟩ := o2.form (by simp)
  have hby := o2.front
  have k1 : l.length ≤ cap := by obtain ⟨A', c', hv, hc', _⟩ := hby.form; injection hv; omega
  have Q3 := hide (newl_c (hp := hp) rows cols _ l w2 HK.out HH.out.1 HH.out.2.1 hby HH.out.2.2.1 HH.out.2.2.2.1)
  have O2 := hide o2
  generalize hN : (l ++ marksw 0 l.length 70).length = N at *
  clear Q1 b2 o2 hby
  have k2 : (l.length : Int) ≤ (cap : Int) := by omega
  have k3 : (0 : Int) ≤ (l.length : Int) := by omega
  clear hk0
  have G1 := hide hglt
  clear hglt hg
  go_wp2_with fail
  refine Q3.out.mono ?_
  rintro e w3 ⟨x, rfl, _, b3, hlow⟩
  have B3 := hide (And.intro b3 hlow)
  have Q4 := hide (keptw_any _ _ _ l w3 (O2.out.below b3).ny (by2.out.below b3) (by omega))
  rw [decide_eq_true rfl] at Q4
  clear b3 hlow Q3
  go_wp2_with fail
  refine Q4.out.mono ?_
  rintro e w4 ⟨rfl, b4⟩
  have O4 := (O2.out.below B3.out.1).below b4
  have Q5 := hide (overw_any _ _ _ w4 O4 (by rw [hN, ← hN]; simp; omega))
  have B4 := hide b4
  clear O4 b4 Q4
  go_wp2_with fail
  refine Q5.out.mono ?_
  rintro e w5 ⟨rfl, hb5, hg5, _⟩
  have hg5' : Wr w2.heap.size w3 w5 := .step (.keep (.refl _) B4.out) G1.out hg5
  have hlo : w.heap.size < W0.heap.size := by have := Z0.out; omega
  have h5 := hide ((Below.step (Below.step (Below.step HB0.out.1 B2.out.2) B3.out.1) B4.out).trans (hb5.mono (Nat.le_of_lt hlo)))
  have hblk : Blk w5 w.heap.size 32 #[.pointer none, .pointer none] :=
    (((HB0.out.2.below' B2.out.2).below' B3.out.1).below' B4.out).below hb5 hlo
  have HX := hide hg5'
  clear Q5 hb5 hg5 hg5' hlo
  go_wp2_with ((with_reducible change wpList _ _ _ (⟨none, .store _ (.tmp 10) _, _, _, _, _⟩ :: _) _ _); go_loud (refine wpList_store_row (o := ⟨none, .store _ (.tmp 10) _, _, _, _, _⟩) hblk #[.pointer none, .pointer (some ⟨x, 0, none⟩)] rfl (by simp [Value.oneCell']) rfl 32 _ _ rfl (by kernel_rfl) rfl rfl ?_; intro w7 hb7 hg7))
  have hx7 : Wr w2.heap.size w3 w7 := .step HX.out (by have := Z0.out; have := B2.out.2.size; omega) hg7
  have hle : w.heap.size ≤ w2.heap.size := by have := Z0.out; have := B2.out.2.size; omega
  refine bodyPost_ret (row_tmp2 rfl _ _ w.heap.size 32 #[.pointer none, .pointer (some ⟨x, 0, none⟩)] (0, 0) _ rfl hb7 Tryz.underlying32 rfl (by kernel_rfl)) rfl ⟨x, rfl, B3.out.2 w7 hx7, h5.out.grown hg7 h5.out.size fun k hk => (by injection hk with hk; omega), fun w8 h8 => B3.out.2 w8 (hx7.trans (h8.mono hle))⟩
end
end Go.Proofs.YtoaaplngdomdcaaGreat.MV

/- The statements' square over words. -/
namespace Go.Proofs.YtoaaplngdomdcaaGreat.MV
open Go.RowKit
attribute [local go_sem high] mat_store
attribute [local go_sem high] mat_storeC
section
variable {p gm : Nat} {hp : 0 < p}
set_option maxRecDepth 100000 in
set_option maxHeartbeats 4000000 in
theorem square_c (n : Nat) (ve : Value) (es : List Nat) (w : World) (hk : (Fk p gm) w) (hn : 1 ≤ n ∧ n ≤ 256)
    (he : Ny w .u32 ve es) (hbd : ∀ (i x : Nat), es[i]? = some x → (x : Int) ≤ 4294967295) (hp0 : 2 ≤ p) :
    Calls Tryz.prog 9 #[.int .u32 (p : Int), .pointer (some ⟨gm, 0, none⟩), .int .i64 (n : Int), ve] w fun e w' =>
      ∃ g, e = .returned (.tuple #[.agg #[.pointer none, .pointer (some ⟨g, 0, none⟩)], .bool true]) ∧ Mtx gm w' g n n (fun i j => (own hp) (es.getD (i * n + j) 0)) ∧ Below w.heap.size w w' := by
  have hN0 : n * n ≤ 65536 := Nat.le_trans (Nat.mul_le_mul hn.2 hn.2) (by omega)
  obtain ⟨N, hN⟩ : ∃ N, N = n * n := ⟨_, rfl⟩
  rw [← hN] at hN0
  have hw1 : IntKind.i64.wrap ((n : Int) * (n : Int)) = (N : Int) := by
    rw [show (n : Int) * (n : Int) = (N : Int) by rw [hN, Int.natCast_mul]]
    simp [IntKind.wrap, IntKind.bits, IntKind.signed]
    omega
  have HN := hide hN
  obtain ⟨A, c, rfl, hlc, hcm, hca⟩ := he.form
  unfold maxLen at hcm
  have b0 := (Below.refl w.heap.size w).alloc (Nat.le_refl _) (.cells #[.pointer none, .pointer none] 32)
  have n0 := Blk.new w 32 #[.pointer none, .pointer none]
  have z0 : (w.alloc (.cells #[.pointer none, .pointer none] 32)).heap.size = w.heap.size + 1 := by simp
  have HH := hide (And.intro hn (And.intro hbd (And.intro hk he)))
  have HC := hide hca
  generalize hW0 : w.alloc (.cells #[.pointer none, .pointer none] 32) = W0 at b0 n0 z0
  have HB0 := hide (And.intro b0 (And.intro n0 z0))
  clear hN hn hbd hk he hca b0 n0 z0
  go_enter Tryz.func9, Tryz.ntmps9
  go_wp2_with fail
  go_loopw [10, 11, 12] (fun v i x wr => ∃ k : Nat, k ≤ N ∧ i = .int .i64 k ∧ OwnN wr W0.heap.size 22 .u32 v (padN es k) ∧ Below W0.heap.size W0 wr) (fun _ i _ _ => N - (intOf i).toNat)
  case atStart => exact ⟨0, by omega, rfl, OwnN.nil _ _ _ _, Below.refl _ _⟩
  case round =>
    obtain ⟨k, hk, rfl, hown, hbel⟩ := hrel
    have HO := hide hown
    clear hown
    by_cases hlt : k < N
    · by_cases hin : k < es.length
      · obtain ⟨x, hx⟩ : ∃ x, es[k]? = some x := ⟨_, List.getElem?_eq_getElem hin⟩
        obtain ⟨b, o, rfl, hbl, hcell⟩ := HC.out k x hx
        have hcx : wr.cell? ⟨b, o + k, none⟩ = some (.int .u32 (x : Int)) := (hbel.cell (p := ⟨b, o + k, none⟩) (Nat.lt_of_lt_of_le hbl HB0.out.1.size)).trans ((HB0.out.1.cell (p := ⟨b, o + k, none⟩) hbl).trans hcell)
        have HX := hide (show es.getD k 0 = x by rw [List.getD_eq_getElem?_getD, hx]; rfl)
        clear hx hcell
        have j1 : (k : Int) < (es.length : Int) := by omega
        have j2 : (k : Int) < (N : Int) := by omega
        go_wp2_with (at_builtin; go_loud (refine wpList_push1 elemW HO.out hbel hbel.size (by rw [padN_length]; unfold maxLen; omega) (by rw [padN_length]; omega) (.int .u32 (x : Int)) rfl rfl _ _ rfl rfl rfl ?_); intro v1 w1 ho1 hbel1 _ _ _; have hown1 := OwnN.push ho1; clear ho1)
        go_roundw
        case rel => exact ⟨k + 1, by omega, by go_num, by rw [padN_succ, HX.out]; exact hown1, hbel1⟩
        case measure => simp [intOf]; omega
      · have HX := hide (show es.getD k 0 = 0 by rw [List.getD_eq_getElem?_getD, List.getElem?_eq_none (by omega)]; rfl)
        have j1 : ¬ (k : Int) < (es.length : Int) := by omega
        have j2 : (k : Int) < (N : Int) := by omega
        go_wp2_with (at_builtin; go_loud (refine wpList_push1 elemW HO.out hbel hbel.size (by rw [padN_length]; unfold maxLen; omega) (by rw [padN_length]; omega) (.int .u32 0) rfl rfl _ _ rfl rfl rfl ?_); intro v1 w1 ho1 hbel1 _ _ _; have hown1 := OwnN.push (x := 0) ho1; clear ho1)
        go_roundw
        case rel => exact ⟨k + 1, by omega, by go_num, by rw [padN_succ, HX.out]; exact hown1, hbel1⟩
        case measure => simp [intOf]; omega
    · have hkl : k = N := by omega
      subst hkl
      have j2 : ¬ (k : Int) < (k : Int) := by omega
      have q := fresh_c (hp := hp) n n u10 (padN es k) wr ((HH.out.2.2.1.below HB0.out.1).below hbel) HH.out.1 HH.out.1 HO.out.ny (padN_bound es k HH.out.2.1) (by rw [padN_length]; exact HN.out) hp0
      have HR := hide (And.intro hbel (Below.step HB0.out.1 hbel))
      clear HO hbel
      go_wp2_with fail
      refine q.mono ?_
      rintro e w2 ⟨g, rfl, hmx, hb2, hlw⟩
      have H2 := hide (And.intro hb2 hlw)
      clear q hmx hb2 hlw
      go_wp2_with ((with_reducible change wpList _ _ _ (⟨none, .store _ (.tmp 13) _, _, _, _, _⟩ :: _) _ _); go_loud (refine wpList_store_row (o := ⟨none, .store _ (.tmp 13) _, _, _, _, _⟩) (Blk.new w2 _ _) #[.pointer none, .pointer (some ⟨g, 0, none⟩)] rfl (by simp [Value.oneCell']) rfl 32 _ _ rfl (by kernel_rfl) rfl rfl ?_; intro w3 hb3 hg3))
      have HB3 := hide (show Below w2.heap.size w2 w3 from ((Below.refl _ w2).alloc (Nat.le_refl _) _).grown hg3 (by simp) (fun k hk => by cases hk; exact Nat.le_refl _))
      have hbl8 : Blk w3 w.heap.size 32 #[.pointer none, .pointer none] := ((HB0.out.2.1.below' HR.out.1).below' H2.out.1).below' HB3.out
      have HNE := hide (show w2.heap.size ≠ w.heap.size by have := HB0.out.2.2; have := HR.out.1.size; have := H2.out.1.size; omega)
      have H23 := hide (Below.step HR.out.2 (Below.step H2.out.1 HB3.out))
      obtain ⟨G, hG⟩ : ∃ G, G = w2.heap.size := ⟨_, rfl⟩
      rw [← hG] at hb3 HNE ⊢
      have HS : Hid (∀ W, Below w3.heap.size w3 W → W.cell? ⟨G, 0, none⟩ = some (.pointer none) ∧ W.cell? ⟨G, 1, none⟩ = some (.pointer (some ⟨g, 0, none⟩)) ∧ W.there w.heap.size 0 2) := fun W hW => ⟨by rw [(hb3.below' hW).cell]; rfl, by rw [(hb3.below' hW).cell]; rfl, there_blk (hbl8.below' hW) rfl⟩
      have hS := HS.out w3 (Below.refl _ _)
      have Q5 := hide (fun W => there_c g W)
      clear hb3 hbl8 hg3 hG
      refine wp_region_noPanic ?_
      refine wp_region_held_drew (S := fun w' => w'.cell? ⟨G, 0, none⟩ = some (.pointer none) ∧ w'.cell? ⟨G, 1, none⟩ = some (.pointer (some ⟨g, 0, none⟩)) ∧ w'.there w.heap.size 0 2) (by kernel_rfl) (HS.out _ (Below.refl _ _).drew) (fun hHeld => ?_)
      refine wpAnyH_take (i := 0) (v := ?_) rfl (by kernel_rfl) (by kernel_rfl) (by kernel_rfl) (fun _ _ _ h => h) (Or.inl ⟨by rfl, ?_⟩) (by assumption) ?_
      rotate_left
      · (intro w9 hSw; (try dsimp only at hSw); go_simp; try with_reducible rfl)
      try simp only [Act.put, List.setIfInBounds_toArray, List.set_cons_zero, List.set_cons_succ, List.getElem_toArray, List.getElem_cons_succ, List.getElem_cons_zero]
      refine wpAnyH_take (i := 1) (v := ?_) rfl (by kernel_rfl) (by kernel_rfl) (by kernel_rfl) (fun _ _ _ h => h) (Or.inl ⟨by rfl, ?_⟩) (by assumption) ?_
      rotate_left
      · (intro w9 hSw; (try dsimp only at hSw); go_simp; try with_reducible rfl)
      try simp only [Act.put, List.setIfInBounds_toArray, List.set_cons_zero, List.set_cons_succ, List.getElem_toArray, List.getElem_cons_succ, List.getElem_cons_zero]
      refine wpAnyH_take (i := 2) (v := ?_) rfl (by kernel_rfl) (by kernel_rfl) (by kernel_rfl) (fun _ _ _ h => h) (Or.inl ⟨by rfl, ?_⟩) (by assumption) ?_
      rotate_left
      · (intro w9 hSw; (try dsimp only at hSw); go_simp; try with_reducible rfl)
      try simp only [Act.put, List.setIfInBounds_toArray, List.set_cons_zero, List.set_cons_succ, List.getElem_toArray, List.getElem_cons_succ, List.getElem_cons_zero]
      refine wpAnyH_take (i := 3) (v := ?_) rfl (by kernel_rfl) (by kernel_rfl) (by kernel_rfl) (fun _ _ _ h => h) (Or.inl ⟨by rfl, ?_⟩) (by assumption) ?_
      rotate_left
      · (intro w9 hSw; (try dsimp only at hSw); go_simp; try with_reducible rfl)
      try simp only [Act.put, List.setIfInBounds_toArray, List.set_cons_zero, List.set_cons_succ, List.getElem_toArray, List.getElem_cons_succ, List.getElem_cons_zero]
      refine wpAnyH_take (i := 4) (v := ?_) rfl (by kernel_rfl) (by kernel_rfl) (by kernel_rfl) (fun _ _ _ h => h) (Or.inl ⟨by rfl, ?_⟩) (by assumption) ?_
      rotate_left
      · (intro w9 hSw; (try dsimp only at hSw); go_simp; try with_reducible rfl)
      try simp only [Act.put, List.setIfInBounds_toArray, List.set_cons_zero, List.set_cons_succ, List.getElem_toArray, List.getElem_cons_succ, List.getElem_cons_zero]
      refine wpAnyH_take (i := 5) (v := ?_) rfl (by kernel_rfl) (by kernel_rfl) (by kernel_rfl) (fun _ _ _ h => h) (Or.inl ⟨by rfl, ?_⟩) (by assumption) ?_
      rotate_left
      · (intro w9 hSw; (try dsimp only at hSw); go_simp; try with_reducible rfl)
      try simp only [Act.put, List.setIfInBounds_toArray, List.set_cons_zero, List.set_cons_succ, List.getElem_toArray, List.getElem_cons_succ, List.getElem_cons_zero]
      refine wpAnyH_take (i := 6) (v := ?_) rfl (by kernel_rfl) (by kernel_rfl) (by kernel_rfl) (fun _ _ _ h => h) (Or.inl ⟨by rfl, ?_⟩) (by assumption) ?_
      rotate_left
      · (intro w9 hSw; (try dsimp only at hSw); go_simp; try with_reducible rfl)
      try simp only [Act.put, List.setIfInBounds_toArray, List.set_cons_zero, List.set_cons_succ, List.getElem_toArray, List.getElem_cons_succ, List.getElem_cons_zero]
      refine wpAnyH_take (i := 7) (v := ?_) rfl (by kernel_rfl) (by kernel_rfl) (by kernel_rfl) (fun _ _ _ h => h) (Or.inl ⟨by rfl, ?_⟩) (by assumption) ?_
      rotate_left
      · (intro w9 hSw; (try dsimp only at hSw); go_simp; try with_reducible rfl)
      try simp only [Act.put, List.setIfInBounds_toArray, List.set_cons_zero, List.set_cons_succ, List.getElem_toArray, List.getElem_cons_succ, List.getElem_cons_zero]
      refine wpAnyH_ready (rs := [8]) (by kernel_rfl) (by simp) ?_
      refine AllReadyH.cons rfl (fun K hK => ?_) AllReadyH.nil
      go_simp
      refine (Q5.out _).mono ?_
      rintro e w5 ⟨rfl, hb5⟩
      have hb5' : Below w3.heap.size w3 w5 := Below.step (Below.refl _ _).drew hb5
      refine hK.out _ _ (HS.out _ hb5') (fun hHeld => ?_)
      clear hK K
      try simp only [Act.put, List.setIfInBounds_toArray, List.set_cons_zero, List.set_cons_succ, List.getElem_toArray, List.getElem_cons_succ, List.getElem_cons_zero]
      refine wpAnyH_take (i := 9) (v := ?_) rfl (by kernel_rfl) (by kernel_rfl) (by kernel_rfl) (fun _ _ _ h => h) (Or.inl ⟨by rfl, ?_⟩) (by assumption) ?_
      rotate_left
      · (intro w9 hSw; (try dsimp only at hSw); go_simp; try with_reducible rfl)
      try simp only [Act.put, List.setIfInBounds_toArray, List.set_cons_zero, List.set_cons_succ, List.getElem_toArray, List.getElem_cons_succ, List.getElem_cons_zero]
      refine wpAnyH_ready (rs := [10]) (by kernel_rfl) (by simp) ?_
      refine AllReadyH.cons rfl (fun K hK => ?_) AllReadyH.nil
      rw [if_pos (by rfl)]
      refine wp_store_mid 32 _ _ rfl w.heap.size 0 #[.pointer none, .pointer (some ⟨g, 0, none⟩)] rfl rfl hHeld.2.2 (by kernel_rfl) (by simp [Value.oneCell']) ?_
      refine hK.out _ _ (keepM hHeld HNE.out) (fun hHeld2 => ?_)
      clear hK K
      try simp only [Act.put, List.setIfInBounds_toArray, List.set_cons_zero, List.set_cons_succ, List.getElem_toArray, List.getElem_cons_succ, List.getElem_cons_zero]
      refine wpAnyH_take (i := 11) (v := ?_) rfl (by kernel_rfl) (by kernel_rfl) (by kernel_rfl) (fun _ _ _ h => h) (Or.inl ⟨by rfl, ?_⟩) (by assumption) ?_
      rotate_left
      · (intro w9 hSw; (try dsimp only at hSw); go_simp; try with_reducible rfl)
      try simp only [Act.put, List.setIfInBounds_toArray, List.set_cons_zero, List.set_cons_succ, List.getElem_toArray, List.getElem_cons_succ, List.getElem_cons_zero]
      refine wpAnyH_done (by kernel_rfl) ?_ _
      refine noPanic_norm ?_
      have hgs : w5.grownBy (w5.setCells w.heap.size 0 [.pointer none, .pointer (some ⟨g, 0, none⟩)]) (some w.heap.size) := by
        have b := Lib.below_setCells_w (Nat.le_refl w.heap.size) [.pointer none, .pointer (some ⟨g, 0, none⟩)] 0 w5
        exact ⟨b.os, b.tape, b.output, b.size, fun k hk hne => World.heap_setCells_other _ _ _ _ hk (fun e => hne (by rw [e]))⟩
      have hmx := H2.out.2 _ (.step (.keep (.keep (.refl _) HB3.out) hb5') (by have := HB0.out.2.2; have := HR.out.1.size; omega) hgs)
      have hbb := (Below.step H23.out hb5').trans (Lib.below_setCells_w (Nat.le_refl w.heap.size) [.pointer none, .pointer (some ⟨g, 0, none⟩)] 0 w5)
      have hmx2 := hmx.congr (M' := fun i j => (own hp) (es.getD (i * n + j) 0)) (fun i j hi hj => by
        rw [padN_get]
        rw [HN.out]
        have : (i + 1) * n ≤ n * n := Nat.mul_le_mul_right _ hi
        rw [Nat.succ_mul] at this
        omega)
      have HF := hide (And.intro hmx2 (And.intro hbb hHeld.2.2))
      clear hmx hmx2 hbb hgs hb5 hb5' hHeld hHeld2
      go_wp2_with fail
      try simp only [Act.put, List.setIfInBounds_toArray, List.set_cons_zero, List.set_cons_succ, List.getElem_toArray, List.getElem_cons_succ, List.getElem_cons_zero]
      refine bodyPost_ret (v := .tuple #[.agg #[.pointer none, .pointer (some ⟨g, 0, none⟩)], .bool true]) ?_ ?_ ⟨g, rfl, HF.out.1, HF.out.2.1⟩
      · refine (res_mid_tmp rfl _ _ w.heap.size [.pointer none, .pointer (some ⟨g, 0, none⟩)] _ ?_ (World.rangeAt_setCells_same _ _ _ _ HF.out.2.2) Tryz.underlying32 rfl (by kernel_rfl)).trans ?_
        · kernel_rfl
        · kernel_rfl
      · rfl
end
end Go.Proofs.YtoaaplngdomdcaaGreat.MV

/- The statements' field and awake. -/
namespace Go.Proofs.YtoaaplngdomdcaaGreat
open Go.RowKit MV


theorem field_zero (w : World) : Calls Tryz.prog 7 #[.int .u32 0] w fun e w' => e = .returned (.tuple #[.pointer none, .bool true]) ∧ w = w' := by
  go_enter Tryz.func7, Tryz.ntmps7
  go_wp2
  go_ret2
  exact ⟨rfl, rfl⟩
theorem field_no (p : Nat) (w : World) (hp2 : (p : Int) ≤ 4294967295) (h0 : 1 ≤ p) (h : primeR p = false) : Calls Tryz.prog 7 #[.int .u32 (p : Int)] w fun e w' => e = .returned (.tuple #[.pointer none, .bool false]) ∧ w = w' := by
  have q := newmod_no p w hp2 h
  have i0 : ¬ (p : Int) = 0 := by omega
  clear h
  go_enter Tryz.func7, Tryz.ntmps7
  go_wp2_with fail
  refine q.mono ?_
  rintro e w' ⟨rfl, rfl⟩
  go_wp2
  go_ret2
  exact ⟨rfl, rfl⟩
theorem field_yes (p : Nat) (w : World) (h : primeR p = true) : Calls Tryz.prog 7 #[.int .u32 (p : Int)] w fun e w' => ∃ g, e = .returned (.tuple #[.pointer (some ⟨g, 0, none⟩), .bool true]) ∧ Fk p g w' ∧ Below w.heap.size w w' := by
  have q := newmod_yes p w h
  have hx : PrimeN p ∧ p ≤ 2147483648 := by
    unfold primeR at h
    simp at h
    exact ⟨primeB_iff.1 h.1, h.2⟩
  have i0 : ¬ (p : Int) = 0 := by have := hx.1.1; omega
  have HX := hide hx
  clear h hx
  go_enter Tryz.func7, Tryz.ntmps7
  go_wp2_with fail
  refine q.mono ?_
  rintro e w' ⟨g, rfl, hm, hb⟩
  have HM := hide (And.intro hm hb)
  clear hm hb q
  go_wp2
  go_ret2
  exact ⟨g, rfl, ⟨HX.out.1, HX.out.2, HM.out.1⟩, HM.out.2⟩
/-- The example's matrix. -/
abbrev ex7 : Nat → Nat → Fin 7 := fun i j => own (by decide) ([1, 2, 3, 4].getD (i * 2 + j) 0)
theorem ex7_rank : (Fp 7 (by decide)).rank 2 ex7 = 2 := by decide +kernel
theorem ex7_inv : (Fp 7 (by decide)).invM 2 ex7 0 0 = 5 ∧ (Fp 7 (by decide)).invM 2 ex7 0 1 = 1 ∧ (Fp 7 (by decide)).invM 2 ex7 1 0 = 5 ∧ (Fp 7 (by decide)).invM 2 ex7 1 1 = 3 := by decide +kernel

theorem seven : PrimeN 7 := by
  refine ⟨by omega, fun e h1 h2 => ?_⟩
  have h3 : e < 3 := by
    rcases Nat.lt_or_ge e 3 with h | h
    · exact h
    · have := Nat.mul_le_mul h h; omega
  have h4 : e = 2 := by omega
  subst h4
  decide
theorem Blk.ny {w : World} {g : Nat} {e : TypeId} {cs : Array Value} (h : Blk w g e cs) (l : List Nat) (hc : cs.toList = ncells .u32 l) (hl : l.length ≤ maxLen) : Ny w .u32 (.slice (some ⟨g, 0, none⟩) l.length l.length) l := by
  refine ⟨by simp, some ⟨g, 0, none⟩, l.length, rfl, Nat.le_refl _, hl, fun _ => ⟨g, 0, rfl, h.lt, fun j _ => ?_⟩⟩
  rw [Nat.zero_add, h.cell, ← Array.getElem?_toList, hc]
theorem at7 (x : Nat) (w : World) (i j : Nat) (v : Fin 7) {gm : Nat} {M : Nat → Nat → Fin 7} (h : Mtx gm w x 2 2 M) (hi : i < 2) (hj : j < 2) (hv : M i j = v) :
    Calls Tryz.prog 14 #[.agg #[.pointer none, .pointer (some ⟨x, 0, none⟩)], .int .i64 (i : Int), .int .i64 (j : Int)] w fun e w' => e = .returned (.tuple #[.int .u32 ((Fin.val v : Nat) : Int), .int .i64 0]) ∧ Below w.heap.size w w' := by
  have q := mat_at_c x i j h hi hj
  rw [hv] at q
  exact q
set_option maxRecDepth 100000 in
set_option maxHeartbeats 4000000 in
theorem awakem_any (w : World) : Calls Tryz.prog 6 #[] w fun e w' => e = .returned (.bool true) ∧ Below w.heap.size w w' := by
  have q : Calls Tryz.prog 7 #[.int .u32 7] w _ := field_yes 7 w (primeR_true seven (by omega))
  go_enter Tryz.func6, Tryz.ntmps6
  go_wp2_with fail
  refine q.mono ?_
  rintro e w1 ⟨gm, rfl, hk, b1⟩
  have B1 := hide b1
  have HK := hide hk
  clear q b1 hk
  go_wp2_with fail
  have n2 := Blk.new w1 22 #[.int .u32 1, .int .u32 2, .int .u32 3, .int .u32 4]
  have b2 := (Below.refl w1.heap.size w1).alloc (Nat.le_refl _) (.cells #[.int .u32 1, .int .u32 2, .int .u32 3, .int .u32 4] 22)
  have q2 : Calls Tryz.prog 9 #[.int .u32 7, .pointer (some ⟨gm, 0, none⟩), .int .i64 2, .slice (some ⟨w1.heap.size, 0, none⟩) 4 4] (w1.alloc (.cells #[.int .u32 1, .int .u32 2, .int .u32 3, .int .u32 4] 22)) _ := square_c (p := 7) (hp := by decide) 2 _ [1, 2, 3, 4] _ (HK.out.below b2) (by omega) (n2.ny [1, 2, 3, 4] rfl (by simp [maxLen])) (fun i x h => by have := List.mem_of_getElem? h; simp at this; omega) (by omega)
  have B2 := hide (Below.step B1.out b2)
  have HB2 := hide b2
  clear n2 b2
  refine q2.mono ?_
  rintro e w3 ⟨g, rfl, hmx, b3⟩
  have B3 := hide (Below.step B2.out b3)
  have B2' := hide (Below.step HB2.out b3)
  have HM := hide hmx
  clear q2 b3 hmx
  go_wp2_with ((with_reducible change wpList _ _ _ (⟨none, .store _ (.tmp 3) _, _, _, _, _⟩ :: _) _ _); go_loud (refine wpList_store_row (o := ⟨none, .store _ (.tmp 3) _, _, _, _, _⟩) (Blk.new w3 _ _) #[.pointer none, .pointer (some ⟨g, 0, none⟩)] rfl (by simp [Value.oneCell']) rfl 32 _ _ rfl (by kernel_rfl) rfl rfl ?_; intro w4 hw4 gw4; have c0 : w4.cell? ⟨w3.heap.size, 0, none⟩ = some (.pointer none) := (by rw [hw4.cell]; rfl); have c1 : w4.cell? ⟨w3.heap.size, 1, none⟩ = some (.pointer (some ⟨g, 0, none⟩)) := (by rw [hw4.cell]; rfl)))
  have B4 := hide (Below.step B3.out (((Below.refl _ w3).alloc (Nat.le_refl _) _).grown gw4 (by simp) (fun k hk => by cases hk; exact Nat.le_refl _)))
  have b34 : Below w3.heap.size w3 w4 := ((Below.refl _ w3).alloc (Nat.le_refl _) _).grown gw4 (by simp) (fun k hk => by cases hk; exact Nat.le_refl _)
  have q4 := minv_c (hp := by decide) (HM.out.below b34) ((HK.out.below (Below.step B2'.out b34))) (by omega)
  clear hw4 gw4 b34
  refine q4.mono ?_
  rintro e w5 ⟨b5, ⟨hr, x, rfl, hx⟩ | ⟨hr, rfl⟩⟩
  · have B5 := hide (Below.step B4.out b5)
    have HX := hide hx
    clear q4 hr b5 hx c0 c1
    go_wp2_with ((with_reducible change wpList _ _ _ (⟨none, .store _ (.tmp 4) _, _, _, _, _⟩ :: _) _ _); go_loud (refine wpList_store_row (o := ⟨none, .store _ (.tmp 4) _, _, _, _, _⟩) (Blk.new w5 _ _) #[.pointer none, .pointer (some ⟨x, 0, none⟩)] rfl (by simp [Value.oneCell']) rfl 32 _ _ rfl (by kernel_rfl) rfl rfl ?_; intro w6 hw6 gw6; have d0 : w6.cell? ⟨w5.heap.size, 0, none⟩ = some (.pointer none) := (by rw [hw6.cell]; rfl); have d1 : w6.cell? ⟨w5.heap.size, 1, none⟩ = some (.pointer (some ⟨x, 0, none⟩)) := (by rw [hw6.cell]; rfl)))
    have b56 : Below w5.heap.size w5 w6 := ((Below.refl _ w5).alloc (Nat.le_refl _) _).grown gw6 (by simp) (fun k hk => by cases hk; exact Nat.le_refl _)
    have B6 := hide (Below.step B5.out b56)
    have hx6 := HX.out.below b56
    have HY : Hid (∀ W, Below w6.heap.size w6 W → W.cell? ⟨w5.heap.size, 0, none⟩ = some (.pointer none) ∧ W.cell? ⟨w5.heap.size, 1, none⟩ = some (.pointer (some ⟨x, 0, none⟩)) ∧ Mtx gm W x 2 2 ((Fp 7 (by decide)).invM 2 ex7)) := fun W hW => ⟨by rw [(hw6.below' hW).cell]; rfl, by rw [(hw6.below' hW).cell]; rfl, hx6.below hW⟩
    obtain ⟨G, hG⟩ : ∃ G, G = w5.heap.size := ⟨_, rfl⟩
    rw [← hG] at d0 d1 HY ⊢
    clear hw6 gw6 b56 hx6 hG
    refine (there_c x w6).mono ?_
    rintro e w7 ⟨rfl, b7⟩
    have B7 := hide b7
    clear b7 d0 d1
    obtain ⟨d0, d1, _⟩ := HY.out w7 B7.out
    go_wp2_with fail
    refine (at7 x w7 0 0 5 (HY.out _ B7.out).2.2 (by omega) (by omega) ex7_inv.1).mono ?_
    rintro e w8 ⟨rfl, bw8⟩
    have B8 := hide (Below.step B7.out bw8)
    clear bw8 d0 d1
    obtain ⟨d0, d1, _⟩ := HY.out w8 B8.out
    go_wp2_with fail
    refine (at7 x w8 0 1 1 (HY.out _ B8.out).2.2 (by omega) (by omega) ex7_inv.2.1).mono ?_
    rintro e w9 ⟨rfl, bw9⟩
    have B9 := hide (Below.step B8.out bw9)
    clear bw9 d0 d1
    obtain ⟨d0, d1, _⟩ := HY.out w9 B9.out
    go_wp2_with fail
    refine (at7 x w9 1 0 5 (HY.out _ B9.out).2.2 (by omega) (by omega) ex7_inv.2.2.1).mono ?_
    rintro e w10 ⟨rfl, bw10⟩
    have B10 := hide (Below.step B9.out bw10)
    clear bw10 d0 d1
    obtain ⟨d0, d1, _⟩ := HY.out w10 B10.out
    go_wp2_with fail
    refine (at7 x w10 1 1 3 (HY.out _ B10.out).2.2 (by omega) (by omega) ex7_inv.2.2.2).mono ?_
    rintro e w11 ⟨rfl, bw11⟩
    have B11 := hide (Below.step B10.out bw11)
    clear bw11 d0 d1
    obtain ⟨d0, d1, _⟩ := HY.out w11 B11.out
    go_wp2
    go_ret
    exact ⟨rfl, Below.step B6.out B11.out⟩
  · exact absurd ex7_rank hr
end Go.Proofs.YtoaaplngdomdcaaGreat

/- Matrices of bytes: Rank. -/
namespace Go.Proofs.YtoaaplngdomdcaaGreat.MB
open Go.RowKit
section

variable {w : World} {base g n m : Nat} {M : Nat → Nat → UInt8}

theorem rank1_c (i : Nat) (w : World) (N : Nat → Nat → UInt8) : Calls Tryz.prog 97 #[.int .i64 (i : Int)] w fun x w' => ∃ v, x = .returned v ∧ Sl w' 1 v 0 (rcells en (N i) 0) ∧ Below w.heap.size w w' := by
  go_enter Tryz.func97, Tryz.ntmps97
  go_wp2
  go_ret
  exact ⟨_, rfl, Sl.nil _ _, Below.refl _ _⟩
set_option maxRecDepth 100000 in
set_option maxHeartbeats 4000000 in
theorem rank_c (h : Mtx w g n m M) (hk : Fk w) (hn : 1 ≤ n ∧ n ≤ 256) (hm : 1 ≤ m ∧ m ≤ 256) :
    Calls Tryz.prog 38 #[.pointer (some ⟨g, 0, none⟩)] w fun e w' => e = .returned (.int .i64 ((F8.red n (Fd.beside m M fun _ _ => F8.zero) m).2 : Int)) ∧ Below w.heap.size w w' := by
  have q1 := made_c h
  obtain ⟨_, _, c0, _⟩ := Mt.form h
  have HH := hide (And.intro h (And.intro hk (And.intro hn hm)))
  have Q5 : Hid (∀ W, Dr w W → Calls Tryz.prog 88 #[.pointer (some ⟨g, 0, none⟩), .func (.func 97) #[] #[]] W fun x w' => ∃ gr cap, x = .returned (.slice (some ⟨gr, 0, none⟩) n cap) ∧ (Gr w' w.heap.size gr n m (Fd.beside m M fun _ _ => F8.zero) ∧ n ≤ cap ∧ cap ≤ maxLen) ∧ Below w.heap.size w w') := hide (fun W hW => by
    obtain ⟨k, rfl⟩ := hW
    refine (beside_c (HH.out.1.below (below_drewN (Below.refl _ _) k)) HH.out.2.2.1.2 (by have := HH.out.2.2.2; omega) 0 (by omega) (fun _ _ => F8.zero) 97 #[] (enters_of Tryz.func97 (by kernel_rfl) rfl) (fun i w' _ _ => rank1_c i w' (fun _ _ => F8.zero))).mono ?_
    rintro x w' ⟨v, rfl, hgo, hb⟩
    obtain ⟨gr, cap, rfl, hnc, hcm, hgr⟩ := hgo.grid (by have := HH.out.2.2.1; omega)
    exact ⟨gr, cap, rfl, ⟨hgr, hnc, hcm⟩, (below_drewN (Below.refl _ _) k).trans hb⟩)
  have Q4 : Hid (∀ W, Below w.heap.size w W → Calls Tryz.prog 37 #[.pointer (some ⟨g, 0, none⟩)] W fun e w' => e = .returned (.int .i64 (m : Int)) ∧ W = w') := fun W hb => cols_c (HH.out.1.below hb) (by have := HH.out.2.2.1; omega)
  have HS : Hid (∀ W, Below w.heap.size w W → W.cell? ⟨g, 0, none⟩ = some gfF) := fun W hb => (hb.cell (World.block_lt_of_cell? _ _ c0)).trans c0
  have Q6 : Hid (∀ w2 W gr cap, Below w.heap.size w w2 → Dr w2 W → (Gr w2 w.heap.size gr n m (Fd.beside m M fun _ _ => F8.zero) ∧ n ≤ cap ∧ cap ≤ maxLen) → Calls Tryz.prog 90 #[gfF, .slice (some ⟨gr, 0, none⟩) n cap, .int .i64 (m : Int)] W fun e w' => e = .returned (.int .i64 ((F8.red n (Fd.beside m M fun _ _ => F8.zero) m).2 : Int)) ∧ Below w.heap.size w w') := hide (fun w2 W gr cap h2 hW hgr => by
    have hb := h2.trans (hW.below.mono h2.size)
    refine (reduced_c cap m (hgr.1.below hW.below) (HH.out.2.1.below hb) (lo_of HH.out.2.1 (Nat.le_refl _)) (Nat.le_refl _) HH.out.2.2.1.2 (by have := HH.out.2.2.2; omega) hb.size hgr.2).mono fun e w' ⟨a, _, c, _⟩ => ⟨a, hb.trans c⟩)
  generalize (F8.red n (Fd.beside m M fun _ _ => F8.zero) m).2 = z at *
  clear h hk hn hm
  go_enter Tryz.func38, Tryz.ntmps38
  go_wp2_with fail
  refine q1.mono ?_
  rintro e w' ⟨rfl, rfl⟩
  clear q1
  go_wp2_with fail
  go_region_held3 (fun w' => w'.cell? ⟨g, 0, none⟩ = some gfF) (first | go_keep | exact HS.out _ (by assumption) | exact HS.out _ (Below.drew (by assumption)) | exact HS.out _ (Below.drew (Below.refl _ _)))
    (first
      | (go_at_call 37; (with_reducible refine (Q4.out _ ?bb).mono ?_); (case bb => (first | assumption | (repeat (first | with_reducible exact Below.refl _ _ | with_reducible assumption | with_reducible refine Below.drew ?_)))); rintro e w2 ⟨rfl, rfl⟩)
      | (go_at_call 88; (with_reducible refine (Q5.out _ ?bb).mono ?_); (case bb => first | exact ⟨0, rfl⟩ | exact ⟨1, rfl⟩ | exact ⟨2, rfl⟩); rintro e w3 ⟨gr, cap, rfl, hgr, hb3⟩; have HGR := hide hgr; clear hgr)
      | (go_at_call 90; (with_reducible refine (Q6.out w3 _ _ _ hb3 ?bb HGR.out).mono ?_); (case bb => first | exact ⟨0, rfl⟩ | exact ⟨1, rfl⟩ | exact ⟨2, rfl⟩); rintro e w4 ⟨rfl, hb4⟩))
  all_goals go_wp2
  all_goals go_ret
  all_goals exact ⟨rfl, hb4⟩
end
end Go.Proofs.YtoaaplngdomdcaaGreat.MB

/- What the statements call a matrix, over bytes: sizes. -/
namespace Go.Proofs.YtoaaplngdomdcaaGreat.MB
open Go.RowKit
section

variable {w : World} {base g n m : Nat} {M : Nat → Nat → UInt8}

set_option maxRecDepth 100000 in
set_option maxHeartbeats 4000000 in
theorem sizes_c (x : Nat) (h : Mtx w x n n M) (hk : Fk w) (hn : 1 ≤ n ∧ n ≤ 256) :
    Calls Tryz.prog 13 #[.agg #[.pointer (some ⟨x, 0, none⟩), .pointer none]] w fun e w' => e = .returned (.tuple #[.int .i64 (n : Int), .int .i64 (n : Int), .int .i64 (F8.rank n M : Int)]) ∧ Below w.heap.size w w' := by
  have b1 := (Below.refl w.heap.size w).alloc (Nat.le_refl _) (.cells #[.pointer (some ⟨x, 0, none⟩), .pointer none] 32)
  have n1 := Blk.new w 32 #[.pointer (some ⟨x, 0, none⟩), .pointer none]
  have HH := hide (And.intro (h.below b1) (And.intro (hk.below b1) hn))
  generalize hW : w.alloc (.cells #[.pointer (some ⟨x, 0, none⟩), .pointer none] 32) = W1 at n1 b1 HH
  have HS : Hid (∀ W, Below W1.heap.size W1 W → W.cell? ⟨w.heap.size, 0, none⟩ = some (.pointer (some ⟨x, 0, none⟩)) ∧ W.cell? ⟨w.heap.size, 1, none⟩ = some (.pointer none)) := fun W hb => ⟨by rw [(n1.below' hb).cell]; rfl, by rw [(n1.below' hb).cell]; rfl⟩
  have Q1 : Hid (∀ W, Below W1.heap.size W1 W → Calls Tryz.prog 36 #[.pointer (some ⟨x, 0, none⟩)] W fun e w' => e = .returned (.int .i64 (n : Int)) ∧ W = w') := fun W hb => rows_c (HH.out.1.below hb)
  have Q2 : Hid (∀ W, Below W1.heap.size W1 W → Calls Tryz.prog 37 #[.pointer (some ⟨x, 0, none⟩)] W fun e w' => e = .returned (.int .i64 (n : Int)) ∧ W = w') := fun W hb => cols_c (HH.out.1.below hb) (by have := HH.out.2.2; omega)
  have Q3 : Hid (∀ W, Below W1.heap.size W1 W → Calls Tryz.prog 38 #[.pointer (some ⟨x, 0, none⟩)] W fun e w' => e = .returned (.int .i64 (F8.rank n M : Int)) ∧ Below W1.heap.size W1 w') := hide (fun W hb => by
    have q := rank_c (HH.out.1.below hb) (HH.out.2.1.below hb) HH.out.2.2 HH.out.2.2
    rw [Fd.rank_beside] at q
    exact q.mono fun e w' ⟨a, b⟩ => ⟨a, Below.step hb b⟩)
  generalize F8.rank n M = z at *
  have HB := hide b1
  obtain ⟨c0, c1⟩ := HS.out W1 (Below.refl _ _)
  clear h hk hn b1 n1
  go_enter Tryz.func13, Tryz.ntmps13
  go_wp2_with fail
  go_region_held3 (fun w' => w'.cell? ⟨w.heap.size, 0, none⟩ = some (.pointer (some ⟨x, 0, none⟩)) ∧ w'.cell? ⟨w.heap.size, 1, none⟩ = some (.pointer none)) (first | go_keep | exact HS.out _ (by assumption) | exact HS.out _ (Below.drew (by assumption)) | exact HS.out _ (Below.drew (Below.refl _ _)))
    (first
      | (go_at_call 36; (with_reducible refine (Q1.out _ ?bb).mono ?_); (case bb => (first | assumption | (repeat (first | with_reducible exact Below.refl _ _ | with_reducible assumption | with_reducible refine Below.drew ?_)))); rintro e w2 ⟨rfl, rfl⟩)
      | (go_at_call 37; (with_reducible refine (Q2.out _ ?bb).mono ?_); (case bb => (first | assumption | (repeat (first | with_reducible exact Below.refl _ _ | with_reducible assumption | with_reducible refine Below.drew ?_)))); rintro e w3 ⟨rfl, rfl⟩)
      | (go_at_call 38; (with_reducible refine (Q3.out _ ?bb).mono ?_); (case bb => (first | assumption | (repeat (first | with_reducible exact Below.refl _ _ | with_reducible assumption | with_reducible refine Below.drew ?_)))); rintro e w4 ⟨rfl, hb4⟩))
  all_goals go_wp2
  all_goals refine bodyPost_ret (v := .tuple #[.int .i64 (n : Int), .int .i64 (n : Int), .int .i64 (z : Int)]) (by simp [results, Tryz.results13, go_sem]) rfl ⟨rfl, Below.step HB.out hb4⟩
end
end Go.Proofs.YtoaaplngdomdcaaGreat.MB

/- Matrices of bytes: Times. -/
namespace Go.Proofs.YtoaaplngdomdcaaGreat.MB
open Go.RowKit
section

variable {w : World} {base g n m : Nat} {M : Nat → Nat → UInt8}

theorem row_mono {w : World} {b b' : Nat} {e : TypeId} {sz : Nat} {v : Value} {n : Nat} {xs : List Value} (h : w.ownsRow b e sz v n xs) (hb : b' ≤ b) : w.ownsRow b' e sz v n xs := by
  obtain ⟨h1, h2 | ⟨g, cap, cur, hv, hg, hr⟩⟩ := h
  · exact ⟨h1, .inl h2⟩
  · exact ⟨h1, .inr ⟨g, cap, cur, hv, Nat.le_trans hb hg, hr⟩⟩
theorem rcells_snoc (r : Nat → UInt8) (k : Nat) : rcells en r (k + 1) = rcells en r k ++ [en (r k)] := by simp [rcells, List.range_succ]
set_option maxHeartbeats 800000 in
theorem times1_c (b k : Nat) (v : Value) (y : Nat → UInt8) (hv : Sl w 1 v m (rcells en y m)) (hk : k < m) (hm : m ≤ 4096) (c1 : w.cell? ⟨b, 0, none⟩ = some v) :
    Calls Tryz.prog 112 #[.int .i64 (k : Int), .pointer (some ⟨b, 0, none⟩)] w fun e w' => e = .returned (.int .u8 ((UInt8.toNat (y k) : Nat) : Int)) ∧ Below w.heap.size w w' := by
  obtain ⟨A, c, rfl, h1, h2, h3⟩ := hv.form
  obtain ⟨bb, o, rfl, hlt, hc⟩ := h3 (by omega)
  have hcx : w.cell? ⟨bb, o + k, none⟩ = some (.int .u8 ((UInt8.toNat (y k) : Nat) : Int)) := by rw [hc k (by omega), rcells_get hk]; rfl
  generalize y k = z at *
  have i1 : (k : Int) < (m : Int) := by omega
  have i2 : (0 : Int) ≤ (k : Int) := by omega
  clear hv h3 hc
  go_enter Tryz.func112, Tryz.ntmps112
  go_wp2
  go_ret
  exact ⟨rfl, Below.refl _ _⟩
set_option maxRecDepth 100000 in
set_option maxHeartbeats 4000000 in
theorem times_c (h : Mtx w g n m M) (hk : Fk w) (hn : 1 ≤ n ∧ n ≤ 256) (hm : m ≤ 4096) (v : Value) (y : Nat → UInt8) (hv : Sl w 1 v m (rcells en y m)) :
    Calls Tryz.prog 59 #[.pointer (some ⟨g, 0, none⟩), v] w fun e w' => ∃ u, e = .returned (.tuple #[u, .int .i64 0]) ∧ w'.ownsRow w.heap.size 5 1 u n (rcells en (fun i => F8.dot m (M i) y) n) ∧ Below w.heap.size w w' := by
  obtain ⟨A, c, rfl, hlc, hcm, _⟩ := hv.form
  have HH := hide (And.intro h (And.intro hk (And.intro hn (And.intro hm hv))))
  have n1 := Blk.new w 85 #[.slice A m c]
  have b1 := (Below.refl w.heap.size w).alloc (Nat.le_refl _) (.cells #[.slice A m c] 85)
  generalize hW : w.alloc (.cells #[.slice A m c] 85) = W1 at n1 b1
  have q1 := made_c (h.below b1)
  have HX : Hid (∀ W, Below W1.heap.size W1 W → Mtx W g n m M ∧ Fk W ∧ Sl W 1 (.slice A m c) m (rcells en y m) ∧ W.cell? ⟨w.heap.size, 0, none⟩ = some (.slice A m c)) := fun W hb => ⟨(HH.out.1.below b1).below hb, (HH.out.2.1.below b1).below hb, (HH.out.2.2.2.2.below b1).below hb, by rw [(n1.below' hb).cell]; rfl⟩
  have HB := hide b1
  obtain ⟨R, c3, _, r1, r2, r3, _⟩ := Mt.form (h.below b1)
  have hne : ((m : Int) != (m : Int)) = false := by simp
  have ct := (HX.out W1 (Below.refl _ _)).2.2.2
  have Q4 : Hid (∀ W, Below W1.heap.size W1 W → Calls Tryz.prog 37 #[.pointer (some ⟨g, 0, none⟩)] W fun e w' => e = .returned (.int .i64 (m : Int)) ∧ W = w') := fun W hb => cols_c (HX.out W hb).1 (by have := HH.out.2.2.1; omega)
  clear h hk hn hm hv n1 b1
  go_enter Tryz.func59, Tryz.ntmps59
  go_wp2_with fail
  refine q1.mono ?_
  rintro e w' ⟨rfl, rfl⟩
  clear q1
  go_wp2_with fail
  go_region_held3 (fun w' => w'.cell? ⟨w.heap.size, 0, none⟩ = some (.slice A m c)) (go_keep)
    (first | (go_at_call 37; (with_reducible refine (Q4.out _ ?bb).mono ?_); (case bb => (repeat (first | with_reducible exact Below.refl _ _ | with_reducible refine Below.drew ?_))); rintro e w2 ⟨rfl, rfl⟩))
  have r1d : W1.drew.cell? ⟨g, 1, none⟩ = some (.slice R n c3) := r1
  go_wp2_with fail
  go_loopw [6, 7, 21] (fun u6 _ u21 wr => ∃ k : Nat, k ≤ n ∧ u21 = .int .i64 (k : Int) ∧ wr.ownsRow W1.heap.size 5 1 u6 k (rcells en (fun i => F8.dot m (M i) y) k) ∧ Below W1.heap.size W1 wr) (fun _ _ u21 _ => n - (intOf u21).toNat)
  case atStart => exact ⟨0, by omega, rfl, World.ownsRow_nil _ _ _ _, (Below.refl _ _).drew⟩
  case round =>
    obtain ⟨k, hk, rfl, hown, hbel⟩ := hrel
    have HO := hide hown
    clear hown
    by_cases hlt : k < n
    · have i1 : (k : Int) < (n : Int) := by omega
      have i2 : (0 : Int) ≤ (k : Int) := by omega
      have q := dot_c (HX.out wr hbel).1 (HX.out wr hbel).2.1 hlt HH.out.2.2.2.1 112 #[.pointer (some ⟨w.heap.size, 0, none⟩)] y (enters_of Tryz.func112 (by kernel_rfl) rfl)
        (fun t w' ht hb => times1_c w.heap.size t _ y ((HX.out wr hbel).2.2.1.below hb) ht HH.out.2.2.2.1 (HX.out w' (Below.step hbel hb)).2.2.2)
      have HS : Hid (rcells en (fun i => F8.dot m (M i) y) (k + 1) = rcells en (fun i => F8.dot m (M i) y) k ++ [en (F8.dot m (M k) y)]) := hide (rcells_snoc _ k)
      have ho := HO.out
      generalize hz : F8.dot m (M k) y = z at q HS
      clear hz
      go_wp2_with fail
      refine q.mono ?_
      rintro e w2 ⟨rfl, hb2⟩
      have HO2 := hide (own_below' ho hb2)
      have hbel2 := Below.step hbel hb2
      have hn256 := HH.out.2.2.1.2
      clear q ho HO hb2 hbel
      go_wp2_with (at_builtin; go_loud (refine wpList_push1 elem8 HO2.out hbel2 hbel2.size (by unfold maxLen; omega) (by omega) (.int .u8 ((UInt8.toNat z : Nat) : Int)) rfl rfl _ _ rfl rfl rfl ?_); intro v5 w5 ho5 hb5 _ _ _)
      go_roundw
      case rel => exact ⟨k + 1, by omega, by go_num, by rw [HS.out]; exact ho5, hb5⟩
      case measure => simp [intOf]; omega
    · have hkn : k = n := by omega
      subst hkn
      have HF := hide (Below.step HB.out hbel)
      go_wp2
      go_ret2
      exact ⟨_, rfl, row_mono HO.out HB.out.size, HF.out⟩
end
end Go.Proofs.YtoaaplngdomdcaaGreat.MB
