/- Matrices of bytes: Inverse. -/
import Derived.Test.YtoaaplngdomdcaaMbI
import Derived.Deep.DeepCutAuto
import Derived.Test.YtoaaplngdomdcaaBst
namespace Go.Proofs.Ytoaaplngdomdcaa.MB
open Go.RowKit
section

variable {w : World} {base g n m : Nat} {M : Nat → Nat → UInt8}

theorem lo_of {w : World} {base : Nat} (_ : Fk w) (_ : w.heap.size ≤ base) : True := trivial
set_option maxRecDepth 100000 in
set_option maxHeartbeats 2000000 in
theorem inv_dims (h : Mtx w g n m M) (hn : 1 ≤ n) (hnm : n ≠ m) :
    Calls Try.prog 79 #[.pointer (some ⟨g, 0, none⟩)] w fun e w' => e = .returned (.tuple #[.pointer none, .int .i64 70]) ∧ Below w.heap.size w w' := by
  have q1 := made_c h
  have q2 := rows_c h
  have HH := hide h
  have hne : ((n : Int) != (m : Int)) = true := by rw [bne_iff_ne]; omega
  clear h hnm
  go_enter Try.func79, Try.ntmps79
  go_wp2_with fail
  refine q1.mono ?_
  rintro e w' ⟨rfl, rfl⟩
  go_wp2_with fail
  refine q2.mono ?_
  rintro e w' ⟨rfl, rfl⟩
  clear q1 q2
  go_wp2_with fail
  have n1 := Blk.new w 3 #[.int .i64 (n : Int)]
  have b1 := (Below.refl w.heap.size w).alloc (Nat.le_refl _) (.cells #[.int .i64 (n : Int)] 3)
  generalize w.alloc (.cells #[.int .i64 (n : Int)] 3) = W1 at n1 b1 ⊢
  have cN : W1.cell? ⟨w.heap.size, 0, none⟩ = some (.int .i64 (n : Int)) := by rw [n1.cell]; rfl
  have H1 := hide b1
  have Q4 : Hid (∀ W, Below W1.heap.size W1 W → Calls Try.prog 119 #[.pointer (some ⟨g, 0, none⟩)] W fun e w' => e = .returned (.int .i64 (m : Int)) ∧ W = w') := fun W hW => cols_c ((HH.out.below H1.out).below hW) (by omega)
  clear n1 b1
  go_region_held3 (fun w' => w'.cell? ⟨w.heap.size, 0, none⟩ = some (.int .i64 (n : Int))) (go_keep)
    (first | (go_at_call 119; (with_reducible refine (Q4.out _ ?bb).mono ?_); (case bb => (repeat (first | with_reducible exact Below.refl _ _ | with_reducible refine Below.drew ?_))); rintro e w2 ⟨rfl, rfl⟩))
  go_wp2
  go_ret2
  exact ⟨rfl, H1.out.drew⟩

set_option maxRecDepth 100000 in
set_option maxHeartbeats 8000000 in
theorem inverse_c (h : Mtx w g n n M) (hk : Fk w) (hn : 1 ≤ n ∧ n ≤ 256) :
    Calls Try.prog 79 #[.pointer (some ⟨g, 0, none⟩)] w fun e w' => Below w.heap.size w w' ∧
      ((F8.rank n M = n ∧ ∃ x, e = .returned (.tuple #[.pointer (some ⟨x, 0, none⟩), .int .i64 0]) ∧ Mtx w' x n n (F8.invM n M)) ∨ (F8.rank n M ≠ n ∧ e = .returned (.tuple #[.pointer none, .int .i64 71]))) := by
  have q1 := made_c h
  have q2 := rows_c h
  have HH := hide (And.intro h (And.intro hk hn))
  clear h hk hn
  go_enter Try.func79, Try.ntmps79
  go_wp2_with fail
  refine q1.mono ?_
  rintro e w' ⟨rfl, rfl⟩
  go_wp2_with fail
  refine q2.mono ?_
  rintro e w' ⟨rfl, rfl⟩
  clear q1 q2
  go_wp2_with fail
  have n1 := Blk.new w 3 #[.int .i64 (n : Int)]
  have b1 := (Below.refl w.heap.size w).alloc (Nat.le_refl _) (.cells #[.int .i64 (n : Int)] 3)
  generalize w.alloc (.cells #[.int .i64 (n : Int)] 3) = W1 at n1 b1 ⊢
  obtain ⟨N, hN⟩ : ∃ N, N = w.heap.size := ⟨_, rfl⟩
  rw [← hN] at n1 ⊢
  have hNlt : N < W1.heap.size := n1.lt
  have HN := hide hN
  have H1 := hide (And.intro n1 b1)
  have cN : W1.cell? ⟨N, 0, none⟩ = some (.int .i64 (n : Int)) := by rw [n1.cell]; rfl
  have Q4 : Hid (∀ W, Below W1.heap.size W1 W → Calls Try.prog 119 #[.pointer (some ⟨g, 0, none⟩)] W fun e w' => e = .returned (.int .i64 (n : Int)) ∧ W = w') := fun W hW => cols_c ((HH.out.1.below H1.out.2).below hW) (by have := HH.out.2.2; omega)
  have hne : ((n : Int) != (n : Int)) = false := by simp
  clear n1 b1 hN
  go_region_held3 (fun w' => w'.cell? ⟨N, 0, none⟩ = some (.int .i64 (n : Int))) (go_keep)
    (first | (go_at_call 119; (with_reducible refine (Q4.out _ ?bb).mono ?_); (case bb => (repeat (first | with_reducible exact Below.refl _ _ | with_reducible refine Below.drew ?_))); rintro e w2 ⟨rfl, rfl⟩))
  clear Q4
  have cg : W1.cell? ⟨g, 0, none⟩ = some gfF := by
    obtain ⟨_, _, c0, _⟩ := Mt.form (HH.out.1.below H1.out.2)
    exact c0
  have Q6 : Hid (∀ W, Below W1.heap.size W1 W → Calls Try.prog 76 #[gfF, .int .i64 (n : Int)] W fun e w' => ∃ x, e = .returned (.tuple #[.pointer (some ⟨x, 0, none⟩), .int .i64 0]) ∧ Mtx w' x n n F8.ident ∧ Below W.heap.size W w' ∧ ∀ G u, G < W.heap.size → Mtx (w'.setCell ⟨G, 0, none⟩ u) x n n F8.ident) := fun W hW => ident_c n W ((HH.out.2.1.below H1.out.2).below hW) HH.out.2.2
  have HS6 : Hid (∀ W, Below W1.heap.size W1 W → W.cell? ⟨g, 0, none⟩ = some gfF ∧ W.cell? ⟨N, 0, none⟩ = some (.int .i64 (n : Int))) := fun W hW => ⟨(hW.cell (World.block_lt_of_cell? _ _ cg)).trans cg, (hW.cell (World.block_lt_of_cell? _ _ cN)).trans cN⟩
  go_upto_region 6 with fail
  go_cut [5, 6] (fun u5 u6 wx => ∃ gx go : Nat, u5 = .pointer (some ⟨go, 0, none⟩) ∧ u6 = .int .i64 0 ∧ Blk wx go 56 #[.pointer (some ⟨gx, 0, none⟩)] ∧ Mtx wx gx n n F8.ident ∧ Below W1.heap.size W1 wx)
  case first =>
    go_region_held3 (fun w' => w'.cell? ⟨g, 0, none⟩ = some gfF ∧ w'.cell? ⟨N, 0, none⟩ = some (.int .i64 (n : Int))) (first | go_keep | exact HS6.out _ (by (repeat (first | with_reducible exact Below.refl _ _ | with_reducible refine Below.drew ?_ | with_reducible refine Below.al0 ?_ _ | with_reducible refine Below.step ?_ hb2 | refine Below.setCell ?_ (by exact Nat.le_refl _) _))))
      (first | (go_at_call 76; (with_reducible refine (Q6.out _ ?bb).mono ?_); (case bb => (repeat (first | with_reducible exact Below.refl _ _ | with_reducible refine Below.drew ?_ | with_reducible refine Below.al0 ?_ _))); rintro e w2 ⟨x, rfl, hmx, hb2, hlow⟩; (try (have kb := (((Blk.new W1 56 #[.pointer none]).drew).drew).below' hb2; have c5 : w2.cell? ⟨W1.heap.size, 0, none⟩ = some (.pointer none) := (kb.cell 0).trans rfl; have f5 : w2.frozen? ⟨W1.heap.size, 0, none⟩ = false := kb.frozen 0; have HKB := hide kb; clear kb)); have HX := hide (And.intro hmx hlow); clear hmx hlow))
    · go_wp2_with fail
      go_meet
      exact ⟨x, w2.heap.size, rfl, rfl, Blk.new w2 _ _, HX.out.1.below ((Below.refl _ w2).alloc (Nat.le_refl _) _), by (repeat (first | with_reducible exact Below.refl _ _ | with_reducible refine Below.drew ?_ | with_reducible refine Below.al0 ?_ _ | with_reducible refine Below.step ?_ hb2 | refine Below.setCell ?_ (by exact Nat.le_refl _) _))⟩
    · go_wp2_with fail
      go_meet
      exact ⟨x, W1.heap.size, rfl, rfl, HKB.out.set_ 0 _, HX.out.2 _ _ (by show W1.heap.size < (W1.alloc _).heap.size; simp), by (repeat (first | with_reducible exact Below.refl _ _ | with_reducible refine Below.drew ?_ | with_reducible refine Below.al0 ?_ _ | with_reducible refine Below.step ?_ hb2 | refine Below.setCell ?_ (by exact Nat.le_refl _) _))⟩
  case rest =>
    obtain ⟨gx, go, rfl, rfl, hbo, hmi, hbc⟩ := hcut
    have hbw : Below w.heap.size w wc := Below.step H1.out.2 hbc
    have q7 := beside_c (HH.out.1.below hbw) HH.out.2.2.2 (by have := HH.out.2.2; omega) n (by have := HH.out.2.2; omega) F8.ident 138 #[.pointer (some ⟨go, 0, none⟩)] (enters_of Try.func138 (by kernel_rfl) rfl)
      (fun i w' hi hb => inv1_c gx go i (hmi.below hb) hi (by rw [(hbo.below' hb).cell]; rfl))
    have HC := hide (And.intro hbc hbw)
    have cNc := (HS6.out wc hbc).2
    have cgc := (HS6.out wc hbc).1
    clear hbo hmi hbc hbw Q6 HS6 cg cN
    go_wp2_with fail
    refine q7.mono ?_
    rintro e w3 ⟨v, rfl, hgo, hb3⟩
    obtain ⟨gr, cap, rfl, hnc, hcm, hgr⟩ := hgo.grid (by have := HH.out.2.2; omega)
    clear q7 hgo
    go_wp2_with fail
    have n3 := Blk.new w3 43 #[.slice (some ⟨gr, 0, none⟩) n cap]
    have b3 := (Below.refl w3.heap.size w3).alloc (Nat.le_refl _) (.cells #[.slice (some ⟨gr, 0, none⟩) n cap] 43)
    have hg3 := hgr.below b3
    have hbc3 := hb3.trans (b3.mono hb3.size)
    generalize w3.alloc (.cells #[.slice (some ⟨gr, 0, none⟩) n cap] 43) = W3 at n3 b3 hg3 hbc3 ⊢
    generalize w3.heap.size = T at n3 b3 ⊢
    have hk3 := HH.out.2.1.below (Below.step HC.out.2 hbc3)
    have hlo3 := lo_of HH.out.2.1 HC.out.2.size
    obtain ⟨rk, hrk⟩ : ∃ rk, rk = F8.rank n M := ⟨_, rfl⟩
    have hrl : rk ≤ n := by rw [hrk]; exact Fd.rank_le _ _
    have HR := hide hrk
    have Q8 : Hid (∀ W, Below W3.heap.size W3 W → Calls Try.prog 139 #[gfF, .slice (some ⟨gr, 0, none⟩) n cap, .int .i64 (n : Int)] W fun e w' => e = .returned (.int .i64 (rk : Int)) ∧ Gr w' wc.heap.size gr n (n + n) (F8.red n (Fd.beside n M F8.ident) n).1 ∧ Below wc.heap.size W3 w' ∧ Kt 38 5 W3 w') := fun W hW => by
      refine (reduced_c cap n (hg3.below hW) (hk3.below hW) hlo3 (by omega) (by have := HH.out.2.2; omega) (by have := HH.out.2.2; omega) (Nat.le_trans hbc3.size hW.size) ⟨hnc, hcm⟩).mono fun e w' ⟨a, b, c, d⟩ => ⟨?_, b, (hW.mono hbc3.size).trans c, ((Kt.refl _ _ _).below hW).trans d⟩
      rw [a, hrk, Fd.rank_beside]
    have cN3 := (hbc3.cell (World.block_lt_of_cell? _ _ cNc)).trans cNc
    have cg3 := (hbc3.cell (World.block_lt_of_cell? _ _ cgc)).trans cgc
    have cT3 : W3.cell? ⟨T, 0, none⟩ = some (.slice (some ⟨gr, 0, none⟩) n cap) := by rw [n3.cell]; rfl
    have HS8 : Hid (∀ W2, Below wc.heap.size W3 W2 → Kt 38 5 W3 W2 → W2.cell? ⟨g, 0, none⟩ = some gfF ∧ W2.cell? ⟨T, 0, none⟩ = some (.slice (some ⟨gr, 0, none⟩) n cap) ∧ W2.cell? ⟨N, 0, none⟩ = some (.int .i64 (n : Int))) := fun W2 h1 h2 =>
      ⟨(World.cell?_of_block (h1.block g (World.block_lt_of_cell? _ _ cgc))).trans cg3, by rw [(h2 _ _ _ n3 (by decide) (by decide)).cell]; rfl, (World.cell?_of_block (h1.block N (World.block_lt_of_cell? _ _ cNc))).trans cN3⟩
    have HC3 := hide (And.intro hbc3 (And.intro hnc hcm))
    clear n3 b3 hg3 hgr hb3 hbc3 hk3 hlo3 hnc hcm cNc cgc hrk
    by_cases hf : rk = n
    · subst hf
      go_region_held3 (fun w' => w'.cell? ⟨g, 0, none⟩ = some gfF ∧ w'.cell? ⟨T, 0, none⟩ = some (.slice (some ⟨gr, 0, none⟩) rk cap) ∧ w'.cell? ⟨N, 0, none⟩ = some (.int .i64 (rk : Int))) (first | go_keep | exact HS8.out _ hB5 hK5)
        (first | (go_at_call 139; (with_reducible refine (Q8.out _ ?bb).mono ?_); (case bb => (repeat (first | with_reducible exact Below.refl _ _ | with_reducible refine Below.drew ?_))); rintro e w5 ⟨rfl, hG5, hB5, hK5⟩))
      obtain ⟨s1, s2, s3⟩ := HS8.out _ hB5 hK5
      have hb5 := HC3.out.1.trans hB5
      have HG5 := hide (And.intro hG5 hb5)
      clear Q8 HS8 hG5 hB5 hK5 hb5 cN3 cg3 cT3
      have HS10 : Hid (∀ W, Below w5.heap.size w5 W → W.cell? ⟨g, 0, none⟩ = some gfF ∧ W.cell? ⟨T, 0, none⟩ = some (.slice (some ⟨gr, 0, none⟩) rk cap) ∧ W.cell? ⟨N, 0, none⟩ = some (.int .i64 (rk : Int))) := fun W hW =>
        ⟨(hW.cell (World.block_lt_of_cell? _ _ s1)).trans s1, (hW.cell (World.block_lt_of_cell? _ _ s2)).trans s2, (hW.cell (World.block_lt_of_cell? _ _ s3)).trans s3⟩
      have Q10 : Hid (∀ W, Below w5.heap.size w5 W → Calls Try.prog 117 #[gfF, .int .i64 (rk : Int), .int .i64 (rk : Int), .func (.func 140) #[] #[.pointer (some ⟨T, 0, none⟩), .pointer (some ⟨N, 0, none⟩)]] W fun e w' => ∃ x, e = .returned (.pointer (some ⟨x, 0, none⟩)) ∧ Mtx w' x rk rk (F8.invM rk M) ∧ Below w5.heap.size w5 w') := fun W hW =>
        (laid_c rk rk 140 #[.pointer (some ⟨T, 0, none⟩), .pointer (some ⟨N, 0, none⟩)] (F8.invM rk M) W HH.out.2.2.2 HH.out.2.2.2 (enters_of Try.func140 (by kernel_rfl) rfl) (fun i j w' hi hj hb =>
          inv2_c T N i j rk cap (HG5.out.1.below (Below.step hW hb)) hi (by omega) (by have := HH.out.2.2; omega) HC3.out.2.1 (HS10.out w' (Below.step hW hb)).2.1 (HS10.out w' (Below.step hW hb)).2.2)).mono fun e w' ⟨x, a, b, c⟩ => ⟨x, a, b, Below.step hW c⟩
      go_wp2_with fail
      go_region_held3 (fun w' => w'.cell? ⟨g, 0, none⟩ = some gfF ∧ w'.cell? ⟨N, 0, none⟩ = some (.int .i64 (rk : Int))) (first | go_keep | exact ⟨(HS10.out _ q10).1, (HS10.out _ q10).2.2⟩)
        (first | (go_at_call 117; (with_reducible refine (Q10.out _ ?bb).mono ?_); (case bb => (repeat (first | with_reducible exact Below.refl _ _ | with_reducible refine Below.drew ?_))); rintro e w6 ⟨x, rfl, hmx, q10⟩; have HM := hide hmx; clear hmx))
      have HE := hide (HC.out.2.trans ((HG5.out.2.trans (q10.mono HG5.out.2.size)).mono HC.out.2.size))
      clear Q10 HS10 q10
      go_wp2
      go_ret2
      exact ⟨HE.out, .inl ⟨HR.out.symm, x, rfl, HM.out⟩⟩
    · have i8 : (rk : Int) < (n : Int) := by omega
      go_region_held3 (fun w' => w'.cell? ⟨g, 0, none⟩ = some gfF ∧ w'.cell? ⟨T, 0, none⟩ = some (.slice (some ⟨gr, 0, none⟩) n cap) ∧ w'.cell? ⟨N, 0, none⟩ = some (.int .i64 (n : Int))) (first | go_keep | exact HS8.out _ hB5 hK5)
        (first | (go_at_call 139; (with_reducible refine (Q8.out _ ?bb).mono ?_); (case bb => (repeat (first | with_reducible exact Below.refl _ _ | with_reducible refine Below.drew ?_))); rintro e w5 ⟨rfl, hG5, hB5, hK5⟩))
      have HE := hide (HC.out.2.trans ((HC3.out.1.trans hB5).mono HC.out.2.size))
      clear Q8 HS8 hG5 hB5 hK5
      go_wp2
      go_ret2
      exact ⟨HE.out, .inr ⟨fun e => hf (HR.out.trans e), rfl⟩⟩
end
end Go.Proofs.Ytoaaplngdomdcaa.MB
