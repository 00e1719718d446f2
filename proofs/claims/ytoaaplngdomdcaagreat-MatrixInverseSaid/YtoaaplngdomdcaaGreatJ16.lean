/- Joined texts: MvW, MvZA, MvV, MvX, MvZB, MvYA. -/
import Derived.Test.YtoaaplngdomdcaaGreatJ10
import Derived.Test.YtoaaplngdomdcaaGreatJ6

/- Matrices of words: Rank. -/
namespace Go.Proofs.YtoaaplngdomdcaaGreat.MV
open Go.RowKit
section
variable {p gm : Nat} {hp : 0 < p}
variable {w : World} {base g n m : Nat} {M : Nat → Nat → (Fin p)}

theorem rank1_c (i : Nat) (w : World) (N : Nat → Nat → (Fin p)) : Calls Tryz.prog 98 #[.int .i64 (i : Int)] w fun x w' => ∃ v, x = .returned v ∧ Sl w' 1 v 0 (rcells en (N i) 0) ∧ Below w.heap.size w w' := by
  go_enter Tryz.func98, Tryz.ntmps98
  go_wp2
  go_ret
  exact ⟨_, rfl, Sl.nil _ _, Below.refl _ _⟩
set_option maxRecDepth 100000 in
set_option maxHeartbeats 4000000 in
theorem rank_c (h : Mtx gm w g n m M) (hk : (Fk p gm) w) (hn : 1 ≤ n ∧ n ≤ 256) (hm : 1 ≤ m ∧ m ≤ 256) :
    Calls Tryz.prog 41 #[.pointer (some ⟨g, 0, none⟩)] w fun e w' => e = .returned (.int .i64 (((Fp p hp).red n (Fd.beside m M fun _ _ => (Fp p hp).zero) m).2 : Int)) ∧ Below w.heap.size w w' := by
  have q1 := made_c h
  obtain ⟨_, _, c0, _⟩ := Mt.form h
  have HH := hide (And.intro h (And.intro hk (And.intro hn hm)))
  have Q5 : Hid (∀ W, Dr w W → Calls Tryz.prog 93 #[.pointer (some ⟨g, 0, none⟩), .func (.func 98) #[] #[]] W fun x w' => ∃ gr cap, x = .returned (.slice (some ⟨gr, 0, none⟩) n cap) ∧ (Gr w' w.heap.size gr n m (Fd.beside m M fun _ _ => (Fp p hp).zero) ∧ n ≤ cap ∧ cap ≤ maxLen) ∧ Below w.heap.size w w') := hide (fun W hW => by
    obtain ⟨k, rfl⟩ := hW
    refine (beside_c (HH.out.1.below (below_drewN (Below.refl _ _) k)) HH.out.2.2.1.2 (by have := HH.out.2.2.2; omega) 0 (by omega) (fun _ _ => (Fp p hp).zero) 98 #[] (enters_of Tryz.func98 (by kernel_rfl) rfl) (fun i w' _ _ => rank1_c i w' (fun _ _ => (Fp p hp).zero))).mono ?_
    rintro x w' ⟨v, rfl, hgo, hb⟩
    obtain ⟨gr, cap, rfl, hnc, hcm, hgr⟩ := hgo.grid (by have := HH.out.2.2.1; omega)
    exact ⟨gr, cap, rfl, ⟨hgr, hnc, hcm⟩, (below_drewN (Below.refl _ _) k).trans hb⟩)
  have Q4 : Hid (∀ W, Below w.heap.size w W → Calls Tryz.prog 40 #[.pointer (some ⟨g, 0, none⟩)] W fun e w' => e = .returned (.int .i64 (m : Int)) ∧ W = w') := fun W hb => cols_c (HH.out.1.below hb) (by have := HH.out.2.2.1; omega)
  have HS : Hid (∀ W, Below w.heap.size w W → W.cell? ⟨g, 0, none⟩ = some (modF gm)) := fun W hb => (hb.cell (World.block_lt_of_cell? _ _ c0)).trans c0
  have Q6 : Hid (∀ w2 W gr cap, Below w.heap.size w w2 → Dr w2 W → (Gr w2 w.heap.size gr n m (Fd.beside m M fun _ _ => (Fp p hp).zero) ∧ n ≤ cap ∧ cap ≤ maxLen) → Calls Tryz.prog 95 #[(modF gm), .slice (some ⟨gr, 0, none⟩) n cap, .int .i64 (m : Int)] W fun e w' => e = .returned (.int .i64 (((Fp p hp).red n (Fd.beside m M fun _ _ => (Fp p hp).zero) m).2 : Int)) ∧ Below w.heap.size w w') := hide (fun w2 W gr cap h2 hW hgr => by
    have hb := h2.trans (hW.below.mono h2.size)
    refine (reduced_c (hp := hp) cap m (hgr.1.below hW.below) (HH.out.2.1.below hb) (lo_of HH.out.2.1 (Nat.le_refl _)) (Nat.le_refl _) HH.out.2.2.1.2 (by have := HH.out.2.2.2; omega) hb.size hgr.2).mono fun e w' ⟨a, _, c, _⟩ => ⟨a, hb.trans c⟩)
  generalize ((Fp p hp).red n (Fd.beside m M fun _ _ => (Fp p hp).zero) m).2 = z at *
  clear h hk hn hm
  go_enter Tryz.func41, Tryz.ntmps41
  go_wp2_with fail
  refine q1.mono ?_
  rintro e w' ⟨rfl, rfl⟩
  clear q1
  go_wp2_with fail
  go_region_held3 (fun w' => w'.cell? ⟨g, 0, none⟩ = some (modF gm)) (first | go_keep | exact HS.out _ (by assumption) | exact HS.out _ (Below.drew (by assumption)) | exact HS.out _ (Below.drew (Below.refl _ _)))
    (first
      | (go_at_call 40; (with_reducible refine (Q4.out _ ?bb).mono ?_); (case bb => (first | assumption | (repeat (first | with_reducible exact Below.refl _ _ | with_reducible assumption | with_reducible refine Below.drew ?_)))); rintro e w2 ⟨rfl, rfl⟩)
      | (go_at_call 93; (with_reducible refine (Q5.out _ ?bb).mono ?_); (case bb => first | exact ⟨0, rfl⟩ | exact ⟨1, rfl⟩ | exact ⟨2, rfl⟩); rintro e w3 ⟨gr, cap, rfl, hgr, hb3⟩; have HGR := hide hgr; clear hgr)
      | (go_at_call 95; (with_reducible refine (Q6.out w3 _ _ _ hb3 ?bb HGR.out).mono ?_); (case bb => first | exact ⟨0, rfl⟩ | exact ⟨1, rfl⟩ | exact ⟨2, rfl⟩); rintro e w4 ⟨rfl, hb4⟩))
  all_goals go_wp2
  all_goals go_ret
  all_goals exact ⟨rfl, hb4⟩
end
end Go.Proofs.YtoaaplngdomdcaaGreat.MV

/- What the statements call a matrix, over words: sizes. -/
namespace Go.Proofs.YtoaaplngdomdcaaGreat.MV
open Go.RowKit
section
variable {p gm : Nat} {hp : 0 < p}
variable {w : World} {base g n m : Nat} {M : Nat → Nat → (Fin p)}

set_option maxRecDepth 100000 in
set_option maxHeartbeats 4000000 in
theorem sizes_c (x : Nat) (h : Mtx gm w x n n M) (hk : (Fk p gm) w) (hn : 1 ≤ n ∧ n ≤ 256) :
    Calls Tryz.prog 13 #[.agg #[.pointer none, .pointer (some ⟨x, 0, none⟩)]] w fun e w' => e = .returned (.tuple #[.int .i64 (n : Int), .int .i64 (n : Int), .int .i64 ((Fp p hp).rank n M : Int)]) ∧ Below w.heap.size w w' := by
  have b1 := (Below.refl w.heap.size w).alloc (Nat.le_refl _) (.cells #[.pointer none, .pointer (some ⟨x, 0, none⟩)] 32)
  have n1 := Blk.new w 32 #[.pointer none, .pointer (some ⟨x, 0, none⟩)]
  have HH := hide (And.intro (h.below b1) (And.intro (hk.below b1) hn))
  generalize hW : w.alloc (.cells #[.pointer none, .pointer (some ⟨x, 0, none⟩)] 32) = W1 at n1 b1 HH
  have HS : Hid (∀ W, Below W1.heap.size W1 W → W.cell? ⟨w.heap.size, 0, none⟩ = some (.pointer none) ∧ W.cell? ⟨w.heap.size, 1, none⟩ = some (.pointer (some ⟨x, 0, none⟩))) := fun W hb => ⟨by rw [(n1.below' hb).cell]; rfl, by rw [(n1.below' hb).cell]; rfl⟩
  have Q1 : Hid (∀ W, Below W1.heap.size W1 W → Calls Tryz.prog 39 #[.pointer (some ⟨x, 0, none⟩)] W fun e w' => e = .returned (.int .i64 (n : Int)) ∧ W = w') := fun W hb => rows_c (HH.out.1.below hb)
  have Q2 : Hid (∀ W, Below W1.heap.size W1 W → Calls Tryz.prog 40 #[.pointer (some ⟨x, 0, none⟩)] W fun e w' => e = .returned (.int .i64 (n : Int)) ∧ W = w') := fun W hb => cols_c (HH.out.1.below hb) (by have := HH.out.2.2; omega)
  have Q3 : Hid (∀ W, Below W1.heap.size W1 W → Calls Tryz.prog 41 #[.pointer (some ⟨x, 0, none⟩)] W fun e w' => e = .returned (.int .i64 ((Fp p hp).rank n M : Int)) ∧ Below W1.heap.size W1 w') := hide (fun W hb => by
    have q := rank_c (hp := hp) (HH.out.1.below hb) (HH.out.2.1.below hb) HH.out.2.2 HH.out.2.2
    rw [Fd.rank_beside] at q
    exact q.mono fun e w' ⟨a, b⟩ => ⟨a, Below.step hb b⟩)
  generalize (Fp p hp).rank n M = z at *
  have HB := hide b1
  obtain ⟨c0, c1⟩ := HS.out W1 (Below.refl _ _)
  clear h hk hn b1 n1
  go_enter Tryz.func13, Tryz.ntmps13
  go_wp2_with fail
  go_region_held3 (fun w' => w'.cell? ⟨w.heap.size, 0, none⟩ = some (.pointer none) ∧ w'.cell? ⟨w.heap.size, 1, none⟩ = some (.pointer (some ⟨x, 0, none⟩))) (first | go_keep | exact HS.out _ (by assumption) | exact HS.out _ (Below.drew (by assumption)) | exact HS.out _ (Below.drew (Below.refl _ _)))
    (first
      | (go_at_call 39; (with_reducible refine (Q1.out _ ?bb).mono ?_); (case bb => (first | assumption | (repeat (first | with_reducible exact Below.refl _ _ | with_reducible assumption | with_reducible refine Below.drew ?_)))); rintro e w2 ⟨rfl, rfl⟩)
      | (go_at_call 40; (with_reducible refine (Q2.out _ ?bb).mono ?_); (case bb => (first | assumption | (repeat (first | with_reducible exact Below.refl _ _ | with_reducible assumption | with_reducible refine Below.drew ?_)))); rintro e w3 ⟨rfl, rfl⟩)
      | (go_at_call 41; (with_reducible refine (Q3.out _ ?bb).mono ?_); (case bb => (first | assumption | (repeat (first | with_reducible exact Below.refl _ _ | with_reducible assumption | with_reducible refine Below.drew ?_)))); rintro e w4 ⟨rfl, hb4⟩))
  all_goals go_wp2
  all_goals refine bodyPost_ret (v := .tuple #[.int .i64 (n : Int), .int .i64 (n : Int), .int .i64 (z : Int)]) (by simp [results, Tryz.results13, go_sem]) rfl ⟨rfl, Below.step HB.out hb4⟩
end
end Go.Proofs.YtoaaplngdomdcaaGreat.MV

/- Matrices of words: Times. -/
namespace Go.Proofs.YtoaaplngdomdcaaGreat.MV
open Go.RowKit
section
variable {p gm : Nat} {hp : 0 < p}
variable {w : World} {base g n m : Nat} {M : Nat → Nat → (Fin p)}

theorem row_mono {w : World} {b b' : Nat} {e : TypeId} {sz : Nat} {v : Value} {n : Nat} {xs : List Value} (h : w.ownsRow b e sz v n xs) (hb : b' ≤ b) : w.ownsRow b' e sz v n xs := by
  obtain ⟨h1, h2 | ⟨g, cap, cur, hv, hg, hr⟩⟩ := h
  · exact ⟨h1, .inl h2⟩
  · exact ⟨h1, .inr ⟨g, cap, cur, hv, Nat.le_trans hb hg, hr⟩⟩
theorem rcells_snoc (r : Nat → (Fin p)) (k : Nat) : rcells en r (k + 1) = rcells en r k ++ [en (r k)] := by simp [rcells, List.range_succ]
set_option maxHeartbeats 800000 in
theorem times1_c (b k : Nat) (v : Value) (y : Nat → (Fin p)) (hv : Sl w 1 v m (rcells en y m)) (hk : k < m) (hm : m ≤ 4096) (c1 : w.cell? ⟨b, 0, none⟩ = some v) :
    Calls Tryz.prog 113 #[.int .i64 (k : Int), .pointer (some ⟨b, 0, none⟩)] w fun e w' => e = .returned (.int .u32 ((Fin.val (y k) : Nat) : Int)) ∧ Below w.heap.size w w' := by
  obtain ⟨A, c, rfl, h1, h2, h3⟩ := hv.form
  obtain ⟨bb, o, rfl, hlt, hc⟩ := h3 (by omega)
  have hcx : w.cell? ⟨bb, o + k, none⟩ = some (.int .u32 ((Fin.val (y k) : Nat) : Int)) := by rw [hc k (by omega), rcells_get hk]; rfl
  generalize y k = z at *
  have i1 : (k : Int) < (m : Int) := by omega
  have i2 : (0 : Int) ≤ (k : Int) := by omega
  clear hv h3 hc
  go_enter Tryz.func113, Tryz.ntmps113
  go_wp2
  go_ret
  exact ⟨rfl, Below.refl _ _⟩
set_option maxRecDepth 100000 in
set_option maxHeartbeats 4000000 in
theorem times_c (h : Mtx gm w g n m M) (hk : (Fk p gm) w) (hn : 1 ≤ n ∧ n ≤ 256) (hm : m ≤ 4096) (v : Value) (y : Nat → (Fin p)) (hv : Sl w 1 v m (rcells en y m)) :
    Calls Tryz.prog 60 #[.pointer (some ⟨g, 0, none⟩), v] w fun e w' => ∃ u, e = .returned (.tuple #[u, .int .i64 0]) ∧ w'.ownsRow w.heap.size 22 1 u n (rcells en (fun i => (Fp p hp).dot m (M i) y) n) ∧ Below w.heap.size w w' := by
  obtain ⟨A, c, rfl, hlc, hcm, _⟩ := hv.form
  have HH := hide (And.intro h (And.intro hk (And.intro hn (And.intro hm hv))))
  have n1 := Blk.new w 23 #[.slice A m c]
  have b1 := (Below.refl w.heap.size w).alloc (Nat.le_refl _) (.cells #[.slice A m c] 23)
  generalize hW : w.alloc (.cells #[.slice A m c] 23) = W1 at n1 b1
  have q1 := made_c (h.below b1)
  have HX : Hid (∀ W, Below W1.heap.size W1 W → Mtx gm W g n m M ∧ (Fk p gm) W ∧ Sl W 1 (.slice A m c) m (rcells en y m) ∧ W.cell? ⟨w.heap.size, 0, none⟩ = some (.slice A m c)) := fun W hb => ⟨(HH.out.1.below b1).below hb, (HH.out.2.1.below b1).below hb, (HH.out.2.2.2.2.below b1).below hb, by rw [(n1.below' hb).cell]; rfl⟩
  have HB := hide b1
  obtain ⟨R, c3, _, r1, r2, r3, _⟩ := Mt.form (h.below b1)
  have hne : ((m : Int) != (m : Int)) = false := by simp
  have ct := (HX.out W1 (Below.refl _ _)).2.2.2
  have Q4 : Hid (∀ W, Below W1.heap.size W1 W → Calls Tryz.prog 40 #[.pointer (some ⟨g, 0, none⟩)] W fun e w' => e = .returned (.int .i64 (m : Int)) ∧ W = w') := fun W hb => cols_c (HX.out W hb).1 (by have := HH.out.2.2.1; omega)
  clear h hk hn hm hv n1 b1
  go_enter Tryz.func60, Tryz.ntmps60
  go_wp2_with fail
  refine q1.mono ?_
  rintro e w' ⟨rfl, rfl⟩
  clear q1
  go_wp2_with fail
  go_region_held3 (fun w' => w'.cell? ⟨w.heap.size, 0, none⟩ = some (.slice A m c)) (go_keep)
    (first | (go_at_call 40; (with_reducible refine (Q4.out _ ?bb).mono ?_); (case bb => (repeat (first | with_reducible exact Below.refl _ _ | with_reducible refine Below.drew ?_))); rintro e w2 ⟨rfl, rfl⟩))
  have r1d : W1.drew.cell? ⟨g, 1, none⟩ = some (.slice R n c3) := r1
  go_wp2_with fail
  go_loopw [6, 7, 21] (fun u6 _ u21 wr => ∃ k : Nat, k ≤ n ∧ u21 = .int .i64 (k : Int) ∧ wr.ownsRow W1.heap.size 22 1 u6 k (rcells en (fun i => (Fp p hp).dot m (M i) y) k) ∧ Below W1.heap.size W1 wr) (fun _ _ u21 _ => n - (intOf u21).toNat)
  case atStart => exact ⟨0, by omega, rfl, World.ownsRow_nil _ _ _ _, (Below.refl _ _).drew⟩
  case round =>
    obtain ⟨k, hk, rfl, hown, hbel⟩ := hrel
    have HO := hide hown
    clear hown
    by_cases hlt : k < n
    · have i1 : (k : Int) < (n : Int) := by omega
      have i2 : (0 : Int) ≤ (k : Int) := by omega
      have q := dot_c (hp := hp) (HX.out wr hbel).1 (HX.out wr hbel).2.1 hlt HH.out.2.2.2.1 113 #[.pointer (some ⟨w.heap.size, 0, none⟩)] y (enters_of Tryz.func113 (by kernel_rfl) rfl)
        (fun t w' ht hb => times1_c w.heap.size t _ y ((HX.out wr hbel).2.2.1.below hb) ht HH.out.2.2.2.1 (HX.out w' (Below.step hbel hb)).2.2.2)
      have HS : Hid (rcells en (fun i => (Fp p hp).dot m (M i) y) (k + 1) = rcells en (fun i => (Fp p hp).dot m (M i) y) k ++ [en ((Fp p hp).dot m (M k) y)]) := hide (rcells_snoc _ k)
      have ho := HO.out
      generalize hz : (Fp p hp).dot m (M k) y = z at q HS
      clear hz
      go_wp2_with fail
      refine q.mono ?_
      rintro e w2 ⟨rfl, hb2⟩
      have HO2 := hide (own_below' ho hb2)
      have hbel2 := Below.step hbel hb2
      have hn256 := HH.out.2.2.1.2
      clear q ho HO hb2 hbel
      go_wp2_with (at_builtin; go_loud (refine wpList_push1 elemW HO2.out hbel2 hbel2.size (by unfold maxLen; omega) (by omega) (.int .u32 ((Fin.val z : Nat) : Int)) rfl rfl _ _ rfl rfl rfl ?_); intro v5 w5 ho5 hb5 _ _ _)
      go_roundw
      case rel => exact ⟨k + 1, by omega, by go_num, by rw [HS.out]; exact ho5, hb5⟩
      case measure => simp [intOf]; omega
    · have hkn : k = n := by omega
      subst hkn
      have HF := hide (Below.step HB.out hbel)
      go_wp2
      go_ret2
      exact ⟨_, rfl, row_mono HO.out HB.out.size, HF.out⟩
end
end Go.Proofs.YtoaaplngdomdcaaGreat.MV

/- Matrices of words: Solve. -/
namespace Go.Proofs.YtoaaplngdomdcaaGreat.MV
open Go.RowKit
section
variable {p gm : Nat} {hp : 0 < p}
variable {w : World} {base g n m : Nat} {M : Nat → Nat → (Fin p)}

set_option maxRecDepth 100000 in
set_option maxHeartbeats 4000000 in
theorem solve1_c (b1 b2 i : Nat) (v : Value) (y : Nat → (Fin p)) (h : Mtx gm w g n m M) (hk : (Fk p gm) w) (hv : Sl w 1 v n (rcells en y n)) (hi : i < n) (hn : n ≤ 256) (c1 : w.cell? ⟨b1, 0, none⟩ = some (.pointer (some ⟨g, 0, none⟩))) (c2 : w.cell? ⟨b2, 0, none⟩ = some v) :
    Calls Tryz.prog 101 #[.int .i64 (i : Int), .pointer (some ⟨b1, 0, none⟩), .pointer (some ⟨b2, 0, none⟩)] w fun x w' => ∃ u, x = .returned u ∧ Sl w' 1 u 1 (rcells en (fun _ => (Fp p hp).add (y i) (Fp p hp).zero) 1) ∧ Below w.heap.size w w' := by
  obtain ⟨A, c, rfl, h1, h2, h3⟩ := hv.form
  obtain ⟨bb, o, rfl, hlt, hc⟩ := h3 (by omega)
  have hcx : w.cell? ⟨bb, o + i, none⟩ = some (.int .u32 ((Fin.val (y i) : Nat) : Int)) := by rw [hc i (by omega), rcells_get hi]; rfl
  generalize y i = z at *
  have i1 : (i : Int) < (n : Int) := by omega
  have i2 : (0 : Int) ≤ (i : Int) := by omega
  obtain ⟨_, _, c0, _⟩ := Mt.form h
  have m1 := meth_zero (gm := gm)
  have m2 := meth_add (gm := gm)
  have m3 := ahead_add (gm := gm)
  have HK := hide hk
  have HS : Hid (∀ W, Below w.heap.size w W → W.cell? ⟨b1, 0, none⟩ = some (.pointer (some ⟨g, 0, none⟩)) ∧ W.cell? ⟨b2, 0, none⟩ = some (.slice (some ⟨bb, o, none⟩) n c) ∧ W.cell? ⟨g, 0, none⟩ = some (modF gm) ∧ W.cell? ⟨bb, o + i, none⟩ = some (.int .u32 ((Fin.val z : Nat) : Int))) := fun W hW => ⟨(hW.cell (World.block_lt_of_cell? _ _ c1)).trans c1, (hW.cell (World.block_lt_of_cell? _ _ c2)).trans c2, (hW.cell (World.block_lt_of_cell? _ _ c0)).trans c0, (hW.cell (World.block_lt_of_cell? _ _ hcx)).trans hcx⟩
  have Q1 : Hid (∀ W, Below w.heap.size w W → Calls Tryz.prog 165 #[(.pointer (some ⟨gm, 0, none⟩))] W fun e w'' => e = .returned (.int .u32 ((Fin.val ((Fp p hp).zero) : Nat) : Int)) ∧ Below w.heap.size w w'') := fun W hW =>
    (fzero_c (hp := hp) W (HK.out.below hW)).mono fun e w'' ⟨a, b⟩ => ⟨a, by subst b; first | exact hW | exact hW.alloc hW.size _⟩
  have Q2 : Hid (∀ W, Below w.heap.size w W → Calls Tryz.prog 22 #[(.pointer (some ⟨gm, 0, none⟩)), .int .u32 ((Fin.val z : Nat) : Int), .int .u32 ((Fin.val (Fp p hp).zero : Nat) : Int)] W fun e w'' => e = .returned (.int .u32 ((Fin.val ((Fp p hp).add z (Fp p hp).zero) : Nat) : Int)) ∧ Below w.heap.size w w'') := fun W hW =>
    (fadd_c (hp := hp) z _ W (HK.out.below hW)).mono fun e w'' ⟨a, b⟩ => ⟨a, by subst b; first | exact hW | exact hW.alloc hW.size _⟩
  have HR : Hid (∀ W (s : (Fin p)), Below w.heap.size w W → Sl (W.alloc (.cells #[.int .u32 ((Fin.val s : Nat) : Int)] 22)) 1 (.slice (some ⟨W.heap.size, 0, none⟩) 1 1) 1 (rcells en (fun _ => s) 1) ∧ Below w.heap.size w (W.alloc (.cells #[.int .u32 ((Fin.val s : Nat) : Int)] 22))) := fun W s hW => by
    have nb := Blk.new W 22 #[.int .u32 ((Fin.val s : Nat) : Int)]
    refine ⟨⟨by simp, some ⟨W.heap.size, 0, none⟩, 1, rfl, Nat.le_refl _, by simp [maxLen], fun _ => ⟨W.heap.size, 0, rfl, nb.lt, fun j hj => ?_⟩⟩, hW.alloc hW.size _⟩
    obtain rfl : j = 0 := by omega
    rw [Nat.zero_add, nb.cell, rcells_get (by omega)]
    rfl
  generalize (Fp p hp).add z (Fp p hp).zero = s at *
  generalize hz0 : ((Fp p hp).zero : (Fin p)) = z0 at *
  clear hz0 h hk hv h3 hc
  go_enter Tryz.func101, Tryz.ntmps101
  go_wp2_with fail
  go_region_held3 (fun w' => w'.cell? ⟨b1, 0, none⟩ = some (.pointer (some ⟨g, 0, none⟩)) ∧ w'.cell? ⟨b2, 0, none⟩ = some (.slice (some ⟨bb, o, none⟩) n c) ∧ w'.cell? ⟨g, 0, none⟩ = some (modF gm) ∧ w'.cell? ⟨bb, o + i, none⟩ = some (.int .u32 ((Fin.val z : Nat) : Int))) (first | go_keep | exact HS.out _ (by assumption) | exact HS.out _ (Below.drew (by assumption)) | exact HS.out _ (Below.drew (Below.refl _ _)) | exact HS.out _ (HR.out _ _ (by assumption)).2)
    (first
      | (go_at_call 165; (with_reducible refine (Q1.out _ ?bb).mono ?_); (case bb => (repeat (first | with_reducible exact Below.refl _ _ | with_reducible assumption | with_reducible refine Below.drew ?_))); rintro e w2 ⟨rfl, q2⟩)
      | (go_at_call 22; (with_reducible refine (Q2.out _ ?bb).mono ?_); (case bb => (repeat (first | with_reducible exact Below.refl _ _ | with_reducible assumption | with_reducible refine Below.drew ?_))); rintro e w3 ⟨rfl, q3⟩))
  all_goals go_wp2
  all_goals go_ret
  all_goals exact ⟨_, rfl, (HR.out _ s q3).1, (HR.out _ s q3).2⟩
set_option maxRecDepth 100000 in
set_option maxHeartbeats 4000000 in
theorem solve_c (h : Mtx gm w g n n M) (hk : (Fk p gm) w) (hn : 1 ≤ n ∧ n ≤ 256) (v : Value) (y : Nat → (Fin p)) (hv : Sl w 1 v n (rcells en y n)) :
    Calls Tryz.prog 52 #[.pointer (some ⟨g, 0, none⟩), v] w fun e w' => Below w.heap.size w w' ∧
      (((Fp p hp).rank n M = n ∧ ∃ u, e = .returned (.tuple #[u, .int .i64 0]) ∧ w'.ownsRow w.heap.size 22 1 u n (rcells en ((Fp p hp).sol n M y) n)) ∨ ((Fp p hp).rank n M ≠ n ∧ e = .returned (.tuple #[.slice none 0 0, .int .i64 71]))) := by
  obtain ⟨A, c, rfl, hlc, hcm, _⟩ := hv.form
  have HH := hide (And.intro h (And.intro hk (And.intro hn hv)))
  have n1 := (Blk.new w 30 #[.pointer (some ⟨g, 0, none⟩)]).alloc (.cells #[.slice A n c] 23)
  have n2 := Blk.new (w.alloc (.cells #[.pointer (some ⟨g, 0, none⟩)] 30)) 23 #[.slice A n c]
  have b1 := ((Below.refl w.heap.size w).alloc (Nat.le_refl _) (.cells #[.pointer (some ⟨g, 0, none⟩)] 30)).alloc (by simp) (.cells #[.slice A n c] 23)
  simp only [World.size_alloc] at n2
  generalize hW : (w.alloc (.cells #[.pointer (some ⟨g, 0, none⟩)] 30)).alloc (.cells #[.slice A n c] 23) = W1 at n1 n2 b1
  have HX : Hid (∀ W, Below W1.heap.size W1 W → Mtx gm W g n n M ∧ (Fk p gm) W ∧ Sl W 1 (.slice A n c) n (rcells en y n) ∧ W.cell? ⟨w.heap.size, 0, none⟩ = some (.pointer (some ⟨g, 0, none⟩)) ∧ W.cell? ⟨w.heap.size + 1, 0, none⟩ = some (.slice A n c) ∧ W.cell? ⟨g, 0, none⟩ = some (modF gm)) := fun W hb => by
    have e1 := (HH.out.1.below b1).below hb
    obtain ⟨_, _, c0, _⟩ := Mt.form e1
    exact ⟨e1, (HH.out.2.1.below b1).below hb, (HH.out.2.2.2.below b1).below hb, by rw [(n1.below' hb).cell]; rfl, by rw [(n2.below' hb).cell]; rfl, c0⟩
  have HB := hide b1
  have hne : ((n : Int) != (n : Int)) = false := by simp
  obtain ⟨x1, _, _, d1, d2, d3⟩ := HX.out W1 (Below.refl _ _)
  have q1 := made_c x1
  have q2 := rows_c x1
  have q3 := cols_c x1 (by omega)
  have q4 := beside_c x1 hn.2 (by omega) 1 (by omega) (fun i _ => (Fp p hp).add (y i) (Fp p hp).zero) 101 #[.pointer (some ⟨w.heap.size, 0, none⟩), .pointer (some ⟨w.heap.size + 1, 0, none⟩)] (enters_of Tryz.func101 (by kernel_rfl) rfl)
    (fun i w' hi hb => solve1_c w.heap.size (w.heap.size + 1) i (.slice A n c) y (HX.out w' hb).1 (HX.out w' hb).2.1 (HX.out w' hb).2.2.1 hi hn.2 (HX.out w' hb).2.2.2.1 (HX.out w' hb).2.2.2.2.1)
  have Q4 := hide q4
  clear h hk hn hv n1 n2 b1 x1 q4
  go_enter Tryz.func52, Tryz.ntmps52
  go_wp2_with fail
  refine q1.mono ?_
  rintro e w' ⟨rfl, rfl⟩
  go_wp2_with fail
  refine q2.mono ?_
  rintro e w' ⟨rfl, rfl⟩
  go_wp2_with fail
  refine q3.mono ?_
  rintro e w' ⟨rfl, rfl⟩
  clear q1 q2 q3
  go_wp2_with fail
  refine Q4.out.mono ?_
  rintro e w3 ⟨u, rfl, hgo, hb3⟩
  obtain ⟨gr, cap, rfl, hnc, hncm, hgr⟩ := hgo.grid (by have := HH.out.2.2.1; omega)
  obtain ⟨_, x2, _, f1, f2, f3⟩ := HX.out w3 hb3
  have q5 := reduced_c (hp := hp) cap n hgr x2 (lo_of (HX.out W1 (Below.refl _ _)).2.1 (Nat.le_refl _)) (by omega) HH.out.2.2.1.2 (by have := HH.out.2.2.1; omega) hb3.size ⟨hnc, hncm⟩
  rw [Fd.rank_beside] at q5
  have hrl : (Fp p hp).rank n M ≤ n := Fd.rank_le _ _
  obtain ⟨rk, hrk⟩ : ∃ rk, rk = (Fp p hp).rank n M := ⟨_, rfl⟩
  have HR := hide hrk
  rw [← hrk] at q5 hrl
  have H3 := hide (And.intro hb3 (And.intro hnc hncm))
  clear hgo hgr x2 Q4 hb3 hrk d1 d2 d3 hncm
  go_wp2_with fail
  refine q5.mono ?_
  rintro e w4 ⟨rfl, hg4, hb4, _⟩
  have HE := hide (Below.step HB.out (H3.out.1.trans hb4))
  have hcap4 := H3.out.2
  have HG := hide (Grid.rd hg4 hcap4.1 hcap4.2)
  clear q5 hg4 hcap4 f1 f2 f3
  by_cases hf : rk = n
  · subst hf
    have j0 : ¬ (rk : Int) < (rk : Int) := by omega
    have hn256 := HH.out.2.2.1.2
    have hsol : ∀ i, i < rk → ((Fp p hp).red rk (Fd.beside rk M fun i _ => (Fp p hp).add (y i) (Fp p hp).zero) rk).1 i rk = (Fp p hp).sol rk M y i := fun _ _ => rfl
    have HSO := hide hsol
    clear hsol hrl
    go_wp2_with fail
    go_loopw [8, 10, 40] (fun u8 _ u40 wr => ∃ k : Nat, k ≤ rk ∧ u40 = .int .i64 (k : Int) ∧ wr.ownsRow w4.heap.size 22 1 u8 k (rcells en ((Fp p hp).sol rk M y) k) ∧ Below w4.heap.size w4 wr) (fun _ _ u40 _ => rk - (intOf u40).toNat)
    case atStart => exact ⟨0, by omega, rfl, World.ownsRow_nil _ _ _ _, Below.refl _ _⟩
    case round =>
      obtain ⟨k, hk, rfl, hown, hbel⟩ := hrel
      have HO := hide hown
      clear hown
      by_cases hlt : k < rk
      · have i1 : (k : Int) < (rk : Int) := by omega
        have i2 : (0 : Int) ≤ (k : Int) := by omega
        obtain ⟨RA, rc, hrv, _, _, hrow⟩ := HG.out.below hbel
        injection hrv with e1 e2 e3
        subst e1 e3
        obtain ⟨b, o, B, d, hA, _, hcx, hmd, hdm, hel⟩ := hrow k hlt
        injection hA with hA
        injection hA with hA1 hA2
        subst hA1 hA2
        obtain ⟨bb, oo, rfl, _, hc2⟩ := hel rk (by omega)
        rw [HSO.out k hlt] at hc2
        rw [Nat.zero_add] at hcx
        have hc3 : wr.cell? ⟨bb, oo + rk, none⟩ = some (.int .u32 ((Fin.val ((Fp p hp).sol rk M y k) : Nat) : Int)) := hc2
        have HS : Hid (rcells en ((Fp p hp).sol rk M y) (k + 1) = rcells en ((Fp p hp).sol rk M y) k ++ [en ((Fp p hp).sol rk M y k)]) := hide (rcells_snoc _ k)
        have i3 : (rk : Int) < ((rk + 1 : Nat) : Int) := by omega
        have i4 : (0 : Int) ≤ (rk : Int) := by omega
        generalize hz : (Fp p hp).sol rk M y k = z at hc3 HS
        clear hz hc2 hel hrow
        go_wp2_with (at_builtin; go_loud (refine wpList_push1 elemW HO.out hbel hbel.size (by unfold maxLen; omega) (by omega) (.int .u32 ((Fin.val z : Nat) : Int)) rfl rfl _ _ rfl rfl rfl ?_); intro v5 w5 ho5 hb5 _ _ _)
        go_roundw
        case rel => exact ⟨k + 1, by omega, by go_num, by rw [HS.out]; exact ho5, hb5⟩
        case measure => simp [intOf]; omega
      · have hkn : k = rk := by omega
        subst hkn
        have HF := hide (Below.step HE.out hbel)
        go_wp2
        go_ret2
        exact ⟨HF.out, .inl ⟨HR.out.symm, _, rfl, row_mono HO.out HE.out.size⟩⟩
  · have i8 : (rk : Int) < (n : Int) := by omega
    go_wp2
    go_ret2
    exact ⟨HE.out, .inr ⟨fun e => hf (HR.out.trans e), rfl⟩⟩
end
end Go.Proofs.YtoaaplngdomdcaaGreat.MV

/- What the statements call a matrix, over words: times, solve. Printed by wip/zb.py. -/
namespace Go.Proofs.YtoaaplngdomdcaaGreat.MV
open Go.RowKit
section
variable {p gm : Nat} {hp : 0 < p} {w : World} {n : Nat} {M : Nat → Nat → Fin p}

set_option maxRecDepth 100000 in
set_option maxHeartbeats 4000000 in
theorem mtimes_c (x : Nat) (ve : Value) (y : Nat → Fin p) (h : Mtx gm w x n n M) (hk : (Fk p gm) w) (hn : 1 ≤ n ∧ n ≤ 256) (hv : Sl w 1 ve n (rcells en y n)) :
    Calls Tryz.prog 18 #[.agg #[.pointer none, .pointer (some ⟨x, 0, none⟩)], ve] w fun e w' => ∃ (u : Value) (er : Int) (k : Nat) (xs : List Value), e = .returned (.tuple #[u, .int .i64 er, .bool true]) ∧ w'.ownsRow w.heap.size 22 1 u k xs ∧ Below w.heap.size w w' ∧ (er = 0 ∧ k = n ∧ xs = rcells en (fun i => (Fp p hp).dot n (M i) y) n) := by
  have b0 := (Below.refl w.heap.size w).alloc (Nat.le_refl _) (.cells #[.pointer none, .pointer (some ⟨x, 0, none⟩)] 32)
  have n0 := Blk.new w 32 #[.pointer none, .pointer (some ⟨x, 0, none⟩)]
  generalize hW0 : w.alloc (.cells #[.pointer none, .pointer (some ⟨x, 0, none⟩)] 32) = W0 at b0 n0
  obtain ⟨l, hl, hc⟩ : ∃ l : List Nat, l.length = n ∧ ncells .u32 l = rcells en y n := ⟨(List.range n).map fun i => (y i).val, by simp, by simp [ncells, rcells, en]⟩
  have hny : Ny w .u32 ve l := by unfold Ny; rw [hl, hc]; exact hv
  obtain ⟨A, c, rfl, hlc, hcm, _⟩ := hv.form
  have Q1 := hide (lentw_any _ l W0 (hny.below b0) (by omega))
  have HH := hide (And.intro h (And.intro hk (And.intro hn (And.intro hl (And.intro hc hny)))))
  have HB0 := hide (And.intro b0 n0)
  have d0 : W0.cell? ⟨w.heap.size, 0, none⟩ = some (.pointer none) := by rw [n0.cell]; rfl
  have d1 : W0.cell? ⟨w.heap.size, 1, none⟩ = some (.pointer (some ⟨x, 0, none⟩)) := by rw [n0.cell]; rfl
  clear h hk hn hl hc hny hv b0 n0
  go_enter Tryz.func18, Tryz.ntmps18
  go_wp2_with fail
  refine Q1.out.mono ?_
  rintro e w2 ⟨v, rfl, o2, b2⟩
  obtain ⟨g, cap, rfl, hg, hglt⟩ := o2.form (by simp)
  have hby := o2.front
  have hs : Sl w2 1 (.slice (some ⟨g, 0, none⟩) n cap) n (rcells en y n) := by
    have h5 := hby
    unfold Ny at h5
    rw [HH.out.2.2.2.1, HH.out.2.2.2.2.1] at h5
    exact h5
  have k1 : n ≤ cap := by obtain ⟨A', c', hv, hc', _⟩ := hs.form; injection hv; omega
  have k2 : (n : Int) ≤ (cap : Int) := by omega
  have k3 : (0 : Int) ≤ (n : Int) := by omega
  have hbw : Below w.heap.size w w2 := Below.step HB0.out.1 b2
  have Q3 : Hid (∀ W, Below w2.heap.size w2 W → Calls Tryz.prog 60 #[.pointer (some ⟨x, 0, none⟩), .slice (some ⟨g, 0, none⟩) n cap] W fun e w' => ∃ (u : Value) (er : Int) (k : Nat) (xs : List Value), e = .returned (.tuple #[u, .int .i64 er]) ∧ w'.ownsRow w2.heap.size 22 1 u k xs ∧ Below w2.heap.size w2 w' ∧ (er = 0 ∧ k = n ∧ xs = rcells en (fun i => (Fp p hp).dot n (M i) y) n)) := hide (fun W hW => by
    refine (times_c (hp := hp) ((HH.out.1.below hbw).below hW) ((HH.out.2.1.below hbw).below hW) HH.out.2.2.1 (by have := HH.out.2.2.1; omega) _ y (hs.below hW)).mono ?_
    rintro e w' ⟨u, rfl, ho, hb⟩
    exact ⟨u, 0, n, _, rfl, row_mono ho hW.size, Below.step hW hb, rfl, rfl, rfl⟩)
  have HS : Hid (∀ W, Below w2.heap.size w2 W → W.cell? ⟨w.heap.size, 0, none⟩ = some (.pointer none) ∧ W.cell? ⟨w.heap.size, 1, none⟩ = some (.pointer (some ⟨x, 0, none⟩))) := fun W hb => ⟨by rw [((HB0.out.2.below' b2).below' hb).cell]; rfl, by rw [((HB0.out.2.below' b2).below' hb).cell]; rfl⟩
  obtain ⟨c0, c1⟩ := HS.out w2 (Below.refl _ _)
  have O2 := hide (And.intro o2 (And.intro b2 (And.intro hglt hbw)))
  generalize hN : (l ++ marksw 0 l.length 70).length = NN at *
  clear Q1 b2 o2 hby hs hg hglt hbw
  go_wp2_with fail
  go_region_held3 (fun w' => w'.cell? ⟨w.heap.size, 0, none⟩ = some (.pointer none) ∧ w'.cell? ⟨w.heap.size, 1, none⟩ = some (.pointer (some ⟨x, 0, none⟩))) (first | go_keep | exact HS.out _ (by assumption) | exact HS.out _ (Below.drew (by assumption)) | exact HS.out _ (Below.drew (Below.refl _ _)))
    (first | (go_at_call 60; (with_reducible refine (Q3.out _ ?bb).mono ?_); (case bb => (repeat (first | with_reducible exact Below.refl _ _ | with_reducible assumption | with_reducible refine Below.drew ?_))); rintro e w3 ⟨u, er, k, xs, rfl, ho3, hb3, hcd⟩; have HCD := hide hcd; clear hcd))
  have B3 := hide (And.intro ho3 (And.intro hb3 HCD.out))
  have Q4 := hide (keptw_any _ _ _ l w3 (O2.out.1.below hb3).ny (HH.out.2.2.2.2.2.below (Below.step O2.out.2.2.2 hb3)) (by have := HH.out.2.2; omega))
  rw [decide_eq_true rfl] at Q4
  clear ho3 hb3 HCD Q3
  go_wp2_with fail
  refine Q4.out.mono ?_
  rintro e w4 ⟨rfl, b4⟩
  have O4 := (O2.out.1.below B3.out.2.1).below b4
  have Q5 := hide (overw_any _ _ _ w4 O4 (by have := HH.out.2.2; rw [hN, ← hN]; simp; omega))
  have B4 := hide b4
  clear O4 b4 Q4
  go_wp2_with fail
  refine Q5.out.mono ?_
  rintro e w5 ⟨rfl, hb5, hg5, _⟩
  have ho5 := (own_below' B3.out.1 B4.out).kept hg5 (by
    rcases hb : u.ownBlock with _ | b
    · exact .inl rfl
    · refine .inr fun e => ?_
      have := (B3.out.1.lt b hb).1
      have := O2.out.2.2.1
      have e2 : some b = some g := e
      injection e2 with e2
      omega)
  have HF := hide (And.intro (row_mono ho5 O2.out.2.2.2.size) ((Below.step (Below.step O2.out.2.2.2 B3.out.2.1) B4.out).trans (hb5.mono HB0.out.1.size)))
  clear Q5 hb5 hg5 ho5
  go_wp2
  go_ret3
  exact ⟨u, er, k, xs, rfl, HF.out.1, HF.out.2, B3.out.2.2⟩

set_option maxRecDepth 100000 in
set_option maxHeartbeats 4000000 in
theorem msolve_c (x : Nat) (ve : Value) (y : Nat → Fin p) (h : Mtx gm w x n n M) (hk : (Fk p gm) w) (hn : 1 ≤ n ∧ n ≤ 256) (hv : Sl w 1 ve n (rcells en y n)) :
    Calls Tryz.prog 15 #[.agg #[.pointer none, .pointer (some ⟨x, 0, none⟩)], ve] w fun e w' => ∃ (u : Value) (er : Int) (k : Nat) (xs : List Value), e = .returned (.tuple #[u, .int .i64 er, .bool true]) ∧ w'.ownsRow w.heap.size 22 1 u k xs ∧ Below w.heap.size w w' ∧ ((Fp p hp).rank n M = n ∧ er = 0 ∧ k = n ∧ xs = rcells en ((Fp p hp).sol n M y) n ∨ (Fp p hp).rank n M ≠ n ∧ er = 71) := by
  have b0 := (Below.refl w.heap.size w).alloc (Nat.le_refl _) (.cells #[.pointer none, .pointer (some ⟨x, 0, none⟩)] 32)
  have n0 := Blk.new w 32 #[.pointer none, .pointer (some ⟨x, 0, none⟩)]
  generalize hW0 : w.alloc (.cells #[.pointer none, .pointer (some ⟨x, 0, none⟩)] 32) = W0 at b0 n0
  obtain ⟨l, hl, hc⟩ : ∃ l : List Nat, l.length = n ∧ ncells .u32 l = rcells en y n := ⟨(List.range n).map fun i => (y i).val, by simp, by simp [ncells, rcells, en]⟩
  have hny : Ny w .u32 ve l := by unfold Ny; rw [hl, hc]; exact hv
  obtain ⟨A, c, rfl, hlc, hcm, _⟩ := hv.form
  have Q1 := hide (lentw_any _ l W0 (hny.below b0) (by omega))
  have HH := hide (And.intro h (And.intro hk (And.intro hn (And.intro hl (And.intro hc hny)))))
  have HB0 := hide (And.intro b0 n0)
  have d0 : W0.cell? ⟨w.heap.size, 0, none⟩ = some (.pointer none) := by rw [n0.cell]; rfl
  have d1 : W0.cell? ⟨w.heap.size, 1, none⟩ = some (.pointer (some ⟨x, 0, none⟩)) := by rw [n0.cell]; rfl
  clear h hk hn hl hc hny hv b0 n0
  go_enter Tryz.func15, Tryz.ntmps15
  go_wp2_with fail
  refine Q1.out.mono ?_
  rintro e w2 ⟨v, rfl, o2, b2⟩
  obtain ⟨g, cap, rfl, hg, hglt⟩ := o2.form (by simp)
  have hby := o2.front
  have hs : Sl w2 1 (.slice (some ⟨g, 0, none⟩) n cap) n (rcells en y n) := by
    have h5 := hby
    unfold Ny at h5
    rw [HH.out.2.2.2.1, HH.out.2.2.2.2.1] at h5
    exact h5
  have k1 : n ≤ cap := by obtain ⟨A', c', hv, hc', _⟩ := hs.form; injection hv; omega
  have k2 : (n : Int) ≤ (cap : Int) := by omega
  have k3 : (0 : Int) ≤ (n : Int) := by omega
  have hbw : Below w.heap.size w w2 := Below.step HB0.out.1 b2
  have Q3 : Hid (∀ W, Below w2.heap.size w2 W → Calls Tryz.prog 52 #[.pointer (some ⟨x, 0, none⟩), .slice (some ⟨g, 0, none⟩) n cap] W fun e w' => ∃ (u : Value) (er : Int) (k : Nat) (xs : List Value), e = .returned (.tuple #[u, .int .i64 er]) ∧ w'.ownsRow w2.heap.size 22 1 u k xs ∧ Below w2.heap.size w2 w' ∧ ((Fp p hp).rank n M = n ∧ er = 0 ∧ k = n ∧ xs = rcells en ((Fp p hp).sol n M y) n ∨ (Fp p hp).rank n M ≠ n ∧ er = 71)) := hide (fun W hW => by
    refine (solve_c (hp := hp) ((HH.out.1.below hbw).below hW) ((HH.out.2.1.below hbw).below hW) HH.out.2.2.1 _ y (hs.below hW)).mono ?_
    rintro e w' ⟨hb, ⟨hr, u, rfl, ho⟩ | ⟨hr, rfl⟩⟩
    · exact ⟨u, 0, n, _, rfl, row_mono ho hW.size, Below.step hW hb, .inl ⟨hr, rfl, rfl, rfl⟩⟩
    · exact ⟨_, 71, 0, [], rfl, World.ownsRow_nil _ _ _ _, Below.step hW hb, .inr ⟨hr, rfl⟩⟩)
  have HS : Hid (∀ W, Below w2.heap.size w2 W → W.cell? ⟨w.heap.size, 0, none⟩ = some (.pointer none) ∧ W.cell? ⟨w.heap.size, 1, none⟩ = some (.pointer (some ⟨x, 0, none⟩))) := fun W hb => ⟨by rw [((HB0.out.2.below' b2).below' hb).cell]; rfl, by rw [((HB0.out.2.below' b2).below' hb).cell]; rfl⟩
  obtain ⟨c0, c1⟩ := HS.out w2 (Below.refl _ _)
  have O2 := hide (And.intro o2 (And.intro b2 (And.intro hglt hbw)))
  generalize hN : (l ++ marksw 0 l.length 70).length = NN at *
  clear Q1 b2 o2 hby hs hg hglt hbw
  go_wp2_with fail
  go_region_held3 (fun w' => w'.cell? ⟨w.heap.size, 0, none⟩ = some (.pointer none) ∧ w'.cell? ⟨w.heap.size, 1, none⟩ = some (.pointer (some ⟨x, 0, none⟩))) (first | go_keep | exact HS.out _ (by assumption) | exact HS.out _ (Below.drew (by assumption)) | exact HS.out _ (Below.drew (Below.refl _ _)))
    (first | (go_at_call 52; (with_reducible refine (Q3.out _ ?bb).mono ?_); (case bb => (repeat (first | with_reducible exact Below.refl _ _ | with_reducible assumption | with_reducible refine Below.drew ?_))); rintro e w3 ⟨u, er, k, xs, rfl, ho3, hb3, hcd⟩; have HCD := hide hcd; clear hcd))
  have B3 := hide (And.intro ho3 (And.intro hb3 HCD.out))
  have Q4 := hide (keptw_any _ _ _ l w3 (O2.out.1.below hb3).ny (HH.out.2.2.2.2.2.below (Below.step O2.out.2.2.2 hb3)) (by have := HH.out.2.2; omega))
  rw [decide_eq_true rfl] at Q4
  clear ho3 hb3 HCD Q3
  go_wp2_with fail
  refine Q4.out.mono ?_
  rintro e w4 ⟨rfl, b4⟩
  have O4 := (O2.out.1.below B3.out.2.1).below b4
  have Q5 := hide (overw_any _ _ _ w4 O4 (by have := HH.out.2.2; rw [hN, ← hN]; simp; omega))
  have B4 := hide b4
  clear O4 b4 Q4
  go_wp2_with fail
  refine Q5.out.mono ?_
  rintro e w5 ⟨rfl, hb5, hg5, _⟩
  have ho5 := (own_below' B3.out.1 B4.out).kept hg5 (by
    rcases hb : u.ownBlock with _ | b
    · exact .inl rfl
    · refine .inr fun e => ?_
      have := (B3.out.1.lt b hb).1
      have := O2.out.2.2.1
      have e2 : some b = some g := e
      injection e2 with e2
      omega)
  have HF := hide (And.intro (row_mono ho5 O2.out.2.2.2.size) ((Below.step (Below.step O2.out.2.2.2 B3.out.2.1) B4.out).trans (hb5.mono HB0.out.1.size)))
  clear Q5 hb5 hg5 ho5
  go_wp2
  go_ret3
  exact ⟨u, er, k, xs, rfl, HF.out.1, HF.out.2, B3.out.2.2⟩
end
end Go.Proofs.YtoaaplngdomdcaaGreat.MV

/- Steps of the statements' walks over words, each as it is asked for there. -/
namespace Go.Proofs.YtoaaplngdomdcaaGreat.MV
open Go.RowKit
section
variable {p gm : Nat} {hp : 0 < p}
def MC (gm : Nat) {p : Nat} (W : World) (G g n : Nat) (M : Nat → Nat → Fin p) : Prop := W.cell? ⟨G, 0, none⟩ = some (.pointer none) ∧ W.cell? ⟨G, 1, none⟩ = some (.pointer (some ⟨g, 0, none⟩)) ∧ Mtx gm W g n n M
theorem MC.below {W W' : World} {G g n : Nat} {M : Nat → Nat → (Fin p)} (h : MC gm W G g n M) (hb : Below W.heap.size W W') : MC gm W' G g n M :=
  ⟨(hb.cell (World.block_lt_of_cell? _ _ h.1)).trans h.1, (hb.cell (World.block_lt_of_cell? _ _ h.2.1)).trans h.2.1, h.2.2.below hb⟩
theorem MC.new {W : World} {G g n : Nat} {M : Nat → Nat → (Fin p)} (h : Blk W G 32 #[.pointer none, .pointer (some ⟨g, 0, none⟩)]) (hm : Mtx gm W g n n M) : MC gm W G g n M :=
  ⟨by rw [h.cell]; rfl, by rw [h.cell]; rfl, hm⟩
theorem sq_e (n : Nat) (ve : Value) (es : List Nat) (w : World) (hk : (Fk p gm) w) (hn : 1 ≤ n ∧ n ≤ 256) (he : Ny w .u32 ve es) (hbd : ∀ (i x : Nat), es[i]? = some x → (x : Int) ≤ 4294967295) (hp0 : 2 ≤ p) :
    Calls Tryz.prog 9 #[.int .u32 (p : Int), .pointer (some ⟨gm, 0, none⟩), .int .i64 (n : Int), ve] w fun e w' => ∃ (g : Nat) (M : Nat → Nat → (Fin p)), e = .returned (.tuple #[.agg #[.pointer none, .pointer (some ⟨g, 0, none⟩)], .bool true]) ∧ Mtx gm w' g n n M ∧ Below w.heap.size w w' :=
  (square_c (hp := Nat.lt_of_lt_of_le (by decide) hp0) n ve es w hk hn he hbd hp0).mono fun _ _ ⟨g, a, b, c⟩ => ⟨g, _, a, b, c⟩
theorem minv_ok (x n : Nat) {M : Nat → Nat → (Fin p)} {w : World} (h : Mtx gm w x n n M) (hk : (Fk p gm) w) (hn : 1 ≤ n ∧ n ≤ 256) (hr : (Fp p hp).rank n M = n) :
    Calls Tryz.prog 12 #[.agg #[.pointer none, .pointer (some ⟨x, 0, none⟩)]] w fun e w' => ∃ z, e = .returned (.tuple #[.agg #[.pointer none, .pointer (some ⟨z, 0, none⟩)], .int .i64 0]) ∧ Mtx gm w' z n n ((Fp p hp).invM n M) ∧ Below w.heap.size w w' := by
  refine (minv_c (hp := hp) h hk hn).mono ?_
  rintro e w' ⟨hb, ⟨_, z, rfl, hz⟩ | ⟨h2, _⟩⟩
  · exact ⟨z, rfl, hz, hb⟩
  · exact absurd hr h2
theorem minv_bad (x n : Nat) {M : Nat → Nat → (Fin p)} {w : World} (h : Mtx gm w x n n M) (hk : (Fk p gm) w) (hn : 1 ≤ n ∧ n ≤ 256) (hr : (Fp p hp).rank n M ≠ n) :
    Calls Tryz.prog 12 #[.agg #[.pointer none, .pointer (some ⟨x, 0, none⟩)]] w fun e w' => e = .returned (.tuple #[.agg #[.pointer none, .pointer none], .int .i64 71]) ∧ Below w.heap.size w w' := by
  refine (minv_c (hp := hp) h hk hn).mono ?_
  rintro e w' ⟨hb, ⟨h2, _⟩ | ⟨_, rfl⟩⟩
  · exact absurd h2 hr
  · exact ⟨rfl, hb⟩
theorem msame_yes (x y n : Nat) {M N : Nat → Nat → (Fin p)} {w : World} (h1 : Mtx gm w x n n M) (h2 : Mtx gm w y n n N) (hn : n ≤ 4096) (he : ∀ i j, i < n → j < n → M i j = N i j) :
    Calls Tryz.prog 17 #[.agg #[.pointer none, .pointer (some ⟨x, 0, none⟩)], .agg #[.pointer none, .pointer (some ⟨y, 0, none⟩)]] w fun e w' => e = .returned (.bool true) ∧ Below w.heap.size w w' := by
  have q := msame_c x y h1 h2 hn hn
  rw [soB_true he] at q
  exact q
end

def NC (W : World) (G : Nat) : Prop := W.cell? ⟨G, 0, none⟩ = some (.pointer none) ∧ W.cell? ⟨G, 1, none⟩ = some (.pointer none)
theorem NC.below {W W' : World} {G : Nat} (h : NC W G) (hb : Below W.heap.size W W') : NC W' G :=
  ⟨(hb.cell (World.block_lt_of_cell? _ _ h.1)).trans h.1, (hb.cell (World.block_lt_of_cell? _ _ h.2)).trans h.2⟩
theorem NC.new {W : World} {G : Nat} (h : Blk W G 32 #[.pointer none, .pointer none]) : NC W G := ⟨by rw [h.cell]; rfl, by rw [h.cell]; rfl⟩
theorem nyat {w : World} {A : Option Addr} {c : Nat} {l : List Nat} {k x : Nat} (h : Ny w .u32 (.slice A l.length c) l) (hx : l[k]? = some x) : ∃ b o, A = some ⟨b, o, none⟩ ∧ w.cell? ⟨b, o + k, none⟩ = some (.int .u32 (x : Int)) := by
  obtain ⟨A', c', hv, _, _, hca⟩ := h.form
  obtain ⟨b, o, hA, _, hcx⟩ := hca k x hx
  injection hv with hv1 _ _
  exact ⟨b, o, hv1.trans hA, hcx⟩
section
variable {p gm : Nat} {hp : 0 < p}
theorem one_e (x : Nat) (z : Int) (hz : z = (x : Int)) (w : World) (hk : (Fk p gm) w) (hx : (x : Int) ≤ 4294967295) (hp0 : 2 ≤ p) :
    Calls Tryz.prog 9 #[.int .u32 (p : Int), .pointer (some ⟨gm, 0, none⟩), .int .i64 1, .slice (some ⟨w.heap.size, 0, none⟩) 1 1] (w.alloc (.cells #[.int .u32 z] 22)) fun e w' =>
      ∃ (g : Nat) (M : Nat → Nat → (Fin p)), e = .returned (.tuple #[.agg #[.pointer none, .pointer (some ⟨g, 0, none⟩)], .bool true]) ∧ Mtx gm w' g 1 1 M ∧ M 0 0 = (own hp) x ∧ Below w.heap.size w w' := by
  subst hz
  have n2 := Blk.new w 22 #[.int .u32 (x : Int)]
  have b2 := (Below.refl w.heap.size w).alloc (Nat.le_refl _) (.cells #[.int .u32 (x : Int)] 22)
  have hny : Ny (w.alloc (.cells #[.int .u32 (x : Int)] 22)) .u32 (.slice (some ⟨w.heap.size, 0, none⟩) 1 1) [x] := n2.ny [x] rfl (by simp [maxLen])
  refine (square_c (hp := Nat.lt_of_lt_of_le (by decide) hp0) 1 _ [x] _ (hk.below b2) (by omega) hny (fun i y h => by have := List.mem_of_getElem? h; simp at this; omega) hp0).mono ?_
  rintro e w' ⟨g, rfl, hm, hb⟩
  exact ⟨g, _, rfl, hm, rfl, Below.step b2 hb⟩
theorem at00 (x : Nat) {M : Nat → Nat → (Fin p)} {z : (Fin p)} {w : World} (h : Mtx gm w x 1 1 M) (hz : M 0 0 = z) :
    Calls Tryz.prog 14 #[.agg #[.pointer none, .pointer (some ⟨x, 0, none⟩)], .int .i64 0, .int .i64 0] w fun e w' => e = .returned (.tuple #[.int .u32 ((Fin.val z : Nat) : Int), .int .i64 0]) ∧ Below w.heap.size w w' := by
  subst hz
  exact mat_at_c x 0 0 h (by omega) (by omega)
theorem sizes_ok (x n : Nat) {M : Nat → Nat → (Fin p)} {w : World} (h : Mtx gm w x n n M) (hk : (Fk p gm) w) (hn : 1 ≤ n ∧ n ≤ 256) (hr : (Fp p hp).rank n M = n) :
    Calls Tryz.prog 13 #[.agg #[.pointer none, .pointer (some ⟨x, 0, none⟩)]] w fun e w' => e = .returned (.tuple #[.int .i64 (n : Int), .int .i64 (n : Int), .int .i64 (n : Int)]) ∧ Below w.heap.size w w' := by
  have q := sizes_c (hp := hp) x h hk hn
  rw [hr] at q
  exact q
theorem sizes_bad (x n : Nat) {M : Nat → Nat → (Fin p)} {w : World} (h : Mtx gm w x n n M) (hk : (Fk p gm) w) (hn : 1 ≤ n ∧ n ≤ 256) (hr : (Fp p hp).rank n M ≠ n) :
    Calls Tryz.prog 13 #[.agg #[.pointer none, .pointer (some ⟨x, 0, none⟩)]] w fun e w' => ∃ r : Nat, (r : Int) ≠ (n : Int) ∧ e = .returned (.tuple #[.int .i64 (n : Int), .int .i64 (n : Int), .int .i64 (r : Int)]) ∧ Below w.heap.size w w' :=
  (sizes_c (hp := hp) x h hk hn).mono fun e w' ⟨he, hb⟩ => ⟨_, fun h2 => hr (by omega), he, hb⟩
theorem times_g (x n : Nat) (ve : Value) (y : Nat → (Fin p)) {M : Nat → Nat → (Fin p)} {w : World} (h : Mtx gm w x n n M) (hk : (Fk p gm) w) (hn : 1 ≤ n ∧ n ≤ 256) (hv : Ny w .u32 ve ((List.range n).map fun i => Fin.val (y i))) :
    Calls Tryz.prog 18 #[.agg #[.pointer none, .pointer (some ⟨x, 0, none⟩)], ve] w fun e w' => ∃ (u : Value) (b : Bool), e = .returned (.tuple #[u, .int .i64 0, .bool b]) ∧ OwnN w' w.heap.size 22 .u32 u ((List.range n).map fun i => Fin.val ((Fp p hp).dot n (M i) y)) ∧ Below w.heap.size w w' := by
  have hv2 : Sl w 1 ve n (rcells en y n) := by
    unfold Ny at hv
    rw [List.length_map, List.length_range] at hv
    have he : ncells .u32 ((List.range n).map fun i => Fin.val (y i)) = rcells en y n := by simp [ncells, rcells, en]
    rwa [he] at hv
  refine (mtimes_c (hp := hp) x ve y h hk hn hv2).mono ?_
  rintro e w' ⟨u, _, k, xs, rfl, ho, hb, rfl, rfl, rfl⟩
  refine ⟨u, true, rfl, ?_, hb⟩
  unfold OwnN
  have he : ncells .u32 ((List.range k).map fun i => Fin.val ((Fp p hp).dot k (M i) y)) = rcells en (fun i => (Fp p hp).dot k (M i) y) k := by simp [ncells, rcells, en]
  rw [List.length_map, List.length_range, he]
  exact ho
theorem solve_ok (x n : Nat) (ve : Value) (y : Nat → (Fin p)) {M : Nat → Nat → (Fin p)} {w : World} (h : Mtx gm w x n n M) (hk : (Fk p gm) w) (hn : 1 ≤ n ∧ n ≤ 256) (hv : Ny w .u32 ve ((List.range n).map fun i => Fin.val (y i))) (hr : (Fp p hp).rank n M = n) :
    Calls Tryz.prog 15 #[.agg #[.pointer none, .pointer (some ⟨x, 0, none⟩)], ve] w fun e w' => ∃ (u : Value) (b : Bool), e = .returned (.tuple #[u, .int .i64 0, .bool b]) ∧ OwnN w' w.heap.size 22 .u32 u ((List.range n).map fun i => Fin.val ((Fp p hp).sol n M y i)) ∧ Below w.heap.size w w' := by
  have hv2 : Sl w 1 ve n (rcells en y n) := by
    unfold Ny at hv
    rw [List.length_map, List.length_range] at hv
    have he : ncells .u32 ((List.range n).map fun i => Fin.val (y i)) = rcells en y n := by simp [ncells, rcells, en]
    rwa [he] at hv
  refine (msolve_c (hp := hp) x ve y h hk hn hv2).mono ?_
  rintro e w' ⟨u, _, k, xs, rfl, ho, hb, ⟨_, rfl, rfl, rfl⟩ | ⟨h2, _⟩⟩
  · refine ⟨u, true, rfl, ?_, hb⟩
    unfold OwnN
    have he : ncells .u32 ((List.range k).map fun i => Fin.val ((Fp p hp).sol k M y i)) = rcells en ((Fp p hp).sol k M y) k := by simp [ncells, rcells, en]
    rw [List.length_map, List.length_range, he]
    exact ho
  · exact absurd hr h2
theorem solve_bad (x n : Nat) (ve : Value) (y : Nat → (Fin p)) {M : Nat → Nat → (Fin p)} {w : World} (h : Mtx gm w x n n M) (hk : (Fk p gm) w) (hn : 1 ≤ n ∧ n ≤ 256) (hv : Ny w .u32 ve ((List.range n).map fun i => Fin.val (y i))) (hr : (Fp p hp).rank n M ≠ n) :
    Calls Tryz.prog 15 #[.agg #[.pointer none, .pointer (some ⟨x, 0, none⟩)], ve] w fun e w' => ∃ (u : Value) (b : Bool), e = .returned (.tuple #[u, .int .i64 71, .bool b]) ∧ Below w.heap.size w w' := by
  have hv2 : Sl w 1 ve n (rcells en y n) := by
    unfold Ny at hv
    rw [List.length_map, List.length_range] at hv
    have he : ncells .u32 ((List.range n).map fun i => Fin.val (y i)) = rcells en y n := by simp [ncells, rcells, en]
    rwa [he] at hv
  refine (msolve_c (hp := hp) x ve y h hk hn hv2).mono ?_
  rintro e w' ⟨u, _, k, xs, rfl, ho, hb, ⟨h2, _⟩ | ⟨_, rfl⟩⟩
  · exact absurd h2 hr
  · exact ⟨u, true, rfl, hb⟩
end
end Go.Proofs.YtoaaplngdomdcaaGreat.MV
