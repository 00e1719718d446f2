/- Joined texts: MvZC. -/
import Derived.Test.YtoaaplngdomdcaaGreatJ16

/- MatrixInverse over words. Printed by wip/inv.py. -/
namespace Go.Proofs.YtoaaplngdomdcaaGreat.MV
open Go.RowKit
theorem samew_yes (va vb : Value) (l m : List Nat) (w : World) (ha : Ny w .u32 va l) (hb : Ny w .u32 vb m) (he : l = m) :
    Calls Tryz.prog 19 #[va, vb] w fun e w' => e = .returned (.bool true) ∧ Below w.heap.size w w' := by
  have q := samew_any va vb l m w ha hb
  rw [decide_eq_true he] at q
  exact q
set_option maxRecDepth 100000 in
set_option maxHeartbeats 16000000 in
theorem inverse_law (p : Nat) (hpr : primeR p = true) (n0 : Int) (v1 v2 : Value) (l1 l2 : List Nat) (w : World) (hn0 : (Lit.int .i64 n0).wf = true) (h1 : Ny w .u32 v1 l1) (h2 : Ny w .u32 v2 l2)
    (d1 : ∀ (i x : Nat), l1[i]? = some x → (x : Int) ≤ 4294967295) (d2 : ∀ (i x : Nat), l2[i]? = some x → (x : Int) ≤ 4294967295) :
    Calls Tryz.prog 3 #[.int .u32 (p : Int), .int .i64 n0, v1, v2] w fun e w' => e = .returned (.bool true) ∧ Below w.heap.size w w' := by
  have hq := (primeB_iff.1 (by unfold primeR at hpr; simp at hpr; exact hpr.1) : PrimeN p)
  have hp0 : 2 ≤ p := hq.1
  have hp : 0 < p := by omega
  have OKF := hide (Fp_ok hp hq)
  clear hq
  obtain ⟨A2, C2, rfl, hlc2, hcm2, _⟩ := h2.form
  unfold maxLen at hcm2
  have H1 := hide h1
  have H2 := hide h2
  have D1 := hide d1
  have D2 := hide d2
  have HP := hide hn0
  have HR := hide hpr
  have HZ := hide hp0
  clear hpr hp0
  clear h1 h2 d1 d2 hn0
  go_enter Tryz.func3, Tryz.ntmps3
  go_wp2_with fail
  refine (awakem_any w).mono ?_
  rintro e w1 ⟨rfl, b⟩
  have BW := hide b
  replace H1 := hide (H1.out.below b)
  replace H2 := hide (H2.out.below b)
  clear b
  go_wp2_with fail
  refine (field_yes p w1 HR.out).mono ?_
  rintro e w2 ⟨gm, rfl, hk, b⟩
  have HK := hide hk
  clear hk
  replace BW := hide (Below.step BW.out b)
  replace H1 := hide (H1.out.below b)
  replace H2 := hide (H2.out.below b)
  clear b
  have hpk : pickN n0 8 < 8 := pickN_lt (by omega)
  have qp : Calls Tryz.prog 8 #[.int .i64 n0, .int .i64 8] w2 _ := pick_any n0 8 w2 (by omega) (by omega) HP.out
  obtain ⟨m0, hm0⟩ : ∃ m0, m0 = pickN n0 8 := ⟨_, rfl⟩
  rw [← hm0] at hpk qp
  clear hm0
  obtain ⟨N, hN⟩ : ∃ N, N = m0 + 1 := ⟨_, rfl⟩
  have hw1 : IntKind.i64.wrap (1 + (m0 : Int)) = (N : Int) := by rw [IntWalk.i64_in _ (by omega)]; omega
  have HN : Hid (1 ≤ N ∧ N ≤ 256) := hide (by omega)
  clear hN hpk
  go_wp2_with fail
  refine qp.mono ?_
  rintro e w' ⟨rfl, rfl⟩
  clear qp
  go_wp2_with fail
  refine (sq_e N v1 l1 w2 HK.out HN.out H1.out D1.out HZ.out).mono ?_
  rintro e w3 ⟨g11, M11, rfl, hm, b⟩
  replace H2 := hide (H2.out.below b)
  replace HK := hide (HK.out.below b)
  replace BW := hide (Below.step BW.out b)
  clear b
  go_wp2_with ((with_reducible change wpList _ _ _ (⟨none, .store _ (.tmp 11) _, _, _, _, _⟩ :: _) _ _); go_loud (refine wpList_store_row (o := ⟨none, .store _ (.tmp 11) _, _, _, _, _⟩) (Blk.new w3 _ _) #[.pointer none, .pointer (some ⟨g11, 0, none⟩)] rfl (by simp [Value.oneCell']) rfl 32 _ _ rfl (by kernel_rfl) rfl rfl ?_; intro w4 hw gw; have b : Below w3.heap.size w3 w4 := ((Below.refl _ w3).alloc (Nat.le_refl _) _).grown gw (by simp) (fun k hk => by cases hk; exact Nat.le_refl _); have K11 := hide (MC.new hw (hm.below b)); replace H2 := hide (H2.out.below b); replace HK := hide (HK.out.below b); replace BW := hide (Below.step BW.out b); clear b hw gw hm))
  refine (mident_c (hp := hp) N w4 HK.out HN.out HZ.out).mono ?_
  rintro e w5 ⟨g12, rfl, hm, b⟩
  replace K11 := hide (K11.out.below b)
  replace H2 := hide (H2.out.below b)
  replace HK := hide (HK.out.below b)
  replace BW := hide (Below.step BW.out b)
  clear b
  go_wp2_with ((with_reducible change wpList _ _ _ (⟨none, .store _ (.tmp 12) _, _, _, _, _⟩ :: _) _ _); go_loud (refine wpList_store_row (o := ⟨none, .store _ (.tmp 12) _, _, _, _, _⟩) (Blk.new w5 _ _) #[.pointer none, .pointer (some ⟨g12, 0, none⟩)] rfl (by simp [Value.oneCell']) rfl 32 _ _ rfl (by kernel_rfl) rfl rfl ?_; intro w6 hw gw; have b : Below w5.heap.size w5 w6 := ((Below.refl _ w5).alloc (Nat.le_refl _) _).grown gw (by simp) (fun k hk => by cases hk; exact Nat.le_refl _); have K12 := hide (MC.new hw (hm.below b)); replace K11 := hide (K11.out.below b); replace H2 := hide (H2.out.below b); replace HK := hide (HK.out.below b); replace BW := hide (Below.step BW.out b); clear b hw gw hm; obtain ⟨c120, c121, _⟩ := K12.out))
  refine (there_c g12 w6).mono ?_
  rintro e w7 ⟨rfl, b⟩
  clear c120 c121
  replace K11 := hide (K11.out.below b)
  replace K12 := hide (K12.out.below b)
  replace H2 := hide (H2.out.below b)
  replace HK := hide (HK.out.below b)
  replace BW := hide (Below.step BW.out b)
  clear b
  obtain ⟨c110, c111, _⟩ := K11.out
  go_wp2_with fail
  by_cases ra : (Fp p hp).rank N M11 = N
  · have RA := hide ra
    clear ra
    refine (minv_ok g11 N (hp := hp) K11.out.2.2 HK.out HN.out (RA.out)).mono ?_
    rintro e w8 ⟨g14, rfl, hm, b⟩
    clear c110 c111
    replace K11 := hide (K11.out.below b)
    replace K12 := hide (K12.out.below b)
    replace H2 := hide (H2.out.below b)
    replace HK := hide (HK.out.below b)
    replace BW := hide (Below.step BW.out b)
    clear b
    go_wp2_with ((with_reducible change wpList _ _ _ (⟨none, .store _ (.tmp 14) _, _, _, _, _⟩ :: _) _ _); go_loud (refine wpList_store_row (o := ⟨none, .store _ (.tmp 14) _, _, _, _, _⟩) (Blk.new w8 _ _) #[.pointer none, .pointer (some ⟨g14, 0, none⟩)] rfl (by simp [Value.oneCell']) rfl 32 _ _ rfl (by kernel_rfl) rfl rfl ?_; intro w9 hw gw; have b : Below w8.heap.size w8 w9 := ((Below.refl _ w8).alloc (Nat.le_refl _) _).grown gw (by simp) (fun k hk => by cases hk; exact Nat.le_refl _); have K14 := hide (MC.new hw (hm.below b)); replace K11 := hide (K11.out.below b); replace K12 := hide (K12.out.below b); replace H2 := hide (H2.out.below b); replace HK := hide (HK.out.below b); replace BW := hide (Below.step BW.out b); clear b hw gw hm; obtain ⟨c110, c111, _⟩ := K11.out))
    refine (sizes_ok g11 N (hp := hp) K11.out.2.2 HK.out HN.out RA.out).mono ?_
    rintro e w10 ⟨rfl, b⟩
    clear c110 c111
    replace K11 := hide (K11.out.below b)
    replace K12 := hide (K12.out.below b)
    replace K14 := hide (K14.out.below b)
    replace H2 := hide (H2.out.below b)
    replace HK := hide (HK.out.below b)
    replace BW := hide (Below.step BW.out b)
    clear b
    go_wp2
    go_loopw [18, 19, 20, 21, 22, 23, 24] (fun v i _ _ _ _ _ wr => ∃ k : Nat, k ≤ N ∧ i = .int .i64 k ∧ OwnN wr w10.heap.size 22 .u32 v ((List.range k).map fun j => Fin.val ((own hp) (l2.getD j 0))) ∧ Below w10.heap.size w10 wr) (fun _ i _ _ _ _ _ _ => N - (intOf i).toNat)
    case atStart => exact ⟨0, by omega, rfl, OwnN.nil _ _ _ _, Below.refl _ _⟩
    case round =>
      obtain ⟨k, hk, rfl, hown, hbel⟩ := hrel
      have HO := hide hown
      have HB := hide hbel
      clear hown hbel
      have hn256 := HN.out
      by_cases hlt : k < N
      · have j2 : (k : Int) < (N : Int) := by omega
        by_cases hin : k < l2.length
        · obtain ⟨x, hx⟩ : ∃ x, l2[k]? = some x := ⟨_, List.getElem?_eq_getElem hin⟩
          obtain ⟨b, o, rfl, hcx⟩ := nyat (H2.out.below HB.out) hx
          have HX := hide (show l2.getD k 0 = x by rw [List.getD_eq_getElem?_getD, hx]; rfl)
          have HXB := hide (D2.out k x hx)
          have j1 : (k : Int) < (l2.length : Int) := by omega
          have j3 : (0 : Int) ≤ (k : Int) := by omega
          clear hx
          go_wp2_with fail
          refine (one_e (hp := hp) x (x : Int) rfl wr (HK.out.below HB.out) HXB.out HZ.out).mono ?_
          rintro e wa ⟨g, M0, rfl, hm, h00, ba⟩
          have HM := hide (And.intro hm h00)
          have BA := hide ba
          clear hm h00 ba
          go_wp2_with ((with_reducible change wpList _ _ _ (⟨none, .store _ (.tmp 21) _, _, _, _, _⟩ :: _) _ _); go_loud (refine wpList_store_row (o := ⟨none, .store _ (.tmp 21) _, _, _, _, _⟩) (Blk.new wa _ _) #[.pointer none, .pointer (some ⟨g, 0, none⟩)] rfl (by simp [Value.oneCell']) rfl 32 _ _ rfl (by kernel_rfl) rfl rfl ?_; intro wb hw gw; have bb : Below wa.heap.size wa wb := ((Below.refl _ wa).alloc (Nat.le_refl _) _).grown gw (by simp) (fun k hk => by cases hk; exact Nat.le_refl _); have KM := hide (MC.new hw (HM.out.1.below bb)); have BB := hide (Below.step BA.out bb); clear bb hw gw; obtain ⟨cm0, cm1, _⟩ := KM.out))
          refine (at00 g KM.out.2.2 HM.out.2).mono ?_
          rintro e wc ⟨rfl, bc⟩
          have BC := hide (Below.step BB.out bc)
          clear bc cm0 cm1
          have hbel := Below.step HB.out BC.out
          go_wp2_with (at_builtin; go_loud (refine wpList_push1 elemW (HO.out.below BC.out) hbel hbel.size (by rw [List.length_map, List.length_range]; unfold maxLen; omega) (by rw [List.length_map, List.length_range]; omega) (.int .u32 ((Fin.val ((own hp) x) : Nat) : Int)) rfl rfl _ _ rfl rfl rfl ?_); intro v1 wd ho1 hbel1 _ _ _; have hown1 := OwnN.push ho1; clear ho1 hbel)
          go_roundw
          case rel => exact ⟨k + 1, by omega, by go_num, by rw [List.range_succ, List.map_append, List.map_singleton, HX.out]; exact hown1, hbel1⟩
          case measure => simp [intOf]; omega
        · have HX := hide (show l2.getD k 0 = 0 by rw [List.getD_eq_getElem?_getD, List.getElem?_eq_none (by omega)]; rfl)
          have j1 : ¬ (k : Int) < (l2.length : Int) := by omega
          go_wp2_with fail
          refine (one_e (hp := hp) 0 0 rfl wr (HK.out.below HB.out) (by omega) HZ.out).mono ?_
          rintro e wa ⟨g, M0, rfl, hm, h00, ba⟩
          have HM := hide (And.intro hm h00)
          have BA := hide ba
          clear hm h00 ba
          go_wp2_with ((with_reducible change wpList _ _ _ (⟨none, .store _ (.tmp 21) _, _, _, _, _⟩ :: _) _ _); go_loud (refine wpList_store_row (o := ⟨none, .store _ (.tmp 21) _, _, _, _, _⟩) (Blk.new wa _ _) #[.pointer none, .pointer (some ⟨g, 0, none⟩)] rfl (by simp [Value.oneCell']) rfl 32 _ _ rfl (by kernel_rfl) rfl rfl ?_; intro wb hw gw; have bb : Below wa.heap.size wa wb := ((Below.refl _ wa).alloc (Nat.le_refl _) _).grown gw (by simp) (fun k hk => by cases hk; exact Nat.le_refl _); have KM := hide (MC.new hw (HM.out.1.below bb)); have BB := hide (Below.step BA.out bb); clear bb hw gw; obtain ⟨cm0, cm1, _⟩ := KM.out))
          refine (at00 g KM.out.2.2 HM.out.2).mono ?_
          rintro e wc ⟨rfl, bc⟩
          have BC := hide (Below.step BB.out bc)
          clear bc cm0 cm1
          have hbel := Below.step HB.out BC.out
          go_wp2_with (at_builtin; go_loud (refine wpList_push1 elemW (HO.out.below BC.out) hbel hbel.size (by rw [List.length_map, List.length_range]; unfold maxLen; omega) (by rw [List.length_map, List.length_range]; omega) (.int .u32 ((Fin.val ((own hp) 0) : Nat) : Int)) rfl rfl _ _ rfl rfl rfl ?_); intro v1 wd ho1 hbel1 _ _ _; have hown1 := OwnN.push ho1; clear ho1 hbel)
          go_roundw
          case rel => exact ⟨k + 1, by omega, by go_num, by rw [List.range_succ, List.map_append, List.map_singleton, HX.out]; exact hown1, hbel1⟩
          case measure => simp [intOf]; omega
      · obtain rfl : N = k := by omega
        clear hn256 hlt hk
        have HL := hide HO.out
        clear HO
        replace K11 := hide (K11.out.below HB.out)
        replace K12 := hide (K12.out.below HB.out)
        replace K14 := hide (K14.out.below HB.out)
        replace H2 := hide (H2.out.below HB.out)
        replace HK := hide (HK.out.below HB.out)
        replace BW := hide (Below.step BW.out HB.out)
        clear HB
        have j2 : ¬ (N : Int) < (N : Int) := by omega
        obtain ⟨w11, rfl⟩ : ∃ wq : World, wq = wr := ⟨_, rfl⟩
        obtain ⟨c110, c111, _⟩ := K11.out
        go_wp2_with fail
        refine (solve_ok g11 N u18 (fun j => (own hp) (l2.getD j 0)) (hp := hp) K11.out.2.2 HK.out HN.out HL.out.ny RA.out).mono ?_
        rintro e w12 ⟨us, bs, rfl, ho, b⟩
        clear c110 c111
        replace K11 := hide (K11.out.below b)
        replace K12 := hide (K12.out.below b)
        replace K14 := hide (K14.out.below b)
        replace H2 := hide (H2.out.below b)
        replace HL := hide (HL.out.below b)
        replace HK := hide (HK.out.below b)
        replace BW := hide (Below.step BW.out b)
        clear b j2
        have HS := hide ho
        clear ho
        obtain ⟨c110, c111, _⟩ := K11.out
        obtain ⟨c140, c141, _⟩ := K14.out
        go_wp2_with fail
        refine (mmul_c (hp := hp) g11 g14 N K11.out.2.2 K14.out.2.2 HK.out HN.out HN.out HN.out.2).mono ?_
        rintro e w13 ⟨g28, rfl, hm, b⟩
        clear c110 c111 c140 c141
        replace K11 := hide (K11.out.below b)
        replace K12 := hide (K12.out.below b)
        replace K14 := hide (K14.out.below b)
        replace H2 := hide (H2.out.below b)
        replace HL := hide (HL.out.below b)
        replace HS := hide (HS.out.below b)
        replace HK := hide (HK.out.below b)
        replace BW := hide (Below.step BW.out b)
        clear b
        go_wp2_with ((with_reducible change wpList _ _ _ (⟨none, .store _ (.tmp 28) _, _, _, _, _⟩ :: _) _ _); go_loud (refine wpList_store_row (o := ⟨none, .store _ (.tmp 28) _, _, _, _, _⟩) (Blk.new w13 _ _) #[.pointer none, .pointer (some ⟨g28, 0, none⟩)] rfl (by simp [Value.oneCell']) rfl 32 _ _ rfl (by kernel_rfl) rfl rfl ?_; intro w14 hw gw; have b : Below w13.heap.size w13 w14 := ((Below.refl _ w13).alloc (Nat.le_refl _) _).grown gw (by simp) (fun k hk => by cases hk; exact Nat.le_refl _); have K28 := hide (MC.new hw (hm.below b)); replace K11 := hide (K11.out.below b); replace K12 := hide (K12.out.below b); replace K14 := hide (K14.out.below b); replace H2 := hide (H2.out.below b); replace HL := hide (HL.out.below b); replace HS := hide (HS.out.below b); replace HK := hide (HK.out.below b); replace BW := hide (Below.step BW.out b); clear b hw gw hm; obtain ⟨c140, c141, _⟩ := K14.out; obtain ⟨c110, c111, _⟩ := K11.out))
        refine (mmul_c (hp := hp) g14 g11 N K14.out.2.2 K11.out.2.2 HK.out HN.out HN.out HN.out.2).mono ?_
        rintro e w15 ⟨g30, rfl, hm, b⟩
        clear c140 c141 c110 c111
        replace K11 := hide (K11.out.below b)
        replace K12 := hide (K12.out.below b)
        replace K14 := hide (K14.out.below b)
        replace K28 := hide (K28.out.below b)
        replace H2 := hide (H2.out.below b)
        replace HL := hide (HL.out.below b)
        replace HS := hide (HS.out.below b)
        replace HK := hide (HK.out.below b)
        replace BW := hide (Below.step BW.out b)
        clear b
        go_wp2_with ((with_reducible change wpList _ _ _ (⟨none, .store _ (.tmp 30) _, _, _, _, _⟩ :: _) _ _); go_loud (refine wpList_store_row (o := ⟨none, .store _ (.tmp 30) _, _, _, _, _⟩) (Blk.new w15 _ _) #[.pointer none, .pointer (some ⟨g30, 0, none⟩)] rfl (by simp [Value.oneCell']) rfl 32 _ _ rfl (by kernel_rfl) rfl rfl ?_; intro w16 hw gw; have b : Below w15.heap.size w15 w16 := ((Below.refl _ w15).alloc (Nat.le_refl _) _).grown gw (by simp) (fun k hk => by cases hk; exact Nat.le_refl _); have K30 := hide (MC.new hw (hm.below b)); replace K11 := hide (K11.out.below b); replace K12 := hide (K12.out.below b); replace K14 := hide (K14.out.below b); replace K28 := hide (K28.out.below b); replace H2 := hide (H2.out.below b); replace HL := hide (HL.out.below b); replace HS := hide (HS.out.below b); replace HK := hide (HK.out.below b); replace BW := hide (Below.step BW.out b); clear b hw gw hm; obtain ⟨c140, c141, _⟩ := K14.out))
        refine (minv_ok g14 N (hp := hp) K14.out.2.2 HK.out HN.out (OKF.out.inv_full RA.out)).mono ?_
        rintro e w17 ⟨g32, rfl, hm, b⟩
        clear c140 c141
        replace K11 := hide (K11.out.below b)
        replace K12 := hide (K12.out.below b)
        replace K14 := hide (K14.out.below b)
        replace K28 := hide (K28.out.below b)
        replace K30 := hide (K30.out.below b)
        replace H2 := hide (H2.out.below b)
        replace HL := hide (HL.out.below b)
        replace HS := hide (HS.out.below b)
        replace HK := hide (HK.out.below b)
        replace BW := hide (Below.step BW.out b)
        clear b
        go_wp2_with ((with_reducible change wpList _ _ _ (⟨none, .store _ (.tmp 32) _, _, _, _, _⟩ :: _) _ _); go_loud (refine wpList_store_row (o := ⟨none, .store _ (.tmp 32) _, _, _, _, _⟩) (Blk.new w17 _ _) #[.pointer none, .pointer (some ⟨g32, 0, none⟩)] rfl (by simp [Value.oneCell']) rfl 32 _ _ rfl (by kernel_rfl) rfl rfl ?_; intro w18 hw gw; have b : Below w17.heap.size w17 w18 := ((Below.refl _ w17).alloc (Nat.le_refl _) _).grown gw (by simp) (fun k hk => by cases hk; exact Nat.le_refl _); have K32 := hide (MC.new hw (hm.below b)); replace K11 := hide (K11.out.below b); replace K12 := hide (K12.out.below b); replace K14 := hide (K14.out.below b); replace K28 := hide (K28.out.below b); replace K30 := hide (K30.out.below b); replace H2 := hide (H2.out.below b); replace HL := hide (HL.out.below b); replace HS := hide (HS.out.below b); replace HK := hide (HK.out.below b); replace BW := hide (Below.step BW.out b); clear b hw gw hm; obtain ⟨c280, c281, _⟩ := K28.out))
        refine (there_c g28 w18).mono ?_
        rintro e w19 ⟨rfl, b⟩
        clear c280 c281
        replace K11 := hide (K11.out.below b)
        replace K12 := hide (K12.out.below b)
        replace K14 := hide (K14.out.below b)
        replace K28 := hide (K28.out.below b)
        replace K30 := hide (K30.out.below b)
        replace K32 := hide (K32.out.below b)
        replace H2 := hide (H2.out.below b)
        replace HL := hide (HL.out.below b)
        replace HS := hide (HS.out.below b)
        replace HK := hide (HK.out.below b)
        replace BW := hide (Below.step BW.out b)
        clear b
        obtain ⟨c300, c301, _⟩ := K30.out
        go_wp2_with fail
        refine (there_c g30 w19).mono ?_
        rintro e w20 ⟨rfl, b⟩
        clear c300 c301
        replace K11 := hide (K11.out.below b)
        replace K12 := hide (K12.out.below b)
        replace K14 := hide (K14.out.below b)
        replace K28 := hide (K28.out.below b)
        replace K30 := hide (K30.out.below b)
        replace K32 := hide (K32.out.below b)
        replace H2 := hide (H2.out.below b)
        replace HL := hide (HL.out.below b)
        replace HS := hide (HS.out.below b)
        replace HK := hide (HK.out.below b)
        replace BW := hide (Below.step BW.out b)
        clear b
        obtain ⟨c320, c321, _⟩ := K32.out
        go_wp2_with fail
        refine (there_c g32 w20).mono ?_
        rintro e w21 ⟨rfl, b⟩
        clear c320 c321
        replace K11 := hide (K11.out.below b)
        replace K12 := hide (K12.out.below b)
        replace K14 := hide (K14.out.below b)
        replace K28 := hide (K28.out.below b)
        replace K30 := hide (K30.out.below b)
        replace K32 := hide (K32.out.below b)
        replace H2 := hide (H2.out.below b)
        replace HL := hide (HL.out.below b)
        replace HS := hide (HS.out.below b)
        replace HK := hide (HK.out.below b)
        replace BW := hide (Below.step BW.out b)
        clear b
        obtain ⟨c280, c281, _⟩ := K28.out
        obtain ⟨c120, c121, _⟩ := K12.out
        go_wp2_with fail
        refine (msame_yes g28 g12 N K28.out.2.2 K12.out.2.2 (by have := HN.out; omega) (fun i j hi hj => OKF.out.right RA.out hi hj)).mono ?_
        rintro e w22 ⟨rfl, b⟩
        clear c280 c281 c120 c121
        replace K11 := hide (K11.out.below b)
        replace K12 := hide (K12.out.below b)
        replace K14 := hide (K14.out.below b)
        replace K28 := hide (K28.out.below b)
        replace K30 := hide (K30.out.below b)
        replace K32 := hide (K32.out.below b)
        replace H2 := hide (H2.out.below b)
        replace HL := hide (HL.out.below b)
        replace HS := hide (HS.out.below b)
        replace HK := hide (HK.out.below b)
        replace BW := hide (Below.step BW.out b)
        clear b
        obtain ⟨c300, c301, _⟩ := K30.out
        obtain ⟨c120, c121, _⟩ := K12.out
        go_wp2_with fail
        refine (msame_yes g30 g12 N K30.out.2.2 K12.out.2.2 (by have := HN.out; omega) (fun i j hi hj => OKF.out.left RA.out hi hj)).mono ?_
        rintro e w23 ⟨rfl, b⟩
        clear c300 c301 c120 c121
        replace K11 := hide (K11.out.below b)
        replace K12 := hide (K12.out.below b)
        replace K14 := hide (K14.out.below b)
        replace K28 := hide (K28.out.below b)
        replace K30 := hide (K30.out.below b)
        replace K32 := hide (K32.out.below b)
        replace H2 := hide (H2.out.below b)
        replace HL := hide (HL.out.below b)
        replace HS := hide (HS.out.below b)
        replace HK := hide (HK.out.below b)
        replace BW := hide (Below.step BW.out b)
        clear b
        obtain ⟨c320, c321, _⟩ := K32.out
        obtain ⟨c110, c111, _⟩ := K11.out
        go_wp2_with fail
        refine (msame_yes g32 g11 N K32.out.2.2 K11.out.2.2 (by have := HN.out; omega) (fun i j hi hj => OKF.out.back RA.out hi hj)).mono ?_
        rintro e w24 ⟨rfl, b⟩
        clear c320 c321 c110 c111
        replace K11 := hide (K11.out.below b)
        replace K12 := hide (K12.out.below b)
        replace K14 := hide (K14.out.below b)
        replace K28 := hide (K28.out.below b)
        replace K30 := hide (K30.out.below b)
        replace K32 := hide (K32.out.below b)
        replace H2 := hide (H2.out.below b)
        replace HL := hide (HL.out.below b)
        replace HS := hide (HS.out.below b)
        replace HK := hide (HK.out.below b)
        replace BW := hide (Below.step BW.out b)
        clear b
        obtain ⟨c110, c111, _⟩ := K11.out
        go_wp2_with fail
        refine (times_g g11 N us ((Fp p hp).sol N M11 fun j => (own hp) (l2.getD j 0)) (hp := hp) K11.out.2.2 HK.out HN.out HS.out.ny).mono ?_
        rintro e w25 ⟨ut, bt, rfl, ho, b⟩
        clear c110 c111
        replace K11 := hide (K11.out.below b)
        replace K12 := hide (K12.out.below b)
        replace K14 := hide (K14.out.below b)
        replace K28 := hide (K28.out.below b)
        replace K30 := hide (K30.out.below b)
        replace K32 := hide (K32.out.below b)
        replace H2 := hide (H2.out.below b)
        replace HL := hide (HL.out.below b)
        replace HS := hide (HS.out.below b)
        replace HK := hide (HK.out.below b)
        replace BW := hide (Below.step BW.out b)
        clear b
        have HT := hide ho
        clear ho
        go_wp2_with fail
        refine (samew_yes ut u18 _ _ _ HT.out.ny HL.out.ny (List.map_congr_left fun i hi => by rw [OKF.out.solves RA.out _ (List.mem_range.1 hi)])).mono ?_
        rintro e w26 ⟨rfl, b⟩
        replace K11 := hide (K11.out.below b)
        replace K12 := hide (K12.out.below b)
        replace K14 := hide (K14.out.below b)
        replace K28 := hide (K28.out.below b)
        replace K30 := hide (K30.out.below b)
        replace K32 := hide (K32.out.below b)
        replace H2 := hide (H2.out.below b)
        replace HL := hide (HL.out.below b)
        replace HS := hide (HS.out.below b)
        replace HT := hide (HT.out.below b)
        replace HK := hide (HK.out.below b)
        replace BW := hide (Below.step BW.out b)
        clear b
        go_wp2
        go_ret
        exact ⟨rfl, BW.out⟩
  · have RA := hide ra
    clear ra
    refine (minv_bad g11 N (hp := hp) K11.out.2.2 HK.out HN.out (RA.out)).mono ?_
    rintro e w8 ⟨rfl, b⟩
    clear c110 c111
    replace K11 := hide (K11.out.below b)
    replace K12 := hide (K12.out.below b)
    replace H2 := hide (H2.out.below b)
    replace HK := hide (HK.out.below b)
    replace BW := hide (Below.step BW.out b)
    clear b
    go_wp2_with ((with_reducible change wpList _ _ _ (⟨none, .store _ (.tmp 14) _, _, _, _, _⟩ :: _) _ _); go_loud (refine wpList_store_row (o := ⟨none, .store _ (.tmp 14) _, _, _, _, _⟩) (Blk.new w8 _ _) #[.pointer none, .pointer none] rfl (by simp [Value.oneCell']) rfl 32 _ _ rfl (by kernel_rfl) rfl rfl ?_; intro w9 hw gw; have b : Below w8.heap.size w8 w9 := ((Below.refl _ w8).alloc (Nat.le_refl _) _).grown gw (by simp) (fun k hk => by cases hk; exact Nat.le_refl _); have K14 := hide (NC.new hw); replace K11 := hide (K11.out.below b); replace K12 := hide (K12.out.below b); replace H2 := hide (H2.out.below b); replace HK := hide (HK.out.below b); replace BW := hide (Below.step BW.out b); clear b hw gw; obtain ⟨c110, c111, _⟩ := K11.out))
    refine (sizes_bad g11 N (hp := hp) K11.out.2.2 HK.out HN.out RA.out).mono ?_
    rintro e w10 ⟨rk, hrk, rfl, b⟩
    clear c110 c111
    replace K11 := hide (K11.out.below b)
    replace K12 := hide (K12.out.below b)
    replace K14 := hide (K14.out.below b)
    replace H2 := hide (H2.out.below b)
    replace HK := hide (HK.out.below b)
    replace BW := hide (Below.step BW.out b)
    clear b
    go_wp2
    go_loopw [18, 19, 20, 21, 22, 23, 24] (fun v i _ _ _ _ _ wr => ∃ k : Nat, k ≤ N ∧ i = .int .i64 k ∧ OwnN wr w10.heap.size 22 .u32 v ((List.range k).map fun j => Fin.val ((own hp) (l2.getD j 0))) ∧ Below w10.heap.size w10 wr) (fun _ i _ _ _ _ _ _ => N - (intOf i).toNat)
    case atStart => exact ⟨0, by omega, rfl, OwnN.nil _ _ _ _, Below.refl _ _⟩
    case round =>
      obtain ⟨k, hk, rfl, hown, hbel⟩ := hrel
      have HO := hide hown
      have HB := hide hbel
      clear hown hbel
      have hn256 := HN.out
      by_cases hlt : k < N
      · have j2 : (k : Int) < (N : Int) := by omega
        by_cases hin : k < l2.length
        · obtain ⟨x, hx⟩ : ∃ x, l2[k]? = some x := ⟨_, List.getElem?_eq_getElem hin⟩
          obtain ⟨b, o, rfl, hcx⟩ := nyat (H2.out.below HB.out) hx
          have HX := hide (show l2.getD k 0 = x by rw [List.getD_eq_getElem?_getD, hx]; rfl)
          have HXB := hide (D2.out k x hx)
          have j1 : (k : Int) < (l2.length : Int) := by omega
          have j3 : (0 : Int) ≤ (k : Int) := by omega
          clear hx
          go_wp2_with fail
          refine (one_e (hp := hp) x (x : Int) rfl wr (HK.out.below HB.out) HXB.out HZ.out).mono ?_
          rintro e wa ⟨g, M0, rfl, hm, h00, ba⟩
          have HM := hide (And.intro hm h00)
          have BA := hide ba
          clear hm h00 ba
          go_wp2_with ((with_reducible change wpList _ _ _ (⟨none, .store _ (.tmp 21) _, _, _, _, _⟩ :: _) _ _); go_loud (refine wpList_store_row (o := ⟨none, .store _ (.tmp 21) _, _, _, _, _⟩) (Blk.new wa _ _) #[.pointer none, .pointer (some ⟨g, 0, none⟩)] rfl (by simp [Value.oneCell']) rfl 32 _ _ rfl (by kernel_rfl) rfl rfl ?_; intro wb hw gw; have bb : Below wa.heap.size wa wb := ((Below.refl _ wa).alloc (Nat.le_refl _) _).grown gw (by simp) (fun k hk => by cases hk; exact Nat.le_refl _); have KM := hide (MC.new hw (HM.out.1.below bb)); have BB := hide (Below.step BA.out bb); clear bb hw gw; obtain ⟨cm0, cm1, _⟩ := KM.out))
          refine (at00 g KM.out.2.2 HM.out.2).mono ?_
          rintro e wc ⟨rfl, bc⟩
          have BC := hide (Below.step BB.out bc)
          clear bc cm0 cm1
          have hbel := Below.step HB.out BC.out
          go_wp2_with (at_builtin; go_loud (refine wpList_push1 elemW (HO.out.below BC.out) hbel hbel.size (by rw [List.length_map, List.length_range]; unfold maxLen; omega) (by rw [List.length_map, List.length_range]; omega) (.int .u32 ((Fin.val ((own hp) x) : Nat) : Int)) rfl rfl _ _ rfl rfl rfl ?_); intro v1 wd ho1 hbel1 _ _ _; have hown1 := OwnN.push ho1; clear ho1 hbel)
          go_roundw
          case rel => exact ⟨k + 1, by omega, by go_num, by rw [List.range_succ, List.map_append, List.map_singleton, HX.out]; exact hown1, hbel1⟩
          case measure => simp [intOf]; omega
        · have HX := hide (show l2.getD k 0 = 0 by rw [List.getD_eq_getElem?_getD, List.getElem?_eq_none (by omega)]; rfl)
          have j1 : ¬ (k : Int) < (l2.length : Int) := by omega
          go_wp2_with fail
          refine (one_e (hp := hp) 0 0 rfl wr (HK.out.below HB.out) (by omega) HZ.out).mono ?_
          rintro e wa ⟨g, M0, rfl, hm, h00, ba⟩
          have HM := hide (And.intro hm h00)
          have BA := hide ba
          clear hm h00 ba
          go_wp2_with ((with_reducible change wpList _ _ _ (⟨none, .store _ (.tmp 21) _, _, _, _, _⟩ :: _) _ _); go_loud (refine wpList_store_row (o := ⟨none, .store _ (.tmp 21) _, _, _, _, _⟩) (Blk.new wa _ _) #[.pointer none, .pointer (some ⟨g, 0, none⟩)] rfl (by simp [Value.oneCell']) rfl 32 _ _ rfl (by kernel_rfl) rfl rfl ?_; intro wb hw gw; have bb : Below wa.heap.size wa wb := ((Below.refl _ wa).alloc (Nat.le_refl _) _).grown gw (by simp) (fun k hk => by cases hk; exact Nat.le_refl _); have KM := hide (MC.new hw (HM.out.1.below bb)); have BB := hide (Below.step BA.out bb); clear bb hw gw; obtain ⟨cm0, cm1, _⟩ := KM.out))
          refine (at00 g KM.out.2.2 HM.out.2).mono ?_
          rintro e wc ⟨rfl, bc⟩
          have BC := hide (Below.step BB.out bc)
          clear bc cm0 cm1
          have hbel := Below.step HB.out BC.out
          go_wp2_with (at_builtin; go_loud (refine wpList_push1 elemW (HO.out.below BC.out) hbel hbel.size (by rw [List.length_map, List.length_range]; unfold maxLen; omega) (by rw [List.length_map, List.length_range]; omega) (.int .u32 ((Fin.val ((own hp) 0) : Nat) : Int)) rfl rfl _ _ rfl rfl rfl ?_); intro v1 wd ho1 hbel1 _ _ _; have hown1 := OwnN.push ho1; clear ho1 hbel)
          go_roundw
          case rel => exact ⟨k + 1, by omega, by go_num, by rw [List.range_succ, List.map_append, List.map_singleton, HX.out]; exact hown1, hbel1⟩
          case measure => simp [intOf]; omega
      · obtain rfl : N = k := by omega
        clear hn256 hlt hk
        have HL := hide HO.out
        clear HO
        replace K11 := hide (K11.out.below HB.out)
        replace K12 := hide (K12.out.below HB.out)
        replace K14 := hide (K14.out.below HB.out)
        replace H2 := hide (H2.out.below HB.out)
        replace HK := hide (HK.out.below HB.out)
        replace BW := hide (Below.step BW.out HB.out)
        clear HB
        have j2 : ¬ (N : Int) < (N : Int) := by omega
        obtain ⟨w11, rfl⟩ : ∃ wq : World, wq = wr := ⟨_, rfl⟩
        obtain ⟨c110, c111, _⟩ := K11.out
        go_wp2_with fail
        refine (solve_bad g11 N u18 (fun j => (own hp) (l2.getD j 0)) (hp := hp) K11.out.2.2 HK.out HN.out HL.out.ny RA.out).mono ?_
        rintro e w12 ⟨us, bs, rfl, b⟩
        clear c110 c111
        replace K11 := hide (K11.out.below b)
        replace K12 := hide (K12.out.below b)
        replace K14 := hide (K14.out.below b)
        replace H2 := hide (H2.out.below b)
        replace HL := hide (HL.out.below b)
        replace HK := hide (HK.out.below b)
        replace BW := hide (Below.step BW.out b)
        clear b j2
        obtain ⟨c140, c141⟩ := K14.out
        go_wp2_with fail
        refine (there_none w12).mono ?_
        rintro e w13 ⟨rfl, b⟩
        clear c140 c141
        replace K11 := hide (K11.out.below b)
        replace K12 := hide (K12.out.below b)
        replace K14 := hide (K14.out.below b)
        replace H2 := hide (H2.out.below b)
        replace HL := hide (HL.out.below b)
        replace HK := hide (HK.out.below b)
        replace BW := hide (Below.step BW.out b)
        clear b
        go_wp2
        go_ret
        exact ⟨rfl, BW.out⟩
end Go.Proofs.YtoaaplngdomdcaaGreat.MV
