/- Joined texts: MvY. -/
import Derived.Test.YtoaaplngdomdcaaJ10
import Derived.Test.YtoaaplngdomdcaaJ6

/- MatrixGroups over words. Printed by wip/grp.py. -/
namespace Go.Proofs.Ytoaaplngdomdcaa.MV
open Go.RowKit
section
variable {p gm : Nat} {hp : 0 < p}
def MC (gm : Nat) {p : Nat} (W : World) (G g n : Nat) (M : Nat → Nat → Fin p) : Prop := W.cell? ⟨G, 0, none⟩ = some (.pointer none) ∧ W.cell? ⟨G, 1, none⟩ = some (.pointer (some ⟨g, 0, none⟩)) ∧ Mtx gm W g n n M
theorem MC.below {W W' : World} {G g n : Nat} {M : Nat → Nat → (Fin p)} (h : MC gm W G g n M) (hb : Below W.heap.size W W') : MC gm W' G g n M :=
  ⟨(hb.cell (World.block_lt_of_cell? _ _ h.1)).trans h.1, (hb.cell (World.block_lt_of_cell? _ _ h.2.1)).trans h.2.1, h.2.2.below hb⟩
theorem MC.new {W : World} {G g n : Nat} {M : Nat → Nat → (Fin p)} (h : Blk W G 59 #[.pointer none, .pointer (some ⟨g, 0, none⟩)]) (hm : Mtx gm W g n n M) : MC gm W G g n M :=
  ⟨by rw [h.cell]; rfl, by rw [h.cell]; rfl, hm⟩
theorem sq_e (n : Nat) (ve : Value) (es : List Nat) (w : World) (hk : (Fk p gm) w) (hn : 1 ≤ n ∧ n ≤ 256) (he : Ny w .u32 ve es) (hbd : ∀ (i x : Nat), es[i]? = some x → (x : Int) ≤ 4294967295) (hp0 : 2 ≤ p) :
    Calls Try.prog 34 #[.int .u32 (p : Int), .pointer (some ⟨gm, 0, none⟩), .int .i64 (n : Int), ve] w fun e w' => ∃ (g : Nat) (M : Nat → Nat → (Fin p)), e = .returned (.tuple #[.agg #[.pointer none, .pointer (some ⟨g, 0, none⟩)], .bool true]) ∧ Mtx gm w' g n n M ∧ Below w.heap.size w w' :=
  (square_c (hp := Nat.lt_of_lt_of_le (by decide) hp0) n ve es w hk hn he hbd hp0).mono fun _ _ ⟨g, a, b, c⟩ => ⟨g, _, a, b, c⟩
theorem minv_ok (x n : Nat) {M : Nat → Nat → (Fin p)} {w : World} (h : Mtx gm w x n n M) (hk : (Fk p gm) w) (hn : 1 ≤ n ∧ n ≤ 256) (hr : (Fp p hp).rank n M = n) :
    Calls Try.prog 39 #[.agg #[.pointer none, .pointer (some ⟨x, 0, none⟩)]] w fun e w' => ∃ z, e = .returned (.tuple #[.agg #[.pointer none, .pointer (some ⟨z, 0, none⟩)], .int .i64 0]) ∧ Mtx gm w' z n n ((Fp p hp).invM n M) ∧ Below w.heap.size w w' := by
  refine (minv_c (hp := hp) h hk hn).mono ?_
  rintro e w' ⟨hb, ⟨_, z, rfl, hz⟩ | ⟨h2, _⟩⟩
  · exact ⟨z, rfl, hz, hb⟩
  · exact absurd hr h2
theorem minv_bad (x n : Nat) {M : Nat → Nat → (Fin p)} {w : World} (h : Mtx gm w x n n M) (hk : (Fk p gm) w) (hn : 1 ≤ n ∧ n ≤ 256) (hr : (Fp p hp).rank n M ≠ n) :
    Calls Try.prog 39 #[.agg #[.pointer none, .pointer (some ⟨x, 0, none⟩)]] w fun e w' => e = .returned (.tuple #[.agg #[.pointer none, .pointer none], .int .i64 71]) ∧ Below w.heap.size w w' := by
  refine (minv_c (hp := hp) h hk hn).mono ?_
  rintro e w' ⟨hb, ⟨h2, _⟩ | ⟨_, rfl⟩⟩
  · exact absurd h2 hr
  · exact ⟨rfl, hb⟩
theorem msame_yes (x y n : Nat) {M N : Nat → Nat → (Fin p)} {w : World} (h1 : Mtx gm w x n n M) (h2 : Mtx gm w y n n N) (hn : n ≤ 4096) (he : ∀ i j, i < n → j < n → M i j = N i j) :
    Calls Try.prog 38 #[.agg #[.pointer none, .pointer (some ⟨x, 0, none⟩)], .agg #[.pointer none, .pointer (some ⟨y, 0, none⟩)]] w fun e w' => e = .returned (.bool true) ∧ Below w.heap.size w w' := by
  have q := msame_c x y h1 h2 hn hn
  rw [soB_true he] at q
  exact q
end
set_option maxRecDepth 100000 in
set_option maxHeartbeats 16000000 in
theorem groups_c (p : Nat) (hpr : primeR p = true) (n0 : Int) (v1 v2 v3 : Value) (l1 l2 l3 : List Nat) (w : World) (hn0 : (Lit.int .i64 n0).wf = true) (h1 : Ny w .u32 v1 l1) (h2 : Ny w .u32 v2 l2) (h3 : Ny w .u32 v3 l3)
    (d1 : ∀ (i x : Nat), l1[i]? = some x → (x : Int) ≤ 4294967295) (d2 : ∀ (i x : Nat), l2[i]? = some x → (x : Int) ≤ 4294967295) (d3 : ∀ (i x : Nat), l3[i]? = some x → (x : Int) ≤ 4294967295) :
    Calls Try.prog 7 #[.int .u32 (p : Int), .int .i64 n0, v1, v2, v3] w fun e w' => e = .returned (.bool true) ∧ Below w.heap.size w w' := by
  have hq := (primeB_iff.1 (by unfold primeR at hpr; simp at hpr; exact hpr.1) : PrimeN p)
  have hp0 : 2 ≤ p := hq.1
  have hp : 0 < p := by omega
  have OKF := hide (Fp_ok hp hq)
  clear hq
  have H1 := hide h1
  have H2 := hide h2
  have H3 := hide h3
  have D1 := hide d1
  have D2 := hide d2
  have D3 := hide d3
  have HP := hide hn0
  have HR := hide hpr
  have HZ := hide hp0
  clear hpr hp0
  clear h1 h2 h3 d1 d2 d3 hn0
  go_enter Try.func7, Try.ntmps7
  go_wp2_with fail
  refine (awakem_any w).mono ?_
  rintro e w1 ⟨rfl, b⟩
  have BW := hide b
  replace H1 := hide (H1.out.below b)
  replace H2 := hide (H2.out.below b)
  replace H3 := hide (H3.out.below b)
  clear b
  go_wp2_with fail
  refine (field_yes p w1 HR.out).mono ?_
  rintro e w2 ⟨gm, rfl, hk, b⟩
  have HK := hide hk
  clear hk
  replace BW := hide (Below.step BW.out b)
  replace H1 := hide (H1.out.below b)
  replace H2 := hide (H2.out.below b)
  replace H3 := hide (H3.out.below b)
  clear b
  have hpk : pickN n0 6 < 6 := pickN_lt (by omega)
  have qp : Calls Try.prog 31 #[.int .i64 n0, .int .i64 6] w2 _ := pick_any n0 6 w2 (by omega) (by omega) HP.out
  obtain ⟨m0, hm0⟩ : ∃ m0, m0 = pickN n0 6 := ⟨_, rfl⟩
  rw [← hm0] at hpk qp
  clear hm0
  obtain ⟨N, hN⟩ : ∃ N, N = m0 + 1 := ⟨_, rfl⟩
  have hw1 : IntKind.i64.wrap (1 + (m0 : Int)) = (N : Int) := by rw [IntWalk.i64_in _ (by omega)]; omega
  have HN : Hid (1 ≤ N ∧ N ≤ 256) := hide (by omega)
  clear hN hpk
  go_wp2_with fail
  refine qp.mono ?_
  rintro e w' ⟨rfl, rfl⟩
  clear qp
  go_wp2_with fail
  refine (sq_e N v1 l1 w2 HK.out HN.out H1.out D1.out HZ.out).mono ?_
  rintro e w3 ⟨g13, M13, rfl, hm, b⟩
  replace H2 := hide (H2.out.below b)
  replace H3 := hide (H3.out.below b)
  replace HK := hide (HK.out.below b)
  replace BW := hide (Below.step BW.out b)
  clear b
  go_wp2_with ((with_reducible change wpList _ _ _ (⟨none, .store _ (.tmp 13) _, _, _, _, _⟩ :: _) _ _); go_loud (refine wpList_store_row (o := ⟨none, .store _ (.tmp 13) _, _, _, _, _⟩) (Blk.new w3 _ _) #[.pointer none, .pointer (some ⟨g13, 0, none⟩)] rfl (by simp [Value.oneCell']) rfl 59 _ _ rfl (by kernel_rfl) rfl rfl ?_; intro w4 hw gw; have b : Below w3.heap.size w3 w4 := ((Below.refl _ w3).alloc (Nat.le_refl _) _).grown gw (by simp) (fun k hk => by cases hk; exact Nat.le_refl _); have K13 := hide (MC.new hw (hm.below b)); replace H2 := hide (H2.out.below b); replace H3 := hide (H3.out.below b); replace HK := hide (HK.out.below b); replace BW := hide (Below.step BW.out b); clear b hw gw hm))
  refine (sq_e N v2 l2 w4 HK.out HN.out H2.out D2.out HZ.out).mono ?_
  rintro e w5 ⟨g14, M14, rfl, hm, b⟩
  replace K13 := hide (K13.out.below b)
  replace H3 := hide (H3.out.below b)
  replace HK := hide (HK.out.below b)
  replace BW := hide (Below.step BW.out b)
  clear b
  go_wp2_with ((with_reducible change wpList _ _ _ (⟨none, .store _ (.tmp 14) _, _, _, _, _⟩ :: _) _ _); go_loud (refine wpList_store_row (o := ⟨none, .store _ (.tmp 14) _, _, _, _, _⟩) (Blk.new w5 _ _) #[.pointer none, .pointer (some ⟨g14, 0, none⟩)] rfl (by simp [Value.oneCell']) rfl 59 _ _ rfl (by kernel_rfl) rfl rfl ?_; intro w6 hw gw; have b : Below w5.heap.size w5 w6 := ((Below.refl _ w5).alloc (Nat.le_refl _) _).grown gw (by simp) (fun k hk => by cases hk; exact Nat.le_refl _); have K14 := hide (MC.new hw (hm.below b)); replace K13 := hide (K13.out.below b); replace H3 := hide (H3.out.below b); replace HK := hide (HK.out.below b); replace BW := hide (Below.step BW.out b); clear b hw gw hm))
  refine (sq_e N v3 l3 w6 HK.out HN.out H3.out D3.out HZ.out).mono ?_
  rintro e w7 ⟨g16, M16, rfl, hm, b⟩
  replace K13 := hide (K13.out.below b)
  replace K14 := hide (K14.out.below b)
  replace HK := hide (HK.out.below b)
  replace BW := hide (Below.step BW.out b)
  clear b
  go_wp2_with ((with_reducible change wpList _ _ _ (⟨none, .store _ (.tmp 16) _, _, _, _, _⟩ :: _) _ _); go_loud (refine wpList_store_row (o := ⟨none, .store _ (.tmp 16) _, _, _, _, _⟩) (Blk.new w7 _ _) #[.pointer none, .pointer (some ⟨g16, 0, none⟩)] rfl (by simp [Value.oneCell']) rfl 59 _ _ rfl (by kernel_rfl) rfl rfl ?_; intro w8 hw gw; have b : Below w7.heap.size w7 w8 := ((Below.refl _ w7).alloc (Nat.le_refl _) _).grown gw (by simp) (fun k hk => by cases hk; exact Nat.le_refl _); have K16 := hide (MC.new hw (hm.below b)); replace K13 := hide (K13.out.below b); replace K14 := hide (K14.out.below b); replace HK := hide (HK.out.below b); replace BW := hide (Below.step BW.out b); clear b hw gw hm))
  refine (mident_c (hp := hp) N w8 HK.out HN.out HZ.out).mono ?_
  rintro e w9 ⟨g18, rfl, hm, b⟩
  replace K13 := hide (K13.out.below b)
  replace K14 := hide (K14.out.below b)
  replace K16 := hide (K16.out.below b)
  replace HK := hide (HK.out.below b)
  replace BW := hide (Below.step BW.out b)
  clear b
  go_wp2_with ((with_reducible change wpList _ _ _ (⟨none, .store _ (.tmp 18) _, _, _, _, _⟩ :: _) _ _); go_loud (refine wpList_store_row (o := ⟨none, .store _ (.tmp 18) _, _, _, _, _⟩) (Blk.new w9 _ _) #[.pointer none, .pointer (some ⟨g18, 0, none⟩)] rfl (by simp [Value.oneCell']) rfl 59 _ _ rfl (by kernel_rfl) rfl rfl ?_; intro w10 hw gw; have b : Below w9.heap.size w9 w10 := ((Below.refl _ w9).alloc (Nat.le_refl _) _).grown gw (by simp) (fun k hk => by cases hk; exact Nat.le_refl _); have K18 := hide (MC.new hw (hm.below b)); replace K13 := hide (K13.out.below b); replace K14 := hide (K14.out.below b); replace K16 := hide (K16.out.below b); replace HK := hide (HK.out.below b); replace BW := hide (Below.step BW.out b); clear b hw gw hm; obtain ⟨c180, c181, _⟩ := K18.out))
  refine (there_c g18 w10).mono ?_
  rintro e w11 ⟨rfl, b⟩
  clear c180 c181
  replace K13 := hide (K13.out.below b)
  replace K14 := hide (K14.out.below b)
  replace K16 := hide (K16.out.below b)
  replace K18 := hide (K18.out.below b)
  replace HK := hide (HK.out.below b)
  replace BW := hide (Below.step BW.out b)
  clear b
  obtain ⟨c130, c131, _⟩ := K13.out
  obtain ⟨c140, c141, _⟩ := K14.out
  go_wp2_with fail
  refine (mmul_c (hp := hp) g13 g14 N K13.out.2.2 K14.out.2.2 HK.out HN.out HN.out HN.out.2).mono ?_
  rintro e w12 ⟨g20, rfl, hm, b⟩
  clear c130 c131 c140 c141
  replace K13 := hide (K13.out.below b)
  replace K14 := hide (K14.out.below b)
  replace K16 := hide (K16.out.below b)
  replace K18 := hide (K18.out.below b)
  replace HK := hide (HK.out.below b)
  replace BW := hide (Below.step BW.out b)
  clear b
  go_wp2_with ((with_reducible change wpList _ _ _ (⟨none, .store _ (.tmp 20) _, _, _, _, _⟩ :: _) _ _); go_loud (refine wpList_store_row (o := ⟨none, .store _ (.tmp 20) _, _, _, _, _⟩) (Blk.new w12 _ _) #[.pointer none, .pointer (some ⟨g20, 0, none⟩)] rfl (by simp [Value.oneCell']) rfl 59 _ _ rfl (by kernel_rfl) rfl rfl ?_; intro w13 hw gw; have b : Below w12.heap.size w12 w13 := ((Below.refl _ w12).alloc (Nat.le_refl _) _).grown gw (by simp) (fun k hk => by cases hk; exact Nat.le_refl _); have K20 := hide (MC.new hw (hm.below b)); replace K13 := hide (K13.out.below b); replace K14 := hide (K14.out.below b); replace K16 := hide (K16.out.below b); replace K18 := hide (K18.out.below b); replace HK := hide (HK.out.below b); replace BW := hide (Below.step BW.out b); clear b hw gw hm; obtain ⟨c140, c141, _⟩ := K14.out; obtain ⟨c160, c161, _⟩ := K16.out))
  refine (mmul_c (hp := hp) g14 g16 N K14.out.2.2 K16.out.2.2 HK.out HN.out HN.out HN.out.2).mono ?_
  rintro e w14 ⟨g22, rfl, hm, b⟩
  clear c140 c141 c160 c161
  replace K13 := hide (K13.out.below b)
  replace K14 := hide (K14.out.below b)
  replace K16 := hide (K16.out.below b)
  replace K18 := hide (K18.out.below b)
  replace K20 := hide (K20.out.below b)
  replace HK := hide (HK.out.below b)
  replace BW := hide (Below.step BW.out b)
  clear b
  go_wp2_with ((with_reducible change wpList _ _ _ (⟨none, .store _ (.tmp 22) _, _, _, _, _⟩ :: _) _ _); go_loud (refine wpList_store_row (o := ⟨none, .store _ (.tmp 22) _, _, _, _, _⟩) (Blk.new w14 _ _) #[.pointer none, .pointer (some ⟨g22, 0, none⟩)] rfl (by simp [Value.oneCell']) rfl 59 _ _ rfl (by kernel_rfl) rfl rfl ?_; intro w15 hw gw; have b : Below w14.heap.size w14 w15 := ((Below.refl _ w14).alloc (Nat.le_refl _) _).grown gw (by simp) (fun k hk => by cases hk; exact Nat.le_refl _); have K22 := hide (MC.new hw (hm.below b)); replace K13 := hide (K13.out.below b); replace K14 := hide (K14.out.below b); replace K16 := hide (K16.out.below b); replace K18 := hide (K18.out.below b); replace K20 := hide (K20.out.below b); replace HK := hide (HK.out.below b); replace BW := hide (Below.step BW.out b); clear b hw gw hm; obtain ⟨c130, c131, _⟩ := K13.out; obtain ⟨c180, c181, _⟩ := K18.out))
  refine (mmul_c (hp := hp) g13 g18 N K13.out.2.2 K18.out.2.2 HK.out HN.out HN.out HN.out.2).mono ?_
  rintro e w16 ⟨g24, rfl, hm, b⟩
  clear c130 c131 c180 c181
  replace K13 := hide (K13.out.below b)
  replace K14 := hide (K14.out.below b)
  replace K16 := hide (K16.out.below b)
  replace K18 := hide (K18.out.below b)
  replace K20 := hide (K20.out.below b)
  replace K22 := hide (K22.out.below b)
  replace HK := hide (HK.out.below b)
  replace BW := hide (Below.step BW.out b)
  clear b
  go_wp2_with ((with_reducible change wpList _ _ _ (⟨none, .store _ (.tmp 24) _, _, _, _, _⟩ :: _) _ _); go_loud (refine wpList_store_row (o := ⟨none, .store _ (.tmp 24) _, _, _, _, _⟩) (Blk.new w16 _ _) #[.pointer none, .pointer (some ⟨g24, 0, none⟩)] rfl (by simp [Value.oneCell']) rfl 59 _ _ rfl (by kernel_rfl) rfl rfl ?_; intro w17 hw gw; have b : Below w16.heap.size w16 w17 := ((Below.refl _ w16).alloc (Nat.le_refl _) _).grown gw (by simp) (fun k hk => by cases hk; exact Nat.le_refl _); have K24 := hide (MC.new hw (hm.below b)); replace K13 := hide (K13.out.below b); replace K14 := hide (K14.out.below b); replace K16 := hide (K16.out.below b); replace K18 := hide (K18.out.below b); replace K20 := hide (K20.out.below b); replace K22 := hide (K22.out.below b); replace HK := hide (HK.out.below b); replace BW := hide (Below.step BW.out b); clear b hw gw hm; obtain ⟨c180, c181, _⟩ := K18.out; obtain ⟨c130, c131, _⟩ := K13.out))
  refine (mmul_c (hp := hp) g18 g13 N K18.out.2.2 K13.out.2.2 HK.out HN.out HN.out HN.out.2).mono ?_
  rintro e w18 ⟨g26, rfl, hm, b⟩
  clear c180 c181 c130 c131
  replace K13 := hide (K13.out.below b)
  replace K14 := hide (K14.out.below b)
  replace K16 := hide (K16.out.below b)
  replace K18 := hide (K18.out.below b)
  replace K20 := hide (K20.out.below b)
  replace K22 := hide (K22.out.below b)
  replace K24 := hide (K24.out.below b)
  replace HK := hide (HK.out.below b)
  replace BW := hide (Below.step BW.out b)
  clear b
  go_wp2_with ((with_reducible change wpList _ _ _ (⟨none, .store _ (.tmp 26) _, _, _, _, _⟩ :: _) _ _); go_loud (refine wpList_store_row (o := ⟨none, .store _ (.tmp 26) _, _, _, _, _⟩) (Blk.new w18 _ _) #[.pointer none, .pointer (some ⟨g26, 0, none⟩)] rfl (by simp [Value.oneCell']) rfl 59 _ _ rfl (by kernel_rfl) rfl rfl ?_; intro w19 hw gw; have b : Below w18.heap.size w18 w19 := ((Below.refl _ w18).alloc (Nat.le_refl _) _).grown gw (by simp) (fun k hk => by cases hk; exact Nat.le_refl _); have K26 := hide (MC.new hw (hm.below b)); replace K13 := hide (K13.out.below b); replace K14 := hide (K14.out.below b); replace K16 := hide (K16.out.below b); replace K18 := hide (K18.out.below b); replace K20 := hide (K20.out.below b); replace K22 := hide (K22.out.below b); replace K24 := hide (K24.out.below b); replace HK := hide (HK.out.below b); replace BW := hide (Below.step BW.out b); clear b hw gw hm; obtain ⟨c200, c201, _⟩ := K20.out))
  refine (there_c g20 w19).mono ?_
  rintro e w20 ⟨rfl, b⟩
  clear c200 c201
  replace K13 := hide (K13.out.below b)
  replace K14 := hide (K14.out.below b)
  replace K16 := hide (K16.out.below b)
  replace K18 := hide (K18.out.below b)
  replace K20 := hide (K20.out.below b)
  replace K22 := hide (K22.out.below b)
  replace K24 := hide (K24.out.below b)
  replace K26 := hide (K26.out.below b)
  replace HK := hide (HK.out.below b)
  replace BW := hide (Below.step BW.out b)
  clear b
  obtain ⟨c220, c221, _⟩ := K22.out
  go_wp2_with fail
  refine (there_c g22 w20).mono ?_
  rintro e w21 ⟨rfl, b⟩
  clear c220 c221
  replace K13 := hide (K13.out.below b)
  replace K14 := hide (K14.out.below b)
  replace K16 := hide (K16.out.below b)
  replace K18 := hide (K18.out.below b)
  replace K20 := hide (K20.out.below b)
  replace K22 := hide (K22.out.below b)
  replace K24 := hide (K24.out.below b)
  replace K26 := hide (K26.out.below b)
  replace HK := hide (HK.out.below b)
  replace BW := hide (Below.step BW.out b)
  clear b
  obtain ⟨c240, c241, _⟩ := K24.out
  go_wp2_with fail
  refine (there_c g24 w21).mono ?_
  rintro e w22 ⟨rfl, b⟩
  clear c240 c241
  replace K13 := hide (K13.out.below b)
  replace K14 := hide (K14.out.below b)
  replace K16 := hide (K16.out.below b)
  replace K18 := hide (K18.out.below b)
  replace K20 := hide (K20.out.below b)
  replace K22 := hide (K22.out.below b)
  replace K24 := hide (K24.out.below b)
  replace K26 := hide (K26.out.below b)
  replace HK := hide (HK.out.below b)
  replace BW := hide (Below.step BW.out b)
  clear b
  obtain ⟨c260, c261, _⟩ := K26.out
  go_wp2_with fail
  refine (there_c g26 w22).mono ?_
  rintro e w23 ⟨rfl, b⟩
  clear c260 c261
  replace K13 := hide (K13.out.below b)
  replace K14 := hide (K14.out.below b)
  replace K16 := hide (K16.out.below b)
  replace K18 := hide (K18.out.below b)
  replace K20 := hide (K20.out.below b)
  replace K22 := hide (K22.out.below b)
  replace K24 := hide (K24.out.below b)
  replace K26 := hide (K26.out.below b)
  replace HK := hide (HK.out.below b)
  replace BW := hide (Below.step BW.out b)
  clear b
  obtain ⟨c200, c201, _⟩ := K20.out
  obtain ⟨c160, c161, _⟩ := K16.out
  go_wp2_with fail
  refine (mmul_c (hp := hp) g20 g16 N K20.out.2.2 K16.out.2.2 HK.out HN.out HN.out HN.out.2).mono ?_
  rintro e w24 ⟨g28, rfl, hm, b⟩
  clear c200 c201 c160 c161
  replace K13 := hide (K13.out.below b)
  replace K14 := hide (K14.out.below b)
  replace K16 := hide (K16.out.below b)
  replace K18 := hide (K18.out.below b)
  replace K20 := hide (K20.out.below b)
  replace K22 := hide (K22.out.below b)
  replace K24 := hide (K24.out.below b)
  replace K26 := hide (K26.out.below b)
  replace HK := hide (HK.out.below b)
  replace BW := hide (Below.step BW.out b)
  clear b
  go_wp2_with ((with_reducible change wpList _ _ _ (⟨none, .store _ (.tmp 28) _, _, _, _, _⟩ :: _) _ _); go_loud (refine wpList_store_row (o := ⟨none, .store _ (.tmp 28) _, _, _, _, _⟩) (Blk.new w24 _ _) #[.pointer none, .pointer (some ⟨g28, 0, none⟩)] rfl (by simp [Value.oneCell']) rfl 59 _ _ rfl (by kernel_rfl) rfl rfl ?_; intro w25 hw gw; have b : Below w24.heap.size w24 w25 := ((Below.refl _ w24).alloc (Nat.le_refl _) _).grown gw (by simp) (fun k hk => by cases hk; exact Nat.le_refl _); have K28 := hide (MC.new hw (hm.below b)); replace K13 := hide (K13.out.below b); replace K14 := hide (K14.out.below b); replace K16 := hide (K16.out.below b); replace K18 := hide (K18.out.below b); replace K20 := hide (K20.out.below b); replace K22 := hide (K22.out.below b); replace K24 := hide (K24.out.below b); replace K26 := hide (K26.out.below b); replace HK := hide (HK.out.below b); replace BW := hide (Below.step BW.out b); clear b hw gw hm; obtain ⟨c130, c131, _⟩ := K13.out; obtain ⟨c220, c221, _⟩ := K22.out))
  refine (mmul_c (hp := hp) g13 g22 N K13.out.2.2 K22.out.2.2 HK.out HN.out HN.out HN.out.2).mono ?_
  rintro e w26 ⟨g30, rfl, hm, b⟩
  clear c130 c131 c220 c221
  replace K13 := hide (K13.out.below b)
  replace K14 := hide (K14.out.below b)
  replace K16 := hide (K16.out.below b)
  replace K18 := hide (K18.out.below b)
  replace K20 := hide (K20.out.below b)
  replace K22 := hide (K22.out.below b)
  replace K24 := hide (K24.out.below b)
  replace K26 := hide (K26.out.below b)
  replace K28 := hide (K28.out.below b)
  replace HK := hide (HK.out.below b)
  replace BW := hide (Below.step BW.out b)
  clear b
  go_wp2_with ((with_reducible change wpList _ _ _ (⟨none, .store _ (.tmp 30) _, _, _, _, _⟩ :: _) _ _); go_loud (refine wpList_store_row (o := ⟨none, .store _ (.tmp 30) _, _, _, _, _⟩) (Blk.new w26 _ _) #[.pointer none, .pointer (some ⟨g30, 0, none⟩)] rfl (by simp [Value.oneCell']) rfl 59 _ _ rfl (by kernel_rfl) rfl rfl ?_; intro w27 hw gw; have b : Below w26.heap.size w26 w27 := ((Below.refl _ w26).alloc (Nat.le_refl _) _).grown gw (by simp) (fun k hk => by cases hk; exact Nat.le_refl _); have K30 := hide (MC.new hw (hm.below b)); replace K13 := hide (K13.out.below b); replace K14 := hide (K14.out.below b); replace K16 := hide (K16.out.below b); replace K18 := hide (K18.out.below b); replace K20 := hide (K20.out.below b); replace K22 := hide (K22.out.below b); replace K24 := hide (K24.out.below b); replace K26 := hide (K26.out.below b); replace K28 := hide (K28.out.below b); replace HK := hide (HK.out.below b); replace BW := hide (Below.step BW.out b); clear b hw gw hm; obtain ⟨c280, c281, _⟩ := K28.out))
  refine (there_c g28 w27).mono ?_
  rintro e w28 ⟨rfl, b⟩
  clear c280 c281
  replace K13 := hide (K13.out.below b)
  replace K14 := hide (K14.out.below b)
  replace K16 := hide (K16.out.below b)
  replace K18 := hide (K18.out.below b)
  replace K20 := hide (K20.out.below b)
  replace K22 := hide (K22.out.below b)
  replace K24 := hide (K24.out.below b)
  replace K26 := hide (K26.out.below b)
  replace K28 := hide (K28.out.below b)
  replace K30 := hide (K30.out.below b)
  replace HK := hide (HK.out.below b)
  replace BW := hide (Below.step BW.out b)
  clear b
  obtain ⟨c300, c301, _⟩ := K30.out
  go_wp2_with fail
  refine (there_c g30 w28).mono ?_
  rintro e w29 ⟨rfl, b⟩
  clear c300 c301
  replace K13 := hide (K13.out.below b)
  replace K14 := hide (K14.out.below b)
  replace K16 := hide (K16.out.below b)
  replace K18 := hide (K18.out.below b)
  replace K20 := hide (K20.out.below b)
  replace K22 := hide (K22.out.below b)
  replace K24 := hide (K24.out.below b)
  replace K26 := hide (K26.out.below b)
  replace K28 := hide (K28.out.below b)
  replace K30 := hide (K30.out.below b)
  replace HK := hide (HK.out.below b)
  replace BW := hide (Below.step BW.out b)
  clear b
  obtain ⟨c280, c281, _⟩ := K28.out
  obtain ⟨c300, c301, _⟩ := K30.out
  go_wp2_with fail
  refine (msame_yes g28 g30 N K28.out.2.2 K30.out.2.2 (by have := HN.out; omega) (fun i j _ _ => OKF.out.mulm_assoc N N M13 M14 M16 i j)).mono ?_
  rintro e w30 ⟨rfl, b⟩
  clear c280 c281 c300 c301
  replace K13 := hide (K13.out.below b)
  replace K14 := hide (K14.out.below b)
  replace K16 := hide (K16.out.below b)
  replace K18 := hide (K18.out.below b)
  replace K20 := hide (K20.out.below b)
  replace K22 := hide (K22.out.below b)
  replace K24 := hide (K24.out.below b)
  replace K26 := hide (K26.out.below b)
  replace K28 := hide (K28.out.below b)
  replace K30 := hide (K30.out.below b)
  replace HK := hide (HK.out.below b)
  replace BW := hide (Below.step BW.out b)
  clear b
  obtain ⟨c240, c241, _⟩ := K24.out
  obtain ⟨c130, c131, _⟩ := K13.out
  go_wp2_with fail
  refine (msame_yes g24 g13 N K24.out.2.2 K13.out.2.2 (by have := HN.out; omega) (fun i j _ hj => OKF.out.mulm_ident M13 hj)).mono ?_
  rintro e w31 ⟨rfl, b⟩
  clear c240 c241 c130 c131
  replace K13 := hide (K13.out.below b)
  replace K14 := hide (K14.out.below b)
  replace K16 := hide (K16.out.below b)
  replace K18 := hide (K18.out.below b)
  replace K20 := hide (K20.out.below b)
  replace K22 := hide (K22.out.below b)
  replace K24 := hide (K24.out.below b)
  replace K26 := hide (K26.out.below b)
  replace K28 := hide (K28.out.below b)
  replace K30 := hide (K30.out.below b)
  replace HK := hide (HK.out.below b)
  replace BW := hide (Below.step BW.out b)
  clear b
  obtain ⟨c260, c261, _⟩ := K26.out
  obtain ⟨c130, c131, _⟩ := K13.out
  go_wp2_with fail
  refine (msame_yes g26 g13 N K26.out.2.2 K13.out.2.2 (by have := HN.out; omega) (fun i j hi _ => OKF.out.ident_mulm M13 j hi)).mono ?_
  rintro e w32 ⟨rfl, b⟩
  clear c260 c261 c130 c131
  replace K13 := hide (K13.out.below b)
  replace K14 := hide (K14.out.below b)
  replace K16 := hide (K16.out.below b)
  replace K18 := hide (K18.out.below b)
  replace K20 := hide (K20.out.below b)
  replace K22 := hide (K22.out.below b)
  replace K24 := hide (K24.out.below b)
  replace K26 := hide (K26.out.below b)
  replace K28 := hide (K28.out.below b)
  replace K30 := hide (K30.out.below b)
  replace HK := hide (HK.out.below b)
  replace BW := hide (Below.step BW.out b)
  clear b
  by_cases ra : (Fp p hp).rank N M13 = N
  · have RA := hide ra
    clear ra
    by_cases rb : (Fp p hp).rank N M14 = N
    · have RB := hide rb
      clear rb
      obtain ⟨c130, c131, _⟩ := K13.out
      go_wp2_with fail
      refine (minv_ok g13 N (hp := hp) K13.out.2.2 HK.out HN.out (RA.out)).mono ?_
      rintro e w33 ⟨g32, rfl, hm, b⟩
      clear c130 c131
      replace K13 := hide (K13.out.below b)
      replace K14 := hide (K14.out.below b)
      replace K16 := hide (K16.out.below b)
      replace K18 := hide (K18.out.below b)
      replace K20 := hide (K20.out.below b)
      replace K22 := hide (K22.out.below b)
      replace K24 := hide (K24.out.below b)
      replace K26 := hide (K26.out.below b)
      replace K28 := hide (K28.out.below b)
      replace K30 := hide (K30.out.below b)
      replace HK := hide (HK.out.below b)
      replace BW := hide (Below.step BW.out b)
      clear b
      go_wp2_with ((with_reducible change wpList _ _ _ (⟨none, .store _ (.tmp 32) _, _, _, _, _⟩ :: _) _ _); go_loud (refine wpList_store_row (o := ⟨none, .store _ (.tmp 32) _, _, _, _, _⟩) (Blk.new w33 _ _) #[.pointer none, .pointer (some ⟨g32, 0, none⟩)] rfl (by simp [Value.oneCell']) rfl 59 _ _ rfl (by kernel_rfl) rfl rfl ?_; intro w34 hw gw; have b : Below w33.heap.size w33 w34 := ((Below.refl _ w33).alloc (Nat.le_refl _) _).grown gw (by simp) (fun k hk => by cases hk; exact Nat.le_refl _); have K32 := hide (MC.new hw (hm.below b)); replace K13 := hide (K13.out.below b); replace K14 := hide (K14.out.below b); replace K16 := hide (K16.out.below b); replace K18 := hide (K18.out.below b); replace K20 := hide (K20.out.below b); replace K22 := hide (K22.out.below b); replace K24 := hide (K24.out.below b); replace K26 := hide (K26.out.below b); replace K28 := hide (K28.out.below b); replace K30 := hide (K30.out.below b); replace HK := hide (HK.out.below b); replace BW := hide (Below.step BW.out b); clear b hw gw hm; obtain ⟨c140, c141, _⟩ := K14.out))
      refine (minv_ok g14 N (hp := hp) K14.out.2.2 HK.out HN.out (RB.out)).mono ?_
      rintro e w35 ⟨g34, rfl, hm, b⟩
      clear c140 c141
      replace K13 := hide (K13.out.below b)
      replace K14 := hide (K14.out.below b)
      replace K16 := hide (K16.out.below b)
      replace K18 := hide (K18.out.below b)
      replace K20 := hide (K20.out.below b)
      replace K22 := hide (K22.out.below b)
      replace K24 := hide (K24.out.below b)
      replace K26 := hide (K26.out.below b)
      replace K28 := hide (K28.out.below b)
      replace K30 := hide (K30.out.below b)
      replace K32 := hide (K32.out.below b)
      replace HK := hide (HK.out.below b)
      replace BW := hide (Below.step BW.out b)
      clear b
      go_wp2_with ((with_reducible change wpList _ _ _ (⟨none, .store _ (.tmp 34) _, _, _, _, _⟩ :: _) _ _); go_loud (refine wpList_store_row (o := ⟨none, .store _ (.tmp 34) _, _, _, _, _⟩) (Blk.new w35 _ _) #[.pointer none, .pointer (some ⟨g34, 0, none⟩)] rfl (by simp [Value.oneCell']) rfl 59 _ _ rfl (by kernel_rfl) rfl rfl ?_; intro w36 hw gw; have b : Below w35.heap.size w35 w36 := ((Below.refl _ w35).alloc (Nat.le_refl _) _).grown gw (by simp) (fun k hk => by cases hk; exact Nat.le_refl _); have K34 := hide (MC.new hw (hm.below b)); replace K13 := hide (K13.out.below b); replace K14 := hide (K14.out.below b); replace K16 := hide (K16.out.below b); replace K18 := hide (K18.out.below b); replace K20 := hide (K20.out.below b); replace K22 := hide (K22.out.below b); replace K24 := hide (K24.out.below b); replace K26 := hide (K26.out.below b); replace K28 := hide (K28.out.below b); replace K30 := hide (K30.out.below b); replace K32 := hide (K32.out.below b); replace HK := hide (HK.out.below b); replace BW := hide (Below.step BW.out b); clear b hw gw hm; obtain ⟨c200, c201, _⟩ := K20.out))
      refine (minv_ok g20 N (hp := hp) K20.out.2.2 HK.out HN.out ((OKF.out.full_mul M13 M14).2 ⟨RA.out, RB.out⟩)).mono ?_
      rintro e w37 ⟨g36, rfl, hm, b⟩
      clear c200 c201
      replace K13 := hide (K13.out.below b)
      replace K14 := hide (K14.out.below b)
      replace K16 := hide (K16.out.below b)
      replace K18 := hide (K18.out.below b)
      replace K20 := hide (K20.out.below b)
      replace K22 := hide (K22.out.below b)
      replace K24 := hide (K24.out.below b)
      replace K26 := hide (K26.out.below b)
      replace K28 := hide (K28.out.below b)
      replace K30 := hide (K30.out.below b)
      replace K32 := hide (K32.out.below b)
      replace K34 := hide (K34.out.below b)
      replace HK := hide (HK.out.below b)
      replace BW := hide (Below.step BW.out b)
      clear b
      go_wp2_with ((with_reducible change wpList _ _ _ (⟨none, .store _ (.tmp 36) _, _, _, _, _⟩ :: _) _ _); go_loud (refine wpList_store_row (o := ⟨none, .store _ (.tmp 36) _, _, _, _, _⟩) (Blk.new w37 _ _) #[.pointer none, .pointer (some ⟨g36, 0, none⟩)] rfl (by simp [Value.oneCell']) rfl 59 _ _ rfl (by kernel_rfl) rfl rfl ?_; intro w38 hw gw; have b : Below w37.heap.size w37 w38 := ((Below.refl _ w37).alloc (Nat.le_refl _) _).grown gw (by simp) (fun k hk => by cases hk; exact Nat.le_refl _); have K36 := hide (MC.new hw (hm.below b)); replace K13 := hide (K13.out.below b); replace K14 := hide (K14.out.below b); replace K16 := hide (K16.out.below b); replace K18 := hide (K18.out.below b); replace K20 := hide (K20.out.below b); replace K22 := hide (K22.out.below b); replace K24 := hide (K24.out.below b); replace K26 := hide (K26.out.below b); replace K28 := hide (K28.out.below b); replace K30 := hide (K30.out.below b); replace K32 := hide (K32.out.below b); replace K34 := hide (K34.out.below b); replace HK := hide (HK.out.below b); replace BW := hide (Below.step BW.out b); clear b hw gw hm; obtain ⟨c340, c341, _⟩ := K34.out; obtain ⟨c320, c321, _⟩ := K32.out))
      refine (mmul_c (hp := hp) g34 g32 N K34.out.2.2 K32.out.2.2 HK.out HN.out HN.out HN.out.2).mono ?_
      rintro e w39 ⟨g38, rfl, hm, b⟩
      clear c340 c341 c320 c321
      replace K13 := hide (K13.out.below b)
      replace K14 := hide (K14.out.below b)
      replace K16 := hide (K16.out.below b)
      replace K18 := hide (K18.out.below b)
      replace K20 := hide (K20.out.below b)
      replace K22 := hide (K22.out.below b)
      replace K24 := hide (K24.out.below b)
      replace K26 := hide (K26.out.below b)
      replace K28 := hide (K28.out.below b)
      replace K30 := hide (K30.out.below b)
      replace K32 := hide (K32.out.below b)
      replace K34 := hide (K34.out.below b)
      replace K36 := hide (K36.out.below b)
      replace HK := hide (HK.out.below b)
      replace BW := hide (Below.step BW.out b)
      clear b
      go_wp2_with ((with_reducible change wpList _ _ _ (⟨none, .store _ (.tmp 38) _, _, _, _, _⟩ :: _) _ _); go_loud (refine wpList_store_row (o := ⟨none, .store _ (.tmp 38) _, _, _, _, _⟩) (Blk.new w39 _ _) #[.pointer none, .pointer (some ⟨g38, 0, none⟩)] rfl (by simp [Value.oneCell']) rfl 59 _ _ rfl (by kernel_rfl) rfl rfl ?_; intro w40 hw gw; have b : Below w39.heap.size w39 w40 := ((Below.refl _ w39).alloc (Nat.le_refl _) _).grown gw (by simp) (fun k hk => by cases hk; exact Nat.le_refl _); have K38 := hide (MC.new hw (hm.below b)); replace K13 := hide (K13.out.below b); replace K14 := hide (K14.out.below b); replace K16 := hide (K16.out.below b); replace K18 := hide (K18.out.below b); replace K20 := hide (K20.out.below b); replace K22 := hide (K22.out.below b); replace K24 := hide (K24.out.below b); replace K26 := hide (K26.out.below b); replace K28 := hide (K28.out.below b); replace K30 := hide (K30.out.below b); replace K32 := hide (K32.out.below b); replace K34 := hide (K34.out.below b); replace K36 := hide (K36.out.below b); replace HK := hide (HK.out.below b); replace BW := hide (Below.step BW.out b); clear b hw gw hm; obtain ⟨c380, c381, _⟩ := K38.out))
      refine (there_c g38 w40).mono ?_
      rintro e w41 ⟨rfl, b⟩
      clear c380 c381
      replace K13 := hide (K13.out.below b)
      replace K14 := hide (K14.out.below b)
      replace K16 := hide (K16.out.below b)
      replace K18 := hide (K18.out.below b)
      replace K20 := hide (K20.out.below b)
      replace K22 := hide (K22.out.below b)
      replace K24 := hide (K24.out.below b)
      replace K26 := hide (K26.out.below b)
      replace K28 := hide (K28.out.below b)
      replace K30 := hide (K30.out.below b)
      replace K32 := hide (K32.out.below b)
      replace K34 := hide (K34.out.below b)
      replace K36 := hide (K36.out.below b)
      replace K38 := hide (K38.out.below b)
      replace HK := hide (HK.out.below b)
      replace BW := hide (Below.step BW.out b)
      clear b
      obtain ⟨c380, c381, _⟩ := K38.out
      obtain ⟨c360, c361, _⟩ := K36.out
      go_wp2_with fail
      refine (msame_yes g38 g36 N K38.out.2.2 K36.out.2.2 (by have := HN.out; omega) (fun i j hi hj => OKF.out.inv_mul RA.out RB.out hi hj)).mono ?_
      rintro e w42 ⟨rfl, b⟩
      clear c380 c381 c360 c361
      replace K13 := hide (K13.out.below b)
      replace K14 := hide (K14.out.below b)
      replace K16 := hide (K16.out.below b)
      replace K18 := hide (K18.out.below b)
      replace K20 := hide (K20.out.below b)
      replace K22 := hide (K22.out.below b)
      replace K24 := hide (K24.out.below b)
      replace K26 := hide (K26.out.below b)
      replace K28 := hide (K28.out.below b)
      replace K30 := hide (K30.out.below b)
      replace K32 := hide (K32.out.below b)
      replace K34 := hide (K34.out.below b)
      replace K36 := hide (K36.out.below b)
      replace K38 := hide (K38.out.below b)
      replace HK := hide (HK.out.below b)
      replace BW := hide (Below.step BW.out b)
      clear b
      go_wp2
      go_ret
      exact ⟨rfl, BW.out⟩
    · have RB := hide rb
      clear rb
      obtain ⟨c130, c131, _⟩ := K13.out
      go_wp2_with fail
      refine (minv_ok g13 N (hp := hp) K13.out.2.2 HK.out HN.out (RA.out)).mono ?_
      rintro e w33 ⟨g32, rfl, hm, b⟩
      clear c130 c131
      replace K13 := hide (K13.out.below b)
      replace K14 := hide (K14.out.below b)
      replace K16 := hide (K16.out.below b)
      replace K18 := hide (K18.out.below b)
      replace K20 := hide (K20.out.below b)
      replace K22 := hide (K22.out.below b)
      replace K24 := hide (K24.out.below b)
      replace K26 := hide (K26.out.below b)
      replace K28 := hide (K28.out.below b)
      replace K30 := hide (K30.out.below b)
      replace HK := hide (HK.out.below b)
      replace BW := hide (Below.step BW.out b)
      clear b
      go_wp2_with ((with_reducible change wpList _ _ _ (⟨none, .store _ (.tmp 32) _, _, _, _, _⟩ :: _) _ _); go_loud (refine wpList_store_row (o := ⟨none, .store _ (.tmp 32) _, _, _, _, _⟩) (Blk.new w33 _ _) #[.pointer none, .pointer (some ⟨g32, 0, none⟩)] rfl (by simp [Value.oneCell']) rfl 59 _ _ rfl (by kernel_rfl) rfl rfl ?_; intro w34 hw gw; have b : Below w33.heap.size w33 w34 := ((Below.refl _ w33).alloc (Nat.le_refl _) _).grown gw (by simp) (fun k hk => by cases hk; exact Nat.le_refl _); have K32 := hide (MC.new hw (hm.below b)); replace K13 := hide (K13.out.below b); replace K14 := hide (K14.out.below b); replace K16 := hide (K16.out.below b); replace K18 := hide (K18.out.below b); replace K20 := hide (K20.out.below b); replace K22 := hide (K22.out.below b); replace K24 := hide (K24.out.below b); replace K26 := hide (K26.out.below b); replace K28 := hide (K28.out.below b); replace K30 := hide (K30.out.below b); replace HK := hide (HK.out.below b); replace BW := hide (Below.step BW.out b); clear b hw gw hm; obtain ⟨c140, c141, _⟩ := K14.out))
      refine (minv_bad g14 N (hp := hp) K14.out.2.2 HK.out HN.out (RB.out)).mono ?_
      rintro e w35 ⟨rfl, b⟩
      clear c140 c141
      replace K13 := hide (K13.out.below b)
      replace K14 := hide (K14.out.below b)
      replace K16 := hide (K16.out.below b)
      replace K18 := hide (K18.out.below b)
      replace K20 := hide (K20.out.below b)
      replace K22 := hide (K22.out.below b)
      replace K24 := hide (K24.out.below b)
      replace K26 := hide (K26.out.below b)
      replace K28 := hide (K28.out.below b)
      replace K30 := hide (K30.out.below b)
      replace K32 := hide (K32.out.below b)
      replace HK := hide (HK.out.below b)
      replace BW := hide (Below.step BW.out b)
      clear b
      go_wp2_with ((with_reducible change wpList _ _ _ (⟨none, .store _ (.tmp 34) _, _, _, _, _⟩ :: _) _ _); go_loud (refine wpList_store_row (o := ⟨none, .store _ (.tmp 34) _, _, _, _, _⟩) (Blk.new w35 _ _) #[.pointer none, .pointer none] rfl (by simp [Value.oneCell']) rfl 59 _ _ rfl (by kernel_rfl) rfl rfl ?_; intro w36 hw gw; have b : Below w35.heap.size w35 w36 := ((Below.refl _ w35).alloc (Nat.le_refl _) _).grown gw (by simp) (fun k hk => by cases hk; exact Nat.le_refl _); replace K13 := hide (K13.out.below b); replace K14 := hide (K14.out.below b); replace K16 := hide (K16.out.below b); replace K18 := hide (K18.out.below b); replace K20 := hide (K20.out.below b); replace K22 := hide (K22.out.below b); replace K24 := hide (K24.out.below b); replace K26 := hide (K26.out.below b); replace K28 := hide (K28.out.below b); replace K30 := hide (K30.out.below b); replace K32 := hide (K32.out.below b); replace HK := hide (HK.out.below b); replace BW := hide (Below.step BW.out b); clear b hw gw; obtain ⟨c200, c201, _⟩ := K20.out))
      refine (minv_bad g20 N (hp := hp) K20.out.2.2 HK.out HN.out (fun h => RB.out ((OKF.out.full_mul M13 M14).1 h).2)).mono ?_
      rintro e w37 ⟨rfl, b⟩
      clear c200 c201
      replace K13 := hide (K13.out.below b)
      replace K14 := hide (K14.out.below b)
      replace K16 := hide (K16.out.below b)
      replace K18 := hide (K18.out.below b)
      replace K20 := hide (K20.out.below b)
      replace K22 := hide (K22.out.below b)
      replace K24 := hide (K24.out.below b)
      replace K26 := hide (K26.out.below b)
      replace K28 := hide (K28.out.below b)
      replace K30 := hide (K30.out.below b)
      replace K32 := hide (K32.out.below b)
      replace HK := hide (HK.out.below b)
      replace BW := hide (Below.step BW.out b)
      clear b
      go_wp2_with ((with_reducible change wpList _ _ _ (⟨none, .store _ (.tmp 36) _, _, _, _, _⟩ :: _) _ _); go_loud (refine wpList_store_row (o := ⟨none, .store _ (.tmp 36) _, _, _, _, _⟩) (Blk.new w37 _ _) #[.pointer none, .pointer none] rfl (by simp [Value.oneCell']) rfl 59 _ _ rfl (by kernel_rfl) rfl rfl ?_; intro w38 hw gw; have b : Below w37.heap.size w37 w38 := ((Below.refl _ w37).alloc (Nat.le_refl _) _).grown gw (by simp) (fun k hk => by cases hk; exact Nat.le_refl _); replace K13 := hide (K13.out.below b); replace K14 := hide (K14.out.below b); replace K16 := hide (K16.out.below b); replace K18 := hide (K18.out.below b); replace K20 := hide (K20.out.below b); replace K22 := hide (K22.out.below b); replace K24 := hide (K24.out.below b); replace K26 := hide (K26.out.below b); replace K28 := hide (K28.out.below b); replace K30 := hide (K30.out.below b); replace K32 := hide (K32.out.below b); replace HK := hide (HK.out.below b); replace BW := hide (Below.step BW.out b); clear b hw gw))
      go_ret
      exact ⟨rfl, BW.out⟩
  · have RA := hide ra
    clear ra
    by_cases rb : (Fp p hp).rank N M14 = N
    · have RB := hide rb
      clear rb
      obtain ⟨c130, c131, _⟩ := K13.out
      go_wp2_with fail
      refine (minv_bad g13 N (hp := hp) K13.out.2.2 HK.out HN.out (RA.out)).mono ?_
      rintro e w33 ⟨rfl, b⟩
      clear c130 c131
      replace K13 := hide (K13.out.below b)
      replace K14 := hide (K14.out.below b)
      replace K16 := hide (K16.out.below b)
      replace K18 := hide (K18.out.below b)
      replace K20 := hide (K20.out.below b)
      replace K22 := hide (K22.out.below b)
      replace K24 := hide (K24.out.below b)
      replace K26 := hide (K26.out.below b)
      replace K28 := hide (K28.out.below b)
      replace K30 := hide (K30.out.below b)
      replace HK := hide (HK.out.below b)
      replace BW := hide (Below.step BW.out b)
      clear b
      go_wp2_with ((with_reducible change wpList _ _ _ (⟨none, .store _ (.tmp 32) _, _, _, _, _⟩ :: _) _ _); go_loud (refine wpList_store_row (o := ⟨none, .store _ (.tmp 32) _, _, _, _, _⟩) (Blk.new w33 _ _) #[.pointer none, .pointer none] rfl (by simp [Value.oneCell']) rfl 59 _ _ rfl (by kernel_rfl) rfl rfl ?_; intro w34 hw gw; have b : Below w33.heap.size w33 w34 := ((Below.refl _ w33).alloc (Nat.le_refl _) _).grown gw (by simp) (fun k hk => by cases hk; exact Nat.le_refl _); replace K13 := hide (K13.out.below b); replace K14 := hide (K14.out.below b); replace K16 := hide (K16.out.below b); replace K18 := hide (K18.out.below b); replace K20 := hide (K20.out.below b); replace K22 := hide (K22.out.below b); replace K24 := hide (K24.out.below b); replace K26 := hide (K26.out.below b); replace K28 := hide (K28.out.below b); replace K30 := hide (K30.out.below b); replace HK := hide (HK.out.below b); replace BW := hide (Below.step BW.out b); clear b hw gw; obtain ⟨c140, c141, _⟩ := K14.out))
      refine (minv_ok g14 N (hp := hp) K14.out.2.2 HK.out HN.out (RB.out)).mono ?_
      rintro e w35 ⟨g34, rfl, hm, b⟩
      clear c140 c141
      replace K13 := hide (K13.out.below b)
      replace K14 := hide (K14.out.below b)
      replace K16 := hide (K16.out.below b)
      replace K18 := hide (K18.out.below b)
      replace K20 := hide (K20.out.below b)
      replace K22 := hide (K22.out.below b)
      replace K24 := hide (K24.out.below b)
      replace K26 := hide (K26.out.below b)
      replace K28 := hide (K28.out.below b)
      replace K30 := hide (K30.out.below b)
      replace HK := hide (HK.out.below b)
      replace BW := hide (Below.step BW.out b)
      clear b
      go_wp2_with ((with_reducible change wpList _ _ _ (⟨none, .store _ (.tmp 34) _, _, _, _, _⟩ :: _) _ _); go_loud (refine wpList_store_row (o := ⟨none, .store _ (.tmp 34) _, _, _, _, _⟩) (Blk.new w35 _ _) #[.pointer none, .pointer (some ⟨g34, 0, none⟩)] rfl (by simp [Value.oneCell']) rfl 59 _ _ rfl (by kernel_rfl) rfl rfl ?_; intro w36 hw gw; have b : Below w35.heap.size w35 w36 := ((Below.refl _ w35).alloc (Nat.le_refl _) _).grown gw (by simp) (fun k hk => by cases hk; exact Nat.le_refl _); have K34 := hide (MC.new hw (hm.below b)); replace K13 := hide (K13.out.below b); replace K14 := hide (K14.out.below b); replace K16 := hide (K16.out.below b); replace K18 := hide (K18.out.below b); replace K20 := hide (K20.out.below b); replace K22 := hide (K22.out.below b); replace K24 := hide (K24.out.below b); replace K26 := hide (K26.out.below b); replace K28 := hide (K28.out.below b); replace K30 := hide (K30.out.below b); replace HK := hide (HK.out.below b); replace BW := hide (Below.step BW.out b); clear b hw gw hm; obtain ⟨c200, c201, _⟩ := K20.out))
      refine (minv_bad g20 N (hp := hp) K20.out.2.2 HK.out HN.out (fun h => RA.out ((OKF.out.full_mul M13 M14).1 h).1)).mono ?_
      rintro e w37 ⟨rfl, b⟩
      clear c200 c201
      replace K13 := hide (K13.out.below b)
      replace K14 := hide (K14.out.below b)
      replace K16 := hide (K16.out.below b)
      replace K18 := hide (K18.out.below b)
      replace K20 := hide (K20.out.below b)
      replace K22 := hide (K22.out.below b)
      replace K24 := hide (K24.out.below b)
      replace K26 := hide (K26.out.below b)
      replace K28 := hide (K28.out.below b)
      replace K30 := hide (K30.out.below b)
      replace K34 := hide (K34.out.below b)
      replace HK := hide (HK.out.below b)
      replace BW := hide (Below.step BW.out b)
      clear b
      go_wp2_with ((with_reducible change wpList _ _ _ (⟨none, .store _ (.tmp 36) _, _, _, _, _⟩ :: _) _ _); go_loud (refine wpList_store_row (o := ⟨none, .store _ (.tmp 36) _, _, _, _, _⟩) (Blk.new w37 _ _) #[.pointer none, .pointer none] rfl (by simp [Value.oneCell']) rfl 59 _ _ rfl (by kernel_rfl) rfl rfl ?_; intro w38 hw gw; have b : Below w37.heap.size w37 w38 := ((Below.refl _ w37).alloc (Nat.le_refl _) _).grown gw (by simp) (fun k hk => by cases hk; exact Nat.le_refl _); replace K13 := hide (K13.out.below b); replace K14 := hide (K14.out.below b); replace K16 := hide (K16.out.below b); replace K18 := hide (K18.out.below b); replace K20 := hide (K20.out.below b); replace K22 := hide (K22.out.below b); replace K24 := hide (K24.out.below b); replace K26 := hide (K26.out.below b); replace K28 := hide (K28.out.below b); replace K30 := hide (K30.out.below b); replace K34 := hide (K34.out.below b); replace HK := hide (HK.out.below b); replace BW := hide (Below.step BW.out b); clear b hw gw))
      go_ret
      exact ⟨rfl, BW.out⟩
    · have RB := hide rb
      clear rb
      obtain ⟨c130, c131, _⟩ := K13.out
      go_wp2_with fail
      refine (minv_bad g13 N (hp := hp) K13.out.2.2 HK.out HN.out (RA.out)).mono ?_
      rintro e w33 ⟨rfl, b⟩
      clear c130 c131
      replace K13 := hide (K13.out.below b)
      replace K14 := hide (K14.out.below b)
      replace K16 := hide (K16.out.below b)
      replace K18 := hide (K18.out.below b)
      replace K20 := hide (K20.out.below b)
      replace K22 := hide (K22.out.below b)
      replace K24 := hide (K24.out.below b)
      replace K26 := hide (K26.out.below b)
      replace K28 := hide (K28.out.below b)
      replace K30 := hide (K30.out.below b)
      replace HK := hide (HK.out.below b)
      replace BW := hide (Below.step BW.out b)
      clear b
      go_wp2_with ((with_reducible change wpList _ _ _ (⟨none, .store _ (.tmp 32) _, _, _, _, _⟩ :: _) _ _); go_loud (refine wpList_store_row (o := ⟨none, .store _ (.tmp 32) _, _, _, _, _⟩) (Blk.new w33 _ _) #[.pointer none, .pointer none] rfl (by simp [Value.oneCell']) rfl 59 _ _ rfl (by kernel_rfl) rfl rfl ?_; intro w34 hw gw; have b : Below w33.heap.size w33 w34 := ((Below.refl _ w33).alloc (Nat.le_refl _) _).grown gw (by simp) (fun k hk => by cases hk; exact Nat.le_refl _); replace K13 := hide (K13.out.below b); replace K14 := hide (K14.out.below b); replace K16 := hide (K16.out.below b); replace K18 := hide (K18.out.below b); replace K20 := hide (K20.out.below b); replace K22 := hide (K22.out.below b); replace K24 := hide (K24.out.below b); replace K26 := hide (K26.out.below b); replace K28 := hide (K28.out.below b); replace K30 := hide (K30.out.below b); replace HK := hide (HK.out.below b); replace BW := hide (Below.step BW.out b); clear b hw gw; obtain ⟨c140, c141, _⟩ := K14.out))
      refine (minv_bad g14 N (hp := hp) K14.out.2.2 HK.out HN.out (RB.out)).mono ?_
      rintro e w35 ⟨rfl, b⟩
      clear c140 c141
      replace K13 := hide (K13.out.below b)
      replace K14 := hide (K14.out.below b)
      replace K16 := hide (K16.out.below b)
      replace K18 := hide (K18.out.below b)
      replace K20 := hide (K20.out.below b)
      replace K22 := hide (K22.out.below b)
      replace K24 := hide (K24.out.below b)
      replace K26 := hide (K26.out.below b)
      replace K28 := hide (K28.out.below b)
      replace K30 := hide (K30.out.below b)
      replace HK := hide (HK.out.below b)
      replace BW := hide (Below.step BW.out b)
      clear b
      go_wp2_with ((with_reducible change wpList _ _ _ (⟨none, .store _ (.tmp 34) _, _, _, _, _⟩ :: _) _ _); go_loud (refine wpList_store_row (o := ⟨none, .store _ (.tmp 34) _, _, _, _, _⟩) (Blk.new w35 _ _) #[.pointer none, .pointer none] rfl (by simp [Value.oneCell']) rfl 59 _ _ rfl (by kernel_rfl) rfl rfl ?_; intro w36 hw gw; have b : Below w35.heap.size w35 w36 := ((Below.refl _ w35).alloc (Nat.le_refl _) _).grown gw (by simp) (fun k hk => by cases hk; exact Nat.le_refl _); replace K13 := hide (K13.out.below b); replace K14 := hide (K14.out.below b); replace K16 := hide (K16.out.below b); replace K18 := hide (K18.out.below b); replace K20 := hide (K20.out.below b); replace K22 := hide (K22.out.below b); replace K24 := hide (K24.out.below b); replace K26 := hide (K26.out.below b); replace K28 := hide (K28.out.below b); replace K30 := hide (K30.out.below b); replace HK := hide (HK.out.below b); replace BW := hide (Below.step BW.out b); clear b hw gw; obtain ⟨c200, c201, _⟩ := K20.out))
      refine (minv_bad g20 N (hp := hp) K20.out.2.2 HK.out HN.out (fun h => RA.out ((OKF.out.full_mul M13 M14).1 h).1)).mono ?_
      rintro e w37 ⟨rfl, b⟩
      clear c200 c201
      replace K13 := hide (K13.out.below b)
      replace K14 := hide (K14.out.below b)
      replace K16 := hide (K16.out.below b)
      replace K18 := hide (K18.out.below b)
      replace K20 := hide (K20.out.below b)
      replace K22 := hide (K22.out.below b)
      replace K24 := hide (K24.out.below b)
      replace K26 := hide (K26.out.below b)
      replace K28 := hide (K28.out.below b)
      replace K30 := hide (K30.out.below b)
      replace HK := hide (HK.out.below b)
      replace BW := hide (Below.step BW.out b)
      clear b
      go_wp2_with ((with_reducible change wpList _ _ _ (⟨none, .store _ (.tmp 36) _, _, _, _, _⟩ :: _) _ _); go_loud (refine wpList_store_row (o := ⟨none, .store _ (.tmp 36) _, _, _, _, _⟩) (Blk.new w37 _ _) #[.pointer none, .pointer none] rfl (by simp [Value.oneCell']) rfl 59 _ _ rfl (by kernel_rfl) rfl rfl ?_; intro w38 hw gw; have b : Below w37.heap.size w37 w38 := ((Below.refl _ w37).alloc (Nat.le_refl _) _).grown gw (by simp) (fun k hk => by cases hk; exact Nat.le_refl _); replace K13 := hide (K13.out.below b); replace K14 := hide (K14.out.below b); replace K16 := hide (K16.out.below b); replace K18 := hide (K18.out.below b); replace K20 := hide (K20.out.below b); replace K22 := hide (K22.out.below b); replace K24 := hide (K24.out.below b); replace K26 := hide (K26.out.below b); replace K28 := hide (K28.out.below b); replace K30 := hide (K30.out.below b); replace HK := hide (HK.out.below b); replace BW := hide (Below.step BW.out b); clear b hw gw))
      go_ret
      exact ⟨rfl, BW.out⟩
end Go.Proofs.Ytoaaplngdomdcaa.MV
