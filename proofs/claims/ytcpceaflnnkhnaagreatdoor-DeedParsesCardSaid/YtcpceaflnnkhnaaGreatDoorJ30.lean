/- Joined texts: RdrG. -/
import Derived.Test.YtcpceaflnnkhnaaGreatDoorJ29
import Derived.Deep.RegionHeld3

/- The document's Parse, its last part; and the whole. (Printed by wip/rdrg.py.) -/
namespace Go.Proofs.YtcpceaflnnkhnaaGreatDoor
open Go.RowKit
attribute [local go_sem ↓] Go.wp_at_zero Go.wp_at_succ
attribute [local go_sem ↓] capZ_store
attribute [local go_sem] capZ_storeC

theorem fun_fail (W : World) (b g cap : Nat) (ts : List ByteArray) (n : Nat) (h : RdS W b g cap ts n none) : Calls Tryz.prog 38 #[.pointer (some ⟨b, 0, none⟩), .int .i64 0, .int .i64 5] W fun e w' => e = .returned (.tuple #[]) ∧ RdS w' b g cap ts n (some (0, 5)) ∧ W.grownBy w' (some b) := fail_st W b g cap ts n 0 5 none h (by omega)
theorem rvOf_wfD {ps : List (List UInt8)} (h : rvF ps = none) : (rvOf ps).wf ∧ (rvOf ps).in64 := by
  unfold rvF at h
  have a1 := first_noneD h
  have a2 := first_noneD a1.2
  have e1 : ltrE (part_ ps 2) 16 16 = 0 := by
    have q := a1.1
    unfold ltrF at q
    by_cases hz : ltrE (part_ ps 2) 16 16 ≠ 0
    · rw [if_pos hz] at q; cases q
    · omega
  have e2 : ltrE (part_ ps 3) 32 32 = 0 := by
    have q := a2.1
    unfold ltrF at q
    by_cases hz : ltrE (part_ ps 3) 32 32 ≠ 0
    · rw [if_pos hz] at q; cases q
    · omega
  refine ⟨⟨ltrE_len e1, ltrE_len e2⟩, ?_⟩
  exact rvOf_in ps
theorem cap_wf1 {ps : List (List UInt8)} (d : Bool) (h : bodyF ps 1 = none) : (capOf ps 1 d).wf ∧ (capOf ps 1 d).in64 := by
  have := rvOf_wfD h
  unfold capOf
  rw [if_pos rfl]
  exact ⟨⟨this.1, RV.zero_wf, by show (1 : Nat) < 256; omega⟩, this.2, RV.zero_in⟩
theorem cap_wf2 {ps : List (List UInt8)} (d : Bool) (h : bodyF ps 2 = none) : (capOf ps 2 d).wf ∧ (capOf ps 2 d).in64 := by
  have := rvOf_wfD h
  unfold capOf
  rw [if_neg (by omega), if_pos rfl]
  exact ⟨⟨RV.zero_wf, this.1, by show (2 : Nat) < 256; omega⟩, RV.zero_in, this.2⟩
theorem cap_wf3 {ps : List (List UInt8)} (d : Bool) (_h : bodyF ps 3 = none) : (capOf ps 3 d).wf ∧ (capOf ps 3 d).in64 := by
  unfold capOf
  rw [if_neg (by omega), if_neg (by omega)]
  exact ⟨⟨RV.zero_wf, RV.zero_wf, by show (3 : Nat) < 256; omega⟩, RV.zero_in, RV.zero_in⟩
set_option maxRecDepth 100000 in
set_option maxHeartbeats 8000000 in
theorem rparse_bad1 (s : ByteArray) (w : World) (hs : s.size ≤ 256) (h0 : part_ (flds (lst s)) 0 = tRoom) (h1 : ¬ (flds (lst s)).length < 2) (d : Bool) (h2 : kindL (part_ (flds (lst s)) 1) = some (1, d)) (h3 : (flds (lst s)).length = 8) (a er : Nat) (h4 : bodyF (flds (lst s)) 1 = some (a, er)) : Calls Tryz.prog 11 #[.string s] w (ParsedPost (lst s) w) := by
  obtain ⟨hcb1, hcb2⟩ := cap_body (by rw [lst_len]; exact hs) h0 h1 h2 h3.symm
  have HFF := hide (show capF (lst s) = some (a, er) from by rw [hcb1, h4]; rfl)
  have HH := hide h0
  have HL := hide h1
  have HB4 := hide h4
  clear h4
  have HK := hide h2
  have HL3 := hide h3
  clear h0 h1 h2 h3 hcb1 hcb2
  have HS := hide hs
  obtain ⟨w0, hw0⟩ : ∃ w0, w0 = w.alloc (.cells Tryz.zeroCells34 34) := ⟨_, rfl⟩
  have HW := hide hw0
  have H0 := hide (show Blk w0 w.heap.size 34 Tryz.zeroCells34 ∧ Below w.heap.size w w0 from ⟨by rw [hw0]; exact Blk.new w _ _, by rw [hw0]; exact (Below.refl _ w).alloc (Nat.le_refl _) _⟩)
  have QF := hide (rfields_any s w0 (by omega))
  have i0 : ¬ (256 : Int) < (s.size : Int) := by omega
  clear hw0 hs
  go_enter Tryz.func11, Tryz.ntmps11
  go_wp2_with fail
  rw [← HW.out]
  refine QF.out.mono ?_
  rintro e w1 ⟨v, ts, rfl, ho, hts, b1⟩
  have hpos : 0 < ts.length := by have := flds_pos (lst s); rw [← hts, List.length_map] at this; exact this
  obtain ⟨g, cap, rfl, hg0, hg1⟩ := World.ownsRow.form ho hpos
  have hsm := sm_of hts HS.out
  obtain ⟨x0, hx0⟩ := at_of hpos
  obtain ⟨w2, hw2⟩ : ∃ w2, w2 = w1.alloc (.cells #[.slice (some ⟨g, 0, none⟩) ts.length cap, .int .i64 0, .int .i64 0, .int .i64 0, .int .i64 0] 74) := ⟨_, rfl⟩
  have K2 := hide (show PK w w2 w1.heap.size g cap ts 0 none from by
    have c1 := H0.out.1.below' b1
    have c2 := Below.step H0.out.2 b1
    have al := (Below.refl w1.heap.size w1).alloc (Nat.le_refl _) (.cells #[.slice (some ⟨g, 0, none⟩) ts.length cap, .int .i64 0, .int .i64 0, .int .i64 0, .int .i64 0] 74)
    rw [hw2]
    exact ⟨c1.alloc _, Below.step c2 al, rds_start (Blk.new _ _ _) (ho.alloc _) (by omega), c1.lt⟩)
  have HW2 := hide hw2
  have HTS := hide (And.intro hts hsm)
  have QP := hide (fun W n st x (h : RdS W w1.heap.size g cap ts n st) (hx : ts[n]? = some x) => part_st W w1.heap.size g cap ts n st x h hx hsm)
  have HX0 := hide hx0
  clear ho b1 hg0 hg1 hsm hw2 hx0
  go_wp2_with fail
  rw [← HW2.out]
  refine (QP.out _ 0 none x0 K2.out.rds HX0.out).mono ?_
  rintro e w3 ⟨rfl, r, gr⟩
  have K3 := hide (K2.out.next r gr)
  have hq0 : part_ (flds (lst s)) 0 = lst x0 := by rw [← hts]; exact part_of HX0.out
  have hln : (flds (lst s)).length = ts.length := by rw [← hts, List.length_map]
  clear r gr
  have hx : x0 = ⟨#[115, 116, 114, 111, 110, 103, 114, 111, 111, 109]⟩ := lst_inj (by rw [← hq0, HH.out]; rfl)
  subst hx
  have hrl := K3.out.rds.r.cells
  obtain ⟨rc0, rc1, rc2, rc3, rc4⟩ := hrl
  rw [hln] at HL
  obtain ⟨x1, hx1⟩ := at_of (ts := ts) (j := 1) (by have := HL.out; omega)
  have hq1 : part_ (flds (lst s)) 1 = lst x1 := by rw [← hts]; exact part_of hx1
  have i2 : ¬ (ts.length : Int) < 2 := by have := HL.out; omega
  have HX1 := hide hx1
  have HTL := hide hln
  clear hq0 hln hts hx1 hpos rc1 rc2 rc3 rc4
  go_wp2_with fail
  refine (QP.out _ 1 none x1 K3.out.rds HX1.out).mono ?_
  rintro e w4 ⟨rfl, r, gr⟩
  have K4 := hide (K3.out.next r gr)
  clear r gr rc0
  go_wp2_with fail
  refine (kind_any x1 _).mono ?_
  rintro e w5 ⟨rfl, rfl⟩
  have hkv := HK.out
  rw [hq1] at hkv
  have hkv2 := kindV_of hkv
  rw [hkv2]
  clear hkv hkv2 hq1
  rw [show kindVal (some (1, d)) = .tuple #[.int .u8 1, .bool d, .bool true] from rfl]
  have i3 : ¬ (ts.length : Int) < 8 := by have := HL3.out; have := HTL.out; omega
  have i4 : ¬ (8 : Int) < (ts.length : Int) := by have := HL3.out; have := HTL.out; omega
  have HL4 := hide (show ts.length = 8 from by have := HL3.out; have := HTL.out; omega)
  have rc0 := K4.out.rds.r.cells.1
  obtain ⟨C0, hC0⟩ : ∃ F : Array Value, F = (bare 1 d).cells (.slice none 0 0) := ⟨_, rfl⟩
  have HBD := hide (fun W => build_bare1 d W)
  have QR := hide (fun W (h : RdS W w1.heap.size g cap ts 2 none) => rdread_1 W w1.heap.size g cap ts d h HTS.out.2 HL4.out)
  rw [← hC0] at HBD QR
  clear hC0
  go_wp2_with ((with_reducible change wpList _ _ _ (⟨some 90, _, _, _, _, _⟩ :: _) _ _); refine wpList_yields (by kernel_rfl) (.agg C0) (ex_build 34 _ rfl #[(0, .int .u8 1), (1, .bool d)] (by kernel_rfl) _ (HBD.out _)) ?_)
  refine (QR.out _ K4.out.rds).mono ?_
  rintro e w6 ⟨F, u, rfl, f1, f2, r, gr, hgood⟩
  have K6 := hide (K4.out.next r gr)
  have HF := hide (And.intro f1 f2)
  have HG := hide hgood
  have HGR := hide gr
  clear f1 f2 r gr hgood rc0
  have K6' := hide (show PK w w6 w1.heap.size g cap ts 8 (some (a, er)) from by rw [← HB4.out, ← HTS.out.1]; exact K6.out)
  have e9 : ¬ (er : Int) = 0 := by have := K6'.out.rds.nz _ rfl; show ¬ ((er : Nat) : Int) = 0; simp only at this; omega
  go_wp2_with first
    | ((with_reducible change wpList _ _ _ (⟨none, .store _ (.tmp 14) _, _, _, _, _⟩ :: _) _ _); go_loud (refine wpList_store_row (o := ⟨none, .store _ (.tmp 14) _, _, _, _, _⟩) (Blk.new w6 34 Tryz.zeroCells34) F (by rw [HF.out.1]; kernel_rfl) HF.out.2 rfl 34 _ _ rfl (by rw [HF.out.1]; kernel_rfl) rfl rfl ?_; intro w7 hb hg; have S7 := hide (show Blk w7 w6.heap.size 34 F ∧ Below w6.heap.size w6 w7 from ⟨hb, (Below.al0 (Below.refl w6.heap.size w6) _).grown hg (by simp) (fun k hk => by injection hk with hk; omega)⟩); clear hb hg; obtain ⟨-, -, -, rc3, rc4⟩ := (K6'.out.below S7.out.2).rds.r.cells))
  have K7 := hide (K6'.out.below S7.out.2)
  have rc3 : w7.cell? ⟨w1.heap.size, 3, none⟩ = some (.int .i64 (a : Int)) := K7.out.rds.r.cells.2.2.2.1
  have rc4 : w7.cell? ⟨w1.heap.size, 4, none⟩ = some (.int .i64 (er : Int)) := K7.out.rds.r.cells.2.2.2.2
  have HGL := hide (show w1.heap.size ≠ w.heap.size from by have := K7.out.lt; omega)
  have hS : w7.cell? ⟨w1.heap.size, 3, none⟩ = some (.int .i64 (a : Int)) ∧ w7.cell? ⟨w1.heap.size, 4, none⟩ = some (.int .i64 (er : Int)) ∧ w7.there w.heap.size 0 107 := ⟨rc3, rc4, there_of_blk K7.out.res (by kernel_rfl)⟩
  go_wp2_with fail
  go_region_held3 (fun w' => w'.cell? ⟨w1.heap.size, 3, none⟩ = some (.int .i64 (a : Int)) ∧ w'.cell? ⟨w1.heap.size, 4, none⟩ = some (.int .i64 (er : Int)) ∧ w'.there w.heap.size 0 107) (first | with_reducible assumption | (with_reducible refine keepR2 ?_ HGL.out; with_reducible assumption) | (simp only [World.cell?_drew, World.there_drew]; with_reducible assumption)) (fail)
  all_goals
    go_wp2_with fail
    refine bodyPost_ret (res_row2 rfl _ _ w.heap.size 34 Tryz.zeroCells34 (0, 0) _ rfl (blk_fill K7.out.res.drew rfl) Tryz.underlying34 rfl (by kernel_rfl)) rfl ?_
    exact rp_fail HFF.out (K7.out.bel.drew.trans (Lib.below_setCells_w (Nat.le_refl _) _ _ _)) (by rw [← capZ_eq]; rfl)
set_option maxRecDepth 100000 in
set_option maxHeartbeats 8000000 in
theorem rparse_no1 (s : ByteArray) (w : World) (hs : s.size ≤ 256) (h0 : part_ (flds (lst s)) 0 = tRoom) (h1 : ¬ (flds (lst s)).length < 2) (d : Bool) (h2 : kindL (part_ (flds (lst s)) 1) = some (1, d)) (h3 : (flds (lst s)).length = 8) (h4 : bodyF (flds (lst s)) 1 = none) (h5 : ¬ (capOf (flds (lst s)) 1 d).may) : Calls Tryz.prog 11 #[.string s] w (ParsedPost (lst s) w) := by
  obtain ⟨hcb1, hcb2⟩ := cap_body (by rw [lst_len]; exact hs) h0 h1 h2 h3.symm
  have HFF := hide (show capF (lst s) = some (0, 5) from by rw [hcb1, h4]; unfold mayF; rw [if_neg h5]; rfl)
  have HH := hide h0
  have HL := hide h1
  have HB4 := hide h4
  have HCW := hide (show (capOf (flds (lst s)) 1 d).wf ∧ (capOf (flds (lst s)) 1 d).in64 from cap_wf1 d h4)
  clear h4
  have HM := hide h5
  clear h5
  have HK := hide h2
  have HL3 := hide h3
  clear h0 h1 h2 h3 hcb1 hcb2
  have HS := hide hs
  obtain ⟨w0, hw0⟩ : ∃ w0, w0 = w.alloc (.cells Tryz.zeroCells34 34) := ⟨_, rfl⟩
  have HW := hide hw0
  have H0 := hide (show Blk w0 w.heap.size 34 Tryz.zeroCells34 ∧ Below w.heap.size w w0 from ⟨by rw [hw0]; exact Blk.new w _ _, by rw [hw0]; exact (Below.refl _ w).alloc (Nat.le_refl _) _⟩)
  have QF := hide (rfields_any s w0 (by omega))
  have i0 : ¬ (256 : Int) < (s.size : Int) := by omega
  clear hw0 hs
  go_enter Tryz.func11, Tryz.ntmps11
  go_wp2_with fail
  rw [← HW.out]
  refine QF.out.mono ?_
  rintro e w1 ⟨v, ts, rfl, ho, hts, b1⟩
  have hpos : 0 < ts.length := by have := flds_pos (lst s); rw [← hts, List.length_map] at this; exact this
  obtain ⟨g, cap, rfl, hg0, hg1⟩ := World.ownsRow.form ho hpos
  have hsm := sm_of hts HS.out
  obtain ⟨x0, hx0⟩ := at_of hpos
  obtain ⟨w2, hw2⟩ : ∃ w2, w2 = w1.alloc (.cells #[.slice (some ⟨g, 0, none⟩) ts.length cap, .int .i64 0, .int .i64 0, .int .i64 0, .int .i64 0] 74) := ⟨_, rfl⟩
  have K2 := hide (show PK w w2 w1.heap.size g cap ts 0 none from by
    have c1 := H0.out.1.below' b1
    have c2 := Below.step H0.out.2 b1
    have al := (Below.refl w1.heap.size w1).alloc (Nat.le_refl _) (.cells #[.slice (some ⟨g, 0, none⟩) ts.length cap, .int .i64 0, .int .i64 0, .int .i64 0, .int .i64 0] 74)
    rw [hw2]
    exact ⟨c1.alloc _, Below.step c2 al, rds_start (Blk.new _ _ _) (ho.alloc _) (by omega), c1.lt⟩)
  have HW2 := hide hw2
  have HTS := hide (And.intro hts hsm)
  have QP := hide (fun W n st x (h : RdS W w1.heap.size g cap ts n st) (hx : ts[n]? = some x) => part_st W w1.heap.size g cap ts n st x h hx hsm)
  have HX0 := hide hx0
  clear ho b1 hg0 hg1 hsm hw2 hx0
  go_wp2_with fail
  rw [← HW2.out]
  refine (QP.out _ 0 none x0 K2.out.rds HX0.out).mono ?_
  rintro e w3 ⟨rfl, r, gr⟩
  have K3 := hide (K2.out.next r gr)
  have hq0 : part_ (flds (lst s)) 0 = lst x0 := by rw [← hts]; exact part_of HX0.out
  have hln : (flds (lst s)).length = ts.length := by rw [← hts, List.length_map]
  clear r gr
  have hx : x0 = ⟨#[115, 116, 114, 111, 110, 103, 114, 111, 111, 109]⟩ := lst_inj (by rw [← hq0, HH.out]; rfl)
  subst hx
  have hrl := K3.out.rds.r.cells
  obtain ⟨rc0, rc1, rc2, rc3, rc4⟩ := hrl
  rw [hln] at HL
  obtain ⟨x1, hx1⟩ := at_of (ts := ts) (j := 1) (by have := HL.out; omega)
  have hq1 : part_ (flds (lst s)) 1 = lst x1 := by rw [← hts]; exact part_of hx1
  have i2 : ¬ (ts.length : Int) < 2 := by have := HL.out; omega
  have HX1 := hide hx1
  have HTL := hide hln
  clear hq0 hln hts hx1 hpos rc1 rc2 rc3 rc4
  go_wp2_with fail
  refine (QP.out _ 1 none x1 K3.out.rds HX1.out).mono ?_
  rintro e w4 ⟨rfl, r, gr⟩
  have K4 := hide (K3.out.next r gr)
  clear r gr rc0
  go_wp2_with fail
  refine (kind_any x1 _).mono ?_
  rintro e w5 ⟨rfl, rfl⟩
  have hkv := HK.out
  rw [hq1] at hkv
  have hkv2 := kindV_of hkv
  rw [hkv2]
  clear hkv hkv2 hq1
  rw [show kindVal (some (1, d)) = .tuple #[.int .u8 1, .bool d, .bool true] from rfl]
  have i3 : ¬ (ts.length : Int) < 8 := by have := HL3.out; have := HTL.out; omega
  have i4 : ¬ (8 : Int) < (ts.length : Int) := by have := HL3.out; have := HTL.out; omega
  have HL4 := hide (show ts.length = 8 from by have := HL3.out; have := HTL.out; omega)
  have rc0 := K4.out.rds.r.cells.1
  obtain ⟨C0, hC0⟩ : ∃ F : Array Value, F = (bare 1 d).cells (.slice none 0 0) := ⟨_, rfl⟩
  have HBD := hide (fun W => build_bare1 d W)
  have QR := hide (fun W (h : RdS W w1.heap.size g cap ts 2 none) => rdread_1 W w1.heap.size g cap ts d h HTS.out.2 HL4.out)
  rw [← hC0] at HBD QR
  clear hC0
  go_wp2_with ((with_reducible change wpList _ _ _ (⟨some 90, _, _, _, _, _⟩ :: _) _ _); refine wpList_yields (by kernel_rfl) (.agg C0) (ex_build 34 _ rfl #[(0, .int .u8 1), (1, .bool d)] (by kernel_rfl) _ (HBD.out _)) ?_)
  refine (QR.out _ K4.out.rds).mono ?_
  rintro e w6 ⟨F, u, rfl, f1, f2, r, gr, hgood⟩
  have K6 := hide (K4.out.next r gr)
  have HF := hide (And.intro f1 f2)
  have HG := hide hgood
  have HGR := hide gr
  clear f1 f2 r gr hgood rc0
  have K6' := hide (show PK w w6 w1.heap.size g cap ts 8 none from by have := K6.out; rw [HTS.out.1, HB4.out] at this; exact this)
  have HG2 := hide (show F = (capOf (flds (lst s)) 1 d).cells u ∧ Own w6 w1.heap.size 5 u (capOf (flds (lst s)) 1 d).lit from by
    have q := HG.out (by rw [HTS.out.1]; exact HB4.out)
    rw [HTS.out.1] at q
    exact ⟨q.1, q.2.lower (by have := K4.out.rds.r.blk.lt; omega)⟩)
  have HCY := hide (show ∀ W', Below w6.heap.size w6 W' → Capy W' F (capOf (flds (lst s)) 1 d) u from fun W' hW' => ⟨HG2.out.1, HCW.out.1, HCW.out.2, (Own.below HG2.out.2 hW').by_⟩)
  have QCK := hide (fun W (h : Capy W F (capOf (flds (lst s)) 1 d) u) => rcheck_cap F _ u W h)
  rw [if_neg HM.out] at QCK
  go_wp2_with first
    | ((with_reducible change wpList _ _ _ (⟨none, .store _ (.tmp 14) _, _, _, _, _⟩ :: _) _ _); go_loud (refine wpList_store_row (o := ⟨none, .store _ (.tmp 14) _, _, _, _, _⟩) (Blk.new w6 34 Tryz.zeroCells34) F (by rw [HF.out.1]; kernel_rfl) HF.out.2 rfl 34 _ _ rfl (by rw [HF.out.1]; kernel_rfl) rfl rfl ?_; intro w7 hb hg; have S7 := hide (show Blk w7 w6.heap.size 34 F ∧ Below w6.heap.size w6 w7 from ⟨hb, (Below.al0 (Below.refl w6.heap.size w6) _).grown hg (by simp) (fun k hk => by injection hk with hk; omega)⟩); clear hb hg; obtain ⟨-, -, -, -, rc4⟩ := (K6'.out.below S7.out.2).rds.r.cells; have rc4' : w7.cell? ⟨w1.heap.size, 4, none⟩ = some (.int .i64 0) := rc4; clear rc4))
    | ((with_reducible change wpList _ _ _ (⟨some 98, _, _, _, _, _⟩ :: _) _ _); refine wpList_yields (by kernel_rfl) (.agg F) (ex_load 34 _ rfl w6.heap.size 0 (by kernel_rfl) F.toList _ (rng_of S7.out.1) Tryz.underlying34 rfl (by rw [Array.length_toList, HF.out.1]; kernel_rfl)) ?_)
  refine (QCK.out _ (HCY.out _ S7.out.2)).mono ?_
  rintro e w8 ⟨rfl, b8⟩
  have K8 := hide ((K6'.out.below S7.out.2).below b8)
  have S8 := hide (show Blk w8 w6.heap.size 34 F ∧ Below w6.heap.size w6 w8 from ⟨S7.out.1.below' b8, Below.step S7.out.2 b8⟩)
  clear rc4' b8
  have QFL := hide (fun_fail w8 w1.heap.size g cap ts 8 K8.out.rds)
  go_wp2_with fail
  refine QFL.out.mono ?_
  rintro e w9 ⟨rfl, r9, g9⟩
  have K9 := hide (K8.out.next r9 g9)
  clear r9 g9
  have rc3 : w9.cell? ⟨w1.heap.size, 3, none⟩ = some (.int .i64 0) := K9.out.rds.r.cells.2.2.2.1
  have rc4 : w9.cell? ⟨w1.heap.size, 4, none⟩ = some (.int .i64 5) := K9.out.rds.r.cells.2.2.2.2
  have HGL := hide (show w1.heap.size ≠ w.heap.size from by have := K9.out.lt; omega)
  have hS : w9.cell? ⟨w1.heap.size, 3, none⟩ = some (.int .i64 0) ∧ w9.cell? ⟨w1.heap.size, 4, none⟩ = some (.int .i64 5) ∧ w9.there w.heap.size 0 107 := ⟨rc3, rc4, there_of_blk K9.out.res (by kernel_rfl)⟩
  go_wp2_with fail
  go_region_held3 (fun w' => w'.cell? ⟨w1.heap.size, 3, none⟩ = some (.int .i64 0) ∧ w'.cell? ⟨w1.heap.size, 4, none⟩ = some (.int .i64 5) ∧ w'.there w.heap.size 0 107) (first | with_reducible assumption | (with_reducible refine keepR2 ?_ HGL.out; with_reducible assumption) | (simp only [World.cell?_drew, World.there_drew]; with_reducible assumption)) (fail)
  all_goals
    go_wp2_with fail
    refine bodyPost_ret (res_row2 rfl _ _ w.heap.size 34 Tryz.zeroCells34 (0, 0) _ rfl (blk_fill K9.out.res.drew rfl) Tryz.underlying34 rfl (by kernel_rfl)) rfl ?_
    exact rp_fail HFF.out (K9.out.bel.drew.trans (Lib.below_setCells_w (Nat.le_refl _) _ _ _)) (by rw [← capZ_eq]; rfl)
set_option maxRecDepth 100000 in
set_option maxHeartbeats 8000000 in
theorem rparse_ok1 (s : ByteArray) (w : World) (hs : s.size ≤ 256) (h0 : part_ (flds (lst s)) 0 = tRoom) (h1 : ¬ (flds (lst s)).length < 2) (d : Bool) (h2 : kindL (part_ (flds (lst s)) 1) = some (1, d)) (h3 : (flds (lst s)).length = 8) (h4 : bodyF (flds (lst s)) 1 = none) (h5 : (capOf (flds (lst s)) 1 d).may) : Calls Tryz.prog 11 #[.string s] w (ParsedPost (lst s) w) := by
  obtain ⟨hcb1, hcb2⟩ := cap_body (by rw [lst_len]; exact hs) h0 h1 h2 h3.symm
  have HFF := hide (show capF (lst s) = none ∧ capC (lst s) = capOf (flds (lst s)) 1 d from ⟨by rw [hcb1, h4]; unfold mayF; rw [if_pos h5]; rfl, hcb2⟩)
  have HH := hide h0
  have HL := hide h1
  have HB4 := hide h4
  have HCW := hide (show (capOf (flds (lst s)) 1 d).wf ∧ (capOf (flds (lst s)) 1 d).in64 from cap_wf1 d h4)
  clear h4
  have HM := hide h5
  clear h5
  have HK := hide h2
  have HL3 := hide h3
  clear h0 h1 h2 h3 hcb1 hcb2
  have HS := hide hs
  obtain ⟨w0, hw0⟩ : ∃ w0, w0 = w.alloc (.cells Tryz.zeroCells34 34) := ⟨_, rfl⟩
  have HW := hide hw0
  have H0 := hide (show Blk w0 w.heap.size 34 Tryz.zeroCells34 ∧ Below w.heap.size w w0 from ⟨by rw [hw0]; exact Blk.new w _ _, by rw [hw0]; exact (Below.refl _ w).alloc (Nat.le_refl _) _⟩)
  have QF := hide (rfields_any s w0 (by omega))
  have i0 : ¬ (256 : Int) < (s.size : Int) := by omega
  clear hw0 hs
  go_enter Tryz.func11, Tryz.ntmps11
  go_wp2_with fail
  rw [← HW.out]
  refine QF.out.mono ?_
  rintro e w1 ⟨v, ts, rfl, ho, hts, b1⟩
  have hpos : 0 < ts.length := by have := flds_pos (lst s); rw [← hts, List.length_map] at this; exact this
  obtain ⟨g, cap, rfl, hg0, hg1⟩ := World.ownsRow.form ho hpos
  have hsm := sm_of hts HS.out
  obtain ⟨x0, hx0⟩ := at_of hpos
  obtain ⟨w2, hw2⟩ : ∃ w2, w2 = w1.alloc (.cells #[.slice (some ⟨g, 0, none⟩) ts.length cap, .int .i64 0, .int .i64 0, .int .i64 0, .int .i64 0] 74) := ⟨_, rfl⟩
  have K2 := hide (show PK w w2 w1.heap.size g cap ts 0 none from by
    have c1 := H0.out.1.below' b1
    have c2 := Below.step H0.out.2 b1
    have al := (Below.refl w1.heap.size w1).alloc (Nat.le_refl _) (.cells #[.slice (some ⟨g, 0, none⟩) ts.length cap, .int .i64 0, .int .i64 0, .int .i64 0, .int .i64 0] 74)
    rw [hw2]
    exact ⟨c1.alloc _, Below.step c2 al, rds_start (Blk.new _ _ _) (ho.alloc _) (by omega), c1.lt⟩)
  have HW2 := hide hw2
  have HTS := hide (And.intro hts hsm)
  have QP := hide (fun W n st x (h : RdS W w1.heap.size g cap ts n st) (hx : ts[n]? = some x) => part_st W w1.heap.size g cap ts n st x h hx hsm)
  have HX0 := hide hx0
  clear ho b1 hg0 hg1 hsm hw2 hx0
  go_wp2_with fail
  rw [← HW2.out]
  refine (QP.out _ 0 none x0 K2.out.rds HX0.out).mono ?_
  rintro e w3 ⟨rfl, r, gr⟩
  have K3 := hide (K2.out.next r gr)
  have hq0 : part_ (flds (lst s)) 0 = lst x0 := by rw [← hts]; exact part_of HX0.out
  have hln : (flds (lst s)).length = ts.length := by rw [← hts, List.length_map]
  clear r gr
  have hx : x0 = ⟨#[115, 116, 114, 111, 110, 103, 114, 111, 111, 109]⟩ := lst_inj (by rw [← hq0, HH.out]; rfl)
  subst hx
  have hrl := K3.out.rds.r.cells
  obtain ⟨rc0, rc1, rc2, rc3, rc4⟩ := hrl
  rw [hln] at HL
  obtain ⟨x1, hx1⟩ := at_of (ts := ts) (j := 1) (by have := HL.out; omega)
  have hq1 : part_ (flds (lst s)) 1 = lst x1 := by rw [← hts]; exact part_of hx1
  have i2 : ¬ (ts.length : Int) < 2 := by have := HL.out; omega
  have HX1 := hide hx1
  have HTL := hide hln
  clear hq0 hln hts hx1 hpos rc1 rc2 rc3 rc4
  go_wp2_with fail
  refine (QP.out _ 1 none x1 K3.out.rds HX1.out).mono ?_
  rintro e w4 ⟨rfl, r, gr⟩
  have K4 := hide (K3.out.next r gr)
  clear r gr rc0
  go_wp2_with fail
  refine (kind_any x1 _).mono ?_
  rintro e w5 ⟨rfl, rfl⟩
  have hkv := HK.out
  rw [hq1] at hkv
  have hkv2 := kindV_of hkv
  rw [hkv2]
  clear hkv hkv2 hq1
  rw [show kindVal (some (1, d)) = .tuple #[.int .u8 1, .bool d, .bool true] from rfl]
  have i3 : ¬ (ts.length : Int) < 8 := by have := HL3.out; have := HTL.out; omega
  have i4 : ¬ (8 : Int) < (ts.length : Int) := by have := HL3.out; have := HTL.out; omega
  have HL4 := hide (show ts.length = 8 from by have := HL3.out; have := HTL.out; omega)
  have rc0 := K4.out.rds.r.cells.1
  obtain ⟨C0, hC0⟩ : ∃ F : Array Value, F = (bare 1 d).cells (.slice none 0 0) := ⟨_, rfl⟩
  have HBD := hide (fun W => build_bare1 d W)
  have QR := hide (fun W (h : RdS W w1.heap.size g cap ts 2 none) => rdread_1 W w1.heap.size g cap ts d h HTS.out.2 HL4.out)
  rw [← hC0] at HBD QR
  clear hC0
  go_wp2_with ((with_reducible change wpList _ _ _ (⟨some 90, _, _, _, _, _⟩ :: _) _ _); refine wpList_yields (by kernel_rfl) (.agg C0) (ex_build 34 _ rfl #[(0, .int .u8 1), (1, .bool d)] (by kernel_rfl) _ (HBD.out _)) ?_)
  refine (QR.out _ K4.out.rds).mono ?_
  rintro e w6 ⟨F, u, rfl, f1, f2, r, gr, hgood⟩
  have K6 := hide (K4.out.next r gr)
  have HF := hide (And.intro f1 f2)
  have HG := hide hgood
  have HGR := hide gr
  clear f1 f2 r gr hgood rc0
  have K6' := hide (show PK w w6 w1.heap.size g cap ts 8 none from by have := K6.out; rw [HTS.out.1, HB4.out] at this; exact this)
  have HG2 := hide (show F = (capOf (flds (lst s)) 1 d).cells u ∧ Own w6 w1.heap.size 5 u (capOf (flds (lst s)) 1 d).lit from by
    have q := HG.out (by rw [HTS.out.1]; exact HB4.out)
    rw [HTS.out.1] at q
    exact ⟨q.1, q.2.lower (by have := K4.out.rds.r.blk.lt; omega)⟩)
  have HCY := hide (show ∀ W', Below w6.heap.size w6 W' → Capy W' F (capOf (flds (lst s)) 1 d) u from fun W' hW' => ⟨HG2.out.1, HCW.out.1, HCW.out.2, (Own.below HG2.out.2 hW').by_⟩)
  have QCK := hide (fun W (h : Capy W F (capOf (flds (lst s)) 1 d) u) => rcheck_cap F _ u W h)
  rw [if_pos HM.out] at QCK
  go_wp2_with first
    | ((with_reducible change wpList _ _ _ (⟨none, .store _ (.tmp 14) _, _, _, _, _⟩ :: _) _ _); go_loud (refine wpList_store_row (o := ⟨none, .store _ (.tmp 14) _, _, _, _, _⟩) (Blk.new w6 34 Tryz.zeroCells34) F (by rw [HF.out.1]; kernel_rfl) HF.out.2 rfl 34 _ _ rfl (by rw [HF.out.1]; kernel_rfl) rfl rfl ?_; intro w7 hb hg; have S7 := hide (show Blk w7 w6.heap.size 34 F ∧ Below w6.heap.size w6 w7 from ⟨hb, (Below.al0 (Below.refl w6.heap.size w6) _).grown hg (by simp) (fun k hk => by injection hk with hk; omega)⟩); clear hb hg; obtain ⟨-, -, -, -, rc4⟩ := (K6'.out.below S7.out.2).rds.r.cells; have rc4' : w7.cell? ⟨w1.heap.size, 4, none⟩ = some (.int .i64 0) := rc4; clear rc4))
    | ((with_reducible change wpList _ _ _ (⟨some 98, _, _, _, _, _⟩ :: _) _ _); refine wpList_yields (by kernel_rfl) (.agg F) (ex_load 34 _ rfl w6.heap.size 0 (by kernel_rfl) F.toList _ (rng_of S7.out.1) Tryz.underlying34 rfl (by rw [Array.length_toList, HF.out.1]; kernel_rfl)) ?_)
  refine (QCK.out _ (HCY.out _ S7.out.2)).mono ?_
  rintro e w8 ⟨rfl, b8⟩
  have K8 := hide ((K6'.out.below S7.out.2).below b8)
  have S8 := hide (show Blk w8 w6.heap.size 34 F ∧ Below w6.heap.size w6 w8 from ⟨S7.out.1.below' b8, Below.step S7.out.2 b8⟩)
  clear rc4' b8
  have rc4 : w8.cell? ⟨w1.heap.size, 4, none⟩ = some (.int .i64 0) := K8.out.rds.r.cells.2.2.2.2
  go_wp2_with first
    | ((with_reducible change wpList _ _ _ (⟨some 118, _, _, _, _, _⟩ :: _) _ _); refine wpList_yields (by kernel_rfl) (.agg F) (ex_load 34 _ rfl w6.heap.size 0 (by kernel_rfl) F.toList _ (rng_of S8.out.1) Tryz.underlying34 rfl (by rw [Array.length_toList, HF.out.1]; kernel_rfl)) ?_)
    | ((with_reducible change wpList _ _ _ (⟨none, .store _ (.tmp 2) _, _, _, _, _⟩ :: _) _ _); go_loud (refine wpList_store_row (o := ⟨none, .store _ (.tmp 2) _, _, _, _, _⟩) K8.out.res F (by rw [HF.out.1]; kernel_rfl) HF.out.2 rfl 34 _ _ rfl (by rw [HF.out.1]; kernel_rfl) rfl rfl ?_; intro w9 hb9 hg9))
  refine bodyPost_ret (res_row2 rfl _ _ w.heap.size 34 F (0, 0) _ rfl hb9 Tryz.underlying34 rfl (by rw [HF.out.1]; kernel_rfl)) rfl ?_
  have hbel := K8.out.bel.grown hg9 K8.out.bel.size fun k hk => (by injection hk with hk; omega)
  refine ⟨hbel, fun _ => ?_, fun a er h => by rw [HFF.out.1] at h; cases h⟩
  have hlt := K8.out.lt
  have ho := Own.keptB (Own.below HG2.out.2 S8.out.2) hg9 hlt
  obtain ⟨A9, c9, rfl, -, -, -⟩ := ho.by_.form
  refine ⟨A9, (capOf (flds (lst s)) 1 d).lit.length, c9, ?_, ?_⟩
  · rw [HFF.out.2, ← HG2.out.1]; rfl
  · rw [HFF.out.2]; exact ho.lower (by omega)
set_option maxRecDepth 100000 in
set_option maxHeartbeats 8000000 in
theorem rparse_bad2 (s : ByteArray) (w : World) (hs : s.size ≤ 256) (h0 : part_ (flds (lst s)) 0 = tRoom) (h1 : ¬ (flds (lst s)).length < 2) (d : Bool) (h2 : kindL (part_ (flds (lst s)) 1) = some (2, d)) (h3 : (flds (lst s)).length = 8) (a er : Nat) (h4 : bodyF (flds (lst s)) 2 = some (a, er)) : Calls Tryz.prog 11 #[.string s] w (ParsedPost (lst s) w) := by
  obtain ⟨hcb1, hcb2⟩ := cap_body (by rw [lst_len]; exact hs) h0 h1 h2 h3.symm
  have HFF := hide (show capF (lst s) = some (a, er) from by rw [hcb1, h4]; rfl)
  have HH := hide h0
  have HL := hide h1
  have HB4 := hide h4
  clear h4
  have HK := hide h2
  have HL3 := hide h3
  clear h0 h1 h2 h3 hcb1 hcb2
  have HS := hide hs
  obtain ⟨w0, hw0⟩ : ∃ w0, w0 = w.alloc (.cells Tryz.zeroCells34 34) := ⟨_, rfl⟩
  have HW := hide hw0
  have H0 := hide (show Blk w0 w.heap.size 34 Tryz.zeroCells34 ∧ Below w.heap.size w w0 from ⟨by rw [hw0]; exact Blk.new w _ _, by rw [hw0]; exact (Below.refl _ w).alloc (Nat.le_refl _) _⟩)
  have QF := hide (rfields_any s w0 (by omega))
  have i0 : ¬ (256 : Int) < (s.size : Int) := by omega
  clear hw0 hs
  go_enter Tryz.func11, Tryz.ntmps11
  go_wp2_with fail
  rw [← HW.out]
  refine QF.out.mono ?_
  rintro e w1 ⟨v, ts, rfl, ho, hts, b1⟩
  have hpos : 0 < ts.length := by have := flds_pos (lst s); rw [← hts, List.length_map] at this; exact this
  obtain ⟨g, cap, rfl, hg0, hg1⟩ := World.ownsRow.form ho hpos
  have hsm := sm_of hts HS.out
  obtain ⟨x0, hx0⟩ := at_of hpos
  obtain ⟨w2, hw2⟩ : ∃ w2, w2 = w1.alloc (.cells #[.slice (some ⟨g, 0, none⟩) ts.length cap, .int .i64 0, .int .i64 0, .int .i64 0, .int .i64 0] 74) := ⟨_, rfl⟩
  have K2 := hide (show PK w w2 w1.heap.size g cap ts 0 none from by
    have c1 := H0.out.1.below' b1
    have c2 := Below.step H0.out.2 b1
    have al := (Below.refl w1.heap.size w1).alloc (Nat.le_refl _) (.cells #[.slice (some ⟨g, 0, none⟩) ts.length cap, .int .i64 0, .int .i64 0, .int .i64 0, .int .i64 0] 74)
    rw [hw2]
    exact ⟨c1.alloc _, Below.step c2 al, rds_start (Blk.new _ _ _) (ho.alloc _) (by omega), c1.lt⟩)
  have HW2 := hide hw2
  have HTS := hide (And.intro hts hsm)
  have QP := hide (fun W n st x (h : RdS W w1.heap.size g cap ts n st) (hx : ts[n]? = some x) => part_st W w1.heap.size g cap ts n st x h hx hsm)
  have HX0 := hide hx0
  clear ho b1 hg0 hg1 hsm hw2 hx0
  go_wp2_with fail
  rw [← HW2.out]
  refine (QP.out _ 0 none x0 K2.out.rds HX0.out).mono ?_
  rintro e w3 ⟨rfl, r, gr⟩
  have K3 := hide (K2.out.next r gr)
  have hq0 : part_ (flds (lst s)) 0 = lst x0 := by rw [← hts]; exact part_of HX0.out
  have hln : (flds (lst s)).length = ts.length := by rw [← hts, List.length_map]
  clear r gr
  have hx : x0 = ⟨#[115, 116, 114, 111, 110, 103, 114, 111, 111, 109]⟩ := lst_inj (by rw [← hq0, HH.out]; rfl)
  subst hx
  have hrl := K3.out.rds.r.cells
  obtain ⟨rc0, rc1, rc2, rc3, rc4⟩ := hrl
  rw [hln] at HL
  obtain ⟨x1, hx1⟩ := at_of (ts := ts) (j := 1) (by have := HL.out; omega)
  have hq1 : part_ (flds (lst s)) 1 = lst x1 := by rw [← hts]; exact part_of hx1
  have i2 : ¬ (ts.length : Int) < 2 := by have := HL.out; omega
  have HX1 := hide hx1
  have HTL := hide hln
  clear hq0 hln hts hx1 hpos rc1 rc2 rc3 rc4
  go_wp2_with fail
  refine (QP.out _ 1 none x1 K3.out.rds HX1.out).mono ?_
  rintro e w4 ⟨rfl, r, gr⟩
  have K4 := hide (K3.out.next r gr)
  clear r gr rc0
  go_wp2_with fail
  refine (kind_any x1 _).mono ?_
  rintro e w5 ⟨rfl, rfl⟩
  have hkv := HK.out
  rw [hq1] at hkv
  have hkv2 := kindV_of hkv
  rw [hkv2]
  clear hkv hkv2 hq1
  rw [show kindVal (some (2, d)) = .tuple #[.int .u8 2, .bool d, .bool true] from rfl]
  have i3 : ¬ (ts.length : Int) < 8 := by have := HL3.out; have := HTL.out; omega
  have i4 : ¬ (8 : Int) < (ts.length : Int) := by have := HL3.out; have := HTL.out; omega
  have HL4 := hide (show ts.length = 8 from by have := HL3.out; have := HTL.out; omega)
  have rc0 := K4.out.rds.r.cells.1
  obtain ⟨C0, hC0⟩ : ∃ F : Array Value, F = (bare 2 d).cells (.slice none 0 0) := ⟨_, rfl⟩
  have HBD := hide (fun W => build_bare2 d W)
  have QR := hide (fun W (h : RdS W w1.heap.size g cap ts 2 none) => rdread_2 W w1.heap.size g cap ts d h HTS.out.2 HL4.out)
  rw [← hC0] at HBD QR
  clear hC0
  go_wp2_with ((with_reducible change wpList _ _ _ (⟨some 90, _, _, _, _, _⟩ :: _) _ _); refine wpList_yields (by kernel_rfl) (.agg C0) (ex_build 34 _ rfl #[(0, .int .u8 2), (1, .bool d)] (by kernel_rfl) _ (HBD.out _)) ?_)
  refine (QR.out _ K4.out.rds).mono ?_
  rintro e w6 ⟨F, u, rfl, f1, f2, r, gr, hgood⟩
  have K6 := hide (K4.out.next r gr)
  have HF := hide (And.intro f1 f2)
  have HG := hide hgood
  have HGR := hide gr
  clear f1 f2 r gr hgood rc0
  have K6' := hide (show PK w w6 w1.heap.size g cap ts 8 (some (a, er)) from by rw [← HB4.out, ← HTS.out.1]; exact K6.out)
  have e9 : ¬ (er : Int) = 0 := by have := K6'.out.rds.nz _ rfl; show ¬ ((er : Nat) : Int) = 0; simp only at this; omega
  go_wp2_with first
    | ((with_reducible change wpList _ _ _ (⟨none, .store _ (.tmp 14) _, _, _, _, _⟩ :: _) _ _); go_loud (refine wpList_store_row (o := ⟨none, .store _ (.tmp 14) _, _, _, _, _⟩) (Blk.new w6 34 Tryz.zeroCells34) F (by rw [HF.out.1]; kernel_rfl) HF.out.2 rfl 34 _ _ rfl (by rw [HF.out.1]; kernel_rfl) rfl rfl ?_; intro w7 hb hg; have S7 := hide (show Blk w7 w6.heap.size 34 F ∧ Below w6.heap.size w6 w7 from ⟨hb, (Below.al0 (Below.refl w6.heap.size w6) _).grown hg (by simp) (fun k hk => by injection hk with hk; omega)⟩); clear hb hg; obtain ⟨-, -, -, rc3, rc4⟩ := (K6'.out.below S7.out.2).rds.r.cells))
  have K7 := hide (K6'.out.below S7.out.2)
  have rc3 : w7.cell? ⟨w1.heap.size, 3, none⟩ = some (.int .i64 (a : Int)) := K7.out.rds.r.cells.2.2.2.1
  have rc4 : w7.cell? ⟨w1.heap.size, 4, none⟩ = some (.int .i64 (er : Int)) := K7.out.rds.r.cells.2.2.2.2
  have HGL := hide (show w1.heap.size ≠ w.heap.size from by have := K7.out.lt; omega)
  have hS : w7.cell? ⟨w1.heap.size, 3, none⟩ = some (.int .i64 (a : Int)) ∧ w7.cell? ⟨w1.heap.size, 4, none⟩ = some (.int .i64 (er : Int)) ∧ w7.there w.heap.size 0 107 := ⟨rc3, rc4, there_of_blk K7.out.res (by kernel_rfl)⟩
  go_wp2_with fail
  go_region_held3 (fun w' => w'.cell? ⟨w1.heap.size, 3, none⟩ = some (.int .i64 (a : Int)) ∧ w'.cell? ⟨w1.heap.size, 4, none⟩ = some (.int .i64 (er : Int)) ∧ w'.there w.heap.size 0 107) (first | with_reducible assumption | (with_reducible refine keepR2 ?_ HGL.out; with_reducible assumption) | (simp only [World.cell?_drew, World.there_drew]; with_reducible assumption)) (fail)
  all_goals
    go_wp2_with fail
    refine bodyPost_ret (res_row2 rfl _ _ w.heap.size 34 Tryz.zeroCells34 (0, 0) _ rfl (blk_fill K7.out.res.drew rfl) Tryz.underlying34 rfl (by kernel_rfl)) rfl ?_
    exact rp_fail HFF.out (K7.out.bel.drew.trans (Lib.below_setCells_w (Nat.le_refl _) _ _ _)) (by rw [← capZ_eq]; rfl)
set_option maxRecDepth 100000 in
set_option maxHeartbeats 8000000 in
theorem rparse_no2 (s : ByteArray) (w : World) (hs : s.size ≤ 256) (h0 : part_ (flds (lst s)) 0 = tRoom) (h1 : ¬ (flds (lst s)).length < 2) (d : Bool) (h2 : kindL (part_ (flds (lst s)) 1) = some (2, d)) (h3 : (flds (lst s)).length = 8) (h4 : bodyF (flds (lst s)) 2 = none) (h5 : ¬ (capOf (flds (lst s)) 2 d).may) : Calls Tryz.prog 11 #[.string s] w (ParsedPost (lst s) w) := by
  obtain ⟨hcb1, hcb2⟩ := cap_body (by rw [lst_len]; exact hs) h0 h1 h2 h3.symm
  have HFF := hide (show capF (lst s) = some (0, 5) from by rw [hcb1, h4]; unfold mayF; rw [if_neg h5]; rfl)
  have HH := hide h0
  have HL := hide h1
  have HB4 := hide h4
  have HCW := hide (show (capOf (flds (lst s)) 2 d).wf ∧ (capOf (flds (lst s)) 2 d).in64 from cap_wf2 d h4)
  clear h4
  have HM := hide h5
  clear h5
  have HK := hide h2
  have HL3 := hide h3
  clear h0 h1 h2 h3 hcb1 hcb2
  have HS := hide hs
  obtain ⟨w0, hw0⟩ : ∃ w0, w0 = w.alloc (.cells Tryz.zeroCells34 34) := ⟨_, rfl⟩
  have HW := hide hw0
  have H0 := hide (show Blk w0 w.heap.size 34 Tryz.zeroCells34 ∧ Below w.heap.size w w0 from ⟨by rw [hw0]; exact Blk.new w _ _, by rw [hw0]; exact (Below.refl _ w).alloc (Nat.le_refl _) _⟩)
  have QF := hide (rfields_any s w0 (by omega))
  have i0 : ¬ (256 : Int) < (s.size : Int) := by omega
  clear hw0 hs
  go_enter Tryz.func11, Tryz.ntmps11
  go_wp2_with fail
  rw [← HW.out]
  refine QF.out.mono ?_
  rintro e w1 ⟨v, ts, rfl, ho, hts, b1⟩
  have hpos : 0 < ts.length := by have := flds_pos (lst s); rw [← hts, List.length_map] at this; exact this
  obtain ⟨g, cap, rfl, hg0, hg1⟩ := World.ownsRow.form ho hpos
  have hsm := sm_of hts HS.out
  obtain ⟨x0, hx0⟩ := at_of hpos
  obtain ⟨w2, hw2⟩ : ∃ w2, w2 = w1.alloc (.cells #[.slice (some ⟨g, 0, none⟩) ts.length cap, .int .i64 0, .int .i64 0, .int .i64 0, .int .i64 0] 74) := ⟨_, rfl⟩
  have K2 := hide (show PK w w2 w1.heap.size g cap ts 0 none from by
    have c1 := H0.out.1.below' b1
    have c2 := Below.step H0.out.2 b1
    have al := (Below.refl w1.heap.size w1).alloc (Nat.le_refl _) (.cells #[.slice (some ⟨g, 0, none⟩) ts.length cap, .int .i64 0, .int .i64 0, .int .i64 0, .int .i64 0] 74)
    rw [hw2]
    exact ⟨c1.alloc _, Below.step c2 al, rds_start (Blk.new _ _ _) (ho.alloc _) (by omega), c1.lt⟩)
  have HW2 := hide hw2
  have HTS := hide (And.intro hts hsm)
  have QP := hide (fun W n st x (h : RdS W w1.heap.size g cap ts n st) (hx : ts[n]? = some x) => part_st W w1.heap.size g cap ts n st x h hx hsm)
  have HX0 := hide hx0
  clear ho b1 hg0 hg1 hsm hw2 hx0
  go_wp2_with fail
  rw [← HW2.out]
  refine (QP.out _ 0 none x0 K2.out.rds HX0.out).mono ?_
  rintro e w3 ⟨rfl, r, gr⟩
  have K3 := hide (K2.out.next r gr)
  have hq0 : part_ (flds (lst s)) 0 = lst x0 := by rw [← hts]; exact part_of HX0.out
  have hln : (flds (lst s)).length = ts.length := by rw [← hts, List.length_map]
  clear r gr
  have hx : x0 = ⟨#[115, 116, 114, 111, 110, 103, 114, 111, 111, 109]⟩ := lst_inj (by rw [← hq0, HH.out]; rfl)
  subst hx
  have hrl := K3.out.rds.r.cells
  obtain ⟨rc0, rc1, rc2, rc3, rc4⟩ := hrl
  rw [hln] at HL
  obtain ⟨x1, hx1⟩ := at_of (ts := ts) (j := 1) (by have := HL.out; omega)
  have hq1 : part_ (flds (lst s)) 1 = lst x1 := by rw [← hts]; exact part_of hx1
  have i2 : ¬ (ts.length : Int) < 2 := by have := HL.out; omega
  have HX1 := hide hx1
  have HTL := hide hln
  clear hq0 hln hts hx1 hpos rc1 rc2 rc3 rc4
  go_wp2_with fail
  refine (QP.out _ 1 none x1 K3.out.rds HX1.out).mono ?_
  rintro e w4 ⟨rfl, r, gr⟩
  have K4 := hide (K3.out.next r gr)
  clear r gr rc0
  go_wp2_with fail
  refine (kind_any x1 _).mono ?_
  rintro e w5 ⟨rfl, rfl⟩
  have hkv := HK.out
  rw [hq1] at hkv
  have hkv2 := kindV_of hkv
  rw [hkv2]
  clear hkv hkv2 hq1
  rw [show kindVal (some (2, d)) = .tuple #[.int .u8 2, .bool d, .bool true] from rfl]
  have i3 : ¬ (ts.length : Int) < 8 := by have := HL3.out; have := HTL.out; omega
  have i4 : ¬ (8 : Int) < (ts.length : Int) := by have := HL3.out; have := HTL.out; omega
  have HL4 := hide (show ts.length = 8 from by have := HL3.out; have := HTL.out; omega)
  have rc0 := K4.out.rds.r.cells.1
  obtain ⟨C0, hC0⟩ : ∃ F : Array Value, F = (bare 2 d).cells (.slice none 0 0) := ⟨_, rfl⟩
  have HBD := hide (fun W => build_bare2 d W)
  have QR := hide (fun W (h : RdS W w1.heap.size g cap ts 2 none) => rdread_2 W w1.heap.size g cap ts d h HTS.out.2 HL4.out)
  rw [← hC0] at HBD QR
  clear hC0
  go_wp2_with ((with_reducible change wpList _ _ _ (⟨some 90, _, _, _, _, _⟩ :: _) _ _); refine wpList_yields (by kernel_rfl) (.agg C0) (ex_build 34 _ rfl #[(0, .int .u8 2), (1, .bool d)] (by kernel_rfl) _ (HBD.out _)) ?_)
  refine (QR.out _ K4.out.rds).mono ?_
  rintro e w6 ⟨F, u, rfl, f1, f2, r, gr, hgood⟩
  have K6 := hide (K4.out.next r gr)
  have HF := hide (And.intro f1 f2)
  have HG := hide hgood
  have HGR := hide gr
  clear f1 f2 r gr hgood rc0
  have K6' := hide (show PK w w6 w1.heap.size g cap ts 8 none from by have := K6.out; rw [HTS.out.1, HB4.out] at this; exact this)
  have HG2 := hide (show F = (capOf (flds (lst s)) 2 d).cells u ∧ Own w6 w1.heap.size 5 u (capOf (flds (lst s)) 2 d).lit from by
    have q := HG.out (by rw [HTS.out.1]; exact HB4.out)
    rw [HTS.out.1] at q
    exact ⟨q.1, q.2.lower (by have := K4.out.rds.r.blk.lt; omega)⟩)
  have HCY := hide (show ∀ W', Below w6.heap.size w6 W' → Capy W' F (capOf (flds (lst s)) 2 d) u from fun W' hW' => ⟨HG2.out.1, HCW.out.1, HCW.out.2, (Own.below HG2.out.2 hW').by_⟩)
  have QCK := hide (fun W (h : Capy W F (capOf (flds (lst s)) 2 d) u) => rcheck_cap F _ u W h)
  rw [if_neg HM.out] at QCK
  go_wp2_with first
    | ((with_reducible change wpList _ _ _ (⟨none, .store _ (.tmp 14) _, _, _, _, _⟩ :: _) _ _); go_loud (refine wpList_store_row (o := ⟨none, .store _ (.tmp 14) _, _, _, _, _⟩) (Blk.new w6 34 Tryz.zeroCells34) F (by rw [HF.out.1]; kernel_rfl) HF.out.2 rfl 34 _ _ rfl (by rw [HF.out.1]; kernel_rfl) rfl rfl ?_; intro w7 hb hg; have S7 := hide (show Blk w7 w6.heap.size 34 F ∧ Below w6.heap.size w6 w7 from ⟨hb, (Below.al0 (Below.refl w6.heap.size w6) _).grown hg (by simp) (fun k hk => by injection hk with hk; omega)⟩); clear hb hg; obtain ⟨-, -, -, -, rc4⟩ := (K6'.out.below S7.out.2).rds.r.cells; have rc4' : w7.cell? ⟨w1.heap.size, 4, none⟩ = some (.int .i64 0) := rc4; clear rc4))
    | ((with_reducible change wpList _ _ _ (⟨some 98, _, _, _, _, _⟩ :: _) _ _); refine wpList_yields (by kernel_rfl) (.agg F) (ex_load 34 _ rfl w6.heap.size 0 (by kernel_rfl) F.toList _ (rng_of S7.out.1) Tryz.underlying34 rfl (by rw [Array.length_toList, HF.out.1]; kernel_rfl)) ?_)
  refine (QCK.out _ (HCY.out _ S7.out.2)).mono ?_
  rintro e w8 ⟨rfl, b8⟩
  have K8 := hide ((K6'.out.below S7.out.2).below b8)
  have S8 := hide (show Blk w8 w6.heap.size 34 F ∧ Below w6.heap.size w6 w8 from ⟨S7.out.1.below' b8, Below.step S7.out.2 b8⟩)
  clear rc4' b8
  have QFL := hide (fun_fail w8 w1.heap.size g cap ts 8 K8.out.rds)
  go_wp2_with fail
  refine QFL.out.mono ?_
  rintro e w9 ⟨rfl, r9, g9⟩
  have K9 := hide (K8.out.next r9 g9)
  clear r9 g9
  have rc3 : w9.cell? ⟨w1.heap.size, 3, none⟩ = some (.int .i64 0) := K9.out.rds.r.cells.2.2.2.1
  have rc4 : w9.cell? ⟨w1.heap.size, 4, none⟩ = some (.int .i64 5) := K9.out.rds.r.cells.2.2.2.2
  have HGL := hide (show w1.heap.size ≠ w.heap.size from by have := K9.out.lt; omega)
  have hS : w9.cell? ⟨w1.heap.size, 3, none⟩ = some (.int .i64 0) ∧ w9.cell? ⟨w1.heap.size, 4, none⟩ = some (.int .i64 5) ∧ w9.there w.heap.size 0 107 := ⟨rc3, rc4, there_of_blk K9.out.res (by kernel_rfl)⟩
  go_wp2_with fail
  go_region_held3 (fun w' => w'.cell? ⟨w1.heap.size, 3, none⟩ = some (.int .i64 0) ∧ w'.cell? ⟨w1.heap.size, 4, none⟩ = some (.int .i64 5) ∧ w'.there w.heap.size 0 107) (first | with_reducible assumption | (with_reducible refine keepR2 ?_ HGL.out; with_reducible assumption) | (simp only [World.cell?_drew, World.there_drew]; with_reducible assumption)) (fail)
  all_goals
    go_wp2_with fail
    refine bodyPost_ret (res_row2 rfl _ _ w.heap.size 34 Tryz.zeroCells34 (0, 0) _ rfl (blk_fill K9.out.res.drew rfl) Tryz.underlying34 rfl (by kernel_rfl)) rfl ?_
    exact rp_fail HFF.out (K9.out.bel.drew.trans (Lib.below_setCells_w (Nat.le_refl _) _ _ _)) (by rw [← capZ_eq]; rfl)
set_option maxRecDepth 100000 in
set_option maxHeartbeats 8000000 in
theorem rparse_ok2 (s : ByteArray) (w : World) (hs : s.size ≤ 256) (h0 : part_ (flds (lst s)) 0 = tRoom) (h1 : ¬ (flds (lst s)).length < 2) (d : Bool) (h2 : kindL (part_ (flds (lst s)) 1) = some (2, d)) (h3 : (flds (lst s)).length = 8) (h4 : bodyF (flds (lst s)) 2 = none) (h5 : (capOf (flds (lst s)) 2 d).may) : Calls Tryz.prog 11 #[.string s] w (ParsedPost (lst s) w) := by
  obtain ⟨hcb1, hcb2⟩ := cap_body (by rw [lst_len]; exact hs) h0 h1 h2 h3.symm
  have HFF := hide (show capF (lst s) = none ∧ capC (lst s) = capOf (flds (lst s)) 2 d from ⟨by rw [hcb1, h4]; unfold mayF; rw [if_pos h5]; rfl, hcb2⟩)
  have HH := hide h0
  have HL := hide h1
  have HB4 := hide h4
  have HCW := hide (show (capOf (flds (lst s)) 2 d).wf ∧ (capOf (flds (lst s)) 2 d).in64 from cap_wf2 d h4)
  clear h4
  have HM := hide h5
  clear h5
  have HK := hide h2
  have HL3 := hide h3
  clear h0 h1 h2 h3 hcb1 hcb2
  have HS := hide hs
  obtain ⟨w0, hw0⟩ : ∃ w0, w0 = w.alloc (.cells Tryz.zeroCells34 34) := ⟨_, rfl⟩
  have HW := hide hw0
  have H0 := hide (show Blk w0 w.heap.size 34 Tryz.zeroCells34 ∧ Below w.heap.size w w0 from ⟨by rw [hw0]; exact Blk.new w _ _, by rw [hw0]; exact (Below.refl _ w).alloc (Nat.le_refl _) _⟩)
  have QF := hide (rfields_any s w0 (by omega))
  have i0 : ¬ (256 : Int) < (s.size : Int) := by omega
  clear hw0 hs
  go_enter Tryz.func11, Tryz.ntmps11
  go_wp2_with fail
  rw [← HW.out]
  refine QF.out.mono ?_
  rintro e w1 ⟨v, ts, rfl, ho, hts, b1⟩
  have hpos : 0 < ts.length := by have := flds_pos (lst s); rw [← hts, List.length_map] at this; exact this
  obtain ⟨g, cap, rfl, hg0, hg1⟩ := World.ownsRow.form ho hpos
  have hsm := sm_of hts HS.out
  obtain ⟨x0, hx0⟩ := at_of hpos
  obtain ⟨w2, hw2⟩ : ∃ w2, w2 = w1.alloc (.cells #[.slice (some ⟨g, 0, none⟩) ts.length cap, .int .i64 0, .int .i64 0, .int .i64 0, .int .i64 0] 74) := ⟨_, rfl⟩
  have K2 := hide (show PK w w2 w1.heap.size g cap ts 0 none from by
    have c1 := H0.out.1.below' b1
    have c2 := Below.step H0.out.2 b1
    have al := (Below.refl w1.heap.size w1).alloc (Nat.le_refl _) (.cells #[.slice (some ⟨g, 0, none⟩) ts.length cap, .int .i64 0, .int .i64 0, .int .i64 0, .int .i64 0] 74)
    rw [hw2]
    exact ⟨c1.alloc _, Below.step c2 al, rds_start (Blk.new _ _ _) (ho.alloc _) (by omega), c1.lt⟩)
  have HW2 := hide hw2
  have HTS := hide (And.intro hts hsm)
  have QP := hide (fun W n st x (h : RdS W w1.heap.size g cap ts n st) (hx : ts[n]? = some x) => part_st W w1.heap.size g cap ts n st x h hx hsm)
  have HX0 := hide hx0
  clear ho b1 hg0 hg1 hsm hw2 hx0
  go_wp2_with fail
  rw [← HW2.out]
  refine (QP.out _ 0 none x0 K2.out.rds HX0.out).mono ?_
  rintro e w3 ⟨rfl, r, gr⟩
  have K3 := hide (K2.out.next r gr)
  have hq0 : part_ (flds (lst s)) 0 = lst x0 := by rw [← hts]; exact part_of HX0.out
  have hln : (flds (lst s)).length = ts.length := by rw [← hts, List.length_map]
  clear r gr
  have hx : x0 = ⟨#[115, 116, 114, 111, 110, 103, 114, 111, 111, 109]⟩ := lst_inj (by rw [← hq0, HH.out]; rfl)
  subst hx
  have hrl := K3.out.rds.r.cells
  obtain ⟨rc0, rc1, rc2, rc3, rc4⟩ := hrl
  rw [hln] at HL
  obtain ⟨x1, hx1⟩ := at_of (ts := ts) (j := 1) (by have := HL.out; omega)
  have hq1 : part_ (flds (lst s)) 1 = lst x1 := by rw [← hts]; exact part_of hx1
  have i2 : ¬ (ts.length : Int) < 2 := by have := HL.out; omega
  have HX1 := hide hx1
  have HTL := hide hln
  clear hq0 hln hts hx1 hpos rc1 rc2 rc3 rc4
  go_wp2_with fail
  refine (QP.out _ 1 none x1 K3.out.rds HX1.out).mono ?_
  rintro e w4 ⟨rfl, r, gr⟩
  have K4 := hide (K3.out.next r gr)
  clear r gr rc0
  go_wp2_with fail
  refine (kind_any x1 _).mono ?_
  rintro e w5 ⟨rfl, rfl⟩
  have hkv := HK.out
  rw [hq1] at hkv
  have hkv2 := kindV_of hkv
  rw [hkv2]
  clear hkv hkv2 hq1
  rw [show kindVal (some (2, d)) = .tuple #[.int .u8 2, .bool d, .bool true] from rfl]
  have i3 : ¬ (ts.length : Int) < 8 := by have := HL3.out; have := HTL.out; omega
  have i4 : ¬ (8 : Int) < (ts.length : Int) := by have := HL3.out; have := HTL.out; omega
  have HL4 := hide (show ts.length = 8 from by have := HL3.out; have := HTL.out; omega)
  have rc0 := K4.out.rds.r.cells.1
  obtain ⟨C0, hC0⟩ : ∃ F : Array Value, F = (bare 2 d).cells (.slice none 0 0) := ⟨_, rfl⟩
  have HBD := hide (fun W => build_bare2 d W)
  have QR := hide (fun W (h : RdS W w1.heap.size g cap ts 2 none) => rdread_2 W w1.heap.size g cap ts d h HTS.out.2 HL4.out)
  rw [← hC0] at HBD QR
  clear hC0
  go_wp2_with ((with_reducible change wpList _ _ _ (⟨some 90, _, _, _, _, _⟩ :: _) _ _); refine wpList_yields (by kernel_rfl) (.agg C0) (ex_build 34 _ rfl #[(0, .int .u8 2), (1, .bool d)] (by kernel_rfl) _ (HBD.out _)) ?_)
  refine (QR.out _ K4.out.rds).mono ?_
  rintro e w6 ⟨F, u, rfl, f1, f2, r, gr, hgood⟩
  have K6 := hide (K4.out.next r gr)
  have HF := hide (And.intro f1 f2)
  have HG := hide hgood
  have HGR := hide gr
  clear f1 f2 r gr hgood rc0
  have K6' := hide (show PK w w6 w1.heap.size g cap ts 8 none from by have := K6.out; rw [HTS.out.1, HB4.out] at this; exact this)
  have HG2 := hide (show F = (capOf (flds (lst s)) 2 d).cells u ∧ Own w6 w1.heap.size 5 u (capOf (flds (lst s)) 2 d).lit from by
    have q := HG.out (by rw [HTS.out.1]; exact HB4.out)
    rw [HTS.out.1] at q
    exact ⟨q.1, q.2.lower (by have := K4.out.rds.r.blk.lt; omega)⟩)
  have HCY := hide (show ∀ W', Below w6.heap.size w6 W' → Capy W' F (capOf (flds (lst s)) 2 d) u from fun W' hW' => ⟨HG2.out.1, HCW.out.1, HCW.out.2, (Own.below HG2.out.2 hW').by_⟩)
  have QCK := hide (fun W (h : Capy W F (capOf (flds (lst s)) 2 d) u) => rcheck_cap F _ u W h)
  rw [if_pos HM.out] at QCK
  go_wp2_with first
    | ((with_reducible change wpList _ _ _ (⟨none, .store _ (.tmp 14) _, _, _, _, _⟩ :: _) _ _); go_loud (refine wpList_store_row (o := ⟨none, .store _ (.tmp 14) _, _, _, _, _⟩) (Blk.new w6 34 Tryz.zeroCells34) F (by rw [HF.out.1]; kernel_rfl) HF.out.2 rfl 34 _ _ rfl (by rw [HF.out.1]; kernel_rfl) rfl rfl ?_; intro w7 hb hg; have S7 := hide (show Blk w7 w6.heap.size 34 F ∧ Below w6.heap.size w6 w7 from ⟨hb, (Below.al0 (Below.refl w6.heap.size w6) _).grown hg (by simp) (fun k hk => by injection hk with hk; omega)⟩); clear hb hg; obtain ⟨-, -, -, -, rc4⟩ := (K6'.out.below S7.out.2).rds.r.cells; have rc4' : w7.cell? ⟨w1.heap.size, 4, none⟩ = some (.int .i64 0) := rc4; clear rc4))
    | ((with_reducible change wpList _ _ _ (⟨some 98, _, _, _, _, _⟩ :: _) _ _); refine wpList_yields (by kernel_rfl) (.agg F) (ex_load 34 _ rfl w6.heap.size 0 (by kernel_rfl) F.toList _ (rng_of S7.out.1) Tryz.underlying34 rfl (by rw [Array.length_toList, HF.out.1]; kernel_rfl)) ?_)
  refine (QCK.out _ (HCY.out _ S7.out.2)).mono ?_
  rintro e w8 ⟨rfl, b8⟩
  have K8 := hide ((K6'.out.below S7.out.2).below b8)
  have S8 := hide (show Blk w8 w6.heap.size 34 F ∧ Below w6.heap.size w6 w8 from ⟨S7.out.1.below' b8, Below.step S7.out.2 b8⟩)
  clear rc4' b8
  have rc4 : w8.cell? ⟨w1.heap.size, 4, none⟩ = some (.int .i64 0) := K8.out.rds.r.cells.2.2.2.2
  go_wp2_with first
    | ((with_reducible change wpList _ _ _ (⟨some 118, _, _, _, _, _⟩ :: _) _ _); refine wpList_yields (by kernel_rfl) (.agg F) (ex_load 34 _ rfl w6.heap.size 0 (by kernel_rfl) F.toList _ (rng_of S8.out.1) Tryz.underlying34 rfl (by rw [Array.length_toList, HF.out.1]; kernel_rfl)) ?_)
    | ((with_reducible change wpList _ _ _ (⟨none, .store _ (.tmp 2) _, _, _, _, _⟩ :: _) _ _); go_loud (refine wpList_store_row (o := ⟨none, .store _ (.tmp 2) _, _, _, _, _⟩) K8.out.res F (by rw [HF.out.1]; kernel_rfl) HF.out.2 rfl 34 _ _ rfl (by rw [HF.out.1]; kernel_rfl) rfl rfl ?_; intro w9 hb9 hg9))
  refine bodyPost_ret (res_row2 rfl _ _ w.heap.size 34 F (0, 0) _ rfl hb9 Tryz.underlying34 rfl (by rw [HF.out.1]; kernel_rfl)) rfl ?_
  have hbel := K8.out.bel.grown hg9 K8.out.bel.size fun k hk => (by injection hk with hk; omega)
  refine ⟨hbel, fun _ => ?_, fun a er h => by rw [HFF.out.1] at h; cases h⟩
  have hlt := K8.out.lt
  have ho := Own.keptB (Own.below HG2.out.2 S8.out.2) hg9 hlt
  obtain ⟨A9, c9, rfl, -, -, -⟩ := ho.by_.form
  refine ⟨A9, (capOf (flds (lst s)) 2 d).lit.length, c9, ?_, ?_⟩
  · rw [HFF.out.2, ← HG2.out.1]; rfl
  · rw [HFF.out.2]; exact ho.lower (by omega)
set_option maxRecDepth 100000 in
set_option maxHeartbeats 8000000 in
theorem rparse_bad3 (s : ByteArray) (w : World) (hs : s.size ≤ 256) (h0 : part_ (flds (lst s)) 0 = tRoom) (h1 : ¬ (flds (lst s)).length < 2) (d : Bool) (h2 : kindL (part_ (flds (lst s)) 1) = some (3, d)) (h3 : (flds (lst s)).length = 3) (a er : Nat) (h4 : bodyF (flds (lst s)) 3 = some (a, er)) : Calls Tryz.prog 11 #[.string s] w (ParsedPost (lst s) w) := by
  obtain ⟨hcb1, hcb2⟩ := cap_body (by rw [lst_len]; exact hs) h0 h1 h2 h3.symm
  have HFF := hide (show capF (lst s) = some (a, er) from by rw [hcb1, h4]; rfl)
  have HH := hide h0
  have HL := hide h1
  have HB4 := hide h4
  clear h4
  have HK := hide h2
  have HL3 := hide h3
  clear h0 h1 h2 h3 hcb1 hcb2
  have HS := hide hs
  obtain ⟨w0, hw0⟩ : ∃ w0, w0 = w.alloc (.cells Tryz.zeroCells34 34) := ⟨_, rfl⟩
  have HW := hide hw0
  have H0 := hide (show Blk w0 w.heap.size 34 Tryz.zeroCells34 ∧ Below w.heap.size w w0 from ⟨by rw [hw0]; exact Blk.new w _ _, by rw [hw0]; exact (Below.refl _ w).alloc (Nat.le_refl _) _⟩)
  have QF := hide (rfields_any s w0 (by omega))
  have i0 : ¬ (256 : Int) < (s.size : Int) := by omega
  clear hw0 hs
  go_enter Tryz.func11, Tryz.ntmps11
  go_wp2_with fail
  rw [← HW.out]
  refine QF.out.mono ?_
  rintro e w1 ⟨v, ts, rfl, ho, hts, b1⟩
  have hpos : 0 < ts.length := by have := flds_pos (lst s); rw [← hts, List.length_map] at this; exact this
  obtain ⟨g, cap, rfl, hg0, hg1⟩ := World.ownsRow.form ho hpos
  have hsm := sm_of hts HS.out
  obtain ⟨x0, hx0⟩ := at_of hpos
  obtain ⟨w2, hw2⟩ : ∃ w2, w2 = w1.alloc (.cells #[.slice (some ⟨g, 0, none⟩) ts.length cap, .int .i64 0, .int .i64 0, .int .i64 0, .int .i64 0] 74) := ⟨_, rfl⟩
  have K2 := hide (show PK w w2 w1.heap.size g cap ts 0 none from by
    have c1 := H0.out.1.below' b1
    have c2 := Below.step H0.out.2 b1
    have al := (Below.refl w1.heap.size w1).alloc (Nat.le_refl _) (.cells #[.slice (some ⟨g, 0, none⟩) ts.length cap, .int .i64 0, .int .i64 0, .int .i64 0, .int .i64 0] 74)
    rw [hw2]
    exact ⟨c1.alloc _, Below.step c2 al, rds_start (Blk.new _ _ _) (ho.alloc _) (by omega), c1.lt⟩)
  have HW2 := hide hw2
  have HTS := hide (And.intro hts hsm)
  have QP := hide (fun W n st x (h : RdS W w1.heap.size g cap ts n st) (hx : ts[n]? = some x) => part_st W w1.heap.size g cap ts n st x h hx hsm)
  have HX0 := hide hx0
  clear ho b1 hg0 hg1 hsm hw2 hx0
  go_wp2_with fail
  rw [← HW2.out]
  refine (QP.out _ 0 none x0 K2.out.rds HX0.out).mono ?_
  rintro e w3 ⟨rfl, r, gr⟩
  have K3 := hide (K2.out.next r gr)
  have hq0 : part_ (flds (lst s)) 0 = lst x0 := by rw [← hts]; exact part_of HX0.out
  have hln : (flds (lst s)).length = ts.length := by rw [← hts, List.length_map]
  clear r gr
  have hx : x0 = ⟨#[115, 116, 114, 111, 110, 103, 114, 111, 111, 109]⟩ := lst_inj (by rw [← hq0, HH.out]; rfl)
  subst hx
  have hrl := K3.out.rds.r.cells
  obtain ⟨rc0, rc1, rc2, rc3, rc4⟩ := hrl
  rw [hln] at HL
  obtain ⟨x1, hx1⟩ := at_of (ts := ts) (j := 1) (by have := HL.out; omega)
  have hq1 : part_ (flds (lst s)) 1 = lst x1 := by rw [← hts]; exact part_of hx1
  have i2 : ¬ (ts.length : Int) < 2 := by have := HL.out; omega
  have HX1 := hide hx1
  have HTL := hide hln
  clear hq0 hln hts hx1 hpos rc1 rc2 rc3 rc4
  go_wp2_with fail
  refine (QP.out _ 1 none x1 K3.out.rds HX1.out).mono ?_
  rintro e w4 ⟨rfl, r, gr⟩
  have K4 := hide (K3.out.next r gr)
  clear r gr rc0
  go_wp2_with fail
  refine (kind_any x1 _).mono ?_
  rintro e w5 ⟨rfl, rfl⟩
  have hkv := HK.out
  rw [hq1] at hkv
  have hkv2 := kindV_of hkv
  rw [hkv2]
  clear hkv hkv2 hq1
  rw [show kindVal (some (3, d)) = .tuple #[.int .u8 3, .bool d, .bool true] from rfl]
  have i3 : ¬ (ts.length : Int) < 3 := by have := HL3.out; have := HTL.out; omega
  have i4 : ¬ (3 : Int) < (ts.length : Int) := by have := HL3.out; have := HTL.out; omega
  have HL4 := hide (show ts.length = 3 from by have := HL3.out; have := HTL.out; omega)
  have rc0 := K4.out.rds.r.cells.1
  obtain ⟨C0, hC0⟩ : ∃ F : Array Value, F = (bare 3 d).cells (.slice none 0 0) := ⟨_, rfl⟩
  have HBD := hide (fun W => build_bare3 d W)
  have QR := hide (fun W (h : RdS W w1.heap.size g cap ts 2 none) => rdread_lit W w1.heap.size g cap ts d h HTS.out.2 HL4.out)
  rw [← hC0] at HBD QR
  clear hC0
  go_wp2_with ((with_reducible change wpList _ _ _ (⟨some 90, _, _, _, _, _⟩ :: _) _ _); refine wpList_yields (by kernel_rfl) (.agg C0) (ex_build 34 _ rfl #[(0, .int .u8 3), (1, .bool d)] (by kernel_rfl) _ (HBD.out _)) ?_)
  refine (QR.out _ K4.out.rds).mono ?_
  rintro e w6 ⟨F, u, rfl, f1, f2, r, gr, hgood⟩
  have K6 := hide (K4.out.next r gr)
  have HF := hide (And.intro f1 f2)
  have HG := hide hgood
  have HGR := hide gr
  clear f1 f2 r gr hgood rc0
  have K6' := hide (show PK w w6 w1.heap.size g cap ts 3 (some (a, er)) from by rw [← HB4.out, ← HTS.out.1]; exact K6.out)
  have e9 : ¬ (er : Int) = 0 := by have := K6'.out.rds.nz _ rfl; show ¬ ((er : Nat) : Int) = 0; simp only at this; omega
  go_wp2_with first
    | ((with_reducible change wpList _ _ _ (⟨none, .store _ (.tmp 14) _, _, _, _, _⟩ :: _) _ _); go_loud (refine wpList_store_row (o := ⟨none, .store _ (.tmp 14) _, _, _, _, _⟩) (Blk.new w6 34 Tryz.zeroCells34) F (by rw [HF.out.1]; kernel_rfl) HF.out.2 rfl 34 _ _ rfl (by rw [HF.out.1]; kernel_rfl) rfl rfl ?_; intro w7 hb hg; have S7 := hide (show Blk w7 w6.heap.size 34 F ∧ Below w6.heap.size w6 w7 from ⟨hb, (Below.al0 (Below.refl w6.heap.size w6) _).grown hg (by simp) (fun k hk => by injection hk with hk; omega)⟩); clear hb hg; obtain ⟨-, -, -, rc3, rc4⟩ := (K6'.out.below S7.out.2).rds.r.cells))
  have K7 := hide (K6'.out.below S7.out.2)
  have rc3 : w7.cell? ⟨w1.heap.size, 3, none⟩ = some (.int .i64 (a : Int)) := K7.out.rds.r.cells.2.2.2.1
  have rc4 : w7.cell? ⟨w1.heap.size, 4, none⟩ = some (.int .i64 (er : Int)) := K7.out.rds.r.cells.2.2.2.2
  have HGL := hide (show w1.heap.size ≠ w.heap.size from by have := K7.out.lt; omega)
  have hS : w7.cell? ⟨w1.heap.size, 3, none⟩ = some (.int .i64 (a : Int)) ∧ w7.cell? ⟨w1.heap.size, 4, none⟩ = some (.int .i64 (er : Int)) ∧ w7.there w.heap.size 0 107 := ⟨rc3, rc4, there_of_blk K7.out.res (by kernel_rfl)⟩
  go_wp2_with fail
  go_region_held3 (fun w' => w'.cell? ⟨w1.heap.size, 3, none⟩ = some (.int .i64 (a : Int)) ∧ w'.cell? ⟨w1.heap.size, 4, none⟩ = some (.int .i64 (er : Int)) ∧ w'.there w.heap.size 0 107) (first | with_reducible assumption | (with_reducible refine keepR2 ?_ HGL.out; with_reducible assumption) | (simp only [World.cell?_drew, World.there_drew]; with_reducible assumption)) (fail)
  all_goals
    go_wp2_with fail
    refine bodyPost_ret (res_row2 rfl _ _ w.heap.size 34 Tryz.zeroCells34 (0, 0) _ rfl (blk_fill K7.out.res.drew rfl) Tryz.underlying34 rfl (by kernel_rfl)) rfl ?_
    exact rp_fail HFF.out (K7.out.bel.drew.trans (Lib.below_setCells_w (Nat.le_refl _) _ _ _)) (by rw [← capZ_eq]; rfl)
set_option maxRecDepth 100000 in
set_option maxHeartbeats 8000000 in
theorem rparse_no3 (s : ByteArray) (w : World) (hs : s.size ≤ 256) (h0 : part_ (flds (lst s)) 0 = tRoom) (h1 : ¬ (flds (lst s)).length < 2) (d : Bool) (h2 : kindL (part_ (flds (lst s)) 1) = some (3, d)) (h3 : (flds (lst s)).length = 3) (h4 : bodyF (flds (lst s)) 3 = none) (h5 : ¬ (capOf (flds (lst s)) 3 d).may) : Calls Tryz.prog 11 #[.string s] w (ParsedPost (lst s) w) := by
  obtain ⟨hcb1, hcb2⟩ := cap_body (by rw [lst_len]; exact hs) h0 h1 h2 h3.symm
  have HFF := hide (show capF (lst s) = some (0, 5) from by rw [hcb1, h4]; unfold mayF; rw [if_neg h5]; rfl)
  have HH := hide h0
  have HL := hide h1
  have HB4 := hide h4
  have HCW := hide (show (capOf (flds (lst s)) 3 d).wf ∧ (capOf (flds (lst s)) 3 d).in64 from cap_wf3 d h4)
  clear h4
  have HM := hide h5
  clear h5
  have HK := hide h2
  have HL3 := hide h3
  clear h0 h1 h2 h3 hcb1 hcb2
  have HS := hide hs
  obtain ⟨w0, hw0⟩ : ∃ w0, w0 = w.alloc (.cells Tryz.zeroCells34 34) := ⟨_, rfl⟩
  have HW := hide hw0
  have H0 := hide (show Blk w0 w.heap.size 34 Tryz.zeroCells34 ∧ Below w.heap.size w w0 from ⟨by rw [hw0]; exact Blk.new w _ _, by rw [hw0]; exact (Below.refl _ w).alloc (Nat.le_refl _) _⟩)
  have QF := hide (rfields_any s w0 (by omega))
  have i0 : ¬ (256 : Int) < (s.size : Int) := by omega
  clear hw0 hs
  go_enter Tryz.func11, Tryz.ntmps11
  go_wp2_with fail
  rw [← HW.out]
  refine QF.out.mono ?_
  rintro e w1 ⟨v, ts, rfl, ho, hts, b1⟩
  have hpos : 0 < ts.length := by have := flds_pos (lst s); rw [← hts, List.length_map] at this; exact this
  obtain ⟨g, cap, rfl, hg0, hg1⟩ := World.ownsRow.form ho hpos
  have hsm := sm_of hts HS.out
  obtain ⟨x0, hx0⟩ := at_of hpos
  obtain ⟨w2, hw2⟩ : ∃ w2, w2 = w1.alloc (.cells #[.slice (some ⟨g, 0, none⟩) ts.length cap, .int .i64 0, .int .i64 0, .int .i64 0, .int .i64 0] 74) := ⟨_, rfl⟩
  have K2 := hide (show PK w w2 w1.heap.size g cap ts 0 none from by
    have c1 := H0.out.1.below' b1
    have c2 := Below.step H0.out.2 b1
    have al := (Below.refl w1.heap.size w1).alloc (Nat.le_refl _) (.cells #[.slice (some ⟨g, 0, none⟩) ts.length cap, .int .i64 0, .int .i64 0, .int .i64 0, .int .i64 0] 74)
    rw [hw2]
    exact ⟨c1.alloc _, Below.step c2 al, rds_start (Blk.new _ _ _) (ho.alloc _) (by omega), c1.lt⟩)
  have HW2 := hide hw2
  have HTS := hide (And.intro hts hsm)
  have QP := hide (fun W n st x (h : RdS W w1.heap.size g cap ts n st) (hx : ts[n]? = some x) => part_st W w1.heap.size g cap ts n st x h hx hsm)
  have HX0 := hide hx0
  clear ho b1 hg0 hg1 hsm hw2 hx0
  go_wp2_with fail
  rw [← HW2.out]
  refine (QP.out _ 0 none x0 K2.out.rds HX0.out).mono ?_
  rintro e w3 ⟨rfl, r, gr⟩
  have K3 := hide (K2.out.next r gr)
  have hq0 : part_ (flds (lst s)) 0 = lst x0 := by rw [← hts]; exact part_of HX0.out
  have hln : (flds (lst s)).length = ts.length := by rw [← hts, List.length_map]
  clear r gr
  have hx : x0 = ⟨#[115, 116, 114, 111, 110, 103, 114, 111, 111, 109]⟩ := lst_inj (by rw [← hq0, HH.out]; rfl)
  subst hx
  have hrl := K3.out.rds.r.cells
  obtain ⟨rc0, rc1, rc2, rc3, rc4⟩ := hrl
  rw [hln] at HL
  obtain ⟨x1, hx1⟩ := at_of (ts := ts) (j := 1) (by have := HL.out; omega)
  have hq1 : part_ (flds (lst s)) 1 = lst x1 := by rw [← hts]; exact part_of hx1
  have i2 : ¬ (ts.length : Int) < 2 := by have := HL.out; omega
  have HX1 := hide hx1
  have HTL := hide hln
  clear hq0 hln hts hx1 hpos rc1 rc2 rc3 rc4
  go_wp2_with fail
  refine (QP.out _ 1 none x1 K3.out.rds HX1.out).mono ?_
  rintro e w4 ⟨rfl, r, gr⟩
  have K4 := hide (K3.out.next r gr)
  clear r gr rc0
  go_wp2_with fail
  refine (kind_any x1 _).mono ?_
  rintro e w5 ⟨rfl, rfl⟩
  have hkv := HK.out
  rw [hq1] at hkv
  have hkv2 := kindV_of hkv
  rw [hkv2]
  clear hkv hkv2 hq1
  rw [show kindVal (some (3, d)) = .tuple #[.int .u8 3, .bool d, .bool true] from rfl]
  have i3 : ¬ (ts.length : Int) < 3 := by have := HL3.out; have := HTL.out; omega
  have i4 : ¬ (3 : Int) < (ts.length : Int) := by have := HL3.out; have := HTL.out; omega
  have HL4 := hide (show ts.length = 3 from by have := HL3.out; have := HTL.out; omega)
  have rc0 := K4.out.rds.r.cells.1
  obtain ⟨C0, hC0⟩ : ∃ F : Array Value, F = (bare 3 d).cells (.slice none 0 0) := ⟨_, rfl⟩
  have HBD := hide (fun W => build_bare3 d W)
  have QR := hide (fun W (h : RdS W w1.heap.size g cap ts 2 none) => rdread_lit W w1.heap.size g cap ts d h HTS.out.2 HL4.out)
  rw [← hC0] at HBD QR
  clear hC0
  go_wp2_with ((with_reducible change wpList _ _ _ (⟨some 90, _, _, _, _, _⟩ :: _) _ _); refine wpList_yields (by kernel_rfl) (.agg C0) (ex_build 34 _ rfl #[(0, .int .u8 3), (1, .bool d)] (by kernel_rfl) _ (HBD.out _)) ?_)
  refine (QR.out _ K4.out.rds).mono ?_
  rintro e w6 ⟨F, u, rfl, f1, f2, r, gr, hgood⟩
  have K6 := hide (K4.out.next r gr)
  have HF := hide (And.intro f1 f2)
  have HG := hide hgood
  have HGR := hide gr
  clear f1 f2 r gr hgood rc0
  have K6' := hide (show PK w w6 w1.heap.size g cap ts 3 none from by have := K6.out; rw [HTS.out.1, HB4.out] at this; exact this)
  have HG2 := hide (show F = (capOf (flds (lst s)) 3 d).cells u ∧ Own w6 w1.heap.size 5 u (capOf (flds (lst s)) 3 d).lit from by
    have q := HG.out (by rw [HTS.out.1]; exact HB4.out)
    rw [HTS.out.1] at q
    exact ⟨q.1, q.2.lower (by have := K4.out.rds.r.blk.lt; omega)⟩)
  have HCY := hide (show ∀ W', Below w6.heap.size w6 W' → Capy W' F (capOf (flds (lst s)) 3 d) u from fun W' hW' => ⟨HG2.out.1, HCW.out.1, HCW.out.2, (Own.below HG2.out.2 hW').by_⟩)
  have QCK := hide (fun W (h : Capy W F (capOf (flds (lst s)) 3 d) u) => rcheck_cap F _ u W h)
  rw [if_neg HM.out] at QCK
  go_wp2_with first
    | ((with_reducible change wpList _ _ _ (⟨none, .store _ (.tmp 14) _, _, _, _, _⟩ :: _) _ _); go_loud (refine wpList_store_row (o := ⟨none, .store _ (.tmp 14) _, _, _, _, _⟩) (Blk.new w6 34 Tryz.zeroCells34) F (by rw [HF.out.1]; kernel_rfl) HF.out.2 rfl 34 _ _ rfl (by rw [HF.out.1]; kernel_rfl) rfl rfl ?_; intro w7 hb hg; have S7 := hide (show Blk w7 w6.heap.size 34 F ∧ Below w6.heap.size w6 w7 from ⟨hb, (Below.al0 (Below.refl w6.heap.size w6) _).grown hg (by simp) (fun k hk => by injection hk with hk; omega)⟩); clear hb hg; obtain ⟨-, -, -, -, rc4⟩ := (K6'.out.below S7.out.2).rds.r.cells; have rc4' : w7.cell? ⟨w1.heap.size, 4, none⟩ = some (.int .i64 0) := rc4; clear rc4))
    | ((with_reducible change wpList _ _ _ (⟨some 98, _, _, _, _, _⟩ :: _) _ _); refine wpList_yields (by kernel_rfl) (.agg F) (ex_load 34 _ rfl w6.heap.size 0 (by kernel_rfl) F.toList _ (rng_of S7.out.1) Tryz.underlying34 rfl (by rw [Array.length_toList, HF.out.1]; kernel_rfl)) ?_)
  refine (QCK.out _ (HCY.out _ S7.out.2)).mono ?_
  rintro e w8 ⟨rfl, b8⟩
  have K8 := hide ((K6'.out.below S7.out.2).below b8)
  have S8 := hide (show Blk w8 w6.heap.size 34 F ∧ Below w6.heap.size w6 w8 from ⟨S7.out.1.below' b8, Below.step S7.out.2 b8⟩)
  clear rc4' b8
  have QFL := hide (fun_fail w8 w1.heap.size g cap ts 3 K8.out.rds)
  go_wp2_with fail
  refine QFL.out.mono ?_
  rintro e w9 ⟨rfl, r9, g9⟩
  have K9 := hide (K8.out.next r9 g9)
  clear r9 g9
  have rc3 : w9.cell? ⟨w1.heap.size, 3, none⟩ = some (.int .i64 0) := K9.out.rds.r.cells.2.2.2.1
  have rc4 : w9.cell? ⟨w1.heap.size, 4, none⟩ = some (.int .i64 5) := K9.out.rds.r.cells.2.2.2.2
  have HGL := hide (show w1.heap.size ≠ w.heap.size from by have := K9.out.lt; omega)
  have hS : w9.cell? ⟨w1.heap.size, 3, none⟩ = some (.int .i64 0) ∧ w9.cell? ⟨w1.heap.size, 4, none⟩ = some (.int .i64 5) ∧ w9.there w.heap.size 0 107 := ⟨rc3, rc4, there_of_blk K9.out.res (by kernel_rfl)⟩
  go_wp2_with fail
  go_region_held3 (fun w' => w'.cell? ⟨w1.heap.size, 3, none⟩ = some (.int .i64 0) ∧ w'.cell? ⟨w1.heap.size, 4, none⟩ = some (.int .i64 5) ∧ w'.there w.heap.size 0 107) (first | with_reducible assumption | (with_reducible refine keepR2 ?_ HGL.out; with_reducible assumption) | (simp only [World.cell?_drew, World.there_drew]; with_reducible assumption)) (fail)
  all_goals
    go_wp2_with fail
    refine bodyPost_ret (res_row2 rfl _ _ w.heap.size 34 Tryz.zeroCells34 (0, 0) _ rfl (blk_fill K9.out.res.drew rfl) Tryz.underlying34 rfl (by kernel_rfl)) rfl ?_
    exact rp_fail HFF.out (K9.out.bel.drew.trans (Lib.below_setCells_w (Nat.le_refl _) _ _ _)) (by rw [← capZ_eq]; rfl)
set_option maxRecDepth 100000 in
set_option maxHeartbeats 8000000 in
theorem rparse_ok3 (s : ByteArray) (w : World) (hs : s.size ≤ 256) (h0 : part_ (flds (lst s)) 0 = tRoom) (h1 : ¬ (flds (lst s)).length < 2) (d : Bool) (h2 : kindL (part_ (flds (lst s)) 1) = some (3, d)) (h3 : (flds (lst s)).length = 3) (h4 : bodyF (flds (lst s)) 3 = none) (h5 : (capOf (flds (lst s)) 3 d).may) : Calls Tryz.prog 11 #[.string s] w (ParsedPost (lst s) w) := by
  obtain ⟨hcb1, hcb2⟩ := cap_body (by rw [lst_len]; exact hs) h0 h1 h2 h3.symm
  have HFF := hide (show capF (lst s) = none ∧ capC (lst s) = capOf (flds (lst s)) 3 d from ⟨by rw [hcb1, h4]; unfold mayF; rw [if_pos h5]; rfl, hcb2⟩)
  have HH := hide h0
  have HL := hide h1
  have HB4 := hide h4
  have HCW := hide (show (capOf (flds (lst s)) 3 d).wf ∧ (capOf (flds (lst s)) 3 d).in64 from cap_wf3 d h4)
  clear h4
  have HM := hide h5
  clear h5
  have HK := hide h2
  have HL3 := hide h3
  clear h0 h1 h2 h3 hcb1 hcb2
  have HS := hide hs
  obtain ⟨w0, hw0⟩ : ∃ w0, w0 = w.alloc (.cells Tryz.zeroCells34 34) := ⟨_, rfl⟩
  have HW := hide hw0
  have H0 := hide (show Blk w0 w.heap.size 34 Tryz.zeroCells34 ∧ Below w.heap.size w w0 from ⟨by rw [hw0]; exact Blk.new w _ _, by rw [hw0]; exact (Below.refl _ w).alloc (Nat.le_refl _) _⟩)
  have QF := hide (rfields_any s w0 (by omega))
  have i0 : ¬ (256 : Int) < (s.size : Int) := by omega
  clear hw0 hs
  go_enter Tryz.func11, Tryz.ntmps11
  go_wp2_with fail
  rw [← HW.out]
  refine QF.out.mono ?_
  rintro e w1 ⟨v, ts, rfl, ho, hts, b1⟩
  have hpos : 0 < ts.length := by have := flds_pos (lst s); rw [← hts, List.length_map] at this; exact this
  obtain ⟨g, cap, rfl, hg0, hg1⟩ := World.ownsRow.form ho hpos
  have hsm := sm_of hts HS.out
  obtain ⟨x0, hx0⟩ := at_of hpos
  obtain ⟨w2, hw2⟩ : ∃ w2, w2 = w1.alloc (.cells #[.slice (some ⟨g, 0, none⟩) ts.length cap, .int .i64 0, .int .i64 0, .int .i64 0, .int .i64 0] 74) := ⟨_, rfl⟩
  have K2 := hide (show PK w w2 w1.heap.size g cap ts 0 none from by
    have c1 := H0.out.1.below' b1
    have c2 := Below.step H0.out.2 b1
    have al := (Below.refl w1.heap.size w1).alloc (Nat.le_refl _) (.cells #[.slice (some ⟨g, 0, none⟩) ts.length cap, .int .i64 0, .int .i64 0, .int .i64 0, .int .i64 0] 74)
    rw [hw2]
    exact ⟨c1.alloc _, Below.step c2 al, rds_start (Blk.new _ _ _) (ho.alloc _) (by omega), c1.lt⟩)
  have HW2 := hide hw2
  have HTS := hide (And.intro hts hsm)
  have QP := hide (fun W n st x (h : RdS W w1.heap.size g cap ts n st) (hx : ts[n]? = some x) => part_st W w1.heap.size g cap ts n st x h hx hsm)
  have HX0 := hide hx0
  clear ho b1 hg0 hg1 hsm hw2 hx0
  go_wp2_with fail
  rw [← HW2.out]
  refine (QP.out _ 0 none x0 K2.out.rds HX0.out).mono ?_
  rintro e w3 ⟨rfl, r, gr⟩
  have K3 := hide (K2.out.next r gr)
  have hq0 : part_ (flds (lst s)) 0 = lst x0 := by rw [← hts]; exact part_of HX0.out
  have hln : (flds (lst s)).length = ts.length := by rw [← hts, List.length_map]
  clear r gr
  have hx : x0 = ⟨#[115, 116, 114, 111, 110, 103, 114, 111, 111, 109]⟩ := lst_inj (by rw [← hq0, HH.out]; rfl)
  subst hx
  have hrl := K3.out.rds.r.cells
  obtain ⟨rc0, rc1, rc2, rc3, rc4⟩ := hrl
  rw [hln] at HL
  obtain ⟨x1, hx1⟩ := at_of (ts := ts) (j := 1) (by have := HL.out; omega)
  have hq1 : part_ (flds (lst s)) 1 = lst x1 := by rw [← hts]; exact part_of hx1
  have i2 : ¬ (ts.length : Int) < 2 := by have := HL.out; omega
  have HX1 := hide hx1
  have HTL := hide hln
  clear hq0 hln hts hx1 hpos rc1 rc2 rc3 rc4
  go_wp2_with fail
  refine (QP.out _ 1 none x1 K3.out.rds HX1.out).mono ?_
  rintro e w4 ⟨rfl, r, gr⟩
  have K4 := hide (K3.out.next r gr)
  clear r gr rc0
  go_wp2_with fail
  refine (kind_any x1 _).mono ?_
  rintro e w5 ⟨rfl, rfl⟩
  have hkv := HK.out
  rw [hq1] at hkv
  have hkv2 := kindV_of hkv
  rw [hkv2]
  clear hkv hkv2 hq1
  rw [show kindVal (some (3, d)) = .tuple #[.int .u8 3, .bool d, .bool true] from rfl]
  have i3 : ¬ (ts.length : Int) < 3 := by have := HL3.out; have := HTL.out; omega
  have i4 : ¬ (3 : Int) < (ts.length : Int) := by have := HL3.out; have := HTL.out; omega
  have HL4 := hide (show ts.length = 3 from by have := HL3.out; have := HTL.out; omega)
  have rc0 := K4.out.rds.r.cells.1
  obtain ⟨C0, hC0⟩ : ∃ F : Array Value, F = (bare 3 d).cells (.slice none 0 0) := ⟨_, rfl⟩
  have HBD := hide (fun W => build_bare3 d W)
  have QR := hide (fun W (h : RdS W w1.heap.size g cap ts 2 none) => rdread_lit W w1.heap.size g cap ts d h HTS.out.2 HL4.out)
  rw [← hC0] at HBD QR
  clear hC0
  go_wp2_with ((with_reducible change wpList _ _ _ (⟨some 90, _, _, _, _, _⟩ :: _) _ _); refine wpList_yields (by kernel_rfl) (.agg C0) (ex_build 34 _ rfl #[(0, .int .u8 3), (1, .bool d)] (by kernel_rfl) _ (HBD.out _)) ?_)
  refine (QR.out _ K4.out.rds).mono ?_
  rintro e w6 ⟨F, u, rfl, f1, f2, r, gr, hgood⟩
  have K6 := hide (K4.out.next r gr)
  have HF := hide (And.intro f1 f2)
  have HG := hide hgood
  have HGR := hide gr
  clear f1 f2 r gr hgood rc0
  have K6' := hide (show PK w w6 w1.heap.size g cap ts 3 none from by have := K6.out; rw [HTS.out.1, HB4.out] at this; exact this)
  have HG2 := hide (show F = (capOf (flds (lst s)) 3 d).cells u ∧ Own w6 w1.heap.size 5 u (capOf (flds (lst s)) 3 d).lit from by
    have q := HG.out (by rw [HTS.out.1]; exact HB4.out)
    rw [HTS.out.1] at q
    exact ⟨q.1, q.2.lower (by have := K4.out.rds.r.blk.lt; omega)⟩)
  have HCY := hide (show ∀ W', Below w6.heap.size w6 W' → Capy W' F (capOf (flds (lst s)) 3 d) u from fun W' hW' => ⟨HG2.out.1, HCW.out.1, HCW.out.2, (Own.below HG2.out.2 hW').by_⟩)
  have QCK := hide (fun W (h : Capy W F (capOf (flds (lst s)) 3 d) u) => rcheck_cap F _ u W h)
  rw [if_pos HM.out] at QCK
  go_wp2_with first
    | ((with_reducible change wpList _ _ _ (⟨none, .store _ (.tmp 14) _, _, _, _, _⟩ :: _) _ _); go_loud (refine wpList_store_row (o := ⟨none, .store _ (.tmp 14) _, _, _, _, _⟩) (Blk.new w6 34 Tryz.zeroCells34) F (by rw [HF.out.1]; kernel_rfl) HF.out.2 rfl 34 _ _ rfl (by rw [HF.out.1]; kernel_rfl) rfl rfl ?_; intro w7 hb hg; have S7 := hide (show Blk w7 w6.heap.size 34 F ∧ Below w6.heap.size w6 w7 from ⟨hb, (Below.al0 (Below.refl w6.heap.size w6) _).grown hg (by simp) (fun k hk => by injection hk with hk; omega)⟩); clear hb hg; obtain ⟨-, -, -, -, rc4⟩ := (K6'.out.below S7.out.2).rds.r.cells; have rc4' : w7.cell? ⟨w1.heap.size, 4, none⟩ = some (.int .i64 0) := rc4; clear rc4))
    | ((with_reducible change wpList _ _ _ (⟨some 98, _, _, _, _, _⟩ :: _) _ _); refine wpList_yields (by kernel_rfl) (.agg F) (ex_load 34 _ rfl w6.heap.size 0 (by kernel_rfl) F.toList _ (rng_of S7.out.1) Tryz.underlying34 rfl (by rw [Array.length_toList, HF.out.1]; kernel_rfl)) ?_)
  refine (QCK.out _ (HCY.out _ S7.out.2)).mono ?_
  rintro e w8 ⟨rfl, b8⟩
  have K8 := hide ((K6'.out.below S7.out.2).below b8)
  have S8 := hide (show Blk w8 w6.heap.size 34 F ∧ Below w6.heap.size w6 w8 from ⟨S7.out.1.below' b8, Below.step S7.out.2 b8⟩)
  clear rc4' b8
  have rc4 : w8.cell? ⟨w1.heap.size, 4, none⟩ = some (.int .i64 0) := K8.out.rds.r.cells.2.2.2.2
  go_wp2_with first
    | ((with_reducible change wpList _ _ _ (⟨some 118, _, _, _, _, _⟩ :: _) _ _); refine wpList_yields (by kernel_rfl) (.agg F) (ex_load 34 _ rfl w6.heap.size 0 (by kernel_rfl) F.toList _ (rng_of S8.out.1) Tryz.underlying34 rfl (by rw [Array.length_toList, HF.out.1]; kernel_rfl)) ?_)
    | ((with_reducible change wpList _ _ _ (⟨none, .store _ (.tmp 2) _, _, _, _, _⟩ :: _) _ _); go_loud (refine wpList_store_row (o := ⟨none, .store _ (.tmp 2) _, _, _, _, _⟩) K8.out.res F (by rw [HF.out.1]; kernel_rfl) HF.out.2 rfl 34 _ _ rfl (by rw [HF.out.1]; kernel_rfl) rfl rfl ?_; intro w9 hb9 hg9))
  refine bodyPost_ret (res_row2 rfl _ _ w.heap.size 34 F (0, 0) _ rfl hb9 Tryz.underlying34 rfl (by rw [HF.out.1]; kernel_rfl)) rfl ?_
  have hbel := K8.out.bel.grown hg9 K8.out.bel.size fun k hk => (by injection hk with hk; omega)
  refine ⟨hbel, fun _ => ?_, fun a er h => by rw [HFF.out.1] at h; cases h⟩
  have hlt := K8.out.lt
  have ho := Own.keptB (Own.below HG2.out.2 S8.out.2) hg9 hlt
  obtain ⟨A9, c9, rfl, -, -, -⟩ := ho.by_.form
  refine ⟨A9, (capOf (flds (lst s)) 3 d).lit.length, c9, ?_, ?_⟩
  · rw [HFF.out.2, ← HG2.out.1]; rfl
  · rw [HFF.out.2]; exact ho.lower (by omega)
theorem rparsed_any (s : ByteArray) (w : World) : Calls Tryz.prog 11 #[.string s] w (ParsedPost (lst s) w) := by
  by_cases hs : s.size ≤ 256
  rotate_left
  · exact rparse_long s w (by omega)
  by_cases h0 : part_ (flds (lst s)) 0 = tRoom
  rotate_left
  · exact rparse_0 s w hs h0
  by_cases h1 : (flds (lst s)).length < 2
  · exact rparse_1 s w hs h0 h1
  cases h2 : kindL (part_ (flds (lst s)) 1) with
  | none => exact rparse_none s w hs h0 h1 h2
  | some q =>
    obtain ⟨k, d⟩ := q
    have hk : k = 1 ∨ k = 2 ∨ k = 3 := (word_kind h2).2
    rcases hk with rfl | rfl | rfl
    · rcases Nat.lt_trichotomy (flds (lst s)).length 8 with h3 | h3 | h3
      · exact rparse_few1 s w hs h0 h1 d h2 h3
      · cases h4 : bodyF (flds (lst s)) 1 with
        | some y => exact rparse_bad1 s w hs h0 h1 d h2 h3 y.1 y.2 h4
        | none =>
          by_cases h5 : (capOf (flds (lst s)) 1 d).may
          · exact rparse_ok1 s w hs h0 h1 d h2 h3 h4 h5
          · exact rparse_no1 s w hs h0 h1 d h2 h3 h4 h5
      · exact rparse_many1 s w hs h0 h1 d h2 h3
    · rcases Nat.lt_trichotomy (flds (lst s)).length 8 with h3 | h3 | h3
      · exact rparse_few2 s w hs h0 h1 d h2 h3
      · cases h4 : bodyF (flds (lst s)) 2 with
        | some y => exact rparse_bad2 s w hs h0 h1 d h2 h3 y.1 y.2 h4
        | none =>
          by_cases h5 : (capOf (flds (lst s)) 2 d).may
          · exact rparse_ok2 s w hs h0 h1 d h2 h3 h4 h5
          · exact rparse_no2 s w hs h0 h1 d h2 h3 h4 h5
      · exact rparse_many2 s w hs h0 h1 d h2 h3
    · rcases Nat.lt_trichotomy (flds (lst s)).length 3 with h3 | h3 | h3
      · exact rparse_few3 s w hs h0 h1 d h2 h3
      · cases h4 : bodyF (flds (lst s)) 3 with
        | some y => exact rparse_bad3 s w hs h0 h1 d h2 h3 y.1 y.2 h4
        | none =>
          by_cases h5 : (capOf (flds (lst s)) 3 d).may
          · exact rparse_ok3 s w hs h0 h1 d h2 h3 h4 h5
          · exact rparse_no3 s w hs h0 h1 d h2 h3 h4 h5
      · exact rparse_many3 s w hs h0 h1 d h2 h3
end Go.Proofs.YtcpceaflnnkhnaaGreatDoor
