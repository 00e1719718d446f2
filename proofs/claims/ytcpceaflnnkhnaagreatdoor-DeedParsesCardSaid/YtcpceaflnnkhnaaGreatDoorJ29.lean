/- Joined texts: RdrF. -/
import Derived.Test.YtcpceaflnnkhnaaGreatDoorJ28
import Derived.Deep.RegionHeld3

/- The document's Parse, from the word on. (Printed by wip/rdrf.py.) -/
namespace Go.Proofs.YtcpceaflnnkhnaaGreatDoor
open Go.RowKit
attribute [local go_sem ↓] Go.wp_at_zero Go.wp_at_succ
attribute [local go_sem ↓] capZ_store
attribute [local go_sem] capZ_storeC

theorem keepR1 {w : World} {t o g n : Nat} {v : Value} {vs : List Value} (h : w.cell? ⟨t, o, none⟩ = some v ∧ w.there g 0 n) (hne : t ≠ g) : (w.setCells g 0 vs).cell? ⟨t, o, none⟩ = some v ∧ (w.setCells g 0 vs).there g 0 n :=
  ⟨(World.cell?_of_block (w := w) (World.heap_setCells_other w g 0 vs (World.block_lt_of_cell? _ _ h.1) hne)).trans h.1, World.there_setCells h.2 _ _ _⟩
theorem keepR2 {w : World} {t o p g n : Nat} {v u : Value} {vs : List Value} (h : w.cell? ⟨t, o, none⟩ = some v ∧ w.cell? ⟨t, p, none⟩ = some u ∧ w.there g 0 n) (hne : t ≠ g) : (w.setCells g 0 vs).cell? ⟨t, o, none⟩ = some v ∧ (w.setCells g 0 vs).cell? ⟨t, p, none⟩ = some u ∧ (w.setCells g 0 vs).there g 0 n :=
  ⟨(World.cell?_of_block (w := w) (World.heap_setCells_other w g 0 vs (World.block_lt_of_cell? _ _ h.1) hne)).trans h.1, (World.cell?_of_block (w := w) (World.heap_setCells_other w g 0 vs (World.block_lt_of_cell? _ _ h.2.1) hne)).trans h.2.1, World.there_setCells h.2.2 _ _ _⟩
theorem build_bare1 (d : Bool) (W : World) : (Instr.build 34 #[(0, .int .u8 1), (1, .bool d)]).run Tryz.prog W = .ok (.agg ((bare 1 d).cells (.slice none 0 0))) W := by kernel_rfl
theorem build_bare2 (d : Bool) (W : World) : (Instr.build 34 #[(0, .int .u8 2), (1, .bool d)]).run Tryz.prog W = .ok (.agg ((bare 2 d).cells (.slice none 0 0))) W := by kernel_rfl
theorem build_bare3 (d : Bool) (W : World) : (Instr.build 34 #[(0, .int .u8 3), (1, .bool d)]).run Tryz.prog W = .ok (.agg ((bare 3 d).cells (.slice none 0 0))) W := by kernel_rfl
def kindVal (o : Option (Nat × Bool)) : Value := match o with
  | none => .tuple #[.int .u8 0, .bool false, .bool false]
  | some (k, d) => .tuple #[.int .u8 (k : Int), .bool d, .bool true]
theorem kindV_of {p : List UInt8} {o : Option (Nat × Bool)} (h : kindL p = o) : kindV p = kindVal o := by subst h; rfl
set_option maxRecDepth 100000 in
set_option maxHeartbeats 8000000 in
theorem rparse_none (s : ByteArray) (w : World) (hs : s.size ≤ 256) (h0 : part_ (flds (lst s)) 0 = tRoom) (h1 : ¬ (flds (lst s)).length < 2) (h2 : kindL (part_ (flds (lst s)) 1) = none) : Calls Tryz.prog 11 #[.string s] w (ParsedPost (lst s) w) := by
  have HFF := hide (cap_none (by rw [lst_len]; exact hs) h0 h1 h2)
  have HH := hide h0
  have HL := hide h1
  have HK := hide h2
  clear h0 h1 h2
  have HS := hide hs
  obtain ⟨w0, hw0⟩ : ∃ w0, w0 = w.alloc (.cells Tryz.zeroCells34 34) := ⟨_, rfl⟩
  have HW := hide hw0
  have H0 := hide (show Blk w0 w.heap.size 34 Tryz.zeroCells34 ∧ Below w.heap.size w w0 from ⟨by rw [hw0]; exact Blk.new w _ _, by rw [hw0]; exact (Below.refl _ w).alloc (Nat.le_refl _) _⟩)
  have QF := hide (rfields_any s w0 (by omega))
  have i0 : ¬ (256 : Int) < (s.size : Int) := by omega
  clear hw0 hs
  go_enter Tryz.func11, Tryz.ntmps11
  go_wp2_with fail
  rw [← HW.out]
  refine QF.out.mono ?_
  rintro e w1 ⟨v, ts, rfl, ho, hts, b1⟩
  have hpos : 0 < ts.length := by have := flds_pos (lst s); rw [← hts, List.length_map] at this; exact this
  obtain ⟨g, cap, rfl, hg0, hg1⟩ := World.ownsRow.form ho hpos
  have hsm := sm_of hts HS.out
  obtain ⟨x0, hx0⟩ := at_of hpos
  obtain ⟨w2, hw2⟩ : ∃ w2, w2 = w1.alloc (.cells #[.slice (some ⟨g, 0, none⟩) ts.length cap, .int .i64 0, .int .i64 0, .int .i64 0, .int .i64 0] 74) := ⟨_, rfl⟩
  have K2 := hide (show PK w w2 w1.heap.size g cap ts 0 none from by
    have c1 := H0.out.1.below' b1
    have c2 := Below.step H0.out.2 b1
    have al := (Below.refl w1.heap.size w1).alloc (Nat.le_refl _) (.cells #[.slice (some ⟨g, 0, none⟩) ts.length cap, .int .i64 0, .int .i64 0, .int .i64 0, .int .i64 0] 74)
    rw [hw2]
    exact ⟨c1.alloc _, Below.step c2 al, rds_start (Blk.new _ _ _) (ho.alloc _) (by omega), c1.lt⟩)
  have HW2 := hide hw2
  have HTS := hide (And.intro hts hsm)
  have QP := hide (fun W n st x (h : RdS W w1.heap.size g cap ts n st) (hx : ts[n]? = some x) => part_st W w1.heap.size g cap ts n st x h hx hsm)
  have HX0 := hide hx0
  clear ho b1 hg0 hg1 hsm hw2 hx0
  go_wp2_with fail
  rw [← HW2.out]
  refine (QP.out _ 0 none x0 K2.out.rds HX0.out).mono ?_
  rintro e w3 ⟨rfl, r, gr⟩
  have K3 := hide (K2.out.next r gr)
  have hq0 : part_ (flds (lst s)) 0 = lst x0 := by rw [← hts]; exact part_of HX0.out
  have hln : (flds (lst s)).length = ts.length := by rw [← hts, List.length_map]
  clear r gr
  have hx : x0 = ⟨#[115, 116, 114, 111, 110, 103, 114, 111, 111, 109]⟩ := lst_inj (by rw [← hq0, HH.out]; rfl)
  subst hx
  have hrl := K3.out.rds.r.cells
  obtain ⟨rc0, rc1, rc2, rc3, rc4⟩ := hrl
  rw [hln] at HL
  obtain ⟨x1, hx1⟩ := at_of (ts := ts) (j := 1) (by have := HL.out; omega)
  have hq1 : part_ (flds (lst s)) 1 = lst x1 := by rw [← hts]; exact part_of hx1
  have i2 : ¬ (ts.length : Int) < 2 := by have := HL.out; omega
  have HX1 := hide hx1
  have HTL := hide hln
  clear hq0 hln hts hx1 hpos rc1 rc2 rc3 rc4
  go_wp2_with fail
  refine (QP.out _ 1 none x1 K3.out.rds HX1.out).mono ?_
  rintro e w4 ⟨rfl, r, gr⟩
  have K4 := hide (K3.out.next r gr)
  clear r gr rc0
  go_wp2_with fail
  refine (kind_any x1 _).mono ?_
  rintro e w5 ⟨rfl, rfl⟩
  have hkv := HK.out
  rw [hq1] at hkv
  have hkv2 := kindV_of hkv
  rw [hkv2]
  clear hkv hkv2 hq1
  rw [show kindVal none = .tuple #[.int .u8 0, .bool false, .bool false] from rfl]
  obtain ⟨P, hP⟩ : ∃ P, P = place (ts.map lst) 1 := ⟨_, rfl⟩
  rw [← hP]
  have HP := hide (show place (flds (lst s)) 1 = P from by rw [hP, HTS.out.1])
  clear hP
  go_wp2_with ((with_reducible change wpList _ _ _ (⟨none, .store _ (.tmp 2) _, _, _, _, _⟩ :: _) _ _); go_loud (refine wpList_store_row (o := ⟨none, .store _ (.tmp 2) _, _, _, _, _⟩) K4.out.res Tryz.zeroCells34 (by kernel_rfl) (by rw [capZ_eq]; exact CP.zero_one) rfl 34 _ _ rfl (by kernel_rfl) rfl rfl ?_; intro w9 hb9 hg9))
  refine bodyPost_ret (res_row2 rfl _ _ w.heap.size 34 Tryz.zeroCells34 (0, 0) _ rfl hb9 Tryz.underlying34 rfl (by kernel_rfl)) rfl ?_
  have hF := HFF.out
  rw [HP.out] at hF
  exact rp_fail hF (K4.out.bel.grown hg9 K4.out.bel.size fun k hk => (by injection hk with hk; omega)) (by rw [← capZ_eq]; rfl)
set_option maxRecDepth 100000 in
set_option maxHeartbeats 8000000 in
theorem rparse_few1 (s : ByteArray) (w : World) (hs : s.size ≤ 256) (h0 : part_ (flds (lst s)) 0 = tRoom) (h1 : ¬ (flds (lst s)).length < 2) (d : Bool) (h2 : kindL (part_ (flds (lst s)) 1) = some (1, d)) (h3 : (flds (lst s)).length < 8) : Calls Tryz.prog 11 #[.string s] w (ParsedPost (lst s) w) := by
  have HFF := hide (cap_few (by rw [lst_len]; exact hs) h0 h1 h2 h3)
  have HH := hide h0
  have HL := hide h1
  have HK := hide h2
  have HL3 := hide h3
  clear h0 h1 h2 h3
  have HS := hide hs
  obtain ⟨w0, hw0⟩ : ∃ w0, w0 = w.alloc (.cells Tryz.zeroCells34 34) := ⟨_, rfl⟩
  have HW := hide hw0
  have H0 := hide (show Blk w0 w.heap.size 34 Tryz.zeroCells34 ∧ Below w.heap.size w w0 from ⟨by rw [hw0]; exact Blk.new w _ _, by rw [hw0]; exact (Below.refl _ w).alloc (Nat.le_refl _) _⟩)
  have QF := hide (rfields_any s w0 (by omega))
  have i0 : ¬ (256 : Int) < (s.size : Int) := by omega
  clear hw0 hs
  go_enter Tryz.func11, Tryz.ntmps11
  go_wp2_with fail
  rw [← HW.out]
  refine QF.out.mono ?_
  rintro e w1 ⟨v, ts, rfl, ho, hts, b1⟩
  have hpos : 0 < ts.length := by have := flds_pos (lst s); rw [← hts, List.length_map] at this; exact this
  obtain ⟨g, cap, rfl, hg0, hg1⟩ := World.ownsRow.form ho hpos
  have hsm := sm_of hts HS.out
  obtain ⟨x0, hx0⟩ := at_of hpos
  obtain ⟨w2, hw2⟩ : ∃ w2, w2 = w1.alloc (.cells #[.slice (some ⟨g, 0, none⟩) ts.length cap, .int .i64 0, .int .i64 0, .int .i64 0, .int .i64 0] 74) := ⟨_, rfl⟩
  have K2 := hide (show PK w w2 w1.heap.size g cap ts 0 none from by
    have c1 := H0.out.1.below' b1
    have c2 := Below.step H0.out.2 b1
    have al := (Below.refl w1.heap.size w1).alloc (Nat.le_refl _) (.cells #[.slice (some ⟨g, 0, none⟩) ts.length cap, .int .i64 0, .int .i64 0, .int .i64 0, .int .i64 0] 74)
    rw [hw2]
    exact ⟨c1.alloc _, Below.step c2 al, rds_start (Blk.new _ _ _) (ho.alloc _) (by omega), c1.lt⟩)
  have HW2 := hide hw2
  have HTS := hide (And.intro hts hsm)
  have QP := hide (fun W n st x (h : RdS W w1.heap.size g cap ts n st) (hx : ts[n]? = some x) => part_st W w1.heap.size g cap ts n st x h hx hsm)
  have HX0 := hide hx0
  clear ho b1 hg0 hg1 hsm hw2 hx0
  go_wp2_with fail
  rw [← HW2.out]
  refine (QP.out _ 0 none x0 K2.out.rds HX0.out).mono ?_
  rintro e w3 ⟨rfl, r, gr⟩
  have K3 := hide (K2.out.next r gr)
  have hq0 : part_ (flds (lst s)) 0 = lst x0 := by rw [← hts]; exact part_of HX0.out
  have hln : (flds (lst s)).length = ts.length := by rw [← hts, List.length_map]
  clear r gr
  have hx : x0 = ⟨#[115, 116, 114, 111, 110, 103, 114, 111, 111, 109]⟩ := lst_inj (by rw [← hq0, HH.out]; rfl)
  subst hx
  have hrl := K3.out.rds.r.cells
  obtain ⟨rc0, rc1, rc2, rc3, rc4⟩ := hrl
  rw [hln] at HL
  obtain ⟨x1, hx1⟩ := at_of (ts := ts) (j := 1) (by have := HL.out; omega)
  have hq1 : part_ (flds (lst s)) 1 = lst x1 := by rw [← hts]; exact part_of hx1
  have i2 : ¬ (ts.length : Int) < 2 := by have := HL.out; omega
  have HX1 := hide hx1
  have HTL := hide hln
  clear hq0 hln hts hx1 hpos rc1 rc2 rc3 rc4
  go_wp2_with fail
  refine (QP.out _ 1 none x1 K3.out.rds HX1.out).mono ?_
  rintro e w4 ⟨rfl, r, gr⟩
  have K4 := hide (K3.out.next r gr)
  clear r gr rc0
  go_wp2_with fail
  refine (kind_any x1 _).mono ?_
  rintro e w5 ⟨rfl, rfl⟩
  have hkv := HK.out
  rw [hq1] at hkv
  have hkv2 := kindV_of hkv
  rw [hkv2]
  clear hkv hkv2 hq1
  rw [show kindVal (some (1, d)) = .tuple #[.int .u8 1, .bool d, .bool true] from rfl]
  have i3 : (ts.length : Int) < 8 := by have := HL3.out; have := HTL.out; omega
  have rc0 := K4.out.rds.r.cells.1
  go_wp2_with ((with_reducible change wpList _ _ _ (⟨none, .store _ (.tmp 2) _, _, _, _, _⟩ :: _) _ _); go_loud (refine wpList_store_row (o := ⟨none, .store _ (.tmp 2) _, _, _, _, _⟩) K4.out.res Tryz.zeroCells34 (by kernel_rfl) (by rw [capZ_eq]; exact CP.zero_one) rfl 34 _ _ rfl (by kernel_rfl) rfl rfl ?_; intro w9 hb9 hg9))
  refine bodyPost_ret (res_row2 rfl _ _ w.heap.size 34 Tryz.zeroCells34 (0, 0) _ rfl hb9 Tryz.underlying34 rfl (by kernel_rfl)) rfl ?_
  have hF := HFF.out
  rw [lst_len] at hF
  exact rp_fail hF (K4.out.bel.grown hg9 K4.out.bel.size fun k hk => (by injection hk with hk; omega)) (by rw [← capZ_eq]; rfl)
set_option maxRecDepth 100000 in
set_option maxHeartbeats 8000000 in
theorem rparse_many1 (s : ByteArray) (w : World) (hs : s.size ≤ 256) (h0 : part_ (flds (lst s)) 0 = tRoom) (h1 : ¬ (flds (lst s)).length < 2) (d : Bool) (h2 : kindL (part_ (flds (lst s)) 1) = some (1, d)) (h3 : 8 < (flds (lst s)).length) : Calls Tryz.prog 11 #[.string s] w (ParsedPost (lst s) w) := by
  have HFF := hide (cap_many (by rw [lst_len]; exact hs) h0 h1 h2 h3)
  have HH := hide h0
  have HL := hide h1
  have HK := hide h2
  have HL3 := hide h3
  clear h0 h1 h2 h3
  have HS := hide hs
  obtain ⟨w0, hw0⟩ : ∃ w0, w0 = w.alloc (.cells Tryz.zeroCells34 34) := ⟨_, rfl⟩
  have HW := hide hw0
  have H0 := hide (show Blk w0 w.heap.size 34 Tryz.zeroCells34 ∧ Below w.heap.size w w0 from ⟨by rw [hw0]; exact Blk.new w _ _, by rw [hw0]; exact (Below.refl _ w).alloc (Nat.le_refl _) _⟩)
  have QF := hide (rfields_any s w0 (by omega))
  have i0 : ¬ (256 : Int) < (s.size : Int) := by omega
  clear hw0 hs
  go_enter Tryz.func11, Tryz.ntmps11
  go_wp2_with fail
  rw [← HW.out]
  refine QF.out.mono ?_
  rintro e w1 ⟨v, ts, rfl, ho, hts, b1⟩
  have hpos : 0 < ts.length := by have := flds_pos (lst s); rw [← hts, List.length_map] at this; exact this
  obtain ⟨g, cap, rfl, hg0, hg1⟩ := World.ownsRow.form ho hpos
  have hsm := sm_of hts HS.out
  obtain ⟨x0, hx0⟩ := at_of hpos
  obtain ⟨w2, hw2⟩ : ∃ w2, w2 = w1.alloc (.cells #[.slice (some ⟨g, 0, none⟩) ts.length cap, .int .i64 0, .int .i64 0, .int .i64 0, .int .i64 0] 74) := ⟨_, rfl⟩
  have K2 := hide (show PK w w2 w1.heap.size g cap ts 0 none from by
    have c1 := H0.out.1.below' b1
    have c2 := Below.step H0.out.2 b1
    have al := (Below.refl w1.heap.size w1).alloc (Nat.le_refl _) (.cells #[.slice (some ⟨g, 0, none⟩) ts.length cap, .int .i64 0, .int .i64 0, .int .i64 0, .int .i64 0] 74)
    rw [hw2]
    exact ⟨c1.alloc _, Below.step c2 al, rds_start (Blk.new _ _ _) (ho.alloc _) (by omega), c1.lt⟩)
  have HW2 := hide hw2
  have HTS := hide (And.intro hts hsm)
  have QP := hide (fun W n st x (h : RdS W w1.heap.size g cap ts n st) (hx : ts[n]? = some x) => part_st W w1.heap.size g cap ts n st x h hx hsm)
  have HX0 := hide hx0
  clear ho b1 hg0 hg1 hsm hw2 hx0
  go_wp2_with fail
  rw [← HW2.out]
  refine (QP.out _ 0 none x0 K2.out.rds HX0.out).mono ?_
  rintro e w3 ⟨rfl, r, gr⟩
  have K3 := hide (K2.out.next r gr)
  have hq0 : part_ (flds (lst s)) 0 = lst x0 := by rw [← hts]; exact part_of HX0.out
  have hln : (flds (lst s)).length = ts.length := by rw [← hts, List.length_map]
  clear r gr
  have hx : x0 = ⟨#[115, 116, 114, 111, 110, 103, 114, 111, 111, 109]⟩ := lst_inj (by rw [← hq0, HH.out]; rfl)
  subst hx
  have hrl := K3.out.rds.r.cells
  obtain ⟨rc0, rc1, rc2, rc3, rc4⟩ := hrl
  rw [hln] at HL
  obtain ⟨x1, hx1⟩ := at_of (ts := ts) (j := 1) (by have := HL.out; omega)
  have hq1 : part_ (flds (lst s)) 1 = lst x1 := by rw [← hts]; exact part_of hx1
  have i2 : ¬ (ts.length : Int) < 2 := by have := HL.out; omega
  have HX1 := hide hx1
  have HTL := hide hln
  clear hq0 hln hts hx1 hpos rc1 rc2 rc3 rc4
  go_wp2_with fail
  refine (QP.out _ 1 none x1 K3.out.rds HX1.out).mono ?_
  rintro e w4 ⟨rfl, r, gr⟩
  have K4 := hide (K3.out.next r gr)
  clear r gr rc0
  go_wp2_with fail
  refine (kind_any x1 _).mono ?_
  rintro e w5 ⟨rfl, rfl⟩
  have hkv := HK.out
  rw [hq1] at hkv
  have hkv2 := kindV_of hkv
  rw [hkv2]
  clear hkv hkv2 hq1
  rw [show kindVal (some (1, d)) = .tuple #[.int .u8 1, .bool d, .bool true] from rfl]
  have i3 : ¬ (ts.length : Int) < 8 := by have := HL3.out; have := HTL.out; omega
  have i4 : (8 : Int) < (ts.length : Int) := by have := HL3.out; have := HTL.out; omega
  have HL4 := hide (show 8 < ts.length from by have := HL3.out; have := HTL.out; omega)
  have rc0 := K4.out.rds.r.cells.1
  go_wp2_with fail
  go_loopw [77] (fun _ wr => ∃ n : Nat, n ≤ 8 ∧ PK w wr w1.heap.size g cap ts n none) (fun _ wr => 8 - (intOf ((wr.cell? ⟨w1.heap.size, 1, none⟩).getD undef)).toNat)
  case atStart => exact ⟨2, by omega, K4.out⟩
  case round =>
    obtain ⟨n, hn, hk⟩ := hrel
    have KN := hide hk
    have rc1 := hk.rds.r.cells.2.1
    clear hk rc0
    by_cases hlt : n < 8
    · have j1 : (n : Int) < 8 := by omega
      obtain ⟨x, hx⟩ := at_of (ts := ts) (j := n) (by have := HL4.out; omega)
      have HX := hide hx
      have HLT := hide hlt
      clear hx hlt
      go_wp2_with fail
      refine (QP.out _ n none x KN.out.rds HX.out).mono ?_
      rintro e w6 ⟨rfl, r, gr⟩
      have K6 := hide (KN.out.next r gr)
      clear r gr
      have HC1 := hide rc1
      clear rc1
      go_wp2
      go_roundw
      case rel => exact ⟨n + 1, by have := HLT.out; omega, K6.out⟩
      case measure =>
        rw [K6.out.rds.r.cells.2.1, HC1.out]
        have := HLT.out
        simp [intOf]
        omega
    · have hnw : n = 8 := by omega
      subst hnw
      have j1 : ¬ (((8 : Nat) : Int) < 8) := by omega
      have rc2 := KN.out.rds.r.cells.2.2.1
      obtain ⟨P, hP⟩ : ∃ P, P = place (ts.map lst) 8 := ⟨_, rfl⟩
      have HP := hide (show place (flds (lst s)) 8 = P from by rw [hP, HTS.out.1])
      rw [← hP] at rc2
      have hS : wr.cell? ⟨w1.heap.size, 2, none⟩ = some (.int .i64 (P : Int)) ∧ wr.there w.heap.size 0 107 := ⟨rc2, there_of_blk KN.out.res (by kernel_rfl)⟩
      have HGL := hide (show w1.heap.size ≠ w.heap.size from by have := KN.out.lt; omega)
      clear hP hlt hn
      go_wp2_with fail
      go_region_held3 (fun w' => w'.cell? ⟨w1.heap.size, 2, none⟩ = some (.int .i64 (P : Int)) ∧ w'.there w.heap.size 0 107) (first | with_reducible assumption | (with_reducible refine keepR1 ?_ HGL.out; with_reducible assumption) | (simp only [World.cell?_drew, World.there_drew]; with_reducible assumption)) (fail)
      all_goals
        go_wp2_with fail
        refine bodyPost_ret (res_row2 rfl _ _ w.heap.size 34 Tryz.zeroCells34 (0, 0) _ rfl (blk_fill KN.out.res.drew rfl) Tryz.underlying34 rfl (by kernel_rfl)) rfl ?_
        have hF := HFF.out
        rw [show want 1 = 8 from rfl, HP.out] at hF
        exact rp_fail hF (KN.out.bel.drew.trans (Lib.below_setCells_w (Nat.le_refl _) _ _ _)) (by rw [← capZ_eq]; rfl)
set_option maxRecDepth 100000 in
set_option maxHeartbeats 8000000 in
theorem rparse_few2 (s : ByteArray) (w : World) (hs : s.size ≤ 256) (h0 : part_ (flds (lst s)) 0 = tRoom) (h1 : ¬ (flds (lst s)).length < 2) (d : Bool) (h2 : kindL (part_ (flds (lst s)) 1) = some (2, d)) (h3 : (flds (lst s)).length < 8) : Calls Tryz.prog 11 #[.string s] w (ParsedPost (lst s) w) := by
  have HFF := hide (cap_few (by rw [lst_len]; exact hs) h0 h1 h2 h3)
  have HH := hide h0
  have HL := hide h1
  have HK := hide h2
  have HL3 := hide h3
  clear h0 h1 h2 h3
  have HS := hide hs
  obtain ⟨w0, hw0⟩ : ∃ w0, w0 = w.alloc (.cells Tryz.zeroCells34 34) := ⟨_, rfl⟩
  have HW := hide hw0
  have H0 := hide (show Blk w0 w.heap.size 34 Tryz.zeroCells34 ∧ Below w.heap.size w w0 from ⟨by rw [hw0]; exact Blk.new w _ _, by rw [hw0]; exact (Below.refl _ w).alloc (Nat.le_refl _) _⟩)
  have QF := hide (rfields_any s w0 (by omega))
  have i0 : ¬ (256 : Int) < (s.size : Int) := by omega
  clear hw0 hs
  go_enter Tryz.func11, Tryz.ntmps11
  go_wp2_with fail
  rw [← HW.out]
  refine QF.out.mono ?_
  rintro e w1 ⟨v, ts, rfl, ho, hts, b1⟩
  have hpos : 0 < ts.length := by have := flds_pos (lst s); rw [← hts, List.length_map] at this; exact this
  obtain ⟨g, cap, rfl, hg0, hg1⟩ := World.ownsRow.form ho hpos
  have hsm := sm_of hts HS.out
  obtain ⟨x0, hx0⟩ := at_of hpos
  obtain ⟨w2, hw2⟩ : ∃ w2, w2 = w1.alloc (.cells #[.slice (some ⟨g, 0, none⟩) ts.length cap, .int .i64 0, .int .i64 0, .int .i64 0, .int .i64 0] 74) := ⟨_, rfl⟩
  have K2 := hide (show PK w w2 w1.heap.size g cap ts 0 none from by
    have c1 := H0.out.1.below' b1
    have c2 := Below.step H0.out.2 b1
    have al := (Below.refl w1.heap.size w1).alloc (Nat.le_refl _) (.cells #[.slice (some ⟨g, 0, none⟩) ts.length cap, .int .i64 0, .int .i64 0, .int .i64 0, .int .i64 0] 74)
    rw [hw2]
    exact ⟨c1.alloc _, Below.step c2 al, rds_start (Blk.new _ _ _) (ho.alloc _) (by omega), c1.lt⟩)
  have HW2 := hide hw2
  have HTS := hide (And.intro hts hsm)
  have QP := hide (fun W n st x (h : RdS W w1.heap.size g cap ts n st) (hx : ts[n]? = some x) => part_st W w1.heap.size g cap ts n st x h hx hsm)
  have HX0 := hide hx0
  clear ho b1 hg0 hg1 hsm hw2 hx0
  go_wp2_with fail
  rw [← HW2.out]
  refine (QP.out _ 0 none x0 K2.out.rds HX0.out).mono ?_
  rintro e w3 ⟨rfl, r, gr⟩
  have K3 := hide (K2.out.next r gr)
  have hq0 : part_ (flds (lst s)) 0 = lst x0 := by rw [← hts]; exact part_of HX0.out
  have hln : (flds (lst s)).length = ts.length := by rw [← hts, List.length_map]
  clear r gr
  have hx : x0 = ⟨#[115, 116, 114, 111, 110, 103, 114, 111, 111, 109]⟩ := lst_inj (by rw [← hq0, HH.out]; rfl)
  subst hx
  have hrl := K3.out.rds.r.cells
  obtain ⟨rc0, rc1, rc2, rc3, rc4⟩ := hrl
  rw [hln] at HL
  obtain ⟨x1, hx1⟩ := at_of (ts := ts) (j := 1) (by have := HL.out; omega)
  have hq1 : part_ (flds (lst s)) 1 = lst x1 := by rw [← hts]; exact part_of hx1
  have i2 : ¬ (ts.length : Int) < 2 := by have := HL.out; omega
  have HX1 := hide hx1
  have HTL := hide hln
  clear hq0 hln hts hx1 hpos rc1 rc2 rc3 rc4
  go_wp2_with fail
  refine (QP.out _ 1 none x1 K3.out.rds HX1.out).mono ?_
  rintro e w4 ⟨rfl, r, gr⟩
  have K4 := hide (K3.out.next r gr)
  clear r gr rc0
  go_wp2_with fail
  refine (kind_any x1 _).mono ?_
  rintro e w5 ⟨rfl, rfl⟩
  have hkv := HK.out
  rw [hq1] at hkv
  have hkv2 := kindV_of hkv
  rw [hkv2]
  clear hkv hkv2 hq1
  rw [show kindVal (some (2, d)) = .tuple #[.int .u8 2, .bool d, .bool true] from rfl]
  have i3 : (ts.length : Int) < 8 := by have := HL3.out; have := HTL.out; omega
  have rc0 := K4.out.rds.r.cells.1
  go_wp2_with ((with_reducible change wpList _ _ _ (⟨none, .store _ (.tmp 2) _, _, _, _, _⟩ :: _) _ _); go_loud (refine wpList_store_row (o := ⟨none, .store _ (.tmp 2) _, _, _, _, _⟩) K4.out.res Tryz.zeroCells34 (by kernel_rfl) (by rw [capZ_eq]; exact CP.zero_one) rfl 34 _ _ rfl (by kernel_rfl) rfl rfl ?_; intro w9 hb9 hg9))
  refine bodyPost_ret (res_row2 rfl _ _ w.heap.size 34 Tryz.zeroCells34 (0, 0) _ rfl hb9 Tryz.underlying34 rfl (by kernel_rfl)) rfl ?_
  have hF := HFF.out
  rw [lst_len] at hF
  exact rp_fail hF (K4.out.bel.grown hg9 K4.out.bel.size fun k hk => (by injection hk with hk; omega)) (by rw [← capZ_eq]; rfl)
set_option maxRecDepth 100000 in
set_option maxHeartbeats 8000000 in
theorem rparse_many2 (s : ByteArray) (w : World) (hs : s.size ≤ 256) (h0 : part_ (flds (lst s)) 0 = tRoom) (h1 : ¬ (flds (lst s)).length < 2) (d : Bool) (h2 : kindL (part_ (flds (lst s)) 1) = some (2, d)) (h3 : 8 < (flds (lst s)).length) : Calls Tryz.prog 11 #[.string s] w (ParsedPost (lst s) w) := by
  have HFF := hide (cap_many (by rw [lst_len]; exact hs) h0 h1 h2 h3)
  have HH := hide h0
  have HL := hide h1
  have HK := hide h2
  have HL3 := hide h3
  clear h0 h1 h2 h3
  have HS := hide hs
  obtain ⟨w0, hw0⟩ : ∃ w0, w0 = w.alloc (.cells Tryz.zeroCells34 34) := ⟨_, rfl⟩
  have HW := hide hw0
  have H0 := hide (show Blk w0 w.heap.size 34 Tryz.zeroCells34 ∧ Below w.heap.size w w0 from ⟨by rw [hw0]; exact Blk.new w _ _, by rw [hw0]; exact (Below.refl _ w).alloc (Nat.le_refl _) _⟩)
  have QF := hide (rfields_any s w0 (by omega))
  have i0 : ¬ (256 : Int) < (s.size : Int) := by omega
  clear hw0 hs
  go_enter Tryz.func11, Tryz.ntmps11
  go_wp2_with fail
  rw [← HW.out]
  refine QF.out.mono ?_
  rintro e w1 ⟨v, ts, rfl, ho, hts, b1⟩
  have hpos : 0 < ts.length := by have := flds_pos (lst s); rw [← hts, List.length_map] at this; exact this
  obtain ⟨g, cap, rfl, hg0, hg1⟩ := World.ownsRow.form ho hpos
  have hsm := sm_of hts HS.out
  obtain ⟨x0, hx0⟩ := at_of hpos
  obtain ⟨w2, hw2⟩ : ∃ w2, w2 = w1.alloc (.cells #[.slice (some ⟨g, 0, none⟩) ts.length cap, .int .i64 0, .int .i64 0, .int .i64 0, .int .i64 0] 74) := ⟨_, rfl⟩
  have K2 := hide (show PK w w2 w1.heap.size g cap ts 0 none from by
    have c1 := H0.out.1.below' b1
    have c2 := Below.step H0.out.2 b1
    have al := (Below.refl w1.heap.size w1).alloc (Nat.le_refl _) (.cells #[.slice (some ⟨g, 0, none⟩) ts.length cap, .int .i64 0, .int .i64 0, .int .i64 0, .int .i64 0] 74)
    rw [hw2]
    exact ⟨c1.alloc _, Below.step c2 al, rds_start (Blk.new _ _ _) (ho.alloc _) (by omega), c1.lt⟩)
  have HW2 := hide hw2
  have HTS := hide (And.intro hts hsm)
  have QP := hide (fun W n st x (h : RdS W w1.heap.size g cap ts n st) (hx : ts[n]? = some x) => part_st W w1.heap.size g cap ts n st x h hx hsm)
  have HX0 := hide hx0
  clear ho b1 hg0 hg1 hsm hw2 hx0
  go_wp2_with fail
  rw [← HW2.out]
  refine (QP.out _ 0 none x0 K2.out.rds HX0.out).mono ?_
  rintro e w3 ⟨rfl, r, gr⟩
  have K3 := hide (K2.out.next r gr)
  have hq0 : part_ (flds (lst s)) 0 = lst x0 := by rw [← hts]; exact part_of HX0.out
  have hln : (flds (lst s)).length = ts.length := by rw [← hts, List.length_map]
  clear r gr
  have hx : x0 = ⟨#[115, 116, 114, 111, 110, 103, 114, 111, 111, 109]⟩ := lst_inj (by rw [← hq0, HH.out]; rfl)
  subst hx
  have hrl := K3.out.rds.r.cells
  obtain ⟨rc0, rc1, rc2, rc3, rc4⟩ := hrl
  rw [hln] at HL
  obtain ⟨x1, hx1⟩ := at_of (ts := ts) (j := 1) (by have := HL.out; omega)
  have hq1 : part_ (flds (lst s)) 1 = lst x1 := by rw [← hts]; exact part_of hx1
  have i2 : ¬ (ts.length : Int) < 2 := by have := HL.out; omega
  have HX1 := hide hx1
  have HTL := hide hln
  clear hq0 hln hts hx1 hpos rc1 rc2 rc3 rc4
  go_wp2_with fail
  refine (QP.out _ 1 none x1 K3.out.rds HX1.out).mono ?_
  rintro e w4 ⟨rfl, r, gr⟩
  have K4 := hide (K3.out.next r gr)
  clear r gr rc0
  go_wp2_with fail
  refine (kind_any x1 _).mono ?_
  rintro e w5 ⟨rfl, rfl⟩
  have hkv := HK.out
  rw [hq1] at hkv
  have hkv2 := kindV_of hkv
  rw [hkv2]
  clear hkv hkv2 hq1
  rw [show kindVal (some (2, d)) = .tuple #[.int .u8 2, .bool d, .bool true] from rfl]
  have i3 : ¬ (ts.length : Int) < 8 := by have := HL3.out; have := HTL.out; omega
  have i4 : (8 : Int) < (ts.length : Int) := by have := HL3.out; have := HTL.out; omega
  have HL4 := hide (show 8 < ts.length from by have := HL3.out; have := HTL.out; omega)
  have rc0 := K4.out.rds.r.cells.1
  go_wp2_with fail
  go_loopw [77] (fun _ wr => ∃ n : Nat, n ≤ 8 ∧ PK w wr w1.heap.size g cap ts n none) (fun _ wr => 8 - (intOf ((wr.cell? ⟨w1.heap.size, 1, none⟩).getD undef)).toNat)
  case atStart => exact ⟨2, by omega, K4.out⟩
  case round =>
    obtain ⟨n, hn, hk⟩ := hrel
    have KN := hide hk
    have rc1 := hk.rds.r.cells.2.1
    clear hk rc0
    by_cases hlt : n < 8
    · have j1 : (n : Int) < 8 := by omega
      obtain ⟨x, hx⟩ := at_of (ts := ts) (j := n) (by have := HL4.out; omega)
      have HX := hide hx
      have HLT := hide hlt
      clear hx hlt
      go_wp2_with fail
      refine (QP.out _ n none x KN.out.rds HX.out).mono ?_
      rintro e w6 ⟨rfl, r, gr⟩
      have K6 := hide (KN.out.next r gr)
      clear r gr
      have HC1 := hide rc1
      clear rc1
      go_wp2
      go_roundw
      case rel => exact ⟨n + 1, by have := HLT.out; omega, K6.out⟩
      case measure =>
        rw [K6.out.rds.r.cells.2.1, HC1.out]
        have := HLT.out
        simp [intOf]
        omega
    · have hnw : n = 8 := by omega
      subst hnw
      have j1 : ¬ (((8 : Nat) : Int) < 8) := by omega
      have rc2 := KN.out.rds.r.cells.2.2.1
      obtain ⟨P, hP⟩ : ∃ P, P = place (ts.map lst) 8 := ⟨_, rfl⟩
      have HP := hide (show place (flds (lst s)) 8 = P from by rw [hP, HTS.out.1])
      rw [← hP] at rc2
      have hS : wr.cell? ⟨w1.heap.size, 2, none⟩ = some (.int .i64 (P : Int)) ∧ wr.there w.heap.size 0 107 := ⟨rc2, there_of_blk KN.out.res (by kernel_rfl)⟩
      have HGL := hide (show w1.heap.size ≠ w.heap.size from by have := KN.out.lt; omega)
      clear hP hlt hn
      go_wp2_with fail
      go_region_held3 (fun w' => w'.cell? ⟨w1.heap.size, 2, none⟩ = some (.int .i64 (P : Int)) ∧ w'.there w.heap.size 0 107) (first | with_reducible assumption | (with_reducible refine keepR1 ?_ HGL.out; with_reducible assumption) | (simp only [World.cell?_drew, World.there_drew]; with_reducible assumption)) (fail)
      all_goals
        go_wp2_with fail
        refine bodyPost_ret (res_row2 rfl _ _ w.heap.size 34 Tryz.zeroCells34 (0, 0) _ rfl (blk_fill KN.out.res.drew rfl) Tryz.underlying34 rfl (by kernel_rfl)) rfl ?_
        have hF := HFF.out
        rw [show want 2 = 8 from rfl, HP.out] at hF
        exact rp_fail hF (KN.out.bel.drew.trans (Lib.below_setCells_w (Nat.le_refl _) _ _ _)) (by rw [← capZ_eq]; rfl)
set_option maxRecDepth 100000 in
set_option maxHeartbeats 8000000 in
theorem rparse_few3 (s : ByteArray) (w : World) (hs : s.size ≤ 256) (h0 : part_ (flds (lst s)) 0 = tRoom) (h1 : ¬ (flds (lst s)).length < 2) (d : Bool) (h2 : kindL (part_ (flds (lst s)) 1) = some (3, d)) (h3 : (flds (lst s)).length < 3) : Calls Tryz.prog 11 #[.string s] w (ParsedPost (lst s) w) := by
  have HFF := hide (cap_few (by rw [lst_len]; exact hs) h0 h1 h2 h3)
  have HH := hide h0
  have HL := hide h1
  have HK := hide h2
  have HL3 := hide h3
  clear h0 h1 h2 h3
  have HS := hide hs
  obtain ⟨w0, hw0⟩ : ∃ w0, w0 = w.alloc (.cells Tryz.zeroCells34 34) := ⟨_, rfl⟩
  have HW := hide hw0
  have H0 := hide (show Blk w0 w.heap.size 34 Tryz.zeroCells34 ∧ Below w.heap.size w w0 from ⟨by rw [hw0]; exact Blk.new w _ _, by rw [hw0]; exact (Below.refl _ w).alloc (Nat.le_refl _) _⟩)
  have QF := hide (rfields_any s w0 (by omega))
  have i0 : ¬ (256 : Int) < (s.size : Int) := by omega
  clear hw0 hs
  go_enter Tryz.func11, Tryz.ntmps11
  go_wp2_with fail
  rw [← HW.out]
  refine QF.out.mono ?_
  rintro e w1 ⟨v, ts, rfl, ho, hts, b1⟩
  have hpos : 0 < ts.length := by have := flds_pos (lst s); rw [← hts, List.length_map] at this; exact this
  obtain ⟨g, cap, rfl, hg0, hg1⟩ := World.ownsRow.form ho hpos
  have hsm := sm_of hts HS.out
  obtain ⟨x0, hx0⟩ := at_of hpos
  obtain ⟨w2, hw2⟩ : ∃ w2, w2 = w1.alloc (.cells #[.slice (some ⟨g, 0, none⟩) ts.length cap, .int .i64 0, .int .i64 0, .int .i64 0, .int .i64 0] 74) := ⟨_, rfl⟩
  have K2 := hide (show PK w w2 w1.heap.size g cap ts 0 none from by
    have c1 := H0.out.1.below' b1
    have c2 := Below.step H0.out.2 b1
    have al := (Below.refl w1.heap.size w1).alloc (Nat.le_refl _) (.cells #[.slice (some ⟨g, 0, none⟩) ts.length cap, .int .i64 0, .int .i64 0, .int .i64 0, .int .i64 0] 74)
    rw [hw2]
    exact ⟨c1.alloc _, Below.step c2 al, rds_start (Blk.new _ _ _) (ho.alloc _) (by omega), c1.lt⟩)
  have HW2 := hide hw2
  have HTS := hide (And.intro hts hsm)
  have QP := hide (fun W n st x (h : RdS W w1.heap.size g cap ts n st) (hx : ts[n]? = some x) => part_st W w1.heap.size g cap ts n st x h hx hsm)
  have HX0 := hide hx0
  clear ho b1 hg0 hg1 hsm hw2 hx0
  go_wp2_with fail
  rw [← HW2.out]
  refine (QP.out _ 0 none x0 K2.out.rds HX0.out).mono ?_
  rintro e w3 ⟨rfl, r, gr⟩
  have K3 := hide (K2.out.next r gr)
  have hq0 : part_ (flds (lst s)) 0 = lst x0 := by rw [← hts]; exact part_of HX0.out
  have hln : (flds (lst s)).length = ts.length := by rw [← hts, List.length_map]
  clear r gr
  have hx : x0 = ⟨#[115, 116, 114, 111, 110, 103, 114, 111, 111, 109]⟩ := lst_inj (by rw [← hq0, HH.out]; rfl)
  subst hx
  have hrl := K3.out.rds.r.cells
  obtain ⟨rc0, rc1, rc2, rc3, rc4⟩ := hrl
  rw [hln] at HL
  obtain ⟨x1, hx1⟩ := at_of (ts := ts) (j := 1) (by have := HL.out; omega)
  have hq1 : part_ (flds (lst s)) 1 = lst x1 := by rw [← hts]; exact part_of hx1
  have i2 : ¬ (ts.length : Int) < 2 := by have := HL.out; omega
  have HX1 := hide hx1
  have HTL := hide hln
  clear hq0 hln hts hx1 hpos rc1 rc2 rc3 rc4
  go_wp2_with fail
  refine (QP.out _ 1 none x1 K3.out.rds HX1.out).mono ?_
  rintro e w4 ⟨rfl, r, gr⟩
  have K4 := hide (K3.out.next r gr)
  clear r gr rc0
  go_wp2_with fail
  refine (kind_any x1 _).mono ?_
  rintro e w5 ⟨rfl, rfl⟩
  have hkv := HK.out
  rw [hq1] at hkv
  have hkv2 := kindV_of hkv
  rw [hkv2]
  clear hkv hkv2 hq1
  rw [show kindVal (some (3, d)) = .tuple #[.int .u8 3, .bool d, .bool true] from rfl]
  have i3 : (ts.length : Int) < 3 := by have := HL3.out; have := HTL.out; omega
  have rc0 := K4.out.rds.r.cells.1
  go_wp2_with ((with_reducible change wpList _ _ _ (⟨none, .store _ (.tmp 2) _, _, _, _, _⟩ :: _) _ _); go_loud (refine wpList_store_row (o := ⟨none, .store _ (.tmp 2) _, _, _, _, _⟩) K4.out.res Tryz.zeroCells34 (by kernel_rfl) (by rw [capZ_eq]; exact CP.zero_one) rfl 34 _ _ rfl (by kernel_rfl) rfl rfl ?_; intro w9 hb9 hg9))
  refine bodyPost_ret (res_row2 rfl _ _ w.heap.size 34 Tryz.zeroCells34 (0, 0) _ rfl hb9 Tryz.underlying34 rfl (by kernel_rfl)) rfl ?_
  have hF := HFF.out
  rw [lst_len] at hF
  exact rp_fail hF (K4.out.bel.grown hg9 K4.out.bel.size fun k hk => (by injection hk with hk; omega)) (by rw [← capZ_eq]; rfl)
set_option maxRecDepth 100000 in
set_option maxHeartbeats 8000000 in
theorem rparse_many3 (s : ByteArray) (w : World) (hs : s.size ≤ 256) (h0 : part_ (flds (lst s)) 0 = tRoom) (h1 : ¬ (flds (lst s)).length < 2) (d : Bool) (h2 : kindL (part_ (flds (lst s)) 1) = some (3, d)) (h3 : 3 < (flds (lst s)).length) : Calls Tryz.prog 11 #[.string s] w (ParsedPost (lst s) w) := by
  have HFF := hide (cap_many (by rw [lst_len]; exact hs) h0 h1 h2 h3)
  have HH := hide h0
  have HL := hide h1
  have HK := hide h2
  have HL3 := hide h3
  clear h0 h1 h2 h3
  have HS := hide hs
  obtain ⟨w0, hw0⟩ : ∃ w0, w0 = w.alloc (.cells Tryz.zeroCells34 34) := ⟨_, rfl⟩
  have HW := hide hw0
  have H0 := hide (show Blk w0 w.heap.size 34 Tryz.zeroCells34 ∧ Below w.heap.size w w0 from ⟨by rw [hw0]; exact Blk.new w _ _, by rw [hw0]; exact (Below.refl _ w).alloc (Nat.le_refl _) _⟩)
  have QF := hide (rfields_any s w0 (by omega))
  have i0 : ¬ (256 : Int) < (s.size : Int) := by omega
  clear hw0 hs
  go_enter Tryz.func11, Tryz.ntmps11
  go_wp2_with fail
  rw [← HW.out]
  refine QF.out.mono ?_
  rintro e w1 ⟨v, ts, rfl, ho, hts, b1⟩
  have hpos : 0 < ts.length := by have := flds_pos (lst s); rw [← hts, List.length_map] at this; exact this
  obtain ⟨g, cap, rfl, hg0, hg1⟩ := World.ownsRow.form ho hpos
  have hsm := sm_of hts HS.out
  obtain ⟨x0, hx0⟩ := at_of hpos
  obtain ⟨w2, hw2⟩ : ∃ w2, w2 = w1.alloc (.cells #[.slice (some ⟨g, 0, none⟩) ts.length cap, .int .i64 0, .int .i64 0, .int .i64 0, .int .i64 0] 74) := ⟨_, rfl⟩
  have K2 := hide (show PK w w2 w1.heap.size g cap ts 0 none from by
    have c1 := H0.out.1.below' b1
    have c2 := Below.step H0.out.2 b1
    have al := (Below.refl w1.heap.size w1).alloc (Nat.le_refl _) (.cells #[.slice (some ⟨g, 0, none⟩) ts.length cap, .int .i64 0, .int .i64 0, .int .i64 0, .int .i64 0] 74)
    rw [hw2]
    exact ⟨c1.alloc _, Below.step c2 al, rds_start (Blk.new _ _ _) (ho.alloc _) (by omega), c1.lt⟩)
  have HW2 := hide hw2
  have HTS := hide (And.intro hts hsm)
  have QP := hide (fun W n st x (h : RdS W w1.heap.size g cap ts n st) (hx : ts[n]? = some x) => part_st W w1.heap.size g cap ts n st x h hx hsm)
  have HX0 := hide hx0
  clear ho b1 hg0 hg1 hsm hw2 hx0
  go_wp2_with fail
  rw [← HW2.out]
  refine (QP.out _ 0 none x0 K2.out.rds HX0.out).mono ?_
  rintro e w3 ⟨rfl, r, gr⟩
  have K3 := hide (K2.out.next r gr)
  have hq0 : part_ (flds (lst s)) 0 = lst x0 := by rw [← hts]; exact part_of HX0.out
  have hln : (flds (lst s)).length = ts.length := by rw [← hts, List.length_map]
  clear r gr
  have hx : x0 = ⟨#[115, 116, 114, 111, 110, 103, 114, 111, 111, 109]⟩ := lst_inj (by rw [← hq0, HH.out]; rfl)
  subst hx
  have hrl := K3.out.rds.r.cells
  obtain ⟨rc0, rc1, rc2, rc3, rc4⟩ := hrl
  rw [hln] at HL
  obtain ⟨x1, hx1⟩ := at_of (ts := ts) (j := 1) (by have := HL.out; omega)
  have hq1 : part_ (flds (lst s)) 1 = lst x1 := by rw [← hts]; exact part_of hx1
  have i2 : ¬ (ts.length : Int) < 2 := by have := HL.out; omega
  have HX1 := hide hx1
  have HTL := hide hln
  clear hq0 hln hts hx1 hpos rc1 rc2 rc3 rc4
  go_wp2_with fail
  refine (QP.out _ 1 none x1 K3.out.rds HX1.out).mono ?_
  rintro e w4 ⟨rfl, r, gr⟩
  have K4 := hide (K3.out.next r gr)
  clear r gr rc0
  go_wp2_with fail
  refine (kind_any x1 _).mono ?_
  rintro e w5 ⟨rfl, rfl⟩
  have hkv := HK.out
  rw [hq1] at hkv
  have hkv2 := kindV_of hkv
  rw [hkv2]
  clear hkv hkv2 hq1
  rw [show kindVal (some (3, d)) = .tuple #[.int .u8 3, .bool d, .bool true] from rfl]
  have i3 : ¬ (ts.length : Int) < 3 := by have := HL3.out; have := HTL.out; omega
  have i4 : (3 : Int) < (ts.length : Int) := by have := HL3.out; have := HTL.out; omega
  have HL4 := hide (show 3 < ts.length from by have := HL3.out; have := HTL.out; omega)
  have rc0 := K4.out.rds.r.cells.1
  go_wp2_with fail
  go_loopw [77] (fun _ wr => ∃ n : Nat, n ≤ 3 ∧ PK w wr w1.heap.size g cap ts n none) (fun _ wr => 3 - (intOf ((wr.cell? ⟨w1.heap.size, 1, none⟩).getD undef)).toNat)
  case atStart => exact ⟨2, by omega, K4.out⟩
  case round =>
    obtain ⟨n, hn, hk⟩ := hrel
    have KN := hide hk
    have rc1 := hk.rds.r.cells.2.1
    clear hk rc0
    by_cases hlt : n < 3
    · have j1 : (n : Int) < 3 := by omega
      obtain ⟨x, hx⟩ := at_of (ts := ts) (j := n) (by have := HL4.out; omega)
      have HX := hide hx
      have HLT := hide hlt
      clear hx hlt
      go_wp2_with fail
      refine (QP.out _ n none x KN.out.rds HX.out).mono ?_
      rintro e w6 ⟨rfl, r, gr⟩
      have K6 := hide (KN.out.next r gr)
      clear r gr
      have HC1 := hide rc1
      clear rc1
      go_wp2
      go_roundw
      case rel => exact ⟨n + 1, by have := HLT.out; omega, K6.out⟩
      case measure =>
        rw [K6.out.rds.r.cells.2.1, HC1.out]
        have := HLT.out
        simp [intOf]
        omega
    · have hnw : n = 3 := by omega
      subst hnw
      have j1 : ¬ (((3 : Nat) : Int) < 3) := by omega
      have rc2 := KN.out.rds.r.cells.2.2.1
      obtain ⟨P, hP⟩ : ∃ P, P = place (ts.map lst) 3 := ⟨_, rfl⟩
      have HP := hide (show place (flds (lst s)) 3 = P from by rw [hP, HTS.out.1])
      rw [← hP] at rc2
      have hS : wr.cell? ⟨w1.heap.size, 2, none⟩ = some (.int .i64 (P : Int)) ∧ wr.there w.heap.size 0 107 := ⟨rc2, there_of_blk KN.out.res (by kernel_rfl)⟩
      have HGL := hide (show w1.heap.size ≠ w.heap.size from by have := KN.out.lt; omega)
      clear hP hlt hn
      go_wp2_with fail
      go_region_held3 (fun w' => w'.cell? ⟨w1.heap.size, 2, none⟩ = some (.int .i64 (P : Int)) ∧ w'.there w.heap.size 0 107) (first | with_reducible assumption | (with_reducible refine keepR1 ?_ HGL.out; with_reducible assumption) | (simp only [World.cell?_drew, World.there_drew]; with_reducible assumption)) (fail)
      all_goals
        go_wp2_with fail
        refine bodyPost_ret (res_row2 rfl _ _ w.heap.size 34 Tryz.zeroCells34 (0, 0) _ rfl (blk_fill KN.out.res.drew rfl) Tryz.underlying34 rfl (by kernel_rfl)) rfl ?_
        have hF := HFF.out
        rw [show want 3 = 3 from rfl, HP.out] at hF
        exact rp_fail hF (KN.out.bel.drew.trans (Lib.below_setCells_w (Nat.le_refl _) _ _ _)) (by rw [← capZ_eq]; rfl)
end Go.Proofs.YtcpceaflnnkhnaaGreatDoor
