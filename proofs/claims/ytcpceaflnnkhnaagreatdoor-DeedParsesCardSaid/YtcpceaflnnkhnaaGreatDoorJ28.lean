/- Joined texts: RdrE. -/
import Derived.Test.YtcpceaflnnkhnaaGreatDoorJ27
import Derived.Deep.RegionHeld3

/- The document's Parse. (Printed by wip/rdre.py.) -/
namespace Go.Proofs.YtcpceaflnnkhnaaGreatDoor
open Go.RowKit
attribute [local go_sem ↓] Go.wp_at_zero Go.wp_at_succ
attribute [local go_sem ↓] capZ_store
attribute [local go_sem] capZ_storeC

theorem flds_pos (l : List UInt8) : 0 < (flds l).length := by
  cases l with
  | nil => simp [flds]
  | cons c l =>
    by_cases hc : c = 58
    · subst hc; rw [flds_colon]; simp
    · obtain ⟨f, r, h1, h2⟩ := flds_other hc l
      rw [h2]; simp
theorem sm_of {s : ByteArray} {ts : List ByteArray} (h : ts.map lst = flds (lst s)) (hs : s.size ≤ 256) : Sm ts := by
  have hl := lst_len s
  refine ⟨?_, fun n => ?_, fun x hx => ?_⟩
  · have h1 := (flds_total (lst s)).1
    rw [← h, List.length_map] at h1
    omega
  · have h1 := place_le (lst s) n
    rw [h]
    omega
  · obtain ⟨j, hj⟩ := List.getElem?_of_mem hx
    have h1 := part_len (lst s) j
    rw [← h, part_of hj, lst_len] at h1
    omega
theorem rds_start {W : World} {b g cap : Nat} {ts : List ByteArray} {base : Nat} (h : Blk W b 74 #[.slice (some ⟨g, 0, none⟩) ts.length cap, .int .i64 0, .int .i64 0, .int .i64 0, .int .i64 0]) (ho : OwnT W base (.slice (some ⟨g, 0, none⟩) ts.length cap) ts) (hne : g ≠ b) : RdS W b g cap ts 0 none :=
  ⟨⟨h, ho.lower (Nat.zero_le _), hne⟩, fun x hx => by cases hx⟩
/-- What the walk carries: the result's block as it was laid, the caller's blocks, the reader. -/
structure PK (w W : World) (b g cap : Nat) (ts : List ByteArray) (n : Nat) (st : Option (Nat × Nat)) : Prop where
  res : Blk W w.heap.size 34 Tryz.zeroCells34
  bel : Below w.heap.size w W
  rds : RdS W b g cap ts n st
  lt : w.heap.size < b
theorem PK.next {w W W' : World} {b g cap : Nat} {ts : List ByteArray} {n n' : Nat} {st st' : Option (Nat × Nat)} (h : PK w W b g cap ts n st) (hr : RdS W' b g cap ts n' st') (hg : W.grownBy W' (some b)) : PK w W' b g cap ts n' st' :=
  ⟨h.res.grown hg (by have := h.lt; simp; omega), h.bel.grown hg h.bel.size (fun k hk => by injection hk with hk; have := h.lt; omega), hr, h.lt⟩
theorem PK.below {w W W' : World} {b g cap : Nat} {ts : List ByteArray} {n : Nat} {st : Option (Nat × Nat)} (h : PK w W b g cap ts n st) (hb : Below W.heap.size W W') : PK w W' b g cap ts n st :=
  h.next (h.rds.below hb) (grownOfBelow hb _)
theorem rp_fail {s : List UInt8} {a er : Nat} {w w' : World} {e : Ending} (hF : capF s = some (a, er)) (hb : Below w.heap.size w w') (he : e = .returned (.tuple #[.agg (CP.zero.cells (.slice none 0 0)), .int .i64 ((a : Nat) : Int), .int .i64 ((er : Nat) : Int)])) : ParsedPost s w e w' :=
  ⟨hb, (fun h => by rw [hF] at h; cases h), fun a2 er2 h => by rw [hF] at h; injection h with h; injection h with e1 e2; subst e1 e2; exact he⟩
set_option maxRecDepth 100000 in
set_option maxHeartbeats 8000000 in
theorem rparse_long (s : ByteArray) (w : World) (hs : 256 < s.size) : Calls Tryz.prog 11 #[.string s] w (ParsedPost (lst s) w) := by
  have hF : capF (lst s) = some (256, 151) := by unfold capF; rw [lst_len, if_pos (by omega)]
  have i1 : (256 : Int) < (s.size : Int) := by omega
  have HB := hide ((Below.refl w.heap.size w).alloc (Nat.le_refl _) (.cells Tryz.zeroCells34 34))
  have HFF := hide hF
  clear hs hF
  go_enter Tryz.func11, Tryz.ntmps11
  go_wp2_with ((with_reducible change wpList _ _ _ (⟨none, .store _ (.tmp 2) _, _, _, _, _⟩ :: _) _ _); go_loud (refine wpList_store_row (o := ⟨none, .store _ (.tmp 2) _, _, _, _, _⟩) (Blk.new w _ _) Tryz.zeroCells34 (by kernel_rfl) (by rw [capZ_eq]; exact CP.zero_one) rfl 34 _ _ rfl (by kernel_rfl) rfl rfl ?_; intro w9 hb9 hg9))
  refine bodyPost_ret (res_row2 rfl _ _ w.heap.size 34 Tryz.zeroCells34 (0, 0) _ rfl hb9 Tryz.underlying34 rfl (by kernel_rfl)) rfl ?_
  exact rp_fail HFF.out (HB.out.grown hg9 HB.out.size fun k hk => (by injection hk with hk; omega)) (by rw [← capZ_eq]; rfl)
set_option maxRecDepth 100000 in
set_option maxHeartbeats 8000000 in
theorem rparse_0 (s : ByteArray) (w : World) (hs : s.size ≤ 256) (h0 : part_ (flds (lst s)) 0 ≠ tRoom) : Calls Tryz.prog 11 #[.string s] w (ParsedPost (lst s) w) := by
  have hF : capF (lst s) = some (0, 150) := capF_0 (by rw [lst_len]; exact hs) h0
  have HFF := hide hF
  have HH := hide h0
  clear hF h0
  have HS := hide hs
  obtain ⟨w0, hw0⟩ : ∃ w0, w0 = w.alloc (.cells Tryz.zeroCells34 34) := ⟨_, rfl⟩
  have HW := hide hw0
  have H0 := hide (show Blk w0 w.heap.size 34 Tryz.zeroCells34 ∧ Below w.heap.size w w0 from ⟨by rw [hw0]; exact Blk.new w _ _, by rw [hw0]; exact (Below.refl _ w).alloc (Nat.le_refl _) _⟩)
  have QF := hide (rfields_any s w0 (by omega))
  have i0 : ¬ (256 : Int) < (s.size : Int) := by omega
  clear hw0 hs
  go_enter Tryz.func11, Tryz.ntmps11
  go_wp2_with fail
  rw [← HW.out]
  refine QF.out.mono ?_
  rintro e w1 ⟨v, ts, rfl, ho, hts, b1⟩
  have hpos : 0 < ts.length := by have := flds_pos (lst s); rw [← hts, List.length_map] at this; exact this
  obtain ⟨g, cap, rfl, hg0, hg1⟩ := World.ownsRow.form ho hpos
  have hsm := sm_of hts HS.out
  obtain ⟨x0, hx0⟩ := at_of hpos
  obtain ⟨w2, hw2⟩ : ∃ w2, w2 = w1.alloc (.cells #[.slice (some ⟨g, 0, none⟩) ts.length cap, .int .i64 0, .int .i64 0, .int .i64 0, .int .i64 0] 74) := ⟨_, rfl⟩
  have K2 := hide (show PK w w2 w1.heap.size g cap ts 0 none from by
    have c1 := H0.out.1.below' b1
    have c2 := Below.step H0.out.2 b1
    have al := (Below.refl w1.heap.size w1).alloc (Nat.le_refl _) (.cells #[.slice (some ⟨g, 0, none⟩) ts.length cap, .int .i64 0, .int .i64 0, .int .i64 0, .int .i64 0] 74)
    rw [hw2]
    exact ⟨c1.alloc _, Below.step c2 al, rds_start (Blk.new _ _ _) (ho.alloc _) (by omega), c1.lt⟩)
  have HW2 := hide hw2
  have HTS := hide (And.intro hts hsm)
  have QP := hide (fun W n st x (h : RdS W w1.heap.size g cap ts n st) (hx : ts[n]? = some x) => part_st W w1.heap.size g cap ts n st x h hx hsm)
  have HX0 := hide hx0
  clear ho b1 hg0 hg1 hsm hw2 hx0
  go_wp2_with fail
  rw [← HW2.out]
  refine (QP.out _ 0 none x0 K2.out.rds HX0.out).mono ?_
  rintro e w3 ⟨rfl, r, gr⟩
  have K3 := hide (K2.out.next r gr)
  have hq0 : part_ (flds (lst s)) 0 = lst x0 := by rw [← hts]; exact part_of HX0.out
  have hln : (flds (lst s)).length = ts.length := by rw [← hts, List.length_map]
  clear r gr
  have hne : lst x0 ≠ [115, 116, 114, 111, 110, 103, 114, 111, 111, 109] := fun h => HH.out (by rw [hq0, h]; rfl)
  have e1 : (x0.toList == [115, 116, 114, 111, 110, 103, 114, 111, 111, 109]) = false := by rw [str_toList, beq_eq_false_iff_ne]; exact hne
  have e2 : (x0.toList == (⟨#[115, 116, 114, 111, 110, 103, 114, 111, 111, 109]⟩ : ByteArray).toList) = false := by rw [str_toList, str_toList, beq_eq_false_iff_ne]; exact hne
  clear hne hq0 hln hts hpos
  go_wp2_with ((with_reducible change wpList _ _ _ (⟨none, .store _ (.tmp 2) _, _, _, _, _⟩ :: _) _ _); go_loud (refine wpList_store_row (o := ⟨none, .store _ (.tmp 2) _, _, _, _, _⟩) K3.out.res Tryz.zeroCells34 (by kernel_rfl) (by rw [capZ_eq]; exact CP.zero_one) rfl 34 _ _ rfl (by kernel_rfl) rfl rfl ?_; intro w9 hb9 hg9))
  refine bodyPost_ret (res_row2 rfl _ _ w.heap.size 34 Tryz.zeroCells34 (0, 0) _ rfl hb9 Tryz.underlying34 rfl (by kernel_rfl)) rfl ?_
  exact rp_fail HFF.out (K3.out.bel.grown hg9 K3.out.bel.size fun k hk => (by injection hk with hk; omega)) (by rw [← capZ_eq]; rfl)
set_option maxRecDepth 100000 in
set_option maxHeartbeats 8000000 in
theorem rparse_1 (s : ByteArray) (w : World) (hs : s.size ≤ 256) (h0 : part_ (flds (lst s)) 0 = tRoom) (h1 : (flds (lst s)).length < 2) : Calls Tryz.prog 11 #[.string s] w (ParsedPost (lst s) w) := by
  have hF : capF (lst s) = some (s.size, 150) := by have := capF_1 (by rw [lst_len]; exact hs) h0 h1; rwa [lst_len] at this
  have HFF := hide hF
  have HH := hide h0
  have HL := hide h1
  clear hF h0 h1
  have HS := hide hs
  obtain ⟨w0, hw0⟩ : ∃ w0, w0 = w.alloc (.cells Tryz.zeroCells34 34) := ⟨_, rfl⟩
  have HW := hide hw0
  have H0 := hide (show Blk w0 w.heap.size 34 Tryz.zeroCells34 ∧ Below w.heap.size w w0 from ⟨by rw [hw0]; exact Blk.new w _ _, by rw [hw0]; exact (Below.refl _ w).alloc (Nat.le_refl _) _⟩)
  have QF := hide (rfields_any s w0 (by omega))
  have i0 : ¬ (256 : Int) < (s.size : Int) := by omega
  clear hw0 hs
  go_enter Tryz.func11, Tryz.ntmps11
  go_wp2_with fail
  rw [← HW.out]
  refine QF.out.mono ?_
  rintro e w1 ⟨v, ts, rfl, ho, hts, b1⟩
  have hpos : 0 < ts.length := by have := flds_pos (lst s); rw [← hts, List.length_map] at this; exact this
  obtain ⟨g, cap, rfl, hg0, hg1⟩ := World.ownsRow.form ho hpos
  have hsm := sm_of hts HS.out
  obtain ⟨x0, hx0⟩ := at_of hpos
  obtain ⟨w2, hw2⟩ : ∃ w2, w2 = w1.alloc (.cells #[.slice (some ⟨g, 0, none⟩) ts.length cap, .int .i64 0, .int .i64 0, .int .i64 0, .int .i64 0] 74) := ⟨_, rfl⟩
  have K2 := hide (show PK w w2 w1.heap.size g cap ts 0 none from by
    have c1 := H0.out.1.below' b1
    have c2 := Below.step H0.out.2 b1
    have al := (Below.refl w1.heap.size w1).alloc (Nat.le_refl _) (.cells #[.slice (some ⟨g, 0, none⟩) ts.length cap, .int .i64 0, .int .i64 0, .int .i64 0, .int .i64 0] 74)
    rw [hw2]
    exact ⟨c1.alloc _, Below.step c2 al, rds_start (Blk.new _ _ _) (ho.alloc _) (by omega), c1.lt⟩)
  have HW2 := hide hw2
  have HTS := hide (And.intro hts hsm)
  have QP := hide (fun W n st x (h : RdS W w1.heap.size g cap ts n st) (hx : ts[n]? = some x) => part_st W w1.heap.size g cap ts n st x h hx hsm)
  have HX0 := hide hx0
  clear ho b1 hg0 hg1 hsm hw2 hx0
  go_wp2_with fail
  rw [← HW2.out]
  refine (QP.out _ 0 none x0 K2.out.rds HX0.out).mono ?_
  rintro e w3 ⟨rfl, r, gr⟩
  have K3 := hide (K2.out.next r gr)
  have hq0 : part_ (flds (lst s)) 0 = lst x0 := by rw [← hts]; exact part_of HX0.out
  have hln : (flds (lst s)).length = ts.length := by rw [← hts, List.length_map]
  clear r gr
  have hx : x0 = ⟨#[115, 116, 114, 111, 110, 103, 114, 111, 111, 109]⟩ := lst_inj (by rw [← hq0, HH.out]; rfl)
  subst hx
  have hrl := K3.out.rds.r.cells
  obtain ⟨rc0, rc1, rc2, rc3, rc4⟩ := hrl
  rw [hln] at HL
  have i2 : (ts.length : Int) < 2 := by have := HL.out; omega
  clear hq0 hln hts hpos rc1 rc2 rc3 rc4
  go_wp2_with ((with_reducible change wpList _ _ _ (⟨none, .store _ (.tmp 2) _, _, _, _, _⟩ :: _) _ _); go_loud (refine wpList_store_row (o := ⟨none, .store _ (.tmp 2) _, _, _, _, _⟩) K3.out.res Tryz.zeroCells34 (by kernel_rfl) (by rw [capZ_eq]; exact CP.zero_one) rfl 34 _ _ rfl (by kernel_rfl) rfl rfl ?_; intro w9 hb9 hg9))
  refine bodyPost_ret (res_row2 rfl _ _ w.heap.size 34 Tryz.zeroCells34 (0, 0) _ rfl hb9 Tryz.underlying34 rfl (by kernel_rfl)) rfl ?_
  exact rp_fail HFF.out (K3.out.bel.grown hg9 K3.out.bel.size fun k hk => (by injection hk with hk; omega)) (by rw [← capZ_eq]; rfl)
end Go.Proofs.YtcpceaflnnkhnaaGreatDoor
