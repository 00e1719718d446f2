/- Joined texts: DdOne. -/
import Derived.Test.YtcpceaflnnkhnaaGreatDoorJ15

/- The law DeedOne: two capabilities with one text are the same. -/
namespace Go.Proofs.YtcpceaflnnkhnaaGreatDoor
open Go.RowKit

/-- What Print answers, as one value. -/
def prS (c : CP) : ByteArray := ⟨(if c.may then c.text else []).toArray⟩
def prE (c : CP) : Int := if c.may then 0 else 5
theorem print_val (cs : Array Value) (c : CP) (v : Value) (w : World) (h : Capy w cs c v) (ht : Tab w) :
    Calls Tryz.prog 18 #[.agg cs] w fun e w' => e = .returned (.tuple #[.string (prS c), .int .i64 (prE c)]) ∧ Below w.heap.size w w' :=
  (print_any cs c v w h ht).mono (by
    rintro e w' ⟨s, rfl, h1, h2⟩
    refine ⟨?_, h2⟩
    rw [show s = prS c from lst_inj (by rw [h1]; unfold prS; rw [lst_mk])]
    rfl)
set_option maxRecDepth 100000 in
set_option maxHeartbeats 4000000 in
theorem law_deedone (cs ds : Array Value) (a b : CP) (v u : Value) (mx : Int) (w : World) (h : Capy w cs a v) (h2 : Capy w ds b u) (hm : w.cell? ⟨1, 0, none⟩ = some (.int .i64 mx)) (ht : Tab w) (he : Err w) (hh : Handle w) :
    Calls Tryz.prog 6 #[.agg cs, .agg ds] w fun e w' => e = .returned (.bool true) ∧ Below w.heap.size w w' := by
  obtain ⟨W, hW⟩ : ∃ W, W = (w.alloc (.cells cs 34)).alloc (.cells ds 34) := ⟨_, rfl⟩
  have HW := hide hW
  have HB := hide (show Blk W w.heap.size 34 cs ∧ Blk W (w.heap.size + 1) 34 ds ∧ Below w.heap.size w W from by
    have b1 := (Below.refl w.heap.size w).alloc (Nat.le_refl _) (.cells cs 34)
    have k2 := Blk.new (w.alloc (.cells cs 34)) 34 ds
    simp only [World.size_alloc] at k2
    rw [hW]
    exact ⟨(Blk.new w 34 cs).alloc _, k2, b1.alloc b1.size _⟩)
  have HZ := hide (And.intro h.size h2.size)
  have P1 := hide (fun W (hW : Below w.heap.size w W) => print_val cs a v W (h.below hW) (ht.below hW))
  have P2 := hide (fun W (hW : Below w.heap.size w W) => print_val ds b u W (h2.below hW) (ht.below hW))
  have QS := hide (fun W (hW : Below w.heap.size w W) => same_cap cs ds a b v u W (h.below hW) (h2.below hW))
  have QA := hide (fun W (hW : Below w.heap.size w W) => awake_any mx W ((hW.cell (World.block_lt_of_cell? _ _ hm)).trans hm) (ht.below hW) (he.below hW) (hh.below hW))
  obtain ⟨q, hq⟩ : ∃ q, q = decide (a = b) := ⟨_, rfl⟩
  have HQ : Hid (a.may → b.may → ((prS a).toList == (prS b).toList) = q) := hide fun ma mb => by
    rw [hq, str_toList, str_toList, Bool.eq_iff_iff]
    simp only [beq_iff_eq, decide_eq_true_eq]
    unfold prS
    rw [if_pos ma, if_pos mb]
    simp only []
    exact text_inj h.wf h2.wf ma mb
  rw [← hq] at QS
  unfold prE at P1 P2
  by_cases ma : a.may
  · rw [if_pos ma] at P1
    by_cases mb : b.may
    · rw [if_pos mb] at P2
      have z := HQ.out ma mb
      generalize prS a = sa at *
      generalize prS b = sb at *
      clear h h2 hm ht he hh hq ma mb HQ hW
      cases q
      all_goals
        go_enter Tryz.func6, Tryz.ntmps6
        go_upto_region 1 with fail
        rw [← HW.out]
        go_wp2_with ((with_reducible change wpList _ _ _ (⟨some 10, _, _, _, _, _⟩ :: _) _ _); refine wpList_load_row (o := ⟨some 10, .load _ _, _, _, _, _⟩) rfl 34 _ rfl w.heap.size rfl 34 cs (0, 0) _ HB.out.1 Tryz.underlying34 rfl (by rw [HZ.out.1]; kernel_rfl) ?_)
        refine (P1.out _ HB.out.2.2).mono ?_
        rintro e w1 ⟨rfl, b1⟩
        have H1 := hide (And.intro (HB.out.1.below' b1) (And.intro (HB.out.2.1.below' b1) (Below.step HB.out.2.2 b1)))
        clear b1
        go_wp2_with ((with_reducible change wpList _ _ _ (⟨some 15, _, _, _, _, _⟩ :: _) _ _); refine wpList_load_row (o := ⟨some 15, .load _ _, _, _, _, _⟩) rfl 34 _ rfl (w.heap.size + 1) rfl 34 ds (0, 0) _ H1.out.2.1 Tryz.underlying34 rfl (by rw [HZ.out.2]; kernel_rfl) ?_)
        refine (P2.out _ H1.out.2.2).mono ?_
        rintro e w2 ⟨rfl, b2⟩
        have H2 := hide (And.intro (H1.out.1.below' b2) (And.intro (H1.out.2.1.below' b2) (Below.step H1.out.2.2 b2)))
        clear b2
        go_wp2_with first
          | ((with_reducible change wpList _ _ _ (⟨some 29, _, _, _, _, _⟩ :: _) _ _); refine wpList_load_row (o := ⟨some 29, .load _ _, _, _, _, _⟩) rfl 34 _ rfl w.heap.size rfl 34 cs (0, 0) _ H2.out.1 Tryz.underlying34 rfl (by rw [HZ.out.1]; kernel_rfl) ?_)
          | ((with_reducible change wpList _ _ _ (⟨some 30, _, _, _, _, _⟩ :: _) _ _); refine wpList_load_row (o := ⟨some 30, .load _ _, _, _, _, _⟩) rfl 34 _ rfl (w.heap.size + 1) rfl 34 ds (0, 0) _ H2.out.2.1 Tryz.underlying34 rfl (by rw [HZ.out.2]; kernel_rfl) ?_)
        refine (QS.out _ H2.out.2.2).mono ?_
        rintro e w3 ⟨rfl, b3⟩
        have H3 := hide (Below.step H2.out.2.2 b3)
        clear b3
        go_wp2_with fail
        refine (QA.out _ H3.out).mono ?_
        rintro e w4 ⟨rfl, b4⟩
        have H4 := hide (Below.step H3.out b4)
        clear b4
        go_wp2
        go_ret
        exact ⟨rfl, H4.out⟩
    · rw [if_neg mb] at P2
      generalize prS a = sa at *
      generalize prS b = sb at *
      clear h h2 hm ht he hh hq ma mb HQ hW QS
      go_enter Tryz.func6, Tryz.ntmps6
      go_upto_region 1 with fail
      rw [← HW.out]
      go_wp2_with ((with_reducible change wpList _ _ _ (⟨some 10, _, _, _, _, _⟩ :: _) _ _); refine wpList_load_row (o := ⟨some 10, .load _ _, _, _, _, _⟩) rfl 34 _ rfl w.heap.size rfl 34 cs (0, 0) _ HB.out.1 Tryz.underlying34 rfl (by rw [HZ.out.1]; kernel_rfl) ?_)
      refine (P1.out _ HB.out.2.2).mono ?_
      rintro e w1 ⟨rfl, b1⟩
      have H1 := hide (And.intro (HB.out.1.below' b1) (And.intro (HB.out.2.1.below' b1) (Below.step HB.out.2.2 b1)))
      clear b1
      go_wp2_with ((with_reducible change wpList _ _ _ (⟨some 15, _, _, _, _, _⟩ :: _) _ _); refine wpList_load_row (o := ⟨some 15, .load _ _, _, _, _, _⟩) rfl 34 _ rfl (w.heap.size + 1) rfl 34 ds (0, 0) _ H1.out.2.1 Tryz.underlying34 rfl (by rw [HZ.out.2]; kernel_rfl) ?_)
      refine (P2.out _ H1.out.2.2).mono ?_
      rintro e w2 ⟨rfl, b2⟩
      have H2 := hide (And.intro (H1.out.1.below' b2) (And.intro (H1.out.2.1.below' b2) (Below.step H1.out.2.2 b2)))
      clear b2
      go_wp2_with fail
      refine (QA.out _ H2.out.2.2).mono ?_
      rintro e w4 ⟨rfl, b4⟩
      have H4 := hide (Below.step H2.out.2.2 b4)
      clear b4
      go_wp2
      go_ret
      exact ⟨rfl, H4.out⟩
  · rw [if_neg ma] at P1
    generalize hpe : (if b.may then (0 : Int) else 5) = pb at *
    generalize prS a = sa at *
    generalize prS b = sb at *
    clear h h2 hm ht he hh hq ma hpe HQ hW QS
    go_enter Tryz.func6, Tryz.ntmps6
    go_upto_region 1 with fail
    rw [← HW.out]
    go_wp2_with ((with_reducible change wpList _ _ _ (⟨some 10, _, _, _, _, _⟩ :: _) _ _); refine wpList_load_row (o := ⟨some 10, .load _ _, _, _, _, _⟩) rfl 34 _ rfl w.heap.size rfl 34 cs (0, 0) _ HB.out.1 Tryz.underlying34 rfl (by rw [HZ.out.1]; kernel_rfl) ?_)
    refine (P1.out _ HB.out.2.2).mono ?_
    rintro e w1 ⟨rfl, b1⟩
    have H1 := hide (And.intro (HB.out.1.below' b1) (And.intro (HB.out.2.1.below' b1) (Below.step HB.out.2.2 b1)))
    clear b1
    go_wp2_with ((with_reducible change wpList _ _ _ (⟨some 15, _, _, _, _, _⟩ :: _) _ _); refine wpList_load_row (o := ⟨some 15, .load _ _, _, _, _, _⟩) rfl 34 _ rfl (w.heap.size + 1) rfl 34 ds (0, 0) _ H1.out.2.1 Tryz.underlying34 rfl (by rw [HZ.out.2]; kernel_rfl) ?_)
    refine (P2.out _ H1.out.2.2).mono ?_
    rintro e w2 ⟨rfl, b2⟩
    have H2 := hide (And.intro (H1.out.1.below' b2) (And.intro (H1.out.2.1.below' b2) (Below.step H1.out.2.2 b2)))
    clear b2
    go_wp2_with fail
    refine (QA.out _ H2.out.2.2).mono ?_
    rintro e w4 ⟨rfl, b4⟩
    have H4 := hide (Below.step H2.out.2.2 b4)
    clear b4
    go_wp2
    go_ret
    exact ⟨rfl, H4.out⟩
end Go.Proofs.YtcpceaflnnkhnaaGreatDoor
