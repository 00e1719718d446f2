/- The law UebBack. (Printed by wip/rdg.py.) -/
import Derived.Test.YteaagngikiaokaaDoorRdS
namespace Go.Proofs.YteaagngikiaokaaDoor
open Go.RowKit

set_option maxRecDepth 100000 in
set_option maxHeartbeats 8000000 in
theorem law_back (v : Value) (L : List RowV) (u : US) (w : World) (h : Rws w v L) (hw : u.wf) (hi : u.in64) (ht : Tab w) (he : Err w) :
    Calls Tryd.prog 7 #[v, .agg u.cells] w fun e w' => e = .returned (.bool true) ∧ Below w.heap.size w w' := by
  have HB := hide (Blk.new w 44 u.cells)
  have AL := hide ((Below.refl w.heap.size w).alloc (Nat.le_refl _) (.cells u.cells 44))
  have HT := hide (And.intro ht he)
  have HR := hide h
  have HW := hide hw
  have HI := hide hi
  have Q1 := hide (awake_yes _ (ht.below AL.out))
  obtain ⟨A0, c0, rfl, hc0, hm0, _⟩ := h.form
  unfold maxLen at hm0
  clear h ht he hw hi
  go_enter Tryd.func7, Tryd.ntmps7
  go_wp2_with fail
  refine Q1.out.mono ?_
  rintro e w1 ⟨rfl, b1⟩
  have B1 := hide (AL.out.trans (b1.mono AL.out.size))
  have K1 := hide (HB.out.below' b1)
  have Q2 := hide (pack_any _ _ w1 (HR.out.below B1.out) (HT.out.1.below B1.out))
  clear b1 Q1
  go_wp2_with fail
  refine Q2.out.mono ?_
  rintro e w2 ⟨b2, ⟨hmay, v2, rfl, o2⟩ | ⟨hno, rfl⟩⟩
  · have B2 := hide (B1.out.trans (b2.mono B1.out.size))
    have K2 := hide (K1.out.below' b2)
    obtain ⟨A2, c2, hv2, hcc2, _⟩ := o2.by_.form
    subst hv2
    have HMAY := hide hmay
    have h64 := may_len hmay
    rw [rws_length] at h64
    have hlen : (encs (rws L)).length ≤ 67108864 := by
      have := encs_len (rws L) 64 (by simpa using h64) (may_mem hmay)
      omega
    have Q3 := hide (unpack_any _ _ w2 o2.by_ (by omega) (HT.out.1.below B2.out) (HT.out.2.below B2.out))
    clear b2 o2 hmay Q2
    go_wp2_with fail
    refine Q3.out.mono ?_
    rintro e w3 ⟨b3, ⟨L2, v3, hu, rfl, o3⟩ | ⟨p, hu, rfl⟩⟩
    · have B3 := hide (B2.out.trans (b3.mono B2.out.size))
      have K3 := hide (K2.out.below' b3)
      obtain ⟨_, A3, c3, hv3, _⟩ := Sl.of_own o3.1
      subst hv3
      have heq : rws L2 = rws L := by
        rw [unpack_encs _ HMAY.out] at hu
        exact (Prod.mk.inj hu).1.symm
      have Q4 := hide (sameRows_eq _ _ L2 L w3 o3.rws_ (HR.out.below B3.out) heq)
      clear b3 o3 hu heq Q3
      go_wp2_with fail
      refine Q4.out.mono ?_
      rintro e w4 ⟨rfl, b4⟩
      have B4 := hide (B3.out.trans (b4.mono B3.out.size))
      have K4 := hide (K3.out.below' b4)
      clear b4 Q4
      by_cases ha : agOK u.k u.n u.seg u.size
      · have Q3 := hide (writeU_ok u HW.out ha w4 (HT.out.1.below B4.out))
        have Q5 := hide (fun W => checkU u HI.out W)
        simp only [if_pos ha] at Q5
        have HRD := hide (readU_write HW.out (show u.may from ha))
        have HLEN := hide (writeU_len HW.out ha)
        clear ha
        go_wp2_with (refine wpList_loadU (o := ⟨some 41, .load _ _, _, _, _, _⟩) rfl _ rfl w.heap.size rfl u HW.out K4.out ?_)
        refine Q3.out.mono ?_
        rintro e w5 ⟨b5, A5, c5, rfl, o5⟩
        have B5 := hide (B4.out.trans (b5.mono B4.out.size))
        have K5 := hide (K4.out.below' b5)
        have q4 := read_any _ (writeU u) w5 o5.by_ (by have := HLEN.out; omega) (HT.out.1.below B5.out) (HT.out.2.below B5.out)
        rw [HRD.out] at q4
        have Q4 := hide q4
        clear q4 Q3 b5 o5
        go_wp2_with fail
        refine Q4.out.mono ?_
        rintro e w6 ⟨b6, rfl⟩
        unfold readV
        have B6 := hide (B5.out.trans (b6.mono B5.out.size))
        have K6 := hide (K5.out.below' b6)
        clear b6 Q4
        go_wp2_with first
          | ((with_reducible show wpList _ _ _ (⟨none, _, _, _, _, _⟩ :: _) _ _); refine wpList_storeU (o := ⟨none, .store _ _ _, _, _, _, _⟩) (Blk.new w6 _ _) zcells_size u HW.out (ueb_one u) rfl _ _ rfl rfl rfl ?_; intro w7 hb7 hg7; have hb67 : Below w6.heap.size w6 w7 := ((Below.refl _ w6).alloc (Nat.le_refl _) _).grown hg7 (by simp) (fun k hk => by cases hk; exact Nat.le_refl _); have B7 := hide (B6.out.trans (hb67.mono B6.out.size)); have K7 := hide (K6.out.below' hb67); have J7 := hide hb7; clear hb67 hb7 hg7)
          | ((with_reducible show wpList _ _ _ (⟨some 72, _, _, _, _, _⟩ :: _) _ _); refine wpList_loadU (o := ⟨some 72, .load _ _, _, _, _, _⟩) rfl _ rfl w6.heap.size rfl u HW.out J7.out ?_; refine wpList_loadU (o := ⟨some 73, .load _ _, _, _, _, _⟩) rfl _ rfl w.heap.size rfl u HW.out K7.out ?_; refine wpList_eqlU (o := ⟨some 74, .binOp _ _ _ _ _, _, _, _, _⟩) rfl _ _ rfl u u HW.out HW.out true (decide_eq_true rfl) rfl rfl ?_)
          | ((with_reducible show wpList _ _ _ (⟨some 77, _, _, _, _, _⟩ :: _) _ _); refine wpList_loadU (o := ⟨some 77, .load _ _, _, _, _, _⟩) rfl _ rfl w.heap.size rfl u HW.out K7.out ?_)
        refine (Q5.out _).mono ?_
        rintro e w8 ⟨b8, rfl⟩
        have B8 := hide (B7.out.trans (b8.mono B7.out.size))
        clear b8
        go_wp2_with fail
        go_ret
        exact ⟨rfl, B8.out⟩
      · have Q3 := hide (writeU_bad u HW.out HI.out ha w4)
        have Q5 := hide (fun W => checkU u HI.out W)
        simp only [if_neg ha] at Q5
        clear ha
        go_wp2_with (refine wpList_loadU (o := ⟨some 41, .load _ _, _, _, _, _⟩) rfl _ rfl w.heap.size rfl u HW.out K4.out ?_)
        refine Q3.out.mono ?_
        rintro e w5 ⟨b5, rfl⟩
        have B5 := hide (B4.out.trans (b5.mono B4.out.size))
        have K5 := hide (K4.out.below' b5)
        clear Q3 b5
        go_wp2_with ((with_reducible show wpList _ _ _ (⟨some 55, _, _, _, _, _⟩ :: _) _ _); refine wpList_loadU (o := ⟨some 55, .load _ _, _, _, _, _⟩) rfl _ rfl w.heap.size rfl u HW.out K5.out ?_)
        refine (Q5.out _).mono ?_
        rintro e w6 ⟨b6, rfl⟩
        have B6 := hide (B5.out.trans (b6.mono B5.out.size))
        clear b6
        go_wp2_with fail
        go_ret
        exact ⟨rfl, B6.out⟩
    · rw [unpack_encs _ HMAY.out] at hu
      simp at hu
  · have B2 := hide (B1.out.trans (b2.mono B1.out.size))
    have K2 := hide (K1.out.below' b2)
    clear b2 Q2
    by_cases ha : agOK u.k u.n u.seg u.size
    · have Q3 := hide (writeU_ok u HW.out ha w2 (HT.out.1.below B2.out))
      have Q5 := hide (fun W => checkU u HI.out W)
      simp only [if_pos ha] at Q5
      have HRD := hide (readU_write HW.out (show u.may from ha))
      have HLEN := hide (writeU_len HW.out ha)
      clear ha
      go_wp2_with (refine wpList_loadU (o := ⟨some 41, .load _ _, _, _, _, _⟩) rfl _ rfl w.heap.size rfl u HW.out K2.out ?_)
      refine Q3.out.mono ?_
      rintro e w5 ⟨b5, A5, c5, rfl, o5⟩
      have B5 := hide (B2.out.trans (b5.mono B2.out.size))
      have K5 := hide (K2.out.below' b5)
      have q4 := read_any _ (writeU u) w5 o5.by_ (by have := HLEN.out; omega) (HT.out.1.below B5.out) (HT.out.2.below B5.out)
      rw [HRD.out] at q4
      have Q4 := hide q4
      clear q4 Q3 b5 o5
      go_wp2_with fail
      refine Q4.out.mono ?_
      rintro e w6 ⟨b6, rfl⟩
      unfold readV
      have B6 := hide (B5.out.trans (b6.mono B5.out.size))
      have K6 := hide (K5.out.below' b6)
      clear b6 Q4
      go_wp2_with first
        | ((with_reducible show wpList _ _ _ (⟨none, _, _, _, _, _⟩ :: _) _ _); refine wpList_storeU (o := ⟨none, .store _ _ _, _, _, _, _⟩) (Blk.new w6 _ _) zcells_size u HW.out (ueb_one u) rfl _ _ rfl rfl rfl ?_; intro w7 hb7 hg7; have hb67 : Below w6.heap.size w6 w7 := ((Below.refl _ w6).alloc (Nat.le_refl _) _).grown hg7 (by simp) (fun k hk => by cases hk; exact Nat.le_refl _); have B7 := hide (B6.out.trans (hb67.mono B6.out.size)); have K7 := hide (K6.out.below' hb67); have J7 := hide hb7; clear hb67 hb7 hg7)
        | ((with_reducible show wpList _ _ _ (⟨some 72, _, _, _, _, _⟩ :: _) _ _); refine wpList_loadU (o := ⟨some 72, .load _ _, _, _, _, _⟩) rfl _ rfl w6.heap.size rfl u HW.out J7.out ?_; refine wpList_loadU (o := ⟨some 73, .load _ _, _, _, _, _⟩) rfl _ rfl w.heap.size rfl u HW.out K7.out ?_; refine wpList_eqlU (o := ⟨some 74, .binOp _ _ _ _ _, _, _, _, _⟩) rfl _ _ rfl u u HW.out HW.out true (decide_eq_true rfl) rfl rfl ?_)
        | ((with_reducible show wpList _ _ _ (⟨some 77, _, _, _, _, _⟩ :: _) _ _); refine wpList_loadU (o := ⟨some 77, .load _ _, _, _, _, _⟩) rfl _ rfl w.heap.size rfl u HW.out K7.out ?_)
      refine (Q5.out _).mono ?_
      rintro e w8 ⟨b8, rfl⟩
      have B8 := hide (B7.out.trans (b8.mono B7.out.size))
      clear b8
      go_wp2_with fail
      go_ret
      exact ⟨rfl, B8.out⟩
    · have Q3 := hide (writeU_bad u HW.out HI.out ha w2)
      have Q5 := hide (fun W => checkU u HI.out W)
      simp only [if_neg ha] at Q5
      clear ha
      go_wp2_with (refine wpList_loadU (o := ⟨some 41, .load _ _, _, _, _, _⟩) rfl _ rfl w.heap.size rfl u HW.out K2.out ?_)
      refine Q3.out.mono ?_
      rintro e w5 ⟨b5, rfl⟩
      have B5 := hide (B2.out.trans (b5.mono B2.out.size))
      have K5 := hide (K2.out.below' b5)
      clear Q3 b5
      go_wp2_with ((with_reducible show wpList _ _ _ (⟨some 55, _, _, _, _, _⟩ :: _) _ _); refine wpList_loadU (o := ⟨some 55, .load _ _, _, _, _, _⟩) rfl _ rfl w.heap.size rfl u HW.out K5.out ?_)
      refine (Q5.out _).mono ?_
      rintro e w6 ⟨b6, rfl⟩
      have B6 := hide (B5.out.trans (b6.mono B5.out.size))
      clear b6
      go_wp2_with fail
      go_ret
      exact ⟨rfl, B6.out⟩
end Go.Proofs.YteaagngikiaokaaDoor
