/- The law UebRead. -/
import Derived.Test.YteaagngikiaokaaDoorRdE
import Derived.Test.YteaagngikiaokaaDoorRdQM
import Derived.Test.YteaagngikiaokaaDoorAwkB
namespace Go.Proofs.YteaagngikiaokaaDoor
open Go.RowKit

set_option maxRecDepth 100000 in
set_option maxHeartbeats 8000000 in
theorem law_read (v : Value) (b : List UInt8) (w : World) (h : By w v b) (hl : b.length ≤ 1048576) (ht : Tab w) (he : Err w) :
    Calls Tryd.prog 5 #[v] w fun e w' => e = .returned (.bool true) ∧ Below w.heap.size w w' := by
  have Q1 := hide (lent_any v b w h (by omega))
  have H := hide h
  have HT := hide (And.intro ht he)
  have HWF := hide (readU_wf b)
  obtain ⟨A, c, rfl, hc, hm, _⟩ := h.form
  clear h ht he
  go_enter Tryd.func5, Tryd.ntmps5
  go_wp2_with fail
  refine Q1.out.mono ?_
  rintro e w1 ⟨v1, rfl, o1, b1⟩
  obtain ⟨g, cap, rfl, hg, hglt⟩ := o1.form (by simp)
  have hby := o1.front
  have k1 : b.length ≤ cap := by obtain ⟨A', c', hv, hc', _⟩ := hby.form; injection hv; omega
  have k2 : (b.length : Int) ≤ (cap : Int) := by omega
  have k3 : (0 : Int) ≤ (b.length : Int) := by omega
  have Q2 := hide (read_any _ b w1 hby (by omega) (HT.out.1.below b1) (HT.out.2.below b1))
  have B1 := hide b1
  have O1 := hide o1
  generalize hN : (b ++ marks 0 b.length 70).length = N at *
  clear b1 o1 hby Q1 hg hglt
  go_wp2_with fail
  refine Q2.out.mono ?_
  rintro e w2 ⟨b2, rfl⟩
  unfold readV
  obtain ⟨⟨u, p, er⟩, hr⟩ : ∃ r, r = readU b := ⟨_, rfl⟩
  have HU := hide hr
  rw [← hr] at HWF ⊢
  have B2 := hide (B1.out.trans (b2.mono B1.out.size))
  have O2 := hide (O1.out.below b2)
  clear b2 Q2 hr B1 O1
  go_wp2_with (refine wpList_storeU (o := ⟨none, .store _ _ _, _, _, _, _⟩) (Blk.new w2 _ _) zcells_size u HWF.out (ueb_one u) rfl _ _ rfl rfl rfl ?_; intro w3 hb3 hg3)
  have hb23 : Below w2.heap.size w2 w3 := ((Below.refl _ w2).alloc (Nat.le_refl _) _).grown hg3 (by simp) (fun k hk => by cases hk; exact Nat.le_refl _)
  have B3 := hide (B2.out.trans (hb23.mono B2.out.size))
  have O3 := hide (O2.out.below hb23)
  have K3 := hide hb3
  have Q4 := hide (dread_any (.slice A b.length c) b w3 (H.out.below B3.out) (by omega))
  clear hb23 hb3 hg3 O2
  go_wp2_with fail
  refine Q4.out.mono ?_
  rintro e w4 ⟨b4, rfl⟩
  unfold readV
  rw [← HU.out]
  have B4 := hide (B3.out.trans (b4.mono B3.out.size))
  have O4 := hide (O3.out.below b4)
  have K4 := hide (K3.out.below' b4)
  clear b4 Q4 O3 B3 K3
  go_wp2_with first
    | ((with_reducible show wpList _ _ _ (⟨none, _, _, _, _, _⟩ :: _) _ _); refine wpList_storeU (o := ⟨none, .store _ _ _, _, _, _, _⟩) (Blk.new w4 _ _) zcells_size u HWF.out (ueb_one u) rfl _ _ rfl rfl rfl ?_; intro w5 hb5 hg5; have hb45 : Below w4.heap.size w4 w5 := ((Below.refl _ w4).alloc (Nat.le_refl _) _).grown hg5 (by simp) (fun k hk => by cases hk; exact Nat.le_refl _); have B5 := hide (B4.out.trans (hb45.mono B4.out.size)); have O5 := hide (O4.out.below hb45); have K5 := hide (K4.out.below' hb45); have J5 := hide hb5; clear hb45 hb5 hg5)
    | ((with_reducible show wpList _ _ _ (⟨some 27, _, _, _, _, _⟩ :: _) _ _); refine wpList_loadU (o := ⟨some 27, .load _ _, _, _, _, _⟩) rfl _ rfl w2.heap.size rfl u HWF.out K5.out ?_; refine wpList_loadU (o := ⟨some 28, .load _ _, _, _, _, _⟩) rfl _ rfl w4.heap.size rfl u HWF.out J5.out ?_; refine wpList_eqlU (o := ⟨some 29, .binOp _ _ _ _ _, _, _, _, _⟩) rfl _ _ rfl u u HWF.out HWF.out true (decide_eq_true rfl) rfl rfl ?_)
  have Q6 := kept_any _ (.slice A b.length c) _ b w5 O5.out.by_ (H.out.below B5.out) (by omega)
  rw [decide_eq_true rfl] at Q6
  have HQ6 := hide Q6
  clear Q6
  refine HQ6.out.mono ?_
  rintro e w6 ⟨rfl, b6⟩
  have B6 := hide (B5.out.trans (b6.mono B5.out.size))
  clear b6 HQ6
  go_wp2_with fail
  go_ret
  exact ⟨rfl, B6.out⟩
end Go.Proofs.YteaagngikiaokaaDoor
