/- The contract of the document's Unpack. -/
import Derived.Test.YteaagngikiaokaaDoorRefQ
import Derived.Test.YteaagngikiaokaaDoorUnpA
import Derived.Test.YteaagngikiaokaaDoorDr
import Derived.Laws.Cover1
import Derived.BigQuiet
import Derived.Deep.QuietTactic
namespace Go.Proofs.YteaagngikiaokaaDoor
open Go.RowKit

theorem run_strL {P : Program} {W : World} {v : Value} {l : List UInt8} (h : By W v l) (src dst e : TypeId) (hs : P.underlying src = some (.slice e)) (he : P.underlying e = some (.int .u8)) (hd : P.underlying dst = some .string) :
    (convert src dst v).run P W = .ok (.string ⟨l.toArray⟩) W := by
  obtain ⟨s, h1, h2⟩ := run_str h src dst e hs he hd
  have : s = ⟨l.toArray⟩ := by
    apply ByteArray.ext
    apply Array.toList_inj.1
    rw [h1]
  rw [h2, this]
theorem unp_bad {t : Nat} {done : List Rw} {r : List UInt8} (h0 : 0 < r.length) (h : ∀ x r', takeR r = some (x, r') → rowB (done ++ [x]) done.length = false) : unp t done r = ([], t - r.length, 131) := by
  rcases hr : takeR r with _ | ⟨x, r'⟩
  · exact unp_none h0 hr
  · rw [unp_some hr, if_neg (by rw [h x r' hr]; simp)]
theorem rowB_last (done : List Rw) (x : Rw) : rowB (done ++ [x]) done.length = (decide (done.length < 64) && decide (1 ≤ x.1.length) && decide (x.1.length ≤ 64) && decide (x.2.length ≤ 65536) && (done.length == 0 || match done[done.length - 1]? with
    | none => false
    | some p => !leB x.1 p.1)) := by
  unfold rowB
  have e1 : (done ++ [x])[done.length]? = some x := by simp
  rw [e1]
  by_cases h0 : done.length = 0
  · simp [h0]
  · have e2 : (done ++ [x])[done.length - 1]? = done[done.length - 1]? := List.getElem?_append_left (by omega)
    rw [e2]
    rfl

set_option maxRecDepth 100000 in
set_option maxHeartbeats 8000000 in
theorem runpack_any (v : Value) (b : List UInt8) (w : World) (h : By w v b) (hl : b.length ≤ 1099511627776) :
    Calls Tryd.prog 23 #[v] w fun e w' => Below w.heap.size w w' ∧
      ((∃ L v', unpack b = (rws L, 0, 0) ∧ e = .returned (.tuple #[v', .int .i64 0, .int .i64 0]) ∧ OwnR w' w.heap.size v' L) ∨
       (∃ p : Nat, unpack b = ([], p, 131) ∧ e = .returned (.tuple #[.slice none 0 0, .int .i64 (p : Int), .int .i64 131]))) := by
  obtain ⟨i0, hi0, hz0, hz1, hz2⟩ := info_parts Tryd.infoRow
  have HI := hide (And.intro hi0 (And.intro hz0 (And.intro hz1 hz2)))
  have HV := hide h
  obtain ⟨A, c, rfl, hc, hm, hcell⟩ := h.form
  have HC := hide hcell
  unfold maxLen at hm
  clear h hi0 hz0 hz1 hz2 hcell
  go_enter Tryd.func23, Tryd.ntmps23
  go_wp2
  go_loopw [5, 6] (fun u5 u6 wr => ∃ (L : List RowV) (r : List UInt8) (at_ : Nat), u6 = .int .i64 (at_ : Int) ∧ at_ + r.length = b.length ∧ b.drop at_ = r ∧ OwnR wr w.heap.size u5 L ∧ unp b.length [] b = unp b.length (rws L) r ∧ L.length ≤ 64 ∧ Below w.heap.size w wr) (fun _ i _ => b.length - (intOf i).toNat)
  case atStart => exact ⟨[], b, 0, rfl, by simp, rfl, OwnR.nil _ _, rfl, by simp, Below.refl _ _⟩
  case round =>
    obtain ⟨L, r, at_, rfl, hat, hdr, hL, hunp, hL64, hb⟩ := hrel
    have HL := hide hL
    have HU := hide hunp
    by_cases h0 : 0 < r.length
    · obtain ⟨x0, hx0⟩ : ∃ x, b[0]? = some x := ⟨_, List.getElem?_eq_getElem (by omega)⟩
      obtain ⟨g, o, rfl, hgl, _⟩ := HC.out 0 x0 hx0
      have q1 : Calls Tryd.prog 46 #[.slice (some ⟨g, o, none⟩) b.length c, .int .i64 (at_ : Int), .int .i64 64] wr _ := rpiece_any g o c b at_ 64 wr (HV.out.below hb) (by omega) hl (by omega)
      rw [hdr] at q1
      have Q1 := hide q1
      have i1 : (at_ : Int) < (b.length : Int) := by omega
      obtain ⟨A5, c5, hv5, hc5, hm5, hce5⟩ := (HL.out.rws_).form
      subst hv5
      have HCE := hide hce5
      clear q1 hL hunp hce5 hx0
      go_wp2_with fail
      refine Q1.out.mono ?_
      rintro e w1 ⟨b1, ⟨ht1, rfl⟩ | ⟨x1, r1, v1, ht1, rfl, o1, hr1, hd1⟩⟩
      · have HBAD : Hid (unp b.length (rws L) r = ([], b.length - r.length, 131)) := unp_bad h0 fun x r' hx => by unfold takeR at hx; rw [ht1] at hx; cases hx
        clear Q1 ht1
        go_wp2_with fail
        go_quiet (fail)
        go_wp2
        go_ret3
        refine ⟨below_drewN (hb.trans (b1.mono hb.size)) _, .inr ⟨b.length - r.length, ?_, ?_⟩⟩
        · unfold unpack
          rw [HU.out, HBAD.out]
        · rw [show ((b.length - r.length : Nat) : Int) = (at_ : Int) by omega]
          rfl
      · obtain ⟨A1, c1, hv1, _⟩ := o1.by_.form
        subst hv1
        have B1 := hide (hb.trans (b1.mono hb.size))
        have HL1 := hide (HL.out.below b1)
        have T1 := hide ht1
        have O1 := hide o1
        have ht1s := takeF_some ht1 (by omega)
        have g1 : decide (((b.length - r1.length : Nat) : Int) < 0) = false := decide_eq_false (by omega)
        have hfst : Hid (∀ x r', takeR r = some (x, r') → x.1 = x1 ∧ takeF r1 65536 = some (x.2, r')) := fun x r' hx => by
          unfold takeR at hx
          rw [T1.out] at hx
          simp only at hx
          rcases ht2 : takeF r1 65536 with _ | ⟨v2, r2⟩
          · rw [ht2] at hx; cases hx
          · rw [ht2] at hx
            simp only [Option.some.injEq, Prod.mk.injEq] at hx
            obtain ⟨rfl, rfl⟩ := hx
            exact ⟨rfl, rfl⟩
        have hcv : ∀ q, (convert 27 9 (.slice A1 x1.length c1)).run Tryd.prog (w1.drewN q) = .ok (.string ⟨x1.toArray⟩) (w1.drewN q) := fun q => run_strL (show By (w1.drewN q) _ _ from O1.out.by_) _ _ 5 Tryd.underlying27 Tryd.underlying5 Tryd.underlying9
        have q2 : ∀ q, Calls Tryd.prog 46 #[.slice (some ⟨g, o, none⟩) b.length c, .int .i64 ((b.length - r1.length : Nat) : Int), .int .i64 65536] (w1.drewN q) _ := fun q => rpiece_any g o c b (b.length - r1.length) 65536 (w1.drewN q) (HV.out.below (below_drewN B1.out q)) (by omega) hl (by omega)
        rw [hd1] at q2
        have Q2 := hide q2
        clear q2
        clear Q1 ht1 b1
        by_cases hn0 : x1.length = 0
        · have HBAD : Hid (unp b.length (rws L) r = ([], b.length - r.length, 131)) := unp_bad h0 fun x r' hx => by
            rw [rowB_last, (hfst.out x r' hx).1, hn0]; simp
          have g2 : ((x1.length : Int) == 0) = true := beq_iff_eq.2 (by omega)
          clear hn0
          go_wp2_with fail
          go_quiet (fail)
          go_wp2
          go_ret3
          refine ⟨below_drewN B1.out _, .inr ⟨b.length - r.length, ?_, ?_⟩⟩
          · unfold unpack
            rw [HU.out, HBAD.out]
          · rw [show ((b.length - r.length : Nat) : Int) = (at_ : Int) by omega]
            rfl
        · have g2 : ((x1.length : Int) == 0) = false := beq_eq_false_iff_ne.2 (by omega)
          have g2n : ¬ x1.length = 0 := hn0
          by_cases hl6 : L.length = 64
          · have HBAD : Hid (unp b.length (rws L) r = ([], b.length - r.length, 131)) := unp_bad h0 fun x r' hx => by
              rw [rowB_last, rws_length, hl6]; simp
            have g3 : ((L.length : Int) == 64) = true := beq_iff_eq.2 (by omega)
            clear hl6
            go_wp2_with fail
            go_quiet (fail)
            go_wp2
            go_ret3
            refine ⟨below_drewN B1.out _, .inr ⟨b.length - r.length, ?_, ?_⟩⟩
            · unfold unpack
              rw [HU.out, HBAD.out]
            · rw [show ((b.length - r.length : Nat) : Int) = (at_ : Int) by omega]
              rfl
          · have g3 : ((L.length : Int) == 64) = false := beq_eq_false_iff_ne.2 (by omega)
            by_cases hL0 : L.length = 0
            · have g4 : decide ((0 : Int) < (L.length : Int)) = false := decide_eq_false (by omega)
              have g4n : decide (0 < L.length) = false := decide_eq_false (by omega)
              have HROW : Hid (∀ x2 : List UInt8, x2.length ≤ 65536 → rowB (rws L ++ [(x1, x2)]) (rws L).length = true) := fun x2 hx2 => by
                rw [rowB_last, rws_length, decide_eq_true (show L.length < 64 by omega), decide_eq_true (show 1 ≤ x1.length by omega), decide_eq_true ht1s.2, decide_eq_true hx2, hL0]
                rfl
              clear hL0
              go_wp2_with fail
              go_quiet (fail)
              go_wp2_with fail
              refine (Q2.out _).mono ?_
              rintro e w2 ⟨b2, ⟨ht2, rfl⟩ | ⟨x2, r2, v2, ht2, rfl, o2, hr2, hd2⟩⟩
              · have HBAD : Hid (unp b.length (rws L) r = ([], b.length - r.length, 131)) := unp_bad h0 fun x r' hx => by
                  have := (hfst.out x r' hx).2
                  rw [ht2] at this
                  cases this
                have B2 := hide ((below_drewN B1.out _).trans (b2.mono B1.out.size))
                clear b2 ht2
                go_wp2_with fail
                go_ret3
                refine ⟨B2.out, .inr ⟨b.length - r.length, ?_, ?_⟩⟩
                · unfold unpack
                  rw [HU.out, HBAD.out]
                · rw [show ((b.length - r.length : Nat) : Int) = (at_ : Int) by omega]
                  rfl
              · have B2 := hide ((below_drewN B1.out _).trans (b2.mono B1.out.size))
                obtain ⟨A2, c2, hv2, _⟩ := o2.by_.form
                subst hv2
                have hx2 := (takeF_some ht2 (by omega)).2
                have hR : takeR r = some ((x1, x2), r2) := by
                  unfold takeR
                  rw [T1.out]
                  simp only
                  rw [ht2]
                have HR := hide hR
                have hrb := HROW.out x2 hx2
                have HRB := hide hrb
                have HL2 := hide ((show OwnR (w1.drewN _) _ _ _ from HL1.out).below b2)
                have hby1 := (show By (w1.drewN _) _ _ from O1.out.by_).below b2
                have hcv2 := run_strL hby1 27 9 5 Tryd.underlying27 Tryd.underlying5 Tryd.underlying9
                have HO2 := hide (o2.base (show w.heap.size ≤ (w1.drewN _).heap.size from B1.out.size))
                have HD2 := hide hd2
                have hn64 : L.length < 64 := by
                  obtain ⟨_, _, h64, _⟩ := rowB_some hrb
                  rwa [rws_length] at h64
                have g7 : decide (((b.length - r2.length : Nat) : Int) < 0) = false := decide_eq_false (by omega)
                clear b2 ht2 o2 hrb hR hby1 hd2 hcv Q2
                go_wp2_with (at_builtin; go_loud (refine wpList_push2 Tryd.underlying22 HI.out.1 HI.out.2.1 HI.out.2.2.1 HI.out.2.2.2 rfl HL2.out.1 B2.out B2.out.size (.string ⟨x1.toArray⟩) (.slice A2 x2.length c2) rfl rfl (by unfold maxLen; omega) (by omega) rfl _ _ rfl rfl rfl ?_); intro v3 w3 hown3 hb3 hgr3)
                have hel : ∀ x ∈ L ++ [((⟨x1.toArray⟩, .slice A2 x2.length c2, x2) : RowV)], Own w3 w.heap.size 5 x.2.1 x.2.2 := fun x hx => by
                  rcases List.mem_append.1 hx with hx | hx
                  · exact own_grown (HL2.out.2 x hx) hgr3 fun g hg he => own_ne (HL2.out.2 x hx) HL2.out.1 (by decide) g hg he
                  · simp only [List.mem_singleton] at hx
                    subst hx
                    exact own_grown HO2.out hgr3 fun g hg he => own_ne HO2.out HL2.out.1 (by decide) g hg he
                have hnew : OwnR w3 w.heap.size v3 (L ++ [((⟨x1.toArray⟩, .slice A2 x2.length c2, x2) : RowV)]) := by
                  refine ⟨?_, hel⟩
                  rw [rcells_append, List.length_append]
                  exact hown3
                have hrows : rws (L ++ [((⟨x1.toArray⟩, .slice A2 x2.length c2, x2) : RowV)]) = rws L ++ [(x1, x2)] := by
                  rw [rws_append]; simp [rws, lst]
                go_roundw
                case rel =>
                  refine ⟨L ++ [((⟨x1.toArray⟩, .slice A2 x2.length c2, x2) : RowV)], r2, b.length - r2.length, rfl, by omega, HD2.out, hnew, ?_, by simp; omega, hb3⟩
                  rw [HU.out, unp_some HR.out, if_pos HRB.out, hrows]
                case measure =>
                  have := takeR_lt HR.out
                  simp [intOf]
                  omega
            · obtain ⟨m, hm1⟩ : ∃ m, L.length = m + 1 := ⟨L.length - 1, by omega⟩
              obtain ⟨y, hy⟩ : ∃ y, L[m]? = some y := ⟨_, List.getElem?_eq_getElem (by omega)⟩
              obtain ⟨b', o', hbo, hbl', h3, -⟩ := HCE.out m y hy
              subst hbo
              have s3 : w1.cell? ⟨b', o' + m * 2, none⟩ = some (.string y.1) := by
                obtain ⟨A6, c6, hv6, _, _, hce6⟩ := (HL1.out.rws_).form
                obtain ⟨b6, o6, hbo6, _, h6, _⟩ := hce6 m y hy
                injection hv6 with e6
                rw [← e6] at hbo6
                cases hbo6
                exact h6
              have e2 : (rws L)[m]? = some (lst y.1, y.2.2) := rws_get hy
              have g4 : decide ((0 : Int) < (L.length : Int)) = true := decide_eq_true (by omega)
              have g4n : decide (0 < L.length) = true := decide_eq_true (by omega)
              have g5 : (L.length : Int) - 1 = (m : Int) := by omega
              have k1 : (m : Int) < (L.length : Int) := by omega
              have k2 : (0 : Int) ≤ (m : Int) := by omega
              have hleb : leB x1 (lst y.1) = (Op.bytesLess x1 y.1.toList || x1 == y.1.toList) := by
                unfold leB
                rw [str_toList]
              rcases hf1 : Op.bytesLess x1 y.1.toList with _ | _
              · rcases hf2 : (x1 == y.1.toList) with _ | _
                · have HROW : Hid (∀ x2 : List UInt8, x2.length ≤ 65536 → rowB (rws L ++ [(x1, x2)]) (rws L).length = true) := fun x2 hx2 => by
                    rw [rowB_last, rws_length, decide_eq_true (show L.length < 64 by omega), decide_eq_true (show 1 ≤ x1.length by omega), decide_eq_true ht1s.2, decide_eq_true hx2, show L.length - 1 = m by omega, e2]
                    simp only [hleb, hf1, hf2, Bool.or_false]
                    simp
                  have HM1 := hide hm1
                  clear hleb e2 hy h3 hL0 hm1
                  go_wp2_with fail
                  go_quiet (fail)
                  go_wp2_with fail
                  refine (Q2.out _).mono ?_
                  rintro e w2 ⟨b2, ⟨ht2, rfl⟩ | ⟨x2, r2, v2, ht2, rfl, o2, hr2, hd2⟩⟩
                  · have HBAD : Hid (unp b.length (rws L) r = ([], b.length - r.length, 131)) := unp_bad h0 fun x r' hx => by
                      have := (hfst.out x r' hx).2
                      rw [ht2] at this
                      cases this
                    have B2 := hide ((below_drewN B1.out _).trans (b2.mono B1.out.size))
                    clear b2 ht2
                    go_wp2_with fail
                    go_ret3
                    refine ⟨B2.out, .inr ⟨b.length - r.length, ?_, ?_⟩⟩
                    · unfold unpack
                      rw [HU.out, HBAD.out]
                    · rw [show ((b.length - r.length : Nat) : Int) = (at_ : Int) by omega]
                      rfl
                  · have B2 := hide ((below_drewN B1.out _).trans (b2.mono B1.out.size))
                    obtain ⟨A2, c2, hv2, _⟩ := o2.by_.form
                    subst hv2
                    have hx2 := (takeF_some ht2 (by omega)).2
                    have hR : takeR r = some ((x1, x2), r2) := by
                      unfold takeR
                      rw [T1.out]
                      simp only
                      rw [ht2]
                    have HR := hide hR
                    have hrb := HROW.out x2 hx2
                    have HRB := hide hrb
                    have HL2 := hide ((show OwnR (w1.drewN _) _ _ _ from HL1.out).below b2)
                    have hby1 := (show By (w1.drewN _) _ _ from O1.out.by_).below b2
                    have hcv2 := run_strL hby1 27 9 5 Tryd.underlying27 Tryd.underlying5 Tryd.underlying9
                    have HO2 := hide (o2.base (show w.heap.size ≤ (w1.drewN _).heap.size from B1.out.size))
                    have HD2 := hide hd2
                    have hn64 : L.length < 64 := by
                      obtain ⟨_, _, h64, _⟩ := rowB_some hrb
                      rwa [rws_length] at h64
                    have g7 : decide (((b.length - r2.length : Nat) : Int) < 0) = false := decide_eq_false (by omega)
                    clear b2 ht2 o2 hrb hR hby1 hd2 hcv Q2
                    go_wp2_with (at_builtin; go_loud (refine wpList_push2 Tryd.underlying22 HI.out.1 HI.out.2.1 HI.out.2.2.1 HI.out.2.2.2 rfl HL2.out.1 B2.out B2.out.size (.string ⟨x1.toArray⟩) (.slice A2 x2.length c2) rfl rfl (by unfold maxLen; omega) (by omega) rfl _ _ rfl rfl rfl ?_); intro v3 w3 hown3 hb3 hgr3)
                    have hel : ∀ x ∈ L ++ [((⟨x1.toArray⟩, .slice A2 x2.length c2, x2) : RowV)], Own w3 w.heap.size 5 x.2.1 x.2.2 := fun x hx => by
                      rcases List.mem_append.1 hx with hx | hx
                      · exact own_grown (HL2.out.2 x hx) hgr3 fun g hg he => own_ne (HL2.out.2 x hx) HL2.out.1 (by decide) g hg he
                      · simp only [List.mem_singleton] at hx
                        subst hx
                        exact own_grown HO2.out hgr3 fun g hg he => own_ne HO2.out HL2.out.1 (by decide) g hg he
                    have hnew : OwnR w3 w.heap.size v3 (L ++ [((⟨x1.toArray⟩, .slice A2 x2.length c2, x2) : RowV)]) := by
                      refine ⟨?_, hel⟩
                      rw [rcells_append, List.length_append]
                      exact hown3
                    have hrows : rws (L ++ [((⟨x1.toArray⟩, .slice A2 x2.length c2, x2) : RowV)]) = rws L ++ [(x1, x2)] := by
                      rw [rws_append]; simp [rws, lst]
                    go_roundw
                    case rel =>
                      refine ⟨L ++ [((⟨x1.toArray⟩, .slice A2 x2.length c2, x2) : RowV)], r2, b.length - r2.length, rfl, by omega, HD2.out, hnew, ?_, by simp; omega, hb3⟩
                      rw [HU.out, unp_some HR.out, if_pos HRB.out, hrows]
                    case measure =>
                      have := takeR_lt HR.out
                      simp [intOf]
                      omega
                · have HBAD : Hid (unp b.length (rws L) r = ([], b.length - r.length, 131)) := unp_bad h0 fun x r' hx => by
                    rw [rowB_last, rws_length, show L.length - 1 = m by omega, e2]
                    simp only [(hfst.out x r' hx).1, hleb, hf1, hf2, Bool.or_true]
                    simp [hm1]
                  have HM1 := hide hm1
                  clear hleb e2 hy h3 hL0 hm1
                  go_wp2_with fail
                  go_quiet (fail)
                  go_wp2
                  go_ret3
                  refine ⟨below_drewN B1.out _, .inr ⟨b.length - r.length, ?_, ?_⟩⟩
                  · unfold unpack
                    rw [HU.out, HBAD.out]
                  · rw [show ((b.length - r.length : Nat) : Int) = (at_ : Int) by omega]
                    rfl
              · have HBAD : Hid (unp b.length (rws L) r = ([], b.length - r.length, 131)) := unp_bad h0 fun x r' hx => by
                  rw [rowB_last, rws_length, show L.length - 1 = m by omega, e2]
                  simp only [(hfst.out x r' hx).1, hleb, hf1, Bool.true_or]
                  simp [hm1]
                have HM1 := hide hm1
                clear hleb e2 hy h3 hL0 hm1
                go_wp2_with fail
                go_quiet (fail)
                go_wp2
                go_ret3
                refine ⟨below_drewN B1.out _, .inr ⟨b.length - r.length, ?_, ?_⟩⟩
                · unfold unpack
                  rw [HU.out, HBAD.out]
                · rw [show ((b.length - r.length : Nat) : Int) = (at_ : Int) by omega]
                  rfl
    · have hr0 : r = [] := List.eq_nil_of_length_eq_zero (by omega)
      have i1 : ¬ (at_ : Int) < (b.length : Int) := by omega
      subst hr0
      clear hunp hL
      go_wp2_with fail
      go_ret3
      refine ⟨hb, .inl ⟨L, ?_, u5, rfl, HL.out⟩⟩
      unfold unpack
      rw [HU.out, unp_nil]
end Go.Proofs.YteaagngikiaokaaDoor
