/- The law UebOne. (Printed by wip/rdh.py.) -/
import Derived.Test.YteaagngikiaokaaDoorRdS
import Derived.Deep.RegionHeld3
namespace Go.Proofs.YteaagngikiaokaaDoor
open Go.RowKit

theorem yieldsIf_loadU {ops : Array Oper} {S : World → Prop} {o : Oper} {a : Act} (hw : Region.wanted o (yielded ops a.tmps) = true) (x : Operand) (ho : o.op = .load 44 x)
    (g : Nat) (hx : a.eval x = .pointer (some ⟨g, 0, none⟩)) (u : US) (hu : u.wf) (hS : ∀ w, S w → Blk w g 44 u.cells) : YieldsIf Tryd.prog ops S o (.agg u.cells) a :=
  .inl ⟨hw, fun w h => by
    unfold execOp
    simp only [ho, hx, Instr.loadAt, Instr.sureAddr, Sem.run_bind, Sem.run_pure, Result.andThen_ok, run_loadVar_row w g 44 44 u.cells (0, 0) _ (hS w h) Tryd.underlying44 rfl (show (Tryd.prog.info? 44).map (·.size) = some u.cells.size by rw [US.size_ hu]; kernel_rfl)]⟩
theorem yieldsIf_eqlU {ops : Array Oper} {S : World → Prop} {o : Oper} {a : Act} (hw : Region.wanted o (yielded ops a.tmps) = true) (x y : Operand) (ho : o.op = .binOp .eql 44 x y 44) (u v : US) (hu : u.wf) (hv : v.wf)
    (r : Bool) (hr : decide (u = v) = r) (hx : a.eval x = .agg u.cells) (hy : a.eval y = .agg v.cells) : YieldsIf Tryd.prog ops S o (.bool r) a :=
  .inl ⟨hw, fun w _ => by
    subst hr
    unfold execOp
    simp only [ho, hx, hy, Sem.run_bind, run_eqGuard_agg w _ _ _ _ _ _ (show Tryd.prog.eqGuardType Tryd.prog.depth 44 = false by kernel_rfl), Result.andThen_ok, ueb_eql u v hu hv w, Sem.run_pure]⟩
theorem ueb_iff {a b : List UInt8} {u v : US} {p q : Nat × Nat} (ha : a = writeU u) (hb : b = writeU v) (hu : (u, p) = readU a) (hv : (v, q) = readU b) : decide (u = v) = decide (a = b) := by
  by_cases h : u = v
  · subst h
    rw [decide_eq_true rfl, decide_eq_true (ha.trans hb.symm)]
  · rw [decide_eq_false h, decide_eq_false fun e => h ?_]
    rw [e, ← hv] at hu
    exact (Prod.mk.inj hu).1


set_option maxRecDepth 100000 in
set_option maxHeartbeats 8000000 in
theorem law_one (va vb : Value) (a b : List UInt8) (w : World) (ha : By w va a) (hb : By w vb b) (hla : a.length ≤ 9223372036854775807) (hlb : b.length ≤ 9223372036854775807) (ht : Tab w) (he : Err w) :
    Calls Tryd.prog 8 #[va, vb] w fun e w' => e = .returned (.bool true) ∧ Below w.heap.size w w' := by
  have HT := hide (And.intro ht he)
  have HA := hide ha
  have HB := hide hb
  have HLA := hide (And.intro hla hlb)
  have Q1 := hide (awake_yes w ht)
  obtain ⟨A0, c0, rfl, -⟩ := ha.form
  obtain ⟨A1, c1, rfl, -⟩ := hb.form
  clear ha hb ht he hla hlb
  go_enter Tryd.func8, Tryd.ntmps8
  go_wp2_with fail
  refine Q1.out.mono ?_
  rintro e w1 ⟨rfl, b1⟩
  have B1 := hide b1
  have Q2 := hide (unpack_any _ a w1 (HA.out.below b1) HLA.out.1 (HT.out.1.below b1) (HT.out.2.below b1))
  clear b1 Q1
  go_wp2_with fail
  refine Q2.out.mono ?_
  rintro e w2 ⟨b2, ⟨L, v2, hu, rfl, o2⟩ | ⟨p0, hu, rfl⟩⟩
  · have B2 := hide (B1.out.trans (b2.mono B1.out.size))
    obtain ⟨hal, hmay⟩ : a = encs (rws L) ∧ may (rws L) := by
      rcases unpack_cases a with ⟨rs, h1, h2, h3⟩ | ⟨p, _, h1⟩
      · rw [h1] at hu
        simp only [Prod.mk.injEq] at hu
        rw [← hu.1]; exact ⟨h2, h3⟩
      · rw [h1] at hu; simp at hu
    obtain ⟨_, A2, c2, hv2, _⟩ := Sl.of_own o2.1
    subst hv2
    have HAL := hide (And.intro hal hmay)
    have Q3 := hide (pack_any _ L w2 o2.rws_ (HT.out.1.below B2.out))
    clear b2 o2 hu hal hmay Q2
    go_wp2_with fail
    refine Q3.out.mono ?_
    rintro e w3 ⟨b3, ⟨hmay, v3, rfl, o3⟩ | ⟨hno, rfl⟩⟩
    · have B3 := hide (B2.out.trans (b3.mono B2.out.size))
      obtain ⟨A3, c3, hv3, _⟩ := o3.by_.form
      subst hv3
      have q4 := same_any _ _ _ a w3 o3.by_ (HA.out.below B3.out)
      rw [decide_eq_true HAL.out.1.symm] at q4
      have Q4 := hide q4
      clear b3 o3 hmay q4 Q3
      go_wp2_with fail
      refine Q4.out.mono ?_
      rintro e w4 ⟨rfl, b4⟩
      have B4 := hide (B3.out.trans (b4.mono B3.out.size))
      clear b4 Q4
      have Q5 := hide (read_any _ a w4 (HA.out.below B4.out) HLA.out.1 (HT.out.1.below B4.out) (HT.out.2.below B4.out))
      go_wp2_with fail
      refine Q5.out.mono ?_
      rintro e w5 ⟨b5, rfl⟩
      unfold readV
      obtain ⟨⟨u, p, er⟩, hr⟩ : ∃ r, r = readU a := ⟨_, rfl⟩
      have HU := hide hr
      have HW := hide (readU_wf a)
      rw [← hr] at HW ⊢
      have B5 := hide (B4.out.trans (b5.mono B4.out.size))
      clear b5 Q5 hr
      go_wp2_with ((with_reducible show wpList _ _ _ (⟨none, _, _, _, _, _⟩ :: _) _ _); refine wpList_storeU (o := ⟨none, .store _ _ _, _, _, _, _⟩) (Blk.new w5 _ _) zcells_size u HW.out (ueb_one u) rfl _ _ rfl rfl rfl ?_; intro w6 hb6 hg6; have hb56 : Below w5.heap.size w5 w6 := ((Below.refl _ w5).alloc (Nat.le_refl _) _).grown hg6 (by simp) (fun k hk => by cases hk; exact Nat.le_refl _); have B6 := hide (B5.out.trans (hb56.mono B5.out.size)); have K6 := hide hb6; clear hb56 hb6 hg6)
      refine (read_any _ b w6 (HB.out.below B6.out) HLA.out.2 (HT.out.1.below B6.out) (HT.out.2.below B6.out)).mono ?_
      rintro e w7 ⟨b7, rfl⟩
      unfold readV
      obtain ⟨⟨u2, p2, er2⟩, hr⟩ : ∃ r, r = readU b := ⟨_, rfl⟩
      have HU2 := hide hr
      have HW2 := hide (readU_wf b)
      rw [← hr] at HW2 ⊢
      have B7 := hide (B6.out.trans (b7.mono B6.out.size))
      have K7 := hide (K6.out.below' b7)
      clear b7 hr
      rcases readU_cases a with ⟨u', hu'⟩ | ⟨p', e', hu', hne, _⟩
      · obtain ⟨rfl, rfl, rfl⟩ : u' = u ∧ p = 0 ∧ er = 0 := by
          have := HU.out.trans hu'
          simp only [Prod.mk.injEq] at this
          exact ⟨this.1.symm, this.2.1, this.2.2⟩
        have h1 := readU_one hu'
        have H1 := hide h1.1
        have Q8 := hide (fun W h => writeU_ok u' HW.out h1.2.2 W h)
        clear hu' h1
        go_wp2_with first
          | ((with_reducible show wpList _ _ _ (⟨none, _, _, _, _, _⟩ :: _) _ _); refine wpList_storeU (o := ⟨none, .store _ _ _, _, _, _, _⟩) (Blk.new w7 _ _) zcells_size u2 HW2.out (ueb_one u2) rfl _ _ rfl rfl rfl ?_; intro w8 hb8 hg8; have hb78 : Below w7.heap.size w7 w8 := ((Below.refl _ w7).alloc (Nat.le_refl _) _).grown hg8 (by simp) (fun k hk => by cases hk; exact Nat.le_refl _); have B8 := hide (B7.out.trans (hb78.mono B7.out.size)); have K8 := hide (K7.out.below' hb78); have J8 := hide hb8; clear hb78 hb8 hg8)
          | ((with_reducible show wpList _ _ _ (⟨some 55, _, _, _, _, _⟩ :: _) _ _); refine wpList_loadU (o := ⟨some 55, .load _ _, _, _, _, _⟩) rfl _ rfl w5.heap.size rfl u' HW.out K8.out ?_)
        refine (Q8.out w8 (HT.out.1.below B8.out)).mono ?_
        rintro e w9 ⟨b9, A9, c9, rfl, o9⟩
        have B9 := hide (B8.out.trans (b9.mono B8.out.size))
        have K9 := hide (K8.out.below' b9)
        have J9 := hide (J8.out.below' b9)
        have q9 := same_any _ _ _ a w9 o9.by_ (HA.out.below B9.out)
        rw [decide_eq_true H1.out.symm] at q9
        have Q9 := hide q9
        clear b9 o9 q9 Q8
        go_wp2_with fail
        refine Q9.out.mono ?_
        rintro e w10 ⟨rfl, b10⟩
        have B10 := hide (B9.out.trans (b10.mono B9.out.size))
        have K10 := hide (K9.out.below' b10)
        have J10 := hide (J9.out.below' b10)
        clear b10 Q9
        rcases readU_cases b with ⟨u3, hu3⟩ | ⟨p3, e3, hu3, hne3, _⟩
        · obtain ⟨rfl, rfl, rfl⟩ : u3 = u2 ∧ p2 = 0 ∧ er2 = 0 := by
            have := HU2.out.trans hu3
            simp only [Prod.mk.injEq] at this
            exact ⟨this.1.symm, this.2.1, this.2.2⟩
          have H3 := hide (readU_one hu3).1
          have HEQ := hide (ueb_iff H1.out H3.out HU.out HU2.out)
          clear hu3
          go_wp2_with fail
          have QS := hide (fun W (h : Below w10.heap.size w10 W) => same_any _ _ a b W (HA.out.below (B10.out.trans (h.mono B10.out.size))) (HB.out.below (B10.out.trans (h.mono B10.out.size))))
          have QK := hide (fun W (h : Below w10.heap.size w10 W) => And.intro (K10.out.below' h) (J10.out.below' h))
          generalize hD : decide (u' = u3) = D at *
          refine wp_region_held_drew (S := fun W => Below w10.heap.size w10 W) (by kernel_rfl) (below_drewN (Below.refl _ _) 1) (fun hHeld => ?_)
          change wpAnyH _ _ _ _ _ _ #[false, false, false, false, false, false, false, false, false, false, false, false, false, false, false, false] _ _
          (refine wpAnyH_take (i := 0) (oi := ⟨some 67, _, _, _, _, _⟩) (v := ?_) rfl (by kernel_rfl) (by kernel_rfl) (by kernel_rfl) (fun _ _ _ h => h) (Or.inl ⟨by rfl, ?_⟩) (by assumption) ?_; rotate_left; (· intro w hSw; go_simp; with_reducible rfl); simp only [Act.put, List.setIfInBounds_toArray, List.set_cons_zero, List.set_cons_succ])
          (refine wpAnyH_take (i := 1) (oi := ⟨some 68, _, _, _, _, _⟩) (v := ?_) rfl (by kernel_rfl) (by kernel_rfl) (by kernel_rfl) (fun _ _ _ h => h) (Or.inl ⟨by rfl, ?_⟩) (by assumption) ?_; rotate_left; (· intro w hSw; go_simp; with_reducible rfl); simp only [Act.put, List.setIfInBounds_toArray, List.set_cons_zero, List.set_cons_succ])
          (refine wpAnyH_take (i := 2) (oi := ⟨some 69, _, _, _, _, _⟩) (v := ?_) rfl (by kernel_rfl) (by kernel_rfl) (by kernel_rfl) (fun _ _ _ h => h) (Or.inl ⟨by rfl, ?_⟩) (by assumption) ?_; rotate_left; (· intro w hSw; go_simp; with_reducible rfl); simp only [Act.put, List.setIfInBounds_toArray, List.set_cons_zero, List.set_cons_succ])
          (refine wpAnyH_take (i := 3) (oi := ⟨some 70, _, _, _, _, _⟩) (v := ?_) rfl (by kernel_rfl) (by kernel_rfl) (by kernel_rfl) (fun _ _ _ h => h) (Or.inl ⟨by rfl, ?_⟩) (by assumption) ?_; rotate_left; (· intro w hSw; go_simp; with_reducible rfl); simp only [Act.put, List.setIfInBounds_toArray, List.set_cons_zero, List.set_cons_succ])
          (refine wpAnyH_take (i := 4) (oi := ⟨some 71, _, _, _, _, _⟩) (v := ?_) rfl (by kernel_rfl) (by kernel_rfl) (by kernel_rfl) (fun _ _ _ h => h) (Or.inl ⟨by rfl, ?_⟩) (by assumption) ?_; rotate_left; (· intro w hSw; go_simp; with_reducible rfl); simp only [Act.put, List.setIfInBounds_toArray, List.set_cons_zero, List.set_cons_succ])
          (refine wpAnyH_take (i := 5) (oi := ⟨some 72, _, _, _, _, _⟩) (v := ?_) rfl (by kernel_rfl) (by kernel_rfl) (by kernel_rfl) (fun _ _ _ h => h) (Or.inl ⟨by rfl, ?_⟩) (by assumption) ?_; rotate_left; (· intro w hSw; go_simp; with_reducible rfl); simp only [Act.put, List.setIfInBounds_toArray, List.set_cons_zero, List.set_cons_succ])
          (refine wpAnyH_take (i := 6) (oi := ⟨some 73, _, _, _, _, _⟩) (v := ?_) rfl (by kernel_rfl) (by kernel_rfl) (by kernel_rfl) (fun _ _ _ h => h) (Or.inl ⟨by rfl, ?_⟩) (by assumption) ?_; rotate_left; (· intro w hSw; go_simp; with_reducible rfl); simp only [Act.put, List.setIfInBounds_toArray, List.set_cons_zero, List.set_cons_succ])
          refine wpAnyH_take (i := 7) (oi := ⟨some 74, .load 44 (.tmp 10), _, _, _, _⟩) (v := .agg u'.cells) rfl (by kernel_rfl) (by kernel_rfl) (by kernel_rfl) (fun _ _ _ h => h) (yieldsIf_loadU ?_ (.tmp 10) ?_ w5.heap.size ?_ u' HW.out ?_) (by assumption) ?_
          · rfl
          · rfl
          · rfl
          · exact fun W hW => (QK.out W hW).1
          simp only [Act.put, List.setIfInBounds_toArray, List.set_cons_zero, List.set_cons_succ]
          refine wpAnyH_take (i := 8) (oi := ⟨some 75, .load 44 (.tmp 12), _, _, _, _⟩) (v := .agg u3.cells) rfl (by kernel_rfl) (by kernel_rfl) (by kernel_rfl) (fun _ _ _ h => h) (yieldsIf_loadU ?_ (.tmp 12) ?_ w7.heap.size ?_ u3 HW2.out ?_) (by assumption) ?_
          · rfl
          · rfl
          · rfl
          · exact fun W hW => (QK.out W hW).2
          simp only [Act.put, List.setIfInBounds_toArray, List.set_cons_zero, List.set_cons_succ]
          refine wpAnyH_take (i := 9) (oi := ⟨some 76, .binOp .eql 44 (.tmp 74) (.tmp 75) 44, _, _, _, _⟩) (v := .bool D) rfl (by kernel_rfl) (by kernel_rfl) (by kernel_rfl) (fun _ _ _ h => h) (yieldsIf_eqlU ?_ (.tmp 74) (.tmp 75) ?_ u' u3 HW.out HW2.out D hD ?_ ?_) (by assumption) ?_
          · rfl
          · rfl
          · rfl
          · rfl
          simp only [Act.put, List.setIfInBounds_toArray, List.set_cons_zero, List.set_cons_succ]
          rw [← HEQ.out] at QS
          (refine wpAnyH_take (i := 10) (oi := ⟨some 77, _, _, _, _, _⟩) (v := ?_) rfl (by kernel_rfl) (by kernel_rfl) (by kernel_rfl) (fun _ _ _ h => h) (Or.inl ⟨by rfl, ?_⟩) (by assumption) ?_; rotate_left; (· intro w hSw; go_simp; with_reducible rfl); simp only [Act.put, List.setIfInBounds_toArray, List.set_cons_zero, List.set_cons_succ])
          (refine wpAnyH_take (i := 11) (oi := ⟨some 78, _, _, _, _, _⟩) (v := ?_) rfl (by kernel_rfl) (by kernel_rfl) (by kernel_rfl) (fun _ _ _ h => h) (Or.inl ⟨by rfl, ?_⟩) (by assumption) ?_; rotate_left; (· intro w hSw; go_simp; with_reducible rfl); simp only [Act.put, List.setIfInBounds_toArray, List.set_cons_zero, List.set_cons_succ])
          refine wpAnyH_ready (rs := [12]) (by kernel_rfl) (by simp) ?_
          refine AllReadyH.cons (o := ⟨some 79, _, _, _, _, _⟩) rfl (fun K hK => ?_) AllReadyH.nil
          go_simp

          refine (QS.out _ hHeld).mono ?_
          rintro e w11 ⟨rfl, b11⟩
          go_simp
          refine hK.out _ _ (hHeld.trans (b11.mono hHeld.size)) (fun hHeld2 => ?_)
          simp only [Act.put, List.setIfInBounds_toArray, List.set_cons_zero, List.set_cons_succ]
          (refine wpAnyH_take (i := 13) (oi := ⟨some 80, _, _, _, _, _⟩) (v := ?_) rfl (by kernel_rfl) (by kernel_rfl) (by kernel_rfl) (fun _ _ _ h => h) (Or.inl ⟨by rfl, ?_⟩) (by assumption) ?_; rotate_left; (· intro w hSw; go_simp; with_reducible rfl); simp only [Act.put, List.setIfInBounds_toArray, List.set_cons_zero, List.set_cons_succ])
          (refine wpAnyH_take (i := 14) (oi := ⟨some 81, _, _, _, _, _⟩) (v := ?_) rfl (by kernel_rfl) (by kernel_rfl) (by kernel_rfl) (fun _ _ _ h => h) (Or.inl ⟨by rfl, ?_⟩) (by assumption) ?_; rotate_left; (· intro w hSw; go_simp; with_reducible rfl); simp only [Act.put, List.setIfInBounds_toArray, List.set_cons_zero, List.set_cons_succ])
          (refine wpAnyH_take (i := 15) (oi := ⟨some 4, _, _, _, _, _⟩) (v := ?_) rfl (by kernel_rfl) (by kernel_rfl) (by kernel_rfl) (fun _ _ _ h => h) (Or.inl ⟨by rfl, ?_⟩) (by assumption) ?_; rotate_left; (· intro w hSw; go_simp; with_reducible rfl); simp only [Act.put, List.setIfInBounds_toArray, List.set_cons_zero, List.set_cons_succ])
          refine wpAnyH_done (by kernel_rfl) ?_ _
          go_wp2_with fail
          go_ret
          exact ⟨rfl, B10.out.trans (hHeld2.mono B10.out.size)⟩
        · obtain ⟨rfl, rfl⟩ : p3 = p2 ∧ e3 = er2 := by
            have := HU2.out.trans hu3
            simp only [Prod.mk.injEq] at this
            exact ⟨this.2.1.symm, this.2.2.symm⟩
          have hn : ¬ (e3 : Int) = 0 := by omega
          clear hu3
          go_wp2_with fail
          go_quiet (fail)
          go_wp2_with fail
          go_ret
          exact ⟨rfl, below_drewN B10.out _⟩
      · obtain ⟨rfl, rfl⟩ : p' = p ∧ e' = er := by
          have := HU.out.trans hu'
          simp only [Prod.mk.injEq] at this
          exact ⟨this.2.1.symm, this.2.2.symm⟩
        have hn : ¬ (e' : Int) = 0 := by omega
        clear hu'
        go_wp2_with ((with_reducible show wpList _ _ _ (⟨none, _, _, _, _, _⟩ :: _) _ _); refine wpList_storeU (o := ⟨none, .store _ _ _, _, _, _, _⟩) (Blk.new w7 _ _) zcells_size u2 HW2.out (ueb_one u2) rfl _ _ rfl rfl rfl ?_; intro w8 hb8 hg8; have hb78 : Below w7.heap.size w7 w8 := ((Below.refl _ w7).alloc (Nat.le_refl _) _).grown hg8 (by simp) (fun k hk => by cases hk; exact Nat.le_refl _); have B8 := hide (B7.out.trans (hb78.mono B7.out.size)); clear hb78 hb8 hg8)
        go_quiet (fail)
        go_wp2_with fail
        go_ret
        exact ⟨rfl, below_drewN B8.out _⟩
    · exact absurd HAL.out.2 hno
  · have B2 := hide (B1.out.trans (b2.mono B1.out.size))
    clear b2 hu Q2
    have Q5 := hide (read_any _ a w2 (HA.out.below B2.out) HLA.out.1 (HT.out.1.below B2.out) (HT.out.2.below B2.out))
    go_wp2_with fail
    refine Q5.out.mono ?_
    rintro e w5 ⟨b5, rfl⟩
    unfold readV
    obtain ⟨⟨u, p, er⟩, hr⟩ : ∃ r, r = readU a := ⟨_, rfl⟩
    have HU := hide hr
    have HW := hide (readU_wf a)
    rw [← hr] at HW ⊢
    have B5 := hide (B2.out.trans (b5.mono B2.out.size))
    clear b5 Q5 hr
    go_wp2_with ((with_reducible show wpList _ _ _ (⟨none, _, _, _, _, _⟩ :: _) _ _); refine wpList_storeU (o := ⟨none, .store _ _ _, _, _, _, _⟩) (Blk.new w5 _ _) zcells_size u HW.out (ueb_one u) rfl _ _ rfl rfl rfl ?_; intro w6 hb6 hg6; have hb56 : Below w5.heap.size w5 w6 := ((Below.refl _ w5).alloc (Nat.le_refl _) _).grown hg6 (by simp) (fun k hk => by cases hk; exact Nat.le_refl _); have B6 := hide (B5.out.trans (hb56.mono B5.out.size)); have K6 := hide hb6; clear hb56 hb6 hg6)
    refine (read_any _ b w6 (HB.out.below B6.out) HLA.out.2 (HT.out.1.below B6.out) (HT.out.2.below B6.out)).mono ?_
    rintro e w7 ⟨b7, rfl⟩
    unfold readV
    obtain ⟨⟨u2, p2, er2⟩, hr⟩ : ∃ r, r = readU b := ⟨_, rfl⟩
    have HU2 := hide hr
    have HW2 := hide (readU_wf b)
    rw [← hr] at HW2 ⊢
    have B7 := hide (B6.out.trans (b7.mono B6.out.size))
    have K7 := hide (K6.out.below' b7)
    clear b7 hr
    rcases readU_cases a with ⟨u', hu'⟩ | ⟨p', e', hu', hne, _⟩
    · obtain ⟨rfl, rfl, rfl⟩ : u' = u ∧ p = 0 ∧ er = 0 := by
        have := HU.out.trans hu'
        simp only [Prod.mk.injEq] at this
        exact ⟨this.1.symm, this.2.1, this.2.2⟩
      have h1 := readU_one hu'
      have H1 := hide h1.1
      have Q8 := hide (fun W h => writeU_ok u' HW.out h1.2.2 W h)
      clear hu' h1
      go_wp2_with first
        | ((with_reducible show wpList _ _ _ (⟨none, _, _, _, _, _⟩ :: _) _ _); refine wpList_storeU (o := ⟨none, .store _ _ _, _, _, _, _⟩) (Blk.new w7 _ _) zcells_size u2 HW2.out (ueb_one u2) rfl _ _ rfl rfl rfl ?_; intro w8 hb8 hg8; have hb78 : Below w7.heap.size w7 w8 := ((Below.refl _ w7).alloc (Nat.le_refl _) _).grown hg8 (by simp) (fun k hk => by cases hk; exact Nat.le_refl _); have B8 := hide (B7.out.trans (hb78.mono B7.out.size)); have K8 := hide (K7.out.below' hb78); have J8 := hide hb8; clear hb78 hb8 hg8)
        | ((with_reducible show wpList _ _ _ (⟨some 55, _, _, _, _, _⟩ :: _) _ _); refine wpList_loadU (o := ⟨some 55, .load _ _, _, _, _, _⟩) rfl _ rfl w5.heap.size rfl u' HW.out K8.out ?_)
      refine (Q8.out w8 (HT.out.1.below B8.out)).mono ?_
      rintro e w9 ⟨b9, A9, c9, rfl, o9⟩
      have B9 := hide (B8.out.trans (b9.mono B8.out.size))
      have K9 := hide (K8.out.below' b9)
      have J9 := hide (J8.out.below' b9)
      have q9 := same_any _ _ _ a w9 o9.by_ (HA.out.below B9.out)
      rw [decide_eq_true H1.out.symm] at q9
      have Q9 := hide q9
      clear b9 o9 q9 Q8
      go_wp2_with fail
      refine Q9.out.mono ?_
      rintro e w10 ⟨rfl, b10⟩
      have B10 := hide (B9.out.trans (b10.mono B9.out.size))
      have K10 := hide (K9.out.below' b10)
      have J10 := hide (J9.out.below' b10)
      clear b10 Q9
      rcases readU_cases b with ⟨u3, hu3⟩ | ⟨p3, e3, hu3, hne3, _⟩
      · obtain ⟨rfl, rfl, rfl⟩ : u3 = u2 ∧ p2 = 0 ∧ er2 = 0 := by
          have := HU2.out.trans hu3
          simp only [Prod.mk.injEq] at this
          exact ⟨this.1.symm, this.2.1, this.2.2⟩
        have H3 := hide (readU_one hu3).1
        have HEQ := hide (ueb_iff H1.out H3.out HU.out HU2.out)
        clear hu3
        go_wp2_with fail
        have QS := hide (fun W (h : Below w10.heap.size w10 W) => same_any _ _ a b W (HA.out.below (B10.out.trans (h.mono B10.out.size))) (HB.out.below (B10.out.trans (h.mono B10.out.size))))
        have QK := hide (fun W (h : Below w10.heap.size w10 W) => And.intro (K10.out.below' h) (J10.out.below' h))
        generalize hD : decide (u' = u3) = D at *
        refine wp_region_held_drew (S := fun W => Below w10.heap.size w10 W) (by kernel_rfl) (below_drewN (Below.refl _ _) 1) (fun hHeld => ?_)
        change wpAnyH _ _ _ _ _ _ #[false, false, false, false, false, false, false, false, false, false, false, false, false, false, false, false] _ _
        (refine wpAnyH_take (i := 0) (oi := ⟨some 67, _, _, _, _, _⟩) (v := ?_) rfl (by kernel_rfl) (by kernel_rfl) (by kernel_rfl) (fun _ _ _ h => h) (Or.inl ⟨by rfl, ?_⟩) (by assumption) ?_; rotate_left; (· intro w hSw; go_simp; with_reducible rfl); simp only [Act.put, List.setIfInBounds_toArray, List.set_cons_zero, List.set_cons_succ])
        (refine wpAnyH_take (i := 1) (oi := ⟨some 68, _, _, _, _, _⟩) (v := ?_) rfl (by kernel_rfl) (by kernel_rfl) (by kernel_rfl) (fun _ _ _ h => h) (Or.inl ⟨by rfl, ?_⟩) (by assumption) ?_; rotate_left; (· intro w hSw; go_simp; with_reducible rfl); simp only [Act.put, List.setIfInBounds_toArray, List.set_cons_zero, List.set_cons_succ])
        (refine wpAnyH_take (i := 2) (oi := ⟨some 69, _, _, _, _, _⟩) (v := ?_) rfl (by kernel_rfl) (by kernel_rfl) (by kernel_rfl) (fun _ _ _ h => h) (Or.inl ⟨by rfl, ?_⟩) (by assumption) ?_; rotate_left; (· intro w hSw; go_simp; with_reducible rfl); simp only [Act.put, List.setIfInBounds_toArray, List.set_cons_zero, List.set_cons_succ])
        (refine wpAnyH_take (i := 3) (oi := ⟨some 70, _, _, _, _, _⟩) (v := ?_) rfl (by kernel_rfl) (by kernel_rfl) (by kernel_rfl) (fun _ _ _ h => h) (Or.inl ⟨by rfl, ?_⟩) (by assumption) ?_; rotate_left; (· intro w hSw; go_simp; with_reducible rfl); simp only [Act.put, List.setIfInBounds_toArray, List.set_cons_zero, List.set_cons_succ])
        (refine wpAnyH_take (i := 4) (oi := ⟨some 71, _, _, _, _, _⟩) (v := ?_) rfl (by kernel_rfl) (by kernel_rfl) (by kernel_rfl) (fun _ _ _ h => h) (Or.inl ⟨by rfl, ?_⟩) (by assumption) ?_; rotate_left; (· intro w hSw; go_simp; with_reducible rfl); simp only [Act.put, List.setIfInBounds_toArray, List.set_cons_zero, List.set_cons_succ])
        (refine wpAnyH_take (i := 5) (oi := ⟨some 72, _, _, _, _, _⟩) (v := ?_) rfl (by kernel_rfl) (by kernel_rfl) (by kernel_rfl) (fun _ _ _ h => h) (Or.inl ⟨by rfl, ?_⟩) (by assumption) ?_; rotate_left; (· intro w hSw; go_simp; with_reducible rfl); simp only [Act.put, List.setIfInBounds_toArray, List.set_cons_zero, List.set_cons_succ])
        (refine wpAnyH_take (i := 6) (oi := ⟨some 73, _, _, _, _, _⟩) (v := ?_) rfl (by kernel_rfl) (by kernel_rfl) (by kernel_rfl) (fun _ _ _ h => h) (Or.inl ⟨by rfl, ?_⟩) (by assumption) ?_; rotate_left; (· intro w hSw; go_simp; with_reducible rfl); simp only [Act.put, List.setIfInBounds_toArray, List.set_cons_zero, List.set_cons_succ])
        refine wpAnyH_take (i := 7) (oi := ⟨some 74, .load 44 (.tmp 10), _, _, _, _⟩) (v := .agg u'.cells) rfl (by kernel_rfl) (by kernel_rfl) (by kernel_rfl) (fun _ _ _ h => h) (yieldsIf_loadU ?_ (.tmp 10) ?_ w5.heap.size ?_ u' HW.out ?_) (by assumption) ?_
        · rfl
        · rfl
        · rfl
        · exact fun W hW => (QK.out W hW).1
        simp only [Act.put, List.setIfInBounds_toArray, List.set_cons_zero, List.set_cons_succ]
        refine wpAnyH_take (i := 8) (oi := ⟨some 75, .load 44 (.tmp 12), _, _, _, _⟩) (v := .agg u3.cells) rfl (by kernel_rfl) (by kernel_rfl) (by kernel_rfl) (fun _ _ _ h => h) (yieldsIf_loadU ?_ (.tmp 12) ?_ w7.heap.size ?_ u3 HW2.out ?_) (by assumption) ?_
        · rfl
        · rfl
        · rfl
        · exact fun W hW => (QK.out W hW).2
        simp only [Act.put, List.setIfInBounds_toArray, List.set_cons_zero, List.set_cons_succ]
        refine wpAnyH_take (i := 9) (oi := ⟨some 76, .binOp .eql 44 (.tmp 74) (.tmp 75) 44, _, _, _, _⟩) (v := .bool D) rfl (by kernel_rfl) (by kernel_rfl) (by kernel_rfl) (fun _ _ _ h => h) (yieldsIf_eqlU ?_ (.tmp 74) (.tmp 75) ?_ u' u3 HW.out HW2.out D hD ?_ ?_) (by assumption) ?_
        · rfl
        · rfl
        · rfl
        · rfl
        simp only [Act.put, List.setIfInBounds_toArray, List.set_cons_zero, List.set_cons_succ]
        rw [← HEQ.out] at QS
        (refine wpAnyH_take (i := 10) (oi := ⟨some 77, _, _, _, _, _⟩) (v := ?_) rfl (by kernel_rfl) (by kernel_rfl) (by kernel_rfl) (fun _ _ _ h => h) (Or.inl ⟨by rfl, ?_⟩) (by assumption) ?_; rotate_left; (· intro w hSw; go_simp; with_reducible rfl); simp only [Act.put, List.setIfInBounds_toArray, List.set_cons_zero, List.set_cons_succ])
        (refine wpAnyH_take (i := 11) (oi := ⟨some 78, _, _, _, _, _⟩) (v := ?_) rfl (by kernel_rfl) (by kernel_rfl) (by kernel_rfl) (fun _ _ _ h => h) (Or.inl ⟨by rfl, ?_⟩) (by assumption) ?_; rotate_left; (· intro w hSw; go_simp; with_reducible rfl); simp only [Act.put, List.setIfInBounds_toArray, List.set_cons_zero, List.set_cons_succ])
        refine wpAnyH_ready (rs := [12]) (by kernel_rfl) (by simp) ?_
        refine AllReadyH.cons (o := ⟨some 79, _, _, _, _, _⟩) rfl (fun K hK => ?_) AllReadyH.nil
        go_simp

        refine (QS.out _ hHeld).mono ?_
        rintro e w11 ⟨rfl, b11⟩
        go_simp
        refine hK.out _ _ (hHeld.trans (b11.mono hHeld.size)) (fun hHeld2 => ?_)
        simp only [Act.put, List.setIfInBounds_toArray, List.set_cons_zero, List.set_cons_succ]
        (refine wpAnyH_take (i := 13) (oi := ⟨some 80, _, _, _, _, _⟩) (v := ?_) rfl (by kernel_rfl) (by kernel_rfl) (by kernel_rfl) (fun _ _ _ h => h) (Or.inl ⟨by rfl, ?_⟩) (by assumption) ?_; rotate_left; (· intro w hSw; go_simp; with_reducible rfl); simp only [Act.put, List.setIfInBounds_toArray, List.set_cons_zero, List.set_cons_succ])
        (refine wpAnyH_take (i := 14) (oi := ⟨some 81, _, _, _, _, _⟩) (v := ?_) rfl (by kernel_rfl) (by kernel_rfl) (by kernel_rfl) (fun _ _ _ h => h) (Or.inl ⟨by rfl, ?_⟩) (by assumption) ?_; rotate_left; (· intro w hSw; go_simp; with_reducible rfl); simp only [Act.put, List.setIfInBounds_toArray, List.set_cons_zero, List.set_cons_succ])
        (refine wpAnyH_take (i := 15) (oi := ⟨some 4, _, _, _, _, _⟩) (v := ?_) rfl (by kernel_rfl) (by kernel_rfl) (by kernel_rfl) (fun _ _ _ h => h) (Or.inl ⟨by rfl, ?_⟩) (by assumption) ?_; rotate_left; (· intro w hSw; go_simp; with_reducible rfl); simp only [Act.put, List.setIfInBounds_toArray, List.set_cons_zero, List.set_cons_succ])
        refine wpAnyH_done (by kernel_rfl) ?_ _
        go_wp2_with fail
        go_ret
        exact ⟨rfl, B10.out.trans (hHeld2.mono B10.out.size)⟩
      · obtain ⟨rfl, rfl⟩ : p3 = p2 ∧ e3 = er2 := by
          have := HU2.out.trans hu3
          simp only [Prod.mk.injEq] at this
          exact ⟨this.2.1.symm, this.2.2.symm⟩
        have hn : ¬ (e3 : Int) = 0 := by omega
        clear hu3
        go_wp2_with fail
        go_quiet (fail)
        go_wp2_with fail
        go_ret
        exact ⟨rfl, below_drewN B10.out _⟩
    · obtain ⟨rfl, rfl⟩ : p' = p ∧ e' = er := by
        have := HU.out.trans hu'
        simp only [Prod.mk.injEq] at this
        exact ⟨this.2.1.symm, this.2.2.symm⟩
      have hn : ¬ (e' : Int) = 0 := by omega
      clear hu'
      go_wp2_with ((with_reducible show wpList _ _ _ (⟨none, _, _, _, _, _⟩ :: _) _ _); refine wpList_storeU (o := ⟨none, .store _ _ _, _, _, _, _⟩) (Blk.new w7 _ _) zcells_size u2 HW2.out (ueb_one u2) rfl _ _ rfl rfl rfl ?_; intro w8 hb8 hg8; have hb78 : Below w7.heap.size w7 w8 := ((Below.refl _ w7).alloc (Nat.le_refl _) _).grown hg8 (by simp) (fun k hk => by cases hk; exact Nat.le_refl _); have B8 := hide (B7.out.trans (hb78.mono B7.out.size)); clear hb78 hb8 hg8)
      go_quiet (fail)
      go_wp2_with fail
      go_ret
      exact ⟨rfl, below_drewN B8.out _⟩
end Go.Proofs.YteaagngikiaokaaDoor
