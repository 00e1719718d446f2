/- The contract of the law's lentRows: first loop. -/
import Derived.Test.YteaagngikiaokaaDoorPkA
namespace Go.Proofs.YteaagngikiaokaaDoor
open Go.RowKit

theorem elem88 : Elem1 Tryd.prog 23 27 (.slice none 0 0) 24 := ⟨Tryd.underlying23, by kernel_rfl, rfl⟩
theorem apt_lent {w1 w2 : World} {b1 b2 : Nat} {e1 e2 : TypeId} {s1 s2 n1 n2 : Nat} {a b : Value} {xs ys : List Value} (ha : w1.ownsRow b1 e1 s1 a n1 xs) (hb : w2.ownsRow b2 e2 s2 b n2 ys) (h : w1.heap.size ≤ b2) : a.ownBlock = none ∨ a.ownBlock ≠ b.ownBlock := by
  rcases ha.2 with ⟨rfl, _⟩ | ⟨g, cap, cur, rfl, _, hh, _⟩
  · exact .inl rfl
  · refine .inr fun e => ?_
    have h1 := (ha.lt g rfl).2
    have h2 := (hb.lt g (by rw [← e]; rfl)).1
    omega

set_option maxRecDepth 100000 in
set_option maxHeartbeats 8000000 in
theorem lentRows_any (v : Value) (L : List RowV) (w : World) (h : Rws w v L) (hn : L.length ≤ 1048576) (hl : ∀ x ∈ L, x.2.2.length ≤ 1048576) :
    Calls Tryd.prog 12 #[v] w fun e w' => ∃ va ve LA E, e = .returned (.agg #[va, ve]) ∧ Below w.heap.size w w' ∧ Lnt w' w.heap.size va ve LA E ∧ rws LA = rws L ++ mks70 70 ∧ E.map (·.2) = lentOf L := by
  obtain ⟨i0, hi0, hz0, hs0, hb0⟩ := info_parts Tryd.infoRow
  have HI := hide (And.intro hi0 (And.intro hz0 (And.intro hs0 hb0)))
  clear hi0 hz0 hs0 hb0
  have HR := hide h
  obtain ⟨A, c, rfl, hc, hm, hcell⟩ := h.form
  clear h
  have HN := hide hn
  have HL := hide hl
  clear hl
  go_enter Tryd.func12, Tryd.ntmps12
  go_wp2_with fail
  go_loopw [4] (fun u4 wr => ∃ (k : Nat) (va ve : Value) (LA : List RowV) (E : List Ent), u4 = .int .i64 (k : Int) ∧ k ≤ L.length ∧ Blk wr w.heap.size 25 #[.slice none 0 0, .slice none 0 0] ∧ Blk wr (w.heap.size + 1) 25 #[va, ve] ∧ Below w.heap.size w wr ∧ Lnt wr w.heap.size va ve LA E ∧ rws LA = rws (L.take k) ∧ E.map (·.2) = lentOf (L.take k)) (fun u4 _ => L.length + 1 - (intOf u4).toNat)
  case atStart =>
    exact ⟨0, _, _, [], [], rfl, by omega, (Blk.new w _ _).alloc _, (by have := Blk.new (w.alloc (.cells #[.slice none 0 0, .slice none 0 0] 25)) 25 #[.slice none 0 0, .slice none 0 0]; simpa using this), ((Below.refl _ w).alloc (Nat.le_refl _) _).alloc (by simp) _, Lnt.nil _ _, by simp [rws], by simp [lentOf]⟩
  case round =>
    obtain ⟨k, va, ve, LA, E, rfl, hk, hblk0, hblk1, hbel, hlnt, hrows, hents⟩ := hrel
    by_cases hlt : k < L.length
    · obtain ⟨x, hx⟩ : ∃ x, L[k]? = some x := ⟨_, List.getElem?_eq_getElem hlt⟩
      obtain ⟨b, o, rfl, hbl, h1, h2⟩ := hcell k x hx
      have hby := HR.out.2 x (List.mem_of_getElem? hx)
      have hxl := HL.out x (List.mem_of_getElem? hx)
      obtain ⟨A3, c3, hv3, hc3, hm3, _⟩ := hby.form
      have c1 : wr.cell? ⟨b, o + k * 2, none⟩ = some (.string x.1) := (hbel.cell (p := ⟨b, o + k * 2, none⟩) hbl).trans h1
      have c2 : wr.cell? ⟨b, o + k * 2 + 1, none⟩ = some (.slice A3 x.2.2.length c3) := (hbel.cell (p := ⟨b, o + k * 2 + 1, none⟩) hbl).trans (by rw [h2, hv3])
      have q1 := lent_any x.2.1 x.2.2 wr (hby.below hbel) (by omega)
      rw [hv3] at q1
      have Q1 := hide q1
      have i1 : (k : Int) < (L.length : Int) := by omega
      have i2 : (0 : Int) ≤ (k : Int) := by omega
      have HX := hide hx
      have HLN := hide hlnt
      have HB0 := hide hblk0
      have HB1 := hide hblk1
      have HBE := hide hbel
      have HRW := hide hrows
      have HEN := hide hents
      have HEL := hide (show E.length = k by have := congrArg List.length hents; simpa [lentOf, Nat.min_eq_left hk] using this)
      have HLL := hide (show LA.length = k by have := congrArg List.length hrows; simpa [Nat.min_eq_left hk] using this)
      have hsz1 := hblk1.lt
      clear q1 hx hlnt hblk0 hblk1 hbel hrows hents h1 h2 hby hv3
      go_wp2_with fail
      refine Q1.out.mono ?_
      rintro e w1 ⟨v5, rfl, o5, b5⟩
      obtain ⟨g5, cap5, hv5, hg5, hg5l⟩ := o5.form (by simp [marks])
      have hcap5 : (x.2.2 ++ marks 0 x.2.2.length 70).length ≤ cap5 := by
        rcases o5.2 with ⟨h0, _⟩ | ⟨g', cap', cur, hv, _, _, h3, _⟩
        · rw [hv5] at h0; cases h0
        · rw [hv5] at hv; injection hv with _ _ e3; rw [e3]; exact h3
      have hn5 : (x.2.2 ++ marks 0 x.2.2.length 70).length = x.2.2.length + 70 := by simp [marks]
      rw [hn5] at hv5 hcap5
      subst hv5
      have HO5 := hide o5
      have HLN1 := hide (HLN.out.below b5)
      have HBE1 := hide (HBE.out.trans (b5.mono HBE.out.size))
      have HB01 := hide (HB0.out.below' b5)
      have HB11 := hide (HB1.out.below' b5)
      have HSZ := hide b5.size
      have e1 : w1.cell? ⟨w.heap.size + 1, 1, none⟩ = some ve := HB11.out.cell 1
      have HOB := hide (o5.base HBE.out.size)
      have HFR := hide (fun y (hy : y ∈ E) => apt_lent (HLN.out.own y hy) o5 (Nat.le_refl _))
      have HAT := hide (fun W (h : Below w.heap.size w W) => And.intro ((h.cell (p := ⟨b, o + k * 2, none⟩) hbl).trans ((HBE.out.cell (p := ⟨b, o + k * 2, none⟩) hbl).symm.trans c1)) ((h.cell (p := ⟨b, o + k * 2 + 1, none⟩) hbl).trans ((HBE.out.cell (p := ⟨b, o + k * 2 + 1, none⟩) hbl).symm.trans c2)))
      clear b5 o5 Q1 c1 c2
      go_wp2_with (at_builtin; go_loud (refine wpList_push1 elem88 HLN1.out.each HBE1.out HBE1.out.size (by have := HEL.out; unfold maxLen; omega) (by have := HEL.out; omega) (.slice (some ⟨g5, 0, none⟩) (x.2.2.length + 70) cap5) rfl rfl _ _ rfl rfl rfl ?_); intro ve2 w2 hown2 hb2 _ hgr2 _; obtain ⟨_, A5, c5, hve5, _, _, _⟩ := Sl.of_own hown2; subst hve5; have hbk2 := HB11.out.grown hgr2 (fun e' => (own_blk_ne HLN1.out.each HB11.out (by decide)).elim (fun h0 => by rw [h0] at e'; cases e') (fun h0 => h0 e'.symm)); have s1 : w2.cell? ⟨w.heap.size + 1, 1, none⟩ = some ve := hbk2.cell 1; have s2 : w2.frozen? ⟨w.heap.size + 1, 1, none⟩ = false := hbk2.frozen 1; have s3 : w2.cell? ⟨w.heap.size + 1, 0, none⟩ = some va := hbk2.cell 0)
      have hln2 := HLN1.out.pushEach hgr2 hown2 HOB.out HFR.out
      have hln3 := hln2.setBox (i := 1) (u := .slice A5 (E.length + 1) c5) hbk2
      have hbk3 := hbk2.set_ 1 (.slice A5 (E.length + 1) c5)
      have hb02 := HB01.out.grown hgr2 (fun e' => (own_blk_ne HLN1.out.each HB01.out (by decide)).elim (fun h0 => by rw [h0] at e'; cases e') (fun h0 => h0 e'.symm))
      have hb03 := hb02.far (p := ⟨w.heap.size + 1, 1, none⟩) (by simp) (.slice A5 (E.length + 1) c5)
      have hb3 := hb2.setCell (p := ⟨w.heap.size + 1, 1, none⟩) (by simp) (.slice A5 (E.length + 1) c5)
      have HLN3 := hide hln3
      have HBK3 := hide hbk3
      have HB03 := hide hb03
      have HBE3 := hide hb3
      clear hln2 hln3 hbk3 hb02 hb03 hb3 hbk2 s1 s2 s3 hown2 hb2 hgr2 HLN1 HBE1 HB01 HB11 e1 HOB HO5 HFR HLN HBE HB0 HB1
      generalize w2.setCell ⟨w.heap.size + 1, 1, none⟩ (.slice A5 (E.length + 1) c5) = w3 at *
      obtain ⟨r1, r2⟩ := HAT.out _ HBE3.out
      have r3 : w3.cell? ⟨w.heap.size + 1, 0, none⟩ = some va := HBK3.out.cell 0
      have hln : ¬ w.heap.size + 1 = w3.heap.size := by have := HBK3.out.lt; omega
      have hln2 : w.heap.size + 1 < w3.heap.size := HBK3.out.lt
      have r3' : ∀ o, (w3.alloc o).cell? ⟨w.heap.size + 1, 0, none⟩ = some va := fun o => (HBK3.out.alloc o).cell 0
      have i3 : (x.2.2.length : Int) ≤ (cap5 : Int) := by omega
      have i4 : x.2.2.length ≤ cap5 := by omega
      have HOF := hide (Own.front_ (HLN3.out.own _ (List.mem_append_right _ (List.mem_singleton.2 rfl))) (by simp [marks]))
      go_wp2_with fail
      go_region_law
        (first
          | (go_loud (refine step_push2 (g := w3.heap.size) Tryd.underlying22 HI.out.1 HI.out.2.1 HI.out.2.2.1 HI.out.2.2.2 rfl (own_below' HLN3.out.rows.1 (by repeat (first | with_reducible exact Below.refl _ _ | with_reducible refine Below.drew ?_ | with_reducible refine Below.al0 ?_ _))) (below_step HBE3.out (by repeat (first | with_reducible exact Below.refl _ _ | with_reducible refine Below.drew ?_ | with_reducible refine Below.al0 ?_ _))) (base_le HBE3.out (by repeat (first | with_reducible exact Below.refl _ _ | with_reducible refine Below.drew ?_ | with_reducible refine Below.al0 ?_ _))) (.string x.1) (.slice (some ⟨g5, 0, none⟩) x.2.2.length cap5) (by repeat (first | with_reducible exact Blk.new _ _ _ | with_reducible refine Blk.drew ?_)) rfl rfl (by have := HLL.out; unfold maxLen; omega) (by have := HLL.out; omega) (by rfl) _ _ (by rfl) (by rfl) (by rfl) ?_); intro va2 w4 hown4 hb4 hgr4; obtain ⟨_, A6, c6, hv6, _, _, _⟩ := Sl.of_own hown4; subst hv6; have hbk4 := (HBK3.out.below' (w' := _) (by repeat (first | with_reducible exact Below.refl _ _ | with_reducible refine Below.drew ?_ | with_reducible refine Below.al0 ?_ _))).grown hgr4 (fun e' => (own_blk_ne HLN3.out.rows.1 HBK3.out (by decide)).elim (fun h0 => by rw [h0] at e'; cases e') (fun h0 => h0 e'.symm)); have z1 : w4.cell? ⟨w.heap.size + 1, 0, none⟩ = some va := hbk4.cell 0; have z2 : w4.frozen? ⟨w.heap.size + 1, 0, none⟩ = false := hbk4.frozen 0))
      all_goals
        have hln5 := (Lnt.pushRow (HLN3.out.below (w' := _) (by repeat (first | with_reducible exact Below.refl _ _ | with_reducible refine Below.drew ?_ | with_reducible refine Below.al0 ?_ _))) hgr4 hown4 (HOF.out.below (w' := _) (by repeat (first | with_reducible exact Below.refl _ _ | with_reducible refine Below.drew ?_ | with_reducible refine Below.al0 ?_ _)))).setBox (i := 0) (u := .slice A6 (LA.length + 1) c6) hbk4
        have hbk5 := hbk4.set_ 0 (.slice A6 (LA.length + 1) c6)
        have hb05 := ((HB03.out.below' (w' := _) (by repeat (first | with_reducible exact Below.refl _ _ | with_reducible refine Below.drew ?_ | with_reducible refine Below.al0 ?_ _))).grown hgr4 (fun e' => (own_blk_ne HLN3.out.rows.1 HB03.out (by decide)).elim (fun h0 => by rw [h0] at e'; cases e') (fun h0 => h0 e'.symm))).far (p := ⟨w.heap.size + 1, 0, none⟩) (by simp) (.slice A6 (LA.length + 1) c6)
        have hb5 := hb4.setCell (p := ⟨w.heap.size + 1, 0, none⟩) (by simp) (.slice A6 (LA.length + 1) c6)
        generalize w4.setCell ⟨w.heap.size + 1, 0, none⟩ (.slice A6 (LA.length + 1) c6) = w5 at *
        have HA := hide (And.intro hln5 (And.intro hbk5 (And.intro hb05 hb5)))
        clear hln5 hbk5 hb05 hb5 hbk4 z1 z2 hown4 hb4 hgr4 r1 r2 r3 r3'
        go_wp2
        go_roundw
        case rel =>
          have hxx := HX.out
          have htk := take_snoc L k x hxx
          refine ⟨k + 1, _, _, _, _, by go_num, by omega, HA.out.2.2.1, HA.out.2.1, HA.out.2.2.2, HA.out.1, ?_, ?_⟩
          · rw [rws_append, HRW.out, htk, rws_append]; rfl
          · rw [List.map_append, HEN.out, htk]; simp [lentOf]
        case measure => simp [intOf]; omega
    · have hk2 : k = L.length := by omega
      subst hk2
      rw [List.take_length] at hrows hents
      have i1 : ¬ (L.length : Int) < (L.length : Int) := by omega
      have HEN := hide (And.intro hents hrows)
      have HLE := hide (show LA.length = L.length by have := congrArg List.length hrows; simpa using this)
      clear hcell hents
      go_wp2
      generalize wr = wz at *
      go_loopw [6] (fun u6 wr => ∃ (j : Nat) (va : Value) (LA2 : List RowV), u6 = .int .i64 (j : Int) ∧ j ≤ 70 ∧ Blk wr w.heap.size 25 #[.slice none 0 0, .slice none 0 0] ∧ Blk wr (w.heap.size + 1) 25 #[va, ve] ∧ Below w.heap.size w wr ∧ Lnt wr w.heap.size va ve LA2 E ∧ rws LA2 = rws L ++ mks70 j ∧ LA2.length = L.length + j) (fun u6 _ => 71 - (intOf u6).toNat)
      case atStart => exact ⟨0, va, LA, rfl, by omega, hblk0, hblk1, hbel, hlnt, by rw [hrows]; simp [mks70], by have := HLE.out; omega⟩
      case round =>
        clear hblk0 hblk1 hbel hlnt hrows HLE
        obtain ⟨j, va, LA2, rfl, hj, hblk0, hblk1, hbel, hlnt, hrows, hlen⟩ := hrel
        have r3 : wr.cell? ⟨w.heap.size + 1, 0, none⟩ = some va := hblk1.cell 0
        have r4 : wr.cell? ⟨w.heap.size + 1, 1, none⟩ = some ve := hblk1.cell 1
        have HB0 := hide hblk0
        have HB1 := hide hblk1
        have HBE := hide hbel
        have HLN := hide hlnt
        have HRW := hide hrows
        have HLE := hide hlen
        have hln2 : w.heap.size + 1 < wr.heap.size := hblk1.lt
        clear hblk0 hblk1 hbel hlnt hrows hlen
        by_cases h70 : j < 70
        · have e1 : IntKind.u8.wrap (j : Int) = (j : Int) := IntWalk.u8_in _ (by omega)
          have i5 : (j : Int) < 70 := by omega
          have HO1 := hide (show Own (wr.alloc (.cells #[.int .u8 (j : Int)] 5)) w.heap.size 5 (.slice (some ⟨wr.heap.size, 0, none⟩) 1 1) [UInt8.ofNat j] from by
            have hb := (Blk.new wr 5 #[.int .u8 (j : Int)]).own (base := w.heap.size) (n := 1) (cap := 1) (sz := 1) rfl HBE.out.size rfl (Nat.le_refl _) (by simp [maxLen])
            unfold Own
            have : bcells [UInt8.ofNat j] = [.int .u8 (j : Int)] := by simp [bcells, Nat.mod_eq_of_lt (show j < 256 by omega)]
            rw [this]
            exact hb)
          go_wp2_with (at_builtin; go_loud (refine wpList_push2 Tryd.underlying22 HI.out.1 HI.out.2.1 HI.out.2.2.1 HI.out.2.2.2 rfl (HLN.out.rows.1.alloc _) (HBE.out.alloc HBE.out.size _) (by have := HBE.out.size; simp; omega) (.string ⟨#[109, 97, 114, 107]⟩) (.slice (some ⟨wr.heap.size, 0, none⟩) 1 1) rfl rfl (by have := HLE.out; unfold maxLen; omega) (by have := HLE.out; omega) rfl _ _ rfl rfl (by rw [World.size_alloc]; rfl) ?_); intro va2 w3 hown3 hb3 hgr3; obtain ⟨_, A5, c5, hv5, _, _, _⟩ := Sl.of_own hown3; subst hv5; have hbk3 := (HB1.out.alloc (.cells #[.int .u8 (j : Int)] 5)).grown hgr3 (fun e' => (own_blk_ne HLN.out.rows.1 HB1.out (by decide)).elim (fun h0 => by rw [h0] at e'; cases e') (fun h0 => h0 e'.symm)); have z1 : w3.cell? ⟨w.heap.size + 1, 0, none⟩ = some va := hbk3.cell 0; have z2 : w3.frozen? ⟨w.heap.size + 1, 0, none⟩ = false := hbk3.frozen 0)
          have hln3 := (Lnt.pushRow (HLN.out.below ((Below.refl _ _).alloc (Nat.le_refl _) _)) hgr3 hown3 HO1.out).setBox (i := 0) (u := .slice A5 (LA2.length + 1) c5) hbk3
          have hbk4 := hbk3.set_ 0 (.slice A5 (LA2.length + 1) c5)
          have hb04 := ((HB0.out.alloc (.cells #[.int .u8 (j : Int)] 5)).grown hgr3 (fun e' => (own_blk_ne HLN.out.rows.1 HB0.out (by decide)).elim (fun h0 => by rw [h0] at e'; cases e') (fun h0 => h0 e'.symm))).far (p := ⟨w.heap.size + 1, 0, none⟩) (by simp) (.slice A5 (LA2.length + 1) c5)
          have hb4 := hb3.setCell (p := ⟨w.heap.size + 1, 0, none⟩) (by simp) (.slice A5 (LA2.length + 1) c5)
          have HA := hide (And.intro hln3 (And.intro hbk4 (And.intro hb04 hb4)))
          clear hln3 hbk4 hb04 hb4 hbk3 z1 z2 hown3 hb3 hgr3 r3 r4
          go_wp2
          go_roundw
          case rel =>
            refine ⟨j + 1, _, _, by go_num, by omega, HA.out.2.2.1, HA.out.2.1, HA.out.2.2.2, HA.out.1, ?_, ?_⟩
            · rw [rws_append, HRW.out, mks70_succ, List.append_assoc]; rfl
            · rw [List.length_append, HLE.out]; rfl
          case measure => simp [intOf]; omega
        · have hj2 : j = 70 := by omega
          subst hj2
          have hva : ∃ A n c, va = .slice A n c := by
            rcases HLN.out.rows.1.2 with ⟨h0, _⟩ | ⟨_, _, _, h0, _⟩ <;> exact ⟨_, _, _, h0⟩
          have hve : ∃ A n c, ve = .slice A n c := by
            rcases HLN.out.each.2 with ⟨h0, _⟩ | ⟨_, _, _, h0, _⟩ <;> exact ⟨_, _, _, h0⟩
          obtain ⟨Aa, na, ca, rfl⟩ := hva
          obtain ⟨Ae, ne, ce, rfl⟩ := hve
          go_wp2_with (refine wpList_store_row (o := ⟨none, .store _ _ _, _, _, _, _⟩) HB0.out #[.slice Aa na ca, .slice Ae ne ce] rfl (by simp [Value.oneCell']) rfl 25 _ _ rfl (by kernel_rfl) (by rfl) (by rfl) ?_; intro wf hb1 hg1)

          have hbf := HBE.out.grown hg1 (by omega) (fun k hk => by cases hk; omega)
          have hlf := Lnt.same HLN.out w.heap.size (fun g h1 h2 h3 => hg1.block g h2 (fun e' => h3 (Option.some.inj e')))
            (fun e' => (own_blk_ne HLN.out.rows.1 HB0.out (by decide)).elim (fun h0 => by rw [h0] at e'; cases e') (fun h0 => h0 e'))
            (fun e' => (own_blk_ne HLN.out.each HB0.out (by decide)).elim (fun h0 => by rw [h0] at e'; cases e') (fun h0 => h0 e'))
            (fun x hx e' => (own_blk_ne (HLN.out.own x hx) HB0.out (by decide)).elim (fun h0 => by rw [h0] at e'; cases e') (fun h0 => h0 e'))
            (fun x hx e' => (own_blk_ne (HLN.out.rows.2 x hx) HB0.out (by decide)).elim (fun h0 => by rw [h0] at e'; cases e') (fun h0 => h0 e'))
          exact bodyPost_ret (results_cell_row rfl _ _ w.heap.size 25 #[.slice Aa na ca, .slice Ae ne ce] (0, 0) _ rfl hb1 Tryd.underlying25 rfl (by kernel_rfl)) rfl ⟨_, _, _, _, rfl, hbf, hlf, HRW.out, HEN.out.1⟩
end Go.Proofs.YteaagngikiaokaaDoor
