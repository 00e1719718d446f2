/- RsFar: unlike lists of blocks are far apart; what is made of both together is both together. -/
import Derived.Test.YtoaaplngdomdcaaRsF
namespace Go.Proofs.Ytoaaplngdomdcaa
open Go.RowKit

set_option maxRecDepth 100000 in
set_option maxHeartbeats 8000000 in
theorem law_rsfar (k n : Int) (va : Value) (la : List UInt8) (vb : Value) (lb : List UInt8) (w : World) (_hk : (Lit.int .i64 k).wf = true) (_hn : (Lit.int .i64 n).wf = true) (ha : By w va la) (hla : la.length ≤ 140737488351232) (hb : By w vb lb) (hlb : lb.length ≤ 140737488351232) :
    Calls Try.prog 4 #[.int .i64 k, .int .i64 n, va, vb] w fun e w' => e = .returned (.bool true) ∧ Below w.heap.size w w' := by
  have q0 := lives_any w
  by_cases hkn : 1 ≤ k ∧ k ≤ n ∧ n ≤ 255
  · obtain ⟨K, rfl⟩ : ∃ K : Nat, k = (K : Int) := ⟨k.toNat, by omega⟩
    obtain ⟨N, rfl⟩ : ∃ N : Nat, n = (N : Int) := ⟨n.toNat, by omega⟩
    have hK1 : 1 ≤ K := by omega
    have hKN : K ≤ N := by omega
    have hN : N ≤ 255 := by omega
    clear hkn
    obtain ⟨A, ca, rfl, hca, hcam, hx1⟩ := ha.form
    obtain ⟨B, cb, rfl, hcb, hcbm, hx2⟩ := hb.form
    clear hx1 hx2
    unfold maxLen at hcam hcbm
    have hp : ∃ p, p ≤ la.length ∧ p ≤ lb.length ∧ ((lb.length < la.length ∧ lb.length = p) ∨ (¬ lb.length < la.length ∧ la.length = p)) := by
      by_cases h : lb.length < la.length
      · exact ⟨lb.length, by omega, Nat.le_refl _, .inl ⟨h, rfl⟩⟩
      · exact ⟨la.length, Nat.le_refl _, by omega, .inr ⟨h, rfl⟩⟩
    obtain ⟨p, hpa, hpb, hp⟩ := hp
    have HA := hide (And.intro (ha.take p hpa) (hb.take p hpb))
    have hta : (la.take p).length = p := by rw [List.length_take]; omega
    have htb : (lb.take p).length = p := by rw [List.length_take]; omega
    have HT := hide (And.intro hta htb)
    clear ha hb hta htb
    generalize la.take p = la' at *
    generalize lb.take p = lb' at *
    generalize hLA : la.length = LA at *
    generalize hLB : lb.length = LB at *
    clear hLA hLB la lb
    have p1 : (0 : Int) ≤ (p : Int) := by omega
    have p2 : (p : Int) ≤ (ca : Int) := by omega
    have p3 : (p : Int) ≤ (cb : Int) := by omega
    have hpl : p ≤ 140737488351232 := by omega
    have hml : p / K ≤ 140737488351232 := Nat.le_trans (Nat.div_le_self _ _) hpl
    have hnn : ((N : Int) != (N : Int)) = false := by simp
    rcases hp with ⟨hgt, hpe⟩ | ⟨hgt, hpe⟩
    all_goals
      have hpe2 := hpe.symm
      subst hpe2
      clear hpe
      go_enter Try.func4, Try.ntmps4
      go_wp2_with fail
      refine q0.mono ?_
      rintro e w1 ⟨rfl, hb1⟩
      have q1 := rsnew_any K N w1 hK1 hKN hN
      go_wp2_with fail
      refine q1.mono ?_
      rintro e w2 ⟨gc, rfl, hc, hb2⟩
      have HC2 := hide (And.intro hc (hb1.trans (hb2.mono hb1.size)))
      clear q0 q1 hc hb1 hb2
      have q2 := leven_any K _ la' w2 (HA.out.1.below HC2.out.2) hK1 (by omega) (by rw [HT.out.1]; omega)
      rw [HT.out.1] at q2
      obtain ⟨m, hm⟩ : ∃ m, m = p / K := ⟨_, rfl⟩
      obtain ⟨D, hD⟩ : ∃ D, D = pieceD la' m := ⟨_, rfl⟩
      obtain ⟨D2, hD2⟩ : ∃ D, D = pieceD lb' m := ⟨_, rfl⟩
      rw [← hm] at hml
      rw [← hm, ← hD] at q2
      go_wp2_with fail
      refine q2.mono ?_
      rintro e w3 ⟨vx, rfl, hov, hb3⟩
      have HX3 := hide (And.intro (hov.ls hb3) (And.intro (HC2.out.1.below hb3) (HC2.out.2.trans (hb3.mono HC2.out.2.size))))
      clear q2 hov hb3 HC2
      have q3 := leven_any K _ lb' w3 (HA.out.2.below HX3.out.2.2) hK1 (by omega) (by rw [HT.out.2]; omega)
      rw [HT.out.2, ← hm, ← hD2] at q3
      go_wp2_with fail
      refine q3.mono ?_
      rintro e w4 ⟨vy, rfl, hov, hb4⟩
      have HY4 := hide (And.intro (HX3.out.1.below hb4) (And.intro (hov.ls hb4) (And.intro (HX3.out.2.1.below hb4) (HX3.out.2.2.trans (hb4.mono HX3.out.2.2.size)))))
      clear q3 hov hb4 HX3 HA
      clear hm hD hD2 HT
      obtain ⟨Ax, cx, rfl, hcx1, hcx2, hrx⟩ := HY4.out.1.rows
      obtain ⟨Ay, cy, rfl, hcy1, hcy2, hry⟩ := HY4.out.2.1.rows
      have HRX := hide hrx
      have HRY := hide hry
      clear hrx hry
      go_wp2
      go_loopw [13, 14] (fun u13 u14 wr => ∃ i : Nat, i ≤ K ∧ u14 = .int .i64 (i : Int) ∧ OwnL wr w4.heap.size 5 38 u13 (rowsOf m (fun j t => D j t ^^^ D2 j t) i) ∧ Below w4.heap.size w4 wr) (fun _ u14 _ => K - (intOf u14).toNat)
      case atStart => exact ⟨0, by omega, rfl, OwnL.nil _ _ _ _, Below.refl _ _⟩
      case round =>
        obtain ⟨i, hi, rfl, hown, hbel⟩ := hrel
        have HO := hide hown
        clear hown
        by_cases hlt : i < K
        · have j1 : (i : Int) < (K : Int) := by omega
          have j2 : (0 : Int) ≤ (i : Int) := by omega
          obtain ⟨bx, ox, Bx, dx, rfl, hltx, hcellx, _, _, hbyx, _⟩ := HRX.out i hlt
          obtain ⟨by_, oy, By_, dy, rfl, hlty, hcelly, _, _, hbyy, _⟩ := HRY.out i hlt
          have g1 : wr.cell? ⟨bx, ox + i, none⟩ = some (.slice Bx m dx) := (hbel.cell (p := ⟨bx, ox + i, none⟩) hltx).trans hcellx
          have g2 : wr.cell? ⟨by_, oy + i, none⟩ = some (.slice By_ m dy) := (hbel.cell (p := ⟨by_, oy + i, none⟩) hlty).trans hcelly
          have hbw := hbel.size
          have qb : ∀ w', Below wr.heap.size wr w' → Calls Try.prog 27 #[.slice Bx m dx, .slice By_ m dy] w' fun e w'' => ∃ A1 c1, e = .returned (.slice A1 m c1) ∧ Own w'' w4.heap.size 5 (.slice A1 m c1) ((List.range m).map fun t => D i t ^^^ D2 i t) ∧ Below wr.heap.size wr w'' := fun w' hb' =>
            (both_any _ _ m (D i) (D2 i) w' ((hbyx.below hbel).below hb') ((hbyy.below hbel).below hb') (by omega)).mono fun e w'' ⟨v, he, ho, hb⟩ => by
              obtain ⟨A1, c1, hv, _⟩ := ho.by_.form
              rw [List.length_map, List.length_range] at hv
              subst hv
              exact ⟨A1, c1, he, ho.mono_ (Nat.le_trans hbw hb'.size), hb'.trans (hb.mono hb'.size)⟩
          obtain ⟨xs, hxs, hxl⟩ := HO.out
          have HX := hide (And.intro hxs (And.intro hxl (And.intro g1 g2)))
          have HLR := hide (rowsOf_length m (fun j t => D j t ^^^ D2 j t) i)
          have hltx2 : bx < wr.heap.size := by omega
          have hlty2 : by_ < wr.heap.size := by omega
          clear hxs hxl hcellx hcelly hbyx hbyy
          go_wp2
          go_region_held3 (fun w' => w'.cell? ⟨bx, ox + i, none⟩ = some (.slice Bx m dx) ∧ w'.cell? ⟨by_, oy + i, none⟩ = some (.slice By_ m dy)) (first | go_keep | (exact ⟨(hbz.cell (p := ⟨bx, ox + i, none⟩) hltx2).trans HX.out.2.2.1, (hbz.cell (p := ⟨by_, oy + i, none⟩) hlty2).trans HX.out.2.2.2⟩) | (exact ⟨(hbel1.cell (p := ⟨bx, ox + i, none⟩) hltx).trans ((hbel.cell (p := ⟨bx, ox + i, none⟩) hltx).symm.trans HX.out.2.2.1), (hbel1.cell (p := ⟨by_, oy + i, none⟩) hlty).trans ((hbel.cell (p := ⟨by_, oy + i, none⟩) hlty).symm.trans HX.out.2.2.2)⟩))
            (first
              | (go_at_call 27; refine (qb _ ?_).mono ?_; (first | exact Below.refl _ _ | exact (Below.refl _ _).drew); rintro e wz ⟨A1, c1, rfl, hoz, hbz⟩)
              | (refine step_push1 (w := World.alloc wz _) elemL ((own_below' HX.out.1 hbz).alloc _) ((hbel.trans (hbz.mono hbw)).alloc (Nat.le_trans hbw hbz.size) _) (by have := hbz.size; simp; omega) (by rw [HLR.out]; unfold maxLen; omega) (by rw [HLR.out]; omega) (u := .slice A1 m c1) rfl (Blk.new wz 38 _) rfl _ _ (by rfl) (by rfl) (by rfl) ?_; intro v1 w1 hown1 hbel1 hgr1))
          go_wp2
          have HP := OwnL.pushed (w := World.alloc wz _) (by decide) ((own_below' HX.out.1 hbz).alloc _) (fun i l hl => by
            obtain ⟨x, hx, ho⟩ := HX.out.2.1 i l hl
            exact ⟨x, hx, World.ownsRow.alloc (ho.below hbz) _⟩) (World.ownsRow.alloc hoz _) hown1 hgr1
          rw [← rowsOf_succ m (fun j t => D j t ^^^ D2 j t) i] at HP
          have HP2 := hide (And.intro HP hbel1)
          clear HP hbel1 hbz hoz hown1 hgr1
          go_roundw
          case rel => exact ⟨i + 1, by omega, by go_num, HP2.out.1, HP2.out.2⟩
          case measure => simp [intOf]; omega
        · have hiK : i = K := by omega
          have hO := HO.out
          rw [hiK] at hO
          have hiK2 : ¬ (i : Int) < (K : Int) := by omega
          clear HO hiK
          have HZ := hide (And.intro hO.ls (And.intro (HY4.out.1.below hbel) (And.intro (HY4.out.2.1.below hbel) (And.intro (HY4.out.2.2.1.below hbel) (HY4.out.2.2.2.trans (hbel.mono HY4.out.2.2.2.size))))))
          obtain ⟨Az, cz, hvz, _⟩ := hO.ls.rows
          subst hvz
          clear hO hbel HY4 HRX HRY
          have q5 := encode_any gc K N m _ D wr HZ.out.2.2.2.1 hK1 hKN hN HZ.out.2.1 (by omega)
          go_wp2_with fail
          refine q5.mono ?_
          rintro e w5 ⟨vl, rfl, hol, hb5⟩
          have H5 := hide (And.intro hol.ls (And.intro (HZ.out.1.below hb5) (And.intro (HZ.out.2.1.below hb5) (And.intro (HZ.out.2.2.1.below hb5) (And.intro (HZ.out.2.2.2.1.below hb5) (HZ.out.2.2.2.2.trans (hb5.mono HZ.out.2.2.2.2.size)))))))
          clear q5 hol hb5 HZ
          have q6 := encode_any gc K N m _ D2 w5 H5.out.2.2.2.2.1 hK1 hKN hN H5.out.2.2.2.1 (by omega)
          go_wp2_with fail
          refine q6.mono ?_
          rintro e w6 ⟨vm, rfl, hom, hb6⟩
          have H6 := hide (And.intro hom.ls (And.intro (H5.out.1.below hb6) (And.intro (H5.out.2.1.below hb6) (And.intro (H5.out.2.2.1.below hb6) (And.intro (H5.out.2.2.2.1.below hb6) (And.intro (H5.out.2.2.2.2.1.below hb6) (H5.out.2.2.2.2.2.trans (hb6.mono H5.out.2.2.2.2.2.size))))))))
          clear q6 hom hb6 H5
          have q7 := encode_any gc K N m _ (fun j t => D j t ^^^ D2 j t) w6 H6.out.2.2.2.2.2.1 hK1 hKN hN H6.out.2.2.1 (by omega)
          go_wp2_with fail
          refine q7.mono ?_
          rintro e w7 ⟨vo, rfl, hoo, hb7⟩
          have H7 := hide (And.intro (H6.out.2.2.2.1.below hb7) (And.intro (H6.out.2.2.2.2.1.below hb7) (H6.out.2.2.2.2.2.2.trans (hb7.mono H6.out.2.2.2.2.2.2.size))))
          obtain ⟨Ao, co, rfl, _, _, hro⟩ := hoo.ls.rows
          obtain ⟨Am, cm, rfl, _, _, hrm⟩ := (H6.out.1.below hb7).rows
          obtain ⟨Al, cl, rfl, _, _, hrl⟩ := (H6.out.2.1.below hb7).rows
          have HR := hide (And.intro hro (And.intro hrm hrl))
          clear q7 hoo hb7 H6 hro hrm hrl
          have hU0 : cnt (unl K m D D2) 0 = 0 := rfl
          go_wp2
          go_loopw [21, 22] (fun u21 u22 wr => ∃ i : Nat, i ≤ N ∧ u22 = .int .i64 (i : Int) ∧ u21 = .int .i64 ((cnt (unl K m D D2) i : Nat) : Int) ∧ Below w7.heap.size w7 wr) (fun _ u22 _ => N - (intOf u22).toNat)
          case atStart => exact ⟨0, by omega, rfl, by rw [hU0]; rfl, Below.refl _ _⟩
          case round =>
            clear hU0 hiK2
            obtain ⟨i, hi, rfl, rfl, hbel⟩ := hrel
            have hcl := cnt_le (unl K m D D2) i
            by_cases hin : i < N
            · have j1 : (i : Int) < (N : Int) := by omega
              have j2 : (0 : Int) ≤ (i : Int) := by omega
              have HCS := hide (cnt_succ (unl K m D D2) i)
              obtain ⟨b1, o1, B1, d1, rfl, hlt1, hc1, _, _, hby1, _⟩ := HR.out.2.2 i hin
              obtain ⟨b2, o2, B2, d2, rfl, hlt2, hc2, _, _, hby2, _⟩ := HR.out.2.1 i hin
              obtain ⟨b3, o3, B3, d3, rfl, hlt3, hc3, _, _, hby3, _⟩ := HR.out.1 i hin
              have g1 : wr.cell? ⟨b1, o1 + i, none⟩ = some (.slice B1 m d1) := (hbel.cell (p := ⟨b1, o1 + i, none⟩) hlt1).trans hc1
              have g2 : wr.cell? ⟨b2, o2 + i, none⟩ = some (.slice B2 m d2) := (hbel.cell (p := ⟨b2, o2 + i, none⟩) hlt2).trans hc2
              have g3 : wr.cell? ⟨b3, o3 + i, none⟩ = some (.slice B3 m d3) := (hbel.cell (p := ⟨b3, o3 + i, none⟩) hlt3).trans hc3
              have hwr := hbel.size
              have keep : ∀ w', Below wr.heap.size wr w' → w'.cell? ⟨b1, o1 + i, none⟩ = some (.slice B1 m d1) ∧ w'.cell? ⟨b2, o2 + i, none⟩ = some (.slice B2 m d2) ∧ w'.cell? ⟨b3, o3 + i, none⟩ = some (.slice B3 m d3) := fun w' hb =>
                ⟨(hb.cell (p := ⟨b1, o1 + i, none⟩) (by simp; omega)).trans g1, (hb.cell (p := ⟨b2, o2 + i, none⟩) (by simp; omega)).trans g2, (hb.cell (p := ⟨b3, o3 + i, none⟩) (by simp; omega)).trans g3⟩
              have KEEP := hide keep
              have q1 := fun nd => same_q (.slice B1 m d1) (.slice B2 m d2) _ _ (wr.drewN nd) ((hby1.below hbel).below (below_drewN (Below.refl _ _) nd)) ((hby2.below hbel).below (below_drewN (Below.refl _ _) nd))
              have qb : ∀ w', Below wr.heap.size wr w' → Calls Try.prog 27 #[.slice B1 m d1, .slice B2 m d2] w' fun e w'' => ∃ A1 c1, e = .returned (.slice A1 m c1) ∧ By w'' (.slice A1 m c1) ((List.range m).map (encE K (fun j t => D j t ^^^ D2 j t) i)) ∧ Below wr.heap.size wr w'' := fun w' hb' =>
                (both_any _ _ m _ _ w' ((hby1.below hbel).below hb') ((hby2.below hbel).below hb') (by omega)).mono fun e w'' ⟨v, he, ho, hb⟩ => by
                  obtain ⟨A1, c1, hv, _⟩ := ho.by_.form
                  rw [List.length_map, List.length_range] at hv
                  subst hv
                  exact ⟨A1, c1, he, by rw [encE_xor]; exact ho.by_, hb'.trans (hb.mono hb'.size)⟩
              have qs : ∀ w' A1 c1, Below wr.heap.size wr w' → By w' (.slice A1 m c1) ((List.range m).map (encE K (fun j t => D j t ^^^ D2 j t) i)) → Calls Try.prog 29 #[.slice B3 m d3, .slice A1 m c1] w' fun e w'' => e = .returned (.bool true) ∧ Below wr.heap.size wr w'' := fun w' A1 c1 hb' hby =>
                (same_q _ _ _ _ w' ((hby3.below hbel).below hb') hby).mono fun e w'' ⟨he, q, hq⟩ => by
                  refine ⟨by rw [he]; simp, ?_⟩
                  rw [hq]
                  exact below_drewN hb' q
              have hmm : ((m : Int) != (m : Int)) = false := by simp
              clear hc1 hc2 hc3 hby1 hby2 hby3 keep
              have hu : unl K m D D2 i = !decide ((List.range m).map (encE K D i) = (List.range m).map (encE K D2 i)) := rfl
              generalize decide ((List.range m).map (encE K D i) = (List.range m).map (encE K D2 i)) = r at *
              have hcc : cnt (unl K m D D2) i ≤ 255 := by omega
              rw [hu] at HCS
              generalize cnt (unl K m D D2) i = cc at *
              clear hu
              cases r
              · simp only [Bool.not_false, if_true] at HCS
                go_wp2
                go_quiet ((go_at_call 29; with_reducible exact Calls.quiet_of (q1 _)))
                go_wp2
                go_region_held3 (fun w' => w'.cell? ⟨b1, o1 + i, none⟩ = some (.slice B1 m d1) ∧ w'.cell? ⟨b2, o2 + i, none⟩ = some (.slice B2 m d2) ∧ w'.cell? ⟨b3, o3 + i, none⟩ = some (.slice B3 m d3)) (first | go_keep | exact KEEP.out _ hbz | exact KEEP.out _ hbs)
                  (first
                    | (go_at_call 27; refine (qb _ ?_).mono ?_; (first | exact Below.refl _ _ | exact below_drewN (Below.refl _ _) _ | exact (below_drewN (Below.refl _ _) _).drew); rintro e wz ⟨A1, c1, rfl, hoz, hbz⟩)
                    | (go_at_call 29; refine (qs _ _ _ hbz hoz).mono ?_; rintro e ws ⟨rfl, hbs⟩))
                all_goals
                  go_wp2
                  have HBS := hide (hbel.trans (hbs.mono hbel.size))
                  clear hbs hbz hoz
                  go_roundw
                  case rel => exact ⟨i + 1, by omega, by go_num, by rw [HCS.out]; go_num, HBS.out⟩
                  case measure => simp [intOf]; omega
              · simp only [Bool.not_true, Bool.false_eq_true, if_false, Nat.add_zero] at HCS
                go_wp2
                go_quiet ((go_at_call 29; with_reducible exact Calls.quiet_of (q1 _)))
                go_wp2
                go_region_held3 (fun w' => w'.cell? ⟨b1, o1 + i, none⟩ = some (.slice B1 m d1) ∧ w'.cell? ⟨b2, o2 + i, none⟩ = some (.slice B2 m d2) ∧ w'.cell? ⟨b3, o3 + i, none⟩ = some (.slice B3 m d3)) (first | go_keep | exact KEEP.out _ hbz | exact KEEP.out _ hbs)
                  (first
                    | (go_at_call 27; refine (qb _ ?_).mono ?_; (first | exact Below.refl _ _ | exact below_drewN (Below.refl _ _) _ | exact (below_drewN (Below.refl _ _) _).drew); rintro e wz ⟨A1, c1, rfl, hoz, hbz⟩)
                    | (go_at_call 29; refine (qs _ _ _ hbz hoz).mono ?_; rintro e ws ⟨rfl, hbs⟩))
                all_goals
                  go_wp2
                  have HBS := hide (hbel.trans (hbs.mono hbel.size))
                  clear hbs hbz hoz
                  go_roundw
                  case rel => exact ⟨i + 1, by omega, by go_num, by rw [HCS.out], HBS.out⟩
                  case measure => simp [intOf]; omega
            · have hiN : i = N := by omega
              have q9 := slists_any _ _ _ _ wr (H7.out.1.below hbel) (H7.out.2.1.below hbel)
              have hiN2 : ¬ (i : Int) < (N : Int) := by omega
              have hap := apart_law K N m D D2 hKN hN
              have hap2 : (N + 1 ≤ cnt (unl K m D D2) i + K) ∨ (decide (rowsOf m D K = rowsOf m D2 K) = true ∧ cnt (unl K m D D2) i = 0) := by
                rw [hiN]
                exact hap.imp id fun h => ⟨decide_eq_true h.1, h.2⟩
              have HF := hide (And.intro hbel H7.out.2.2)
              have hcc : cnt (unl K m D D2) i ≤ 255 := by omega
              clear hbel hap
              generalize decide (rowsOf m D K = rowsOf m D2 K) = r at *
              generalize cnt (unl K m D D2) i = cc at *
              rcases hap2 with h | ⟨rfl, rfl⟩
              · have hge : (cc : Int) ≥ (N : Int) - (K : Int) + 1 := by omega
                cases r
                · clear h
                  go_wp2_with fail
                  refine q9.mono ?_
                  rintro e w8 ⟨rfl, hdr⟩
                  have HDR := hide hdr.below
                  clear hdr q9
                  go_wp2
                  go_ret
                  exact ⟨rfl, HF.out.2.trans ((HF.out.1.trans (HDR.out.mono HF.out.1.size)).mono HF.out.2.size)⟩
                · rcases Nat.eq_zero_or_pos cc with hc0 | hc0
                  · subst hc0
                    go_wp2_with fail
                    refine q9.mono ?_
                    rintro e w8 ⟨rfl, hdr⟩
                    have HDR := hide hdr.below
                    clear hdr q9
                    go_wp2
                    go_ret
                    exact ⟨rfl, HF.out.2.trans ((HF.out.1.trans (HDR.out.mono HF.out.1.size)).mono HF.out.2.size)⟩
                  · have hc1 : ((cc : Int) == 0) = false := by simp; omega
                    go_wp2_with fail
                    refine q9.mono ?_
                    rintro e w8 ⟨rfl, hdr⟩
                    have HDR := hide hdr.below
                    clear hdr q9
                    go_wp2
                    go_ret
                    exact ⟨rfl, HF.out.2.trans ((HF.out.1.trans (HDR.out.mono HF.out.1.size)).mono HF.out.2.size)⟩
              · have hc0 : (((0 : Nat) : Int) == 0) = true := rfl
                go_wp2_with fail
                refine q9.mono ?_
                rintro e w8 ⟨rfl, hdr⟩
                have HDR := hide hdr.below
                clear hdr q9
                go_wp2
                go_ret
                exact ⟨rfl, HF.out.2.trans ((HF.out.1.trans (HDR.out.mono HF.out.1.size)).mono HF.out.2.size)⟩
  · have q1 := fun w => rsnew_bad k n w hkn
    clear hkn
    obtain ⟨A, ca, rfl, _, _, _⟩ := ha.form
    obtain ⟨B, cb, rfl, _, _, _⟩ := hb.form
    clear ha hb
    go_enter Try.func4, Try.ntmps4
    go_wp2_with fail
    refine q0.mono ?_
    rintro e w1 ⟨rfl, hb1⟩
    go_wp2_with fail
    refine (q1 _).mono ?_
    rintro e w' ⟨rfl, rfl⟩
    go_wp2
    go_ret
    exact ⟨rfl, hb1⟩
end Go.Proofs.Ytoaaplngdomdcaa
