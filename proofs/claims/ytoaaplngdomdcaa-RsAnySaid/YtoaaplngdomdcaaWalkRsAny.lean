/- RsAny: any K of the N blocks bring the first K back, and each other one. -/
import Derived.Test.YtoaaplngdomdcaaRsK
namespace Go.Proofs.Ytoaaplngdomdcaa
open Go.RowKit

theorem rowsOf_congr {m k : Nat} {D E : Nat → Nat → UInt8} (h : ∀ i t, i < k → t < m → D i t = E i t) : rowsOf m D k = rowsOf m E k := by
  unfold rowsOf
  exact List.map_congr_left fun i hi => List.map_congr_left fun t ht => h i t (List.mem_range.1 hi) (List.mem_range.1 ht)

set_option maxRecDepth 100000 in
set_option maxHeartbeats 4000000 in
theorem law_rsany (k n : Int) (vb : Value) (l : List UInt8) (vp : Value) (zs : List Int) (want : Int) (w : World) (_hk : (Lit.int .i64 k).wf = true) (_hn : (Lit.int .i64 n).wf = true) (hb : By w vb l) (hl : l.length ≤ 140737488351232) (hp : Iy .i64 w vp zs) (hwt : (Lit.int .i64 want).wf = true) :
    Calls Try.prog 9 #[.int .i64 k, .int .i64 n, vb, vp, .int .i64 want] w fun e w' => e = .returned (.bool true) ∧ Below w.heap.size w w' := by
  have q0 := lives_any w
  by_cases hkn : 1 ≤ k ∧ k ≤ n ∧ n ≤ 255
  · obtain ⟨K, rfl⟩ : ∃ K : Nat, k = (K : Int) := ⟨k.toNat, by omega⟩
    obtain ⟨N, rfl⟩ : ∃ N : Nat, n = (N : Int) := ⟨n.toNat, by omega⟩
    have hK1 : 1 ≤ K := by omega
    have hKN : K ≤ N := by omega
    have hN : N ≤ 255 := by omega
    have g1 : ¬ (K : Int) < 1 := by omega
    have g2 : ¬ N < K := by omega
    have g3 : ¬ (N : Int) > 255 := by omega
    clear hkn
    have HB := hide (And.intro hb hp)
    obtain ⟨A, c, rfl, _, _, _⟩ := hb.form
    obtain ⟨Ep, ep, rfl, _, _, _, _⟩ := hp
    clear hb
    go_enter Try.func9, Try.ntmps9
    go_wp2_with fail
    refine q0.mono ?_
    rintro e w1 ⟨rfl, hb1⟩
    have q1 := rsnew_any K N w1 hK1 hKN hN
    go_wp2_with fail
    refine q1.mono ?_
    rintro e w2 ⟨gc, rfl, hc, hb2⟩
    have HC2 := hide (And.intro hc (hb1.trans (hb2.mono hb1.size)))
    have q2 := leven_any K _ l w2 (HB.out.1.below HC2.out.2) hK1 (by omega) (by omega)
    obtain ⟨m, hm⟩ : ∃ m, m = l.length / K := ⟨_, rfl⟩
    obtain ⟨D, hD⟩ : ∃ D, D = pieceD l m := ⟨_, rfl⟩
    rw [← hm, ← hD] at q2
    have hml : m ≤ 140737488351232 := by rw [hm]; exact Nat.le_trans (Nat.div_le_self _ _) hl
    clear q0 q1 hc hb1 hb2 hm hD
    go_wp2_with fail
    refine q2.mono ?_
    rintro e w3 ⟨vd, rfl, hov, hb3⟩
    have HD3 := hide (And.intro (hov.ls hb3) (And.intro (HC2.out.1.below hb3) (HC2.out.2.trans (hb3.mono HC2.out.2.size))))
    clear q2 hov hb3 HC2
    have q3 := encode_any gc K N m vd D w3 HD3.out.2.1 hK1 hKN hN HD3.out.1 (by omega)
    obtain ⟨Ad, cd, rfl, _⟩ := HD3.out.1.rows
    go_wp2_with fail
    refine q3.mono ?_
    rintro e w4 ⟨va, rfl, hown, hb4⟩
    have HD4 := hide (And.intro (HD3.out.1.below hb4) (And.intro (HD3.out.2.1.below hb4) (HD3.out.2.2.trans (hb4.mono HD3.out.2.2.size))))
    obtain ⟨Aa, ca, rfl, hca1, hca2, hrowa⟩ := hown.ls.rows
    have HA4 := hide (And.intro hown.ls hrowa)
    have hnn : ((N : Int) != (N : Int)) = false := by simp
    clear q3 hown hb4 HD3 hrowa
    have q4 := chosen_any K N _ zs w4 hKN (by omega) hN (HB.out.2.below HD4.out.2.2)
    go_wp2_with fail
    refine q4.mono ?_
    rintro e w5 ⟨vn, Ln, rfl, hNum, hLn, hb5⟩
    obtain ⟨An, cn, rfl, hn1, hn2, hnc⟩ := hLn.ny.form
    obtain ⟨S, hS⟩ : ∃ S : Nat → Nat → UInt8, S = fun j t => encE K D (Ln.getD j 0) t := ⟨_, rfl⟩
    have HN5 := hide (And.intro hNum (And.intro hLn.ny (And.intro hnc (And.intro hb5 hS))))
    have hLl : Hid (Ln.length = K) := hNum.1
    clear q4 hNum hLn hb5 hnc hS
    go_wp2_with fail
    go_loopw [17, 18] (fun u17 u18 wr => ∃ j : Nat, j ≤ K ∧ u18 = .int .i64 (j : Int) ∧ OV w4 wr w5.heap.size 38 u17 (rowsOf m S j) ∧ Below w5.heap.size w5 wr) (fun _ u18 _ => K - (intOf u18).toNat)
    case atStart => exact ⟨0, by omega, rfl, OV.nil _ _ _ _, Below.refl _ _⟩
    case round =>
      obtain ⟨j, hj, rfl, hown, hbel⟩ := hrel
      have HO := hide hown
      clear hown
      by_cases hlt : j < K
      · have j1 : (j : Int) < (Ln.length : Int) := by have := hLl.out; omega
        have j3 : (j : Int) < (K : Int) := by omega
        have j2 : (0 : Int) ≤ (j : Int) := by omega
        obtain ⟨r, hr0⟩ : ∃ r, Ln[j]? = some r := ⟨_, List.getElem?_eq_getElem (by have := hLl.out; omega)⟩
        obtain ⟨b, o, rfl, hbl, hcx⟩ := HN5.out.2.2.1 j r hr0
        have hcx2 := (hbel.cell (p := ⟨b, o + j, none⟩) hbl).trans hcx
        have hrn := HN5.out.1.2.1 j r hr0
        obtain ⟨b2, o2, B2, d2, rfl, hlt2, hcell, hd1, hd2, hby, _⟩ := HA4.out.2 r hrn
        have hcell2 : wr.cell? ⟨b2, o2 + r, none⟩ = some (.slice B2 m d2) := (hbel.cell (p := ⟨b2, o2 + r, none⟩) (Nat.lt_of_lt_of_le hlt2 HN5.out.2.2.2.1.size)).trans ((HN5.out.2.2.2.1.cell (p := ⟨b2, o2 + r, none⟩) hlt2).trans hcell)
        have hr1 : (r : Int) < (N : Int) := by omega
        have hr2 : (0 : Int) ≤ (r : Int) := by omega
        have hbyS : By w4 (.slice B2 m d2) ((List.range m).map (S j)) := by
          rw [HN5.out.2.2.2.2]
          simp only [getD_of hr0]
          exact hby
        obtain ⟨xs, hxs, hxl⟩ := HO.out
        have HX := hide (And.intro hxs (And.intro hxl hbyS))
        have HLR := hide (rowsOf_length m S j)
        clear hxs hxl hby hbyS hcell hcx hr0
        go_wp2_with (at_builtin; go_loud (refine wpList_push1 elemL HX.out.1 hbel hbel.size (by rw [HLR.out]; unfold maxLen; omega) (by rw [HLR.out]; omega) (.slice B2 m d2) rfl rfl _ _ rfl rfl rfl ?_); intro v1 w6 ho6 hb6 _ hg6 _; have HP6 := hide (OV.pushed HX.out.1 HX.out.2.1 HX.out.2.2 ho6); clear ho6 hg6)
        go_roundw
        case rel => exact ⟨j + 1, by omega, by go_num, by rw [rowsOf_succ]; exact HP6.out, hb6⟩
        case measure => simp [intOf]; omega
      · have hjK : j = K := by omega
        have hO := HO.out
        rw [hjK] at hO
        have h45 : Below w4.heap.size w4 wr := HN5.out.2.2.2.1.trans (hbel.mono HN5.out.2.2.2.1.size)
        have hO2 := hO.ls h45
        obtain ⟨A1, c1, hv1, _⟩ := hO2.rows
        subst hv1
        have hcr := HD4.out.2.1.below h45
        have q5 := decode_ok gc K N m _ _ Ln S wr hcr hK1 hKN hN (HN5.out.2.1.below hbel) HN5.out.1 hO2 (by omega)
        have hdec : rowsOf m (decE K Ln S) K = rowsOf m D K := rowsOf_congr fun i t hi _ => by
          rw [HN5.out.2.2.2.2]
          exact decE_back Ln D (by omega) HN5.out.1.inj (fun i hi => by have := HN5.out.1.lt i hi; omega) t hi
        have hdecE : ∀ i t, i < K → decE K Ln S i t = D i t := fun i t hi => by
          rw [HN5.out.2.2.2.2]
          exact decE_back Ln D (by omega) HN5.out.1.inj (fun i hi => by have := HN5.out.1.lt i hi; omega) t hi
        rw [hdec] at q5
        have HB5 := hide (And.intro h45 (And.intro hO2 (And.intro hcr (And.intro hdecE hbel))))
        have hjl : ¬ (j : Int) < (K : Int) := by omega
        clear hO hO2 HO hjK hbel h45 hcr hdec hdecE
        go_wp2_with fail
        refine q5.mono ?_
        rintro e w6 ⟨vk, rfl, hownk, hb6⟩
        have hbk := hownk.ls
        have HK6 := hide (And.intro hbk (HB5.out.1.trans (hb6.mono HB5.out.1.size)))
        obtain ⟨Ak, ck, rfl, _, _, _⟩ := hbk.rows
        have q6 := pick_any want N w6 (by omega) (by omega) hwt
        have hpw := pickN_lt (x := want) (n := N) (by omega)
        generalize pickN want N = W at *
        clear q5 hownk hbk
        go_wp2_with fail
        refine q6.mono ?_
        rintro e w' ⟨rfl, rfl⟩
        clear q6
        have q7 := make_ok gc K N m W _ _ Ln S w6 (HB5.out.2.2.1.below hb6) hK1 hKN hN ((HN5.out.2.1.below HB5.out.2.2.2.2).below hb6) HN5.out.1 (HB5.out.2.1.below hb6) (by omega) hpw
        have e7 : (List.range m).map (mixs (ent K W) (decE K Ln S) K) = (List.range m).map (encE K D W) := List.map_congr_left fun t _ => by
          show sm (List.range K) (fun j => bmul (ent K W j) (decE K Ln S j t)) = encv K W fun j => D j t
          exact sm_congr fun j hj => by rw [HB5.out.2.2.2.1 j t (List.mem_range.1 hj)]
        rw [e7] at q7
        clear e7
        go_wp2_with fail
        refine q7.mono ?_
        rintro e w7 ⟨vo, rfl, hownO, hb7⟩
        have hbo := hownO.by_
        obtain ⟨Ao, co, hvo, _, _, _⟩ := hbo.form
        rw [List.length_map, List.length_range] at hvo
        subst hvo
        have h47 := HK6.out.2.trans (hb7.mono HK6.out.2.size)
        have q8 := odd_all gc K N m _ D w7 (HD4.out.2.1.below h47) hK1 hKN hN (HA4.out.1.below h47) (by omega)
        have HO7 := hide (And.intro hbo (And.intro h47 hb7))
        clear q7 hownO hbo h47 hb7
        go_wp2_with fail
        refine q8.mono ?_
        rintro e w8 ⟨rfl, hb8⟩
        have h48 := HO7.out.2.1.trans (hb8.mono HO7.out.2.1.size)
        have hk8 := (HK6.out.1.below HO7.out.2.2).below hb8
        have hd8 := HD4.out.1.below h48
        have q9 := slists_any _ _ _ _ w8 hk8 hd8
        rw [decide_eq_true rfl] at q9
        have HW8 := hide (And.intro h48 (And.intro hd8 (HO7.out.1.below hb8)))
        clear q8 hb8 h48 hk8 hd8
        obtain ⟨b2, o2, B2, d2, rfl, hlt2, hcell, hd1, hd2, hby, _⟩ := HA4.out.2 W hpw
        have HBY := hide hby
        unfold maxLen at hca2
        have p1 : (W : Int) < (N : Int) := by omega
        have p2 : (0 : Int) ≤ (W : Int) := by omega
        have p3 : (K : Int) ≤ (ca : Int) := by omega
        have p4 : ¬ (ca : Int) = 0 := by omega
        clear hby
        go_wp2_with fail
        refine q9.mono ?_
        rintro e w9 ⟨rfl, hd9⟩
        have h49 := HW8.out.1.trans (hd9.below.mono HW8.out.1.size)
        have hcell9 : w9.cell? ⟨b2, o2 + W, none⟩ = some (.slice B2 m d2) := (h49.cell (p := ⟨b2, o2 + W, none⟩) hlt2).trans hcell
        have q10 := same_q _ _ _ _ w9 (HW8.out.2.2.below hd9.below) (HBY.out.below h49)
        rw [decide_eq_true rfl] at q10
        have HD9 := hide hd9
        clear q9 hd9 hcell
        go_wp2_with fail
        refine q10.mono ?_
        rintro e w10 ⟨rfl, hd10⟩
        have hdr : Dr w9 w10 := by obtain ⟨q, rfl⟩ := hd10; exact ⟨q, rfl⟩
        have h410 := h49.trans (hdr.below.mono h49.size)
        have hfront := (HA4.out.1.below h410).front hK1 hKN
        rw [show rowsOf m (encE K D) K = rowsOf m D K from rowsOf_congr fun i t hi _ => encv_sys (fun j => D j t) hi] at hfront
        have hdd := (HW8.out.2.1.below HD9.out.below).below hdr.below
        have q11 := slists_any _ _ _ _ w10 hfront hdd
        rw [decide_eq_true rfl] at q11
        have HE := hide h410
        clear q10 hd10 hdr h410 hfront hdd h49 hcell9
        go_wp2_with fail
        refine q11.mono ?_
        rintro e w11 ⟨rfl, hd11⟩
        have HF := hide (HD4.out.2.2.trans ((HE.out.trans (hd11.below.mono HE.out.size)).mono HD4.out.2.2.size))
        clear q11 hd11
        go_wp2
        go_ret
        exact ⟨rfl, HF.out⟩
  · have q1 := fun w => rsnew_bad k n w hkn
    by_cases h1 : k < 1
    · clear hb hp
      go_enter Try.func9, Try.ntmps9
      go_wp2_with fail
      refine q0.mono ?_
      rintro e w1 ⟨rfl, hb1⟩
      have HB1 := hide hb1
      clear q0 hb1
      go_wp2_with fail
      refine (q1 _).mono ?_
      rintro e w' ⟨rfl, rfl⟩
      go_wp2
      go_ret
      exact ⟨rfl, HB1.out⟩
    · by_cases h2 : k > n
      · clear hb hp
        go_enter Try.func9, Try.ntmps9
        go_wp2_with fail
        refine q0.mono ?_
        rintro e w1 ⟨rfl, hb1⟩
        have HB1 := hide hb1
        clear q0 hb1
        go_wp2_with fail
        refine (q1 _).mono ?_
        rintro e w' ⟨rfl, rfl⟩
        go_wp2
        go_ret
        exact ⟨rfl, HB1.out⟩
      · have h3 : n > 255 := by omega
        clear hb hp
        go_enter Try.func9, Try.ntmps9
        go_wp2_with fail
        refine q0.mono ?_
        rintro e w1 ⟨rfl, hb1⟩
        have HB1 := hide hb1
        clear q0 hb1
        go_wp2_with fail
        refine (q1 _).mono ?_
        rintro e w' ⟨rfl, rfl⟩
        go_wp2
        go_ret
        exact ⟨rfl, HB1.out⟩
end Go.Proofs.Ytoaaplngdomdcaa
