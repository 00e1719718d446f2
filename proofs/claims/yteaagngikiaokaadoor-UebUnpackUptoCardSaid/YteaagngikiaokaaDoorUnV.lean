/- The law UebUnpack. -/
import Derived.Test.YteaagngikiaokaaDoorUnW
namespace Go.Proofs.YteaagngikiaokaaDoor
open Go.RowKit

set_option maxRecDepth 100000 in
set_option maxHeartbeats 8000000 in
theorem law_unpack (v1 v2 : Value) (b c : List UInt8) (w : World) (h1 : By w v1 b) (h2 : By w v2 c) (hb : b.length ≤ 1048576) (hc : c.length ≤ 1048576) (ht : Tab w) (he : Err w) :
    Calls Tryd.prog 4 #[v1, v2] w fun e w' => e = .returned (.bool true) ∧ Below w.heap.size w w' := by
  obtain ⟨rs, p, er, hu⟩ := unP_ex b hb
  obtain ⟨ss, q, es, hv⟩ := unP_ex c hc
  have HU := hide hu
  have HV := hide hv
  have H1 := hide h1
  have H2 := hide h2
  have HT := hide (And.intro ht he)
  have Q1 := hide (lent_any v1 b w h1 (by omega))
  obtain ⟨A1, c1, rfl, -⟩ := h1.form
  obtain ⟨A2, c2, rfl, -⟩ := h2.form
  clear h1 h2 ht he hu hv
  go_enter Tryd.func4, Tryd.ntmps4
  go_wp2_with fail
  refine Q1.out.mono ?_
  rintro e w1 ⟨vx, rfl, ox, b1⟩
  obtain ⟨gx, capx, rfl, hgx, hgx1⟩ := ox.form (by simp [marks])
  have k1 : b.length ≤ capx := by obtain ⟨_, _, hv', hc', _⟩ := ox.by_.form; injection hv'; simp at hc'; omega
  have k2 : (b.length : Int) ≤ (capx : Int) := by omega
  have k3 : (0 : Int) ≤ (b.length : Int) := by omega
  have hnx : (b ++ marks 0 b.length 70).length = b.length + 70 := by simp [marks]
  rw [hnx] at ox ⊢
  have OX := hide ox
  have B1 := hide b1
  have Q2 := hide (lent_any _ c w1 (H2.out.below b1) (by omega))
  clear b1 ox Q1 hnx
  go_wp2_with fail
  refine Q2.out.mono ?_
  rintro e w2 ⟨vy, rfl, oy, b2⟩
  obtain ⟨gy, capy, rfl, hgy, hgy1⟩ := oy.form (by simp [marks])
  have k4 : c.length ≤ capy := by obtain ⟨_, _, hv', hc', _⟩ := oy.by_.form; injection hv'; simp at hc'; omega
  have k5 : (c.length : Int) ≤ (capy : Int) := by omega
  have k6 : (0 : Int) ≤ (c.length : Int) := by omega
  have hny : (c ++ marks 0 c.length 70).length = c.length + 70 := by simp [marks]
  rw [hny] at oy ⊢
  have OX2 := hide (OX.out.below b2)
  have OY := hide oy
  have B2 := hide (B1.out.trans (b2.mono B1.out.size))
  have HS12 := hide b2.size
  have Q3 := hide (unpack_of (.slice (some ⟨gx, 0, none⟩) b.length capx) b rs p er w2 OX2.out.front (by omega) (HT.out.1.below B2.out) (HT.out.2.below B2.out) HU.out)
  clear b2 oy Q2 hny
  go_wp2_with fail
  refine Q3.out.mono ?_
  rintro e w3 ⟨b3, LA, lc, L, rfl, gl⟩
  have B3 := hide (B2.out.trans (b3.mono B2.out.size))
  have OX3 := hide (OX2.out.below b3)
  have OY3 := hide (OY.out.below b3)
  have GL3 := hide gl
  have HS23 := hide b3.size
  have Q4 := hide (unpack_of (.slice (some ⟨gy, 0, none⟩) c.length capy) c ss q es w3 OY3.out.front (by omega) (HT.out.1.below B3.out) (HT.out.2.below B3.out) HV.out)
  clear b3 gl Q3 OX2
  go_wp2_with fail
  refine Q4.out.mono ?_
  rintro e w4 ⟨b4, MA, mc, M, rfl, gm⟩
  have B4 := hide (B3.out.trans (b4.mono B3.out.size))
  have OX4 := hide (OX3.out.below b4)
  have OY4 := hide (OY3.out.below b4)
  have GL4 := hide (GL3.out.below b4)
  have GM4 := hide gm
  have HLM := hide (far_of GL3.out gm (Nat.le_refl _))
  have HS34 := hide b4.size
  have Q5 := hide (unpack_of (.slice (some ⟨gx, 0, none⟩) b.length capx) b rs p er w4 OX4.out.front (by omega) (HT.out.1.below B4.out) (HT.out.2.below B4.out) HU.out)
  clear b4 gm Q4 OX3 OY3 GL3
  go_wp2_with fail
  refine Q5.out.mono ?_
  rintro e w5 ⟨b5, KA, kc, K, rfl, gk⟩
  have B5 := hide (B4.out.trans (b5.mono B4.out.size))
  have OX5 := hide (OX4.out.below b5)
  have OY5 := hide (OY4.out.below b5)
  have GL5 := hide (GL4.out.below b5)
  have GM5 := hide (GM4.out.below b5)
  have GK5 := hide gk
  have HLK := hide (far_of GL4.out gk (Nat.le_refl _))
  have HMK := hide (far_of GM4.out gk (Nat.le_refl _))
  have HS45 := hide b5.size
  clear b5 gk Q5 OX4 OY4 GL4 GM4
  have q6 := kept_any (.slice (some ⟨gx, 0, none⟩) (b.length + 70) capx) _ _ b w5 OX5.out.by_ (H1.out.below B5.out) (by omega)
  rw [decide_eq_true rfl] at q6
  have Q6 := hide q6
  clear q6
  go_wp2_with fail
  refine Q6.out.mono ?_
  rintro e w6 ⟨rfl, b6⟩
  have B6 := hide (B5.out.trans (b6.mono B5.out.size))
  have OX6 := hide (OX5.out.below b6)
  have OY6 := hide (OY5.out.below b6)
  have GL6 := hide (GL5.out.below b6)
  have GM6 := hide (GM5.out.below b6)
  have GK6 := hide (GK5.out.below b6)
  clear b6 Q6 OX5 OY5 GL5 GM5 GK5
  have q7 := kept_any (.slice (some ⟨gy, 0, none⟩) (c.length + 70) capy) _ _ c w6 OY6.out.by_ (H2.out.below B6.out) (by omega)
  rw [decide_eq_true rfl] at q7
  have Q7 := hide q7
  clear q7
  go_wp2_with fail
  refine Q7.out.mono ?_
  rintro e w7 ⟨rfl, b7⟩
  have B7 := hide (B6.out.trans (b7.mono B6.out.size))
  have OX7 := hide (OX6.out.below b7)
  have OY7 := hide (OY6.out.below b7)
  have GL7 := hide (GL6.out.below b7)
  have GM7 := hide (GM6.out.below b7)
  have GK7 := hide (GK6.out.below b7)
  clear b7 Q7 OX6 OY6 GL6 GM6 GK6
  go_wp2_with fail
  refine (over_any w.heap.size _ _ w7 OX7.out (by simp [marks]; omega)).mono ?_
  rintro e w8 ⟨rfl, b8, g8, -⟩
  have hs12 := HS12.out
  have hs23 := HS23.out
  have hs34 := HS34.out
  have hw1 := B1.out.size
  have B8 := hide (B7.out.trans b8)
  have OY8 := hide (own_grown OY7.out g8 (fun k hk e => by
    have h1 : gy = k := by simpa [Value.ownBlock] using hk
    have h2 : gx = k := by simpa [Value.ownBlock] using e
    omega))
  have GL8 := hide (GL7.out.later (g := gx) g8 (by omega))
  have GM8 := hide (GM7.out.later (g := gx) g8 (by omega))
  have GK8 := hide (GK7.out.later (g := gx) g8 (by omega))
  clear b8 g8 OX7 OY7 GL7 GM7 GK7
  go_wp2_with fail
  refine (over_any w.heap.size _ _ w8 (Own.base OY8.out hw1) (by simp [marks]; omega)).mono ?_
  rintro e w9 ⟨rfl, b9, g9, -⟩
  have B9 := hide (B8.out.trans b9)
  have GL9 := hide (GL8.out.later (g := gy) g9 (by omega))
  have GM9 := hide (GM8.out.later (g := gy) g9 (by omega))
  have GK9 := hide (GK8.out.later (g := gy) g9 (by omega))
  clear b9 g9 OY8 GL8 GM8 GK8
  have Q10 := hide (runpack_of _ b rs p er w9 (H1.out.below B9.out) (by omega) HU.out)
  go_wp2_with fail
  refine Q10.out.mono ?_
  rintro e w10 ⟨b10, LB, ld, L', rfl, rl, el⟩
  have B10 := hide (B9.out.trans (b10.mono B9.out.size))
  have GL10 := hide (GL9.out.below b10)
  have GM10 := hide (GM9.out.below b10)
  have GK10 := hide (GK9.out.below b10)
  have RL10 := hide rl
  have EL := hide el
  clear b10 rl el Q10 GL9 GM9 GK9
  have Q11 := hide (runpack_of _ c ss q es w10 (H2.out.below B10.out) (by omega) HV.out)
  go_wp2_with fail
  refine Q11.out.mono ?_
  rintro e w11 ⟨b11, MB, md, M', rfl, rm, em⟩
  have B11 := hide (B10.out.trans (b11.mono B10.out.size))
  have GL11 := hide (GL10.out.below b11)
  have GM11 := hide (GM10.out.below b11)
  have GK11 := hide (GK10.out.below b11)
  have RL11 := hide (RL10.out.below b11)
  have RM11 := hide rm
  have EM := hide em
  clear b11 rm em Q11 GL10 GM10 GK10 RL10
  have Q12 := hide (sameRows_eq _ _ L L' w11 GL11.out.own.rws_ RL11.out (GL11.out.eq.trans EL.out.symm))
  go_wp2_with fail
  refine Q12.out.mono ?_
  rintro e w12 ⟨rfl, b12⟩
  have B12 := hide (B11.out.trans (b12.mono B11.out.size))
  have GL12 := hide (GL11.out.below b12)
  have GM12 := hide (GM11.out.below b12)
  have GK12 := hide (GK11.out.below b12)
  have RL12 := hide (RL11.out.below b12)
  have RM12 := hide (RM11.out.below b12)
  clear b12 Q12 GL11 GM11 GK11 RL11 RM11
  have Q13 := hide (sameRows_eq _ _ M M' w12 GM12.out.own.rws_ RM12.out (GM12.out.eq.trans EM.out.symm))
  go_wp2_with fail
  refine Q13.out.mono ?_
  rintro e w13 ⟨rfl, b13⟩
  have B13 := hide (B12.out.trans (b13.mono B12.out.size))
  have GL13 := hide (GL12.out.below b13)
  have GM13 := hide (GM12.out.below b13)
  have GK13 := hide (GK12.out.below b13)
  have RL13 := hide (RL12.out.below b13)
  clear b13 Q13 GL12 GM12 GK12 RL12 RM12
  have Q14 := hide (sameRows_eq _ _ K L' w13 GK13.out.own.rws_ RL13.out (GK13.out.eq.trans EL.out.symm))
  go_wp2_with fail
  refine Q14.out.mono ?_
  rintro e w14 ⟨rfl, b14⟩
  have B14 := hide (B13.out.trans (b14.mono B13.out.size))
  have GL14 := hide (GL13.out.below b14)
  have GM14 := hide (GM13.out.below b14)
  have GK14 := hide (GK13.out.below b14)
  clear b14 Q14 GL13 GM13 GK13 RL13
  go_wp2_with fail
  refine (apartRows3 w.heap.size B14.out.size GL14.out GM14.out GK14.out (by omega) (by omega) (by omega) HLM.out HLK.out HMK.out).mono ?_
  rintro e w15 ⟨rfl, b15⟩
  go_wp2_with fail
  go_ret
  exact ⟨rfl, B14.out.trans b15⟩
end Go.Proofs.YteaagngikiaokaaDoor
