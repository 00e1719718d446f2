/- Joined texts: SamB. -/
import Derived.Test.YtcpceaflnnkhnaaGreatDoorJ15

/- The document's Same of two capabilities. (Printed by wip/samb.py.) -/
namespace Go.Proofs.YtcpceaflnnkhnaaGreatDoor
open Go.RowKit

theorem read_neq (u v : RV) (hu : u.wf) (hv : v.wf) (w : World) : (binOp .neq 28 (.agg u.cells.toArray) (.agg v.cells.toArray)).run Tryz.prog w = .ok (.bool (!decide (u = v))) w := by
  rw [run_neq_struct, run_equalIn_agg w 9999 28 _ _ (by kernel_rfl) (by kernel_rfl), rv_eqlF 24 Tryz.underlying24 (by kernel_rfl) _ (by kernel_rfl) 9997 u v hu hv w]
  rfl
theorem verify_neq (u v : RV) (hu : u.wf) (hv : v.wf) (w : World) : (binOp .neq 31 (.agg u.cells.toArray) (.agg v.cells.toArray)).run Tryz.prog w = .ok (.bool (!decide (u = v))) w := by
  rw [run_neq_struct, run_equalIn_agg w 9999 31 _ _ (by kernel_rfl) (by kernel_rfl), rv_eqlF 29 Tryz.underlying29 (by kernel_rfl) _ (by kernel_rfl) 9997 u v hu hv w]
  rfl
theorem ex_neq {P : Program} {o : Oper} {a : Act} {w : World} (t : TypeId) (x y : Operand) (ho : o.op = .binOp .neq t x y t) (xs ys : Array Value) (hx : a.eval x = .agg xs) (hy : a.eval y = .agg ys) (hm : P.eqGuardType P.depth t = false) (r : Bool) (hr : (binOp .neq t (.agg xs) (.agg ys)).run P w = .ok (.bool r) w) : (execOp a.eval o).run P w = .ok (.value (.bool r)) w := by
  unfold execOp
  simp only [ho, hx, hy, Sem.run_bind, Sem.run_pure, run_eqGuard_agg w _ _ _ _ _ _ hm, Result.andThen_ok, hr]
set_option maxRecDepth 100000 in
set_option maxHeartbeats 8000000 in
theorem rsame_cap (cs ds : Array Value) (c d : CP) (v u : Value) (w : World) (h : Capy w cs c v) (h2 : Capy w ds d u) :
    Calls Tryz.prog 12 #[.agg cs, .agg ds] w fun e w' => e = .returned (.bool (decide (c = d))) ∧ Below w.heap.size w w' := by
  have b1 := (Below.refl w.heap.size w).alloc (Nat.le_refl _) (.cells cs 34)
  have b2 := b1.alloc b1.size (.cells ds 34)
  have k1 := (Blk.new w 34 cs).alloc (.cells ds 34)
  have k2 := Blk.new (w.alloc (.cells cs 34)) 34 ds
  simp only [World.size_alloc] at k2
  have fk := h.c0
  have gk := h2.c0
  have fd := h.c1
  have gd := h2.c1
  have fl := h.lit
  have gl := h2.lit
  obtain ⟨W, hW⟩ : ∃ W, W = (w.alloc (.cells cs 34)).alloc (.cells ds 34) := ⟨_, rfl⟩
  have hr1 : W.rangeAt w.heap.size 2 c.rd.cells := by rw [hW]; exact h.rdAt k1
  have hv1 : W.rangeAt w.heap.size 54 c.vf.cells := by rw [hW]; exact h.vfAt k1
  have hr2 : W.rangeAt (w.heap.size + 1) 2 d.rd.cells := by rw [hW]; exact h2.rdAt k2
  have hv2 : W.rangeAt (w.heap.size + 1) 54 d.vf.cells := by rw [hW]; exact h2.vfAt k2
  rw [← hW] at b2 k1 k2
  obtain ⟨A1, k1', rfl, hn1, hm1, hca⟩ := (h.by_.below b2).form
  obtain ⟨A2, k2', rfl, hn2, hm2, hcb⟩ := (h2.by_.below b2).form
  unfold maxLen at hm1 hm2
  have c10 : W.cell? ⟨w.heap.size, 0, none⟩ = some (.int .u8 (c.kind : Int)) := by rw [k1.cell]; exact fk
  have c11 : W.cell? ⟨w.heap.size, 1, none⟩ = some (.bool c.dir) := by rw [k1.cell]; exact fd
  have c14 : W.cell? ⟨w.heap.size, 106, none⟩ = some (.slice A1 c.lit.length k1') := by rw [k1.cell]; exact fl
  have c20 : W.cell? ⟨w.heap.size + 1, 0, none⟩ = some (.int .u8 (d.kind : Int)) := by rw [k2.cell]; exact gk
  have c21 : W.cell? ⟨w.heap.size + 1, 1, none⟩ = some (.bool d.dir) := by rw [k2.cell]; exact gd
  have c24 : W.cell? ⟨w.heap.size + 1, 106, none⟩ = some (.slice A2 d.lit.length k2') := by rw [k2.cell]; exact gl
  have HE := hide (show ∀ W, (binOp .neq 28 (.agg c.rd.cells.toArray) (.agg d.rd.cells.toArray)).run Tryz.prog W = .ok (.bool (!decide (c.rd = d.rd))) W from fun W => read_neq _ _ h.wf.1 h2.wf.1 W)
  have HG := hide (show ∀ W, (binOp .neq 31 (.agg c.vf.cells.toArray) (.agg d.vf.cells.toArray)).run Tryz.prog W = .ok (.bool (!decide (c.vf = d.vf))) W from fun W => verify_neq _ _ h.wf.2.1 h2.wf.2.1 W)
  have HS := hide (show c.rd.cells.length = 52 ∧ c.vf.cells.length = 52 ∧ d.rd.cells.length = 52 ∧ d.vf.cells.length = 52 from ⟨RV.cells_length h.wf.1, RV.cells_length h.wf.2.1, RV.cells_length h2.wf.1, RV.cells_length h2.wf.2.1⟩)
  rw [cp_eq]
  have hkk : ((c.kind : Int) != (d.kind : Int)) = !decide (c.kind = d.kind) := by
    by_cases hx : c.kind = d.kind
    · simp [hx]
    · rw [decide_eq_false hx]; simp; omega
  obtain ⟨q0, hq0⟩ : ∃ q, q = decide (c.kind = d.kind) := ⟨_, rfl⟩
  obtain ⟨r0, hr0⟩ : ∃ r, r = decide (c.rd = d.rd) := ⟨_, rfl⟩
  obtain ⟨v0, hv0⟩ : ∃ r, r = decide (c.vf = d.vf) := ⟨_, rfl⟩
  rw [← hq0] at hkk ⊢
  rw [← hr0] at HE ⊢
  rw [← hv0] at HG ⊢
  obtain ⟨R1, hR1⟩ : ∃ R, R = c.rd.cells := ⟨_, rfl⟩
  obtain ⟨F1, hF1⟩ : ∃ R, R = c.vf.cells := ⟨_, rfl⟩
  obtain ⟨R2, hR2⟩ : ∃ R, R = d.rd.cells := ⟨_, rfl⟩
  obtain ⟨F2, hF2⟩ : ∃ R, R = d.vf.cells := ⟨_, rfl⟩
  rw [← hR1] at HE HS hr1
  rw [← hR2] at HE HS hr2
  rw [← hF1] at HG HS hv1
  rw [← hF2] at HG HS hv2
  have HR := hide (And.intro hr1 (And.intro hv1 (And.intro hr2 hv2)))
  have HW := hide hW
  have HB := hide b2
  have lt1 := k1.lt
  have lt2 := k2.lt
  generalize c.kind = K1 at *
  generalize d.kind = K2 at *
  generalize c.dir = D1 at *
  generalize d.dir = D2 at *
  generalize c.lit = l at *
  generalize d.lit = m at *
  clear hr1 hv1 hr2 hv2 hW b2 b1 k1 k2 hq0 hr0 hv0 hR1 hF1 hR2 hF2 fk gk fd gd fl gl h h2
  rcases q0
  · simp only [Bool.not_false] at hkk
    clear hca hcb
    go_enter Tryz.func12, Tryz.ntmps12
    go_upto_region 1 with fail
    rw [← HW.out]
    go_wp2
    go_ret
    exact ⟨rfl, HB.out⟩
  simp only [Bool.not_true] at hkk
  by_cases hD : D1 = D2
  rotate_left
  · have hd : (D1 != D2) = true := by simpa using hD
    have hd2 : (D1 == D2) = false := by simpa using hD
    rw [decide_eq_false hD]
    clear hD hca hcb
    go_enter Tryz.func12, Tryz.ntmps12
    go_upto_region 1 with fail
    rw [← HW.out]
    go_wp2
    go_ret
    exact ⟨rfl, HB.out⟩
  subst hD
  rw [decide_eq_true rfl]
  cases r0
  · simp only [Bool.not_false] at HE
    clear hca hcb
    go_enter Tryz.func12, Tryz.ntmps12
    go_upto_region 1 with fail
    rw [← HW.out]
    go_wp2_with first
      | ((with_reducible change wpList _ _ _ (⟨some 20, _, _, _, _, _⟩ :: _) _ _); refine wpList_yields (by kernel_rfl) (.agg R1.toArray) (ex_load 28 _ rfl w.heap.size 2 (by kernel_rfl) _ _ HR.out.1 Tryz.underlying28 rfl (by rw [HS.out.1]; kernel_rfl)) ?_)
      | ((with_reducible change wpList _ _ _ (⟨some 22, _, _, _, _, _⟩ :: _) _ _); refine wpList_yields (by kernel_rfl) (.agg R2.toArray) (ex_load 28 _ rfl (w.heap.size + 1) 2 (by kernel_rfl) _ _ HR.out.2.2.1 Tryz.underlying28 rfl (by rw [HS.out.2.2.1]; kernel_rfl)) ?_)
      | ((with_reducible change wpList _ _ _ (⟨some 23, _, _, _, _, _⟩ :: _) _ _); refine wpList_yields (by kernel_rfl) (.bool _) (ex_neq 28 _ _ rfl R1.toArray R2.toArray (by kernel_rfl) (by kernel_rfl) (by kernel_rfl) _ (HE.out _)) ?_)
      | ((with_reducible change wpList _ _ _ (⟨some 27, _, _, _, _, _⟩ :: _) _ _); refine wpList_yields (by kernel_rfl) (.agg F1.toArray) (ex_load 31 _ rfl w.heap.size 54 (by kernel_rfl) _ _ HR.out.2.1 Tryz.underlying31 rfl (by rw [HS.out.2.1]; kernel_rfl)) ?_)
      | ((with_reducible change wpList _ _ _ (⟨some 29, _, _, _, _, _⟩ :: _) _ _); refine wpList_yields (by kernel_rfl) (.agg F2.toArray) (ex_load 31 _ rfl (w.heap.size + 1) 54 (by kernel_rfl) _ _ HR.out.2.2.2 Tryz.underlying31 rfl (by rw [HS.out.2.2.2]; kernel_rfl)) ?_)
      | ((with_reducible change wpList _ _ _ (⟨some 30, _, _, _, _, _⟩ :: _) _ _); refine wpList_yields (by kernel_rfl) (.bool _) (ex_neq 31 _ _ rfl F1.toArray F2.toArray (by kernel_rfl) (by kernel_rfl) (by kernel_rfl) _ (HG.out _)) ?_)
    go_ret
    exact ⟨rfl, HB.out⟩
  simp only [Bool.not_true] at HE
  cases v0
  · simp only [Bool.not_false] at HG
    clear hca hcb
    go_enter Tryz.func12, Tryz.ntmps12
    go_upto_region 1 with fail
    rw [← HW.out]
    go_wp2_with first
      | ((with_reducible change wpList _ _ _ (⟨some 20, _, _, _, _, _⟩ :: _) _ _); refine wpList_yields (by kernel_rfl) (.agg R1.toArray) (ex_load 28 _ rfl w.heap.size 2 (by kernel_rfl) _ _ HR.out.1 Tryz.underlying28 rfl (by rw [HS.out.1]; kernel_rfl)) ?_)
      | ((with_reducible change wpList _ _ _ (⟨some 22, _, _, _, _, _⟩ :: _) _ _); refine wpList_yields (by kernel_rfl) (.agg R2.toArray) (ex_load 28 _ rfl (w.heap.size + 1) 2 (by kernel_rfl) _ _ HR.out.2.2.1 Tryz.underlying28 rfl (by rw [HS.out.2.2.1]; kernel_rfl)) ?_)
      | ((with_reducible change wpList _ _ _ (⟨some 23, _, _, _, _, _⟩ :: _) _ _); refine wpList_yields (by kernel_rfl) (.bool _) (ex_neq 28 _ _ rfl R1.toArray R2.toArray (by kernel_rfl) (by kernel_rfl) (by kernel_rfl) _ (HE.out _)) ?_)
      | ((with_reducible change wpList _ _ _ (⟨some 27, _, _, _, _, _⟩ :: _) _ _); refine wpList_yields (by kernel_rfl) (.agg F1.toArray) (ex_load 31 _ rfl w.heap.size 54 (by kernel_rfl) _ _ HR.out.2.1 Tryz.underlying31 rfl (by rw [HS.out.2.1]; kernel_rfl)) ?_)
      | ((with_reducible change wpList _ _ _ (⟨some 29, _, _, _, _, _⟩ :: _) _ _); refine wpList_yields (by kernel_rfl) (.agg F2.toArray) (ex_load 31 _ rfl (w.heap.size + 1) 54 (by kernel_rfl) _ _ HR.out.2.2.2 Tryz.underlying31 rfl (by rw [HS.out.2.2.2]; kernel_rfl)) ?_)
      | ((with_reducible change wpList _ _ _ (⟨some 30, _, _, _, _, _⟩ :: _) _ _); refine wpList_yields (by kernel_rfl) (.bool _) (ex_neq 31 _ _ rfl F1.toArray F2.toArray (by kernel_rfl) (by kernel_rfl) (by kernel_rfl) _ (HG.out _)) ?_)
    go_ret
    exact ⟨rfl, HB.out⟩
  simp only [Bool.not_true] at HG
  by_cases hl : l.length = m.length
  rotate_left
  · have hne : ((l.length : Int) != (m.length : Int)) = true := by rw [bne_iff_ne]; omega
    rw [show decide (l = m) = false from decide_eq_false fun e => hl (by rw [e])]
    clear hl hca hcb
    go_enter Tryz.func12, Tryz.ntmps12
    go_upto_region 1 with fail
    rw [← HW.out]
    go_wp2_with first
      | ((with_reducible change wpList _ _ _ (⟨some 20, _, _, _, _, _⟩ :: _) _ _); refine wpList_yields (by kernel_rfl) (.agg R1.toArray) (ex_load 28 _ rfl w.heap.size 2 (by kernel_rfl) _ _ HR.out.1 Tryz.underlying28 rfl (by rw [HS.out.1]; kernel_rfl)) ?_)
      | ((with_reducible change wpList _ _ _ (⟨some 22, _, _, _, _, _⟩ :: _) _ _); refine wpList_yields (by kernel_rfl) (.agg R2.toArray) (ex_load 28 _ rfl (w.heap.size + 1) 2 (by kernel_rfl) _ _ HR.out.2.2.1 Tryz.underlying28 rfl (by rw [HS.out.2.2.1]; kernel_rfl)) ?_)
      | ((with_reducible change wpList _ _ _ (⟨some 23, _, _, _, _, _⟩ :: _) _ _); refine wpList_yields (by kernel_rfl) (.bool _) (ex_neq 28 _ _ rfl R1.toArray R2.toArray (by kernel_rfl) (by kernel_rfl) (by kernel_rfl) _ (HE.out _)) ?_)
      | ((with_reducible change wpList _ _ _ (⟨some 27, _, _, _, _, _⟩ :: _) _ _); refine wpList_yields (by kernel_rfl) (.agg F1.toArray) (ex_load 31 _ rfl w.heap.size 54 (by kernel_rfl) _ _ HR.out.2.1 Tryz.underlying31 rfl (by rw [HS.out.2.1]; kernel_rfl)) ?_)
      | ((with_reducible change wpList _ _ _ (⟨some 29, _, _, _, _, _⟩ :: _) _ _); refine wpList_yields (by kernel_rfl) (.agg F2.toArray) (ex_load 31 _ rfl (w.heap.size + 1) 54 (by kernel_rfl) _ _ HR.out.2.2.2 Tryz.underlying31 rfl (by rw [HS.out.2.2.2]; kernel_rfl)) ?_)
      | ((with_reducible change wpList _ _ _ (⟨some 30, _, _, _, _, _⟩ :: _) _ _); refine wpList_yields (by kernel_rfl) (.bool _) (ex_neq 31 _ _ rfl F1.toArray F2.toArray (by kernel_rfl) (by kernel_rfl) (by kernel_rfl) _ (HG.out _)) ?_)
    go_ret
    exact ⟨rfl, HB.out⟩
  have hne : ((l.length : Int) != (m.length : Int)) = false := by simp [hl]
  have HL := hide hl
  have HC := hide (And.intro c14 c24)
  clear hl
  go_enter Tryz.func12, Tryz.ntmps12
  go_upto_region 1 with fail
  rw [← HW.out]
  go_wp2_with first
    | ((with_reducible change wpList _ _ _ (⟨some 20, _, _, _, _, _⟩ :: _) _ _); refine wpList_yields (by kernel_rfl) (.agg R1.toArray) (ex_load 28 _ rfl w.heap.size 2 (by kernel_rfl) _ _ HR.out.1 Tryz.underlying28 rfl (by rw [HS.out.1]; kernel_rfl)) ?_)
    | ((with_reducible change wpList _ _ _ (⟨some 22, _, _, _, _, _⟩ :: _) _ _); refine wpList_yields (by kernel_rfl) (.agg R2.toArray) (ex_load 28 _ rfl (w.heap.size + 1) 2 (by kernel_rfl) _ _ HR.out.2.2.1 Tryz.underlying28 rfl (by rw [HS.out.2.2.1]; kernel_rfl)) ?_)
    | ((with_reducible change wpList _ _ _ (⟨some 23, _, _, _, _, _⟩ :: _) _ _); refine wpList_yields (by kernel_rfl) (.bool _) (ex_neq 28 _ _ rfl R1.toArray R2.toArray (by kernel_rfl) (by kernel_rfl) (by kernel_rfl) _ (HE.out _)) ?_)
    | ((with_reducible change wpList _ _ _ (⟨some 27, _, _, _, _, _⟩ :: _) _ _); refine wpList_yields (by kernel_rfl) (.agg F1.toArray) (ex_load 31 _ rfl w.heap.size 54 (by kernel_rfl) _ _ HR.out.2.1 Tryz.underlying31 rfl (by rw [HS.out.2.1]; kernel_rfl)) ?_)
    | ((with_reducible change wpList _ _ _ (⟨some 29, _, _, _, _, _⟩ :: _) _ _); refine wpList_yields (by kernel_rfl) (.agg F2.toArray) (ex_load 31 _ rfl (w.heap.size + 1) 54 (by kernel_rfl) _ _ HR.out.2.2.2 Tryz.underlying31 rfl (by rw [HS.out.2.2.2]; kernel_rfl)) ?_)
    | ((with_reducible change wpList _ _ _ (⟨some 30, _, _, _, _, _⟩ :: _) _ _); refine wpList_yields (by kernel_rfl) (.bool _) (ex_neq 31 _ _ rfl F1.toArray F2.toArray (by kernel_rfl) (by kernel_rfl) (by kernel_rfl) _ (HG.out _)) ?_)
  go_loopw [5] (fun i wr => ∃ k : Nat, k ≤ l.length ∧ i = .int .i64 k ∧ l.take k = m.take k ∧ Below W.heap.size W wr) (fun i _ => l.length - (intOf i).toNat)
  case atStart => exact ⟨0, by omega, rfl, by simp, Below.refl _ _⟩
  case round =>
    clear c10 c11 c14 c20 c21 c24 hkk hne
    obtain ⟨k, hk, rfl, hq, hbel⟩ := hrel
    have HQ := hide hq
    have d14 : wr.cell? ⟨w.heap.size, 106, none⟩ = some (.slice A1 l.length k1') := (hbel.cell (p := ⟨w.heap.size, 106, none⟩) lt1).trans HC.out.1
    have d24 : wr.cell? ⟨w.heap.size + 1, 106, none⟩ = some (.slice A2 m.length k2') := (hbel.cell (p := ⟨w.heap.size + 1, 106, none⟩) lt2).trans HC.out.2
    clear hq
    by_cases hlt : k < l.length
    · have hlt2 : k < m.length := by have := HL.out; omega
      obtain ⟨x, hx⟩ : ∃ x, l[k]? = some x := ⟨_, List.getElem?_eq_getElem hlt⟩
      obtain ⟨y, hy⟩ : ∃ y, m[k]? = some y := ⟨_, List.getElem?_eq_getElem hlt2⟩
      obtain ⟨b, o, rfl, hbl, hcell⟩ := hca k x hx
      obtain ⟨b2, o2, rfl, hbl2, hcell2⟩ := hcb k y hy
      have hcx : wr.cell? ⟨b, o + k, none⟩ = some (.int .u8 (x.toNat : Int)) := (hbel.cell (p := ⟨b, o + k, none⟩) hbl).trans hcell
      have hcy : wr.cell? ⟨b2, o2 + k, none⟩ = some (.int .u8 (y.toNat : Int)) := (hbel.cell (p := ⟨b2, o2 + k, none⟩) hbl2).trans hcell2
      have HX := hide hx
      have HY := hide hy
      clear hx hy hcell hcell2 hca hcb
      have i1 : (k : Int) < (l.length : Int) := by omega
      have i2 : (k : Int) < (m.length : Int) := by omega
      have i3 : (0 : Int) ≤ (k : Int) := by omega
      by_cases hxy : x = y
      · have hd : ((x.toNat : Int) != (y.toNat : Int)) = false := by simp [hxy]
        go_wp2
        go_quiet (fail)
        go_wp2
        go_roundw
        case rel => exact ⟨k + 1, by omega, by go_num, (same_step2 l m k x y HX.out HY.out HQ.out).2 hxy, below_drewN hbel _⟩
        case measure => simp [intOf]; omega
      · have hd : ((x.toNat : Int) != (y.toNat : Int)) = true := by
          rw [bne_iff_ne]; intro h; exact hxy (u8_int.1 h)
        go_wp2
        go_quiet (fail)
        go_wp2
        go_ret
        refine ⟨ret_bool ?_, below_drewN (Below.step HB.out hbel) _⟩
        refine (decide_eq_false fun h => hxy ((same_step2 l m k x y HX.out HY.out HQ.out).1 (by rw [h]))).symm
    · have hge : ¬ ((k : Int) < (l.length : Int)) := by omega
      go_wp2
      go_ret
      refine ⟨ret_bool ?_, Below.step HB.out hbel⟩
      refine (decide_eq_true ?_).symm
      have := HQ.out
      rwa [List.take_of_length_le (by omega), List.take_of_length_le (by have := HL.out; omega)] at this
end Go.Proofs.YtcpceaflnnkhnaaGreatDoor
