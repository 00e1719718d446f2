/- Joined texts: DeedK, DeedL. -/
import Derived.Test.YtcpceaflnnkhnaaGreatDoorJ7
import Derived.Test.YtcpceaflnnkhnaaGreatDoorJ2

/- The contract of the program's Check of a capability. -/
namespace Go.Proofs.YtcpceaflnnkhnaaGreatDoor
open Go.RowKit

set_option maxRecDepth 100000 in
set_option maxHeartbeats 1000000 in
theorem shaped_any (k n seg size : Int) (w : World) (hk : -9223372036854775808 ≤ k ∧ k ≤ 9223372036854775807) (hn : -9223372036854775808 ≤ n ∧ n ≤ 9223372036854775807) (hs : -9223372036854775808 ≤ seg ∧ seg ≤ 9223372036854775807) (hz : -9223372036854775808 ≤ size ∧ size ≤ 9223372036854775807) :
    Calls Tryz.prog 203 #[.int .i64 k, .int .i64 n, .int .i64 seg, .int .i64 size] w fun e w' => e = .returned (.bool (decide (agOK k n seg size))) ∧ Below w.heap.size w w' := by
  have Q := hide (fun w => again_any k n seg size w hk hn hs hz)
  clear hk hn hs hz
  by_cases hag : agOK k n seg size
  · have HQ : Hid (∀ w, Calls Tryz.prog 206 #[.int .i64 k, .int .i64 n, .int .i64 seg, .int .i64 size] w fun e w' => Below w.heap.size w w' ∧ e = .returned (.tuple #[shapeV k.toNat n.toNat seg.toNat size.toNat, .int .i64 0])) := fun w => by have := Q.out w; rwa [if_pos hag] at this
    rw [decide_eq_true hag]
    clear Q hag
    unfold shapeV at HQ
    go_enter Tryz.func203, Tryz.ntmps203
    go_wp2_with fail
    refine (HQ.out _).mono ?_
    rintro e w1 ⟨b1, rfl⟩
    go_wp2
    go_ret
    refine ⟨rfl, ?_⟩
    have := b1.size
    go_grown
  · have HQ : Hid (∀ w, Calls Tryz.prog 206 #[.int .i64 k, .int .i64 n, .int .i64 seg, .int .i64 size] w fun e w' => Below w.heap.size w w' ∧ e = .returned (.tuple #[zeroShape, .int .i64 92])) := fun w => by have := Q.out w; rwa [if_neg hag] at this
    rw [decide_eq_false hag]
    clear Q hag
    unfold zeroShape at HQ
    go_enter Tryz.func203, Tryz.ntmps203
    go_wp2_with fail
    refine (HQ.out _).mono ?_
    rintro e w1 ⟨b1, rfl⟩
    go_wp2
    go_ret
    refine ⟨rfl, ?_⟩
    have := b1.size
    go_grown
set_option maxRecDepth 100000 in
set_option maxHeartbeats 1000000 in
theorem fits_reading (r : RV) (w : World) (hf : r.wf) (hi : r.in64) :
    Calls Tryz.prog 200 #[.agg r.cells.toArray] w fun e w' => e = .returned (.bool (decide r.may)) ∧ Below w.heap.size w w' := by
  have c0 := cells_at r hf 0
  have c1 := cells_at r hf 1
  have c2 := cells_at r hf 2
  have c3 := cells_at r hf 3
  simp only [List.getElem?_cons_zero, List.getElem?_cons_succ, Nat.add_zero, Nat.reduceAdd] at c0 c1 c2 c3
  have Q := hide (fun w => shaped_any r.k r.n r.seg r.size w hi.1 hi.2.1 hi.2.2.1 hi.2.2.2)
  obtain ⟨d, hd⟩ : ∃ d, d = decide r.may := ⟨_, rfl⟩
  have e1 : decide (agOK r.k r.n r.seg r.size) = d := by rw [hd]; rfl
  rw [e1] at Q
  rw [← hd]
  obtain ⟨C, hC⟩ : ∃ C, C = r.cells.toArray := ⟨_, rfl⟩
  rw [← List.getElem?_toArray, ← hC] at c0 c1 c2 c3
  rw [← hC]
  obtain ⟨k, n, seg, size, hk⟩ : ∃ k n seg size, k = r.k ∧ n = r.n ∧ seg = r.seg ∧ size = r.size := ⟨_, _, _, _, rfl, rfl, rfl, rfl⟩
  rw [← hk.1, ← hk.2.1, ← hk.2.2.1, ← hk.2.2.2] at Q
  rw [← hk.1] at c0
  rw [← hk.2.1] at c1
  rw [← hk.2.2.1] at c2
  rw [← hk.2.2.2] at c3
  clear hd e1 hC hf hi hk
  go_enter Tryz.func200, Tryz.ntmps200
  go_wp2_with fail
  refine (Q.out _).mono ?_
  rintro e w1 ⟨rfl, b1⟩
  go_wp2
  go_ret
  exact ⟨rfl, ((Below.refl _ w).alloc (Nat.le_refl _) _).trans (b1.mono (by simp))⟩
set_option maxRecDepth 100000 in
set_option maxHeartbeats 1000000 in
theorem fits_verifying (r : RV) (w : World) (hf : r.wf) (hi : r.in64) :
    Calls Tryz.prog 211 #[.agg r.cells.toArray] w fun e w' => e = .returned (.bool (decide r.may)) ∧ Below w.heap.size w w' := by
  have c0 := cells_at r hf 0
  have c1 := cells_at r hf 1
  have c2 := cells_at r hf 2
  have c3 := cells_at r hf 3
  simp only [List.getElem?_cons_zero, List.getElem?_cons_succ, Nat.add_zero, Nat.reduceAdd] at c0 c1 c2 c3
  have Q := hide (fun w => shaped_any r.k r.n r.seg r.size w hi.1 hi.2.1 hi.2.2.1 hi.2.2.2)
  obtain ⟨d, hd⟩ : ∃ d, d = decide r.may := ⟨_, rfl⟩
  have e1 : decide (agOK r.k r.n r.seg r.size) = d := by rw [hd]; rfl
  rw [e1] at Q
  rw [← hd]
  obtain ⟨C, hC⟩ : ∃ C, C = r.cells.toArray := ⟨_, rfl⟩
  rw [← List.getElem?_toArray, ← hC] at c0 c1 c2 c3
  rw [← hC]
  obtain ⟨k, n, seg, size, hk⟩ : ∃ k n seg size, k = r.k ∧ n = r.n ∧ seg = r.seg ∧ size = r.size := ⟨_, _, _, _, rfl, rfl, rfl, rfl⟩
  rw [← hk.1, ← hk.2.1, ← hk.2.2.1, ← hk.2.2.2] at Q
  rw [← hk.1] at c0
  rw [← hk.2.1] at c1
  rw [← hk.2.2.1] at c2
  rw [← hk.2.2.2] at c3
  clear hd e1 hC hf hi hk
  go_enter Tryz.func211, Tryz.ntmps211
  go_wp2_with fail
  refine (Q.out _).mono ?_
  rintro e w1 ⟨rfl, b1⟩
  go_wp2
  go_ret
  exact ⟨rfl, ((Below.refl _ w).alloc (Nat.le_refl _) _).trans (b1.mono (by simp))⟩
set_option maxHeartbeats 400000 in
theorem fits_literal (A : Option Addr) (n c : Nat) (w : World) :
    Calls Tryz.prog 218 #[.agg #[.slice A n c]] w fun e w' => e = .returned (.bool (decide (n ≤ 32))) ∧ Below w.heap.size w w' := by
  go_enter Tryz.func218, Tryz.ntmps218
  go_wp2
  go_ret
  exact ⟨ret_bool (by rw [Bool.eq_iff_iff]; simp; omega), (Below.refl _ w).alloc (Nat.le_refl _) _⟩
end Go.Proofs.YtcpceaflnnkhnaaGreatDoor

/- The contract of the program's Check of a capability. -/
namespace Go.Proofs.YtcpceaflnnkhnaaGreatDoor
open Go.RowKit

/-- A capability of one kind, as 'of' answers it. -/
inductive OneK (c : CP) (v : Value) : Prop
  | rd (h : ofV c v = .iface 90 (.agg c.rd.cells.toArray)) (hm : c.may ↔ c.rd.may) (hk : c.kind = 1) (hl : c.lit = []) (hv : c.vf = RV.zero)
  | vf (h : ofV c v = .iface 93 (.agg c.vf.cells.toArray)) (hm : c.may ↔ c.vf.may) (hk : c.kind = 2) (hl : c.lit = []) (hr : c.rd = RV.zero)
  | lit (h : ofV c v = .iface 135 (.agg #[v])) (hm : c.may ↔ c.lit.length ≤ 32) (hk : c.kind = 3) (hr : c.rd = RV.zero) (hv : c.vf = RV.zero)
  | no (h : ofV c v = .nilIface) (hm : ¬ c.may)
theorem oneK (c : CP) (v : Value) : OneK c v := by
  by_cases h1 : c.kind = 1 ∧ c.vf = RV.zero ∧ c.lit = []
  · refine .rd (by unfold ofV; rw [if_pos h1]) ?_ h1.1 h1.2.2 h1.2.1
    unfold CP.may
    obtain ⟨a, b, d⟩ := h1
    simp [a, b, d]
  by_cases h2 : c.kind = 2 ∧ c.rd = RV.zero ∧ c.lit = []
  · refine .vf (by unfold ofV; rw [if_neg h1, if_pos h2]) ?_ h2.1 h2.2.2 h2.2.1
    unfold CP.may
    obtain ⟨a, b, d⟩ := h2
    simp [a, b, d]
  by_cases h3 : c.kind = 3 ∧ c.rd = RV.zero ∧ c.vf = RV.zero
  · refine .lit (by unfold ofV; rw [if_neg h1, if_neg h2, if_pos h3]) ?_ h3.1 h3.2.1 h3.2.2
    unfold CP.may
    obtain ⟨a, b, d⟩ := h3
    simp [a, b, d]
  · refine .no (by unfold ofV; rw [if_neg h1, if_neg h2, if_neg h3]) ?_
    unfold CP.may
    rintro (⟨a, b, d, -⟩ | ⟨a, b, d, -⟩ | ⟨a, b, d, -⟩)
    · exact h1 ⟨a, b, d⟩
    · exact h2 ⟨a, b, d⟩
    · exact h3 ⟨a, b, d⟩
set_option maxRecDepth 100000 in
set_option maxHeartbeats 1000000 in
theorem check_cap (cs : Array Value) (c : CP) (v : Value) (w : World) (h : Capy w cs c v) :
    Calls Tryz.prog 19 #[.agg cs] w fun e w' => e = .returned (.int .i64 (if c.may then 0 else 5)) ∧ Below w.heap.size w w' := by
  have HB := hide (And.intro (Blk.new w 34 cs) (And.intro ((Below.refl w.heap.size w).alloc (Nat.le_refl _) (.cells cs 34)) h.size))
  have Q := hide (of_any cs c v _ (h.below HB.out.2.1))
  obtain ⟨r, hr⟩ : ∃ r : Int, r = (if c.may then 0 else 5) := ⟨_, rfl⟩
  rw [← hr]
  rcases oneK c v with ⟨h0, hm, -, -, -⟩ | ⟨h0, hm, -, -, -⟩ | ⟨h0, hm, -, -, -⟩ | ⟨h0, hm⟩
  · rw [h0] at Q
    have QF := hide (fun w => fits_reading c.rd w h.wf.1 h.i64.1)
    obtain ⟨d, hd⟩ : ∃ d, d = decide c.rd.may := ⟨_, rfl⟩
    rw [← hd] at QF
    obtain ⟨C, hC⟩ : ∃ C, C = c.rd.cells.toArray := ⟨_, rfl⟩
    rw [← hC] at Q QF
    have HR := hide (show r = if d = true then 0 else 5 from by rw [hr, hd]; by_cases hx : c.may <;> simp [hx, ← hm])
    clear h h0 hr hm hC hd
    cases d
    all_goals
      go_enter Tryz.func19, Tryz.ntmps19
      go_wp2_with first
        | ((with_reducible change wpList _ _ _ (⟨some 4, _, _, _, _, _⟩ :: _) _ _); refine wpList_load_row (o := ⟨some 4, .load _ _, _, _, _, _⟩) rfl 34 _ rfl w.heap.size rfl 34 cs (0, 0) _ HB.out.1 Tryz.underlying34 rfl (by rw [HB.out.2.2]; kernel_rfl) ?_)
        | (go_at_call 43; refine Q.out.mono ?_; rintro e w1 ⟨rfl, b1⟩; go_loud (have H1 := hide (HB.out.2.1.trans (b1.mono HB.out.2.1.size)); clear b1))
        | (go_at_call 200; refine (QF.out _).mono ?_; rintro e w2 ⟨rfl, b2⟩; go_loud (have H2 := hide (H1.out.trans (b2.mono H1.out.size)); clear b2))
      go_ret
      exact ⟨by rw [HR.out]; rfl, H2.out⟩
  · rw [h0] at Q
    have QF := hide (fun w => fits_verifying c.vf w h.wf.2.1 h.i64.2)
    obtain ⟨d, hd⟩ : ∃ d, d = decide c.vf.may := ⟨_, rfl⟩
    rw [← hd] at QF
    obtain ⟨C, hC⟩ : ∃ C, C = c.vf.cells.toArray := ⟨_, rfl⟩
    rw [← hC] at Q QF
    have HR := hide (show r = if d = true then 0 else 5 from by rw [hr, hd]; by_cases hx : c.may <;> simp [hx, ← hm])
    clear h h0 hr hm hC hd
    cases d
    all_goals
      go_enter Tryz.func19, Tryz.ntmps19
      go_wp2_with first
        | ((with_reducible change wpList _ _ _ (⟨some 4, _, _, _, _, _⟩ :: _) _ _); refine wpList_load_row (o := ⟨some 4, .load _ _, _, _, _, _⟩) rfl 34 _ rfl w.heap.size rfl 34 cs (0, 0) _ HB.out.1 Tryz.underlying34 rfl (by rw [HB.out.2.2]; kernel_rfl) ?_)
        | (go_at_call 43; refine Q.out.mono ?_; rintro e w1 ⟨rfl, b1⟩; go_loud (have H1 := hide (HB.out.2.1.trans (b1.mono HB.out.2.1.size)); clear b1))
        | (go_at_call 211; refine (QF.out _).mono ?_; rintro e w2 ⟨rfl, b2⟩; go_loud (have H2 := hide (H1.out.trans (b2.mono H1.out.size)); clear b2))
      go_ret
      exact ⟨by rw [HR.out]; rfl, H2.out⟩
  · rw [h0] at Q
    obtain ⟨A, k, hv, -, -, -⟩ := h.by_.form
    rw [hv] at Q
    have QF := hide (fun w => fits_literal A c.lit.length k w)
    obtain ⟨d, hd⟩ : ∃ d, d = decide (c.lit.length ≤ 32) := ⟨_, rfl⟩
    rw [← hd] at QF
    obtain ⟨n, hn⟩ : ∃ n, n = c.lit.length := ⟨_, rfl⟩
    rw [← hn] at Q QF
    have HR := hide (show r = if d = true then 0 else 5 from by rw [hr, hd]; by_cases hx : c.may <;> simp [hx, ← hm])
    clear h h0 hr hm hd hv hn
    cases d
    all_goals
      go_enter Tryz.func19, Tryz.ntmps19
      go_wp2_with first
        | ((with_reducible change wpList _ _ _ (⟨some 4, _, _, _, _, _⟩ :: _) _ _); refine wpList_load_row (o := ⟨some 4, .load _ _, _, _, _, _⟩) rfl 34 _ rfl w.heap.size rfl 34 cs (0, 0) _ HB.out.1 Tryz.underlying34 rfl (by rw [HB.out.2.2]; kernel_rfl) ?_)
        | (go_at_call 43; refine Q.out.mono ?_; rintro e w1 ⟨rfl, b1⟩; go_loud (have H1 := hide (HB.out.2.1.trans (b1.mono HB.out.2.1.size)); clear b1))
        | (go_at_call 218; refine (QF.out _).mono ?_; rintro e w2 ⟨rfl, b2⟩; go_loud (have H2 := hide (H1.out.trans (b2.mono H1.out.size)); clear b2))
      go_ret
      exact ⟨by rw [HR.out]; rfl, H2.out⟩
  · rw [h0] at Q
    rw [if_neg hm] at hr
    subst hr
    clear h h0 hm
    go_enter Tryz.func19, Tryz.ntmps19
    go_wp2_with first
      | ((with_reducible change wpList _ _ _ (⟨some 4, _, _, _, _, _⟩ :: _) _ _); refine wpList_load_row (o := ⟨some 4, .load _ _, _, _, _, _⟩) rfl 34 _ rfl w.heap.size rfl 34 cs (0, 0) _ HB.out.1 Tryz.underlying34 rfl (by rw [HB.out.2.2]; kernel_rfl) ?_)
      | (go_at_call 43; refine Q.out.mono ?_; rintro e w1 ⟨rfl, b1⟩; go_loud (have H1 := hide (HB.out.2.1.trans (b1.mono HB.out.2.1.size)); clear b1))
    go_ret
    exact ⟨rfl, H1.out⟩
end Go.Proofs.YtcpceaflnnkhnaaGreatDoor
