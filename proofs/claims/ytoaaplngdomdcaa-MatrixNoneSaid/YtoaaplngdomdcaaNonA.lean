/- The law MatrixNone. -/
import Derived.Test.YtoaaplngdomdcaaMwG
import Derived.Test.YtoaaplngdomdcaaNon
import Derived.RangeFuncNested
import Derived.RangeFuncBound
import Derived.RangeFuncCalls
import Derived.RangeFuncLeaves
import Derived.RangeFuncBox
import Derived.Shelf.Abstract
import Derived.Shelf.RegionOpen
import Derived.WalkKit
import Derived.OwnWalkIn
import Derived.TacticsInMore
import Derived.LoopNIn
import Derived.LoopIn
namespace Go.Proofs.Ytoaaplngdomdcaa
open Go.RowKit Go.Shelf
attribute [local go_sem] Oper.semAt_some

set_option maxRecDepth 100000 in
set_option maxHeartbeats 1000000 in
/-- What All hands back goes through nothing. -/
theorem all1_no (F : Fence) (hF : F = Fence.wide) (n : Nat) (hn : 1 ≤ n) (Bn n₀ : Nat) (v : Value) (w : World) (hx : XNo w v) (hB : Bn < w.heap.size) (hc : w.cell? ⟨Bn, 0, none⟩ = some v) :
    SeqStopsK F n Try.prog 98 #[.pointer (some ⟨Bn, 0, none⟩)] (fun _ : Unit => #[Value.int .i64 0, .slice none 0 0]) (Below n₀) (fun ys => ys = []) (fun pre => pre <+: []) 0 w := by
  intro l J Jx W hW _ _ _ h0
  have hro : F.round = none := by rw [hF]; rfl
  have h6 : F.fn 98 := by rw [hF]; trivial
  have h7 : F.fn 48 := by rw [hF]; trivial
  have Q : ∀ m, CallsIn F m Try.prog 48 #[v] W fun e w' => e = .returned (.int .i64 0) ∧ W = w' := by
    subst hF; exact fun m => callsIn_wide.2 (rows_no v W (hx.below hW))
  have hc' := (hW.cell (p := ⟨Bn, 0, none⟩) hB).trans hc
  obtain ⟨A, rfl⟩ := hx.ptr
  clear hc hx hF
  refine callsIn_of_wp Try.func98 rfl h6 ?_ hro
  simp only [Try.ntmps98, List.size_toArray, List.length_cons, List.length_nil, Nat.reduceAdd, Nat.reduceSub, Array.replicate_succ, Array.replicate_zero, List.push_toArray, List.append_toArray, List.nil_append, List.cons_append]
  gi_wp2_with (gi_at_call 48; refine (Q _).mono ?_; rintro e w' ⟨rfl, rfl⟩)
  gi_loopw [3, 6] (fun _ p wr => p = .int .i64 0 ∧ wr = W) (fun _ _ _ => 0)
  case atStart => exact ⟨rfl, rfl⟩
  case round =>
    obtain ⟨rfl, rfl⟩ := hrel
    gi_wp2
    go_end0
    exact ⟨⟨_, rfl⟩, .inl ⟨[], rfl, h0⟩⟩

theorem feq (A : Value) (w : World) : (binOp .eql 94 (.func (.func 98) #[] #[A]) .nilFunc).run Try.prog w = .ok (.bool false) w := by kernel_rfl
theorem prime7 : PrimeN 7 := by
  refine ⟨by omega, fun e h1 h2 => ?_⟩
  have h3 : e < 3 := by
    rcases Nat.lt_or_ge e 3 with h | h
    · exact h
    · have := Nat.mul_le_mul h h; omega
  have h4 : e = 2 := by omega
  subst h4
  decide
theorem liftF {F : Fence} (hF : F = Fence.wide) {m : Nat} {f : FuncId} {args : Array Value} {w : World} {Q : Ending → World → Prop} (h : Calls Try.prog f args w Q) : CallsIn F m Try.prog f args w Q := by
  subst hF; exact callsIn_wide.2 h

set_option maxRecDepth 100000 in
set_option maxHeartbeats 8000000 in
theorem none_in (F : Fence) (hF : F = Fence.wide) (k i0 j p r c : Int) (A : Option Addr) (n1 c1 : Nat) (B : Option Addr) (n2 c2 : Nat) (w : World) :
    CallsIn F 8 Try.prog 8 #[.agg #[.int .i64 k, .int .i64 i0, .int .i64 j, .int .i64 p, .int .i64 r, .int .i64 c, .slice A n1 c1, .slice B n2 c2]] w fun e w' => e = .returned (.bool true) ∧ Below w.heap.size w w' := by
  have hch : F.fn 8 := by rw [hF]; trivial
  have hfn : ∀ f, F.fn f := by rw [hF]; exact fun _ => trivial
  have hro : F.round = none := by rw [hF]; rfl
  have HF := hide hF
  clear hF
  refine callsIn_of_wp_marks Try.func8 rfl hch ?_ hro
  simp only [Try.ntmps8, List.size_toArray, List.length_cons, List.length_nil, Nat.reduceAdd, Nat.reduceSub, Array.replicate_succ, Array.replicate_zero, List.push_toArray, List.append_toArray, List.nil_append, List.cons_append]
  gi_wp2_with fail
  have b0 : Below w.heap.size w ((((w.alloc (.cells #[.int .i64 k, .int .i64 i0, .int .i64 j, .int .i64 p, .int .i64 r, .int .i64 c, .slice A n1 c1, .slice B n2 c2] 70)).alloc (.cells #[.bool false] 4)).alloc (.cells #[.int .u64 0] 73)).alloc (.cells #[.pointer none, .pointer (some ⟨w.heap.size + 2, 0, none⟩)] 24)) := ((((Below.refl _ w).alloc (Nat.le_refl _) _).alloc (by simp) _).alloc (by simp; omega) _).alloc (by simp; omega) _
  have h1 := (((Blk.new w 70 #[.int .i64 k, .int .i64 i0, .int .i64 j, .int .i64 p, .int .i64 r, .int .i64 c, .slice A n1 c1, .slice B n2 c2]).alloc (.cells #[.bool false] 4)).alloc (.cells #[.int .u64 0] 73)).alloc (.cells #[.pointer none, .pointer (some ⟨w.heap.size + 2, 0, none⟩)] 24)
  have h2 := (((Blk.new (w.alloc (.cells #[.int .i64 k, .int .i64 i0, .int .i64 j, .int .i64 p, .int .i64 r, .int .i64 c, .slice A n1 c1, .slice B n2 c2] 70)) 4 #[.bool false])).alloc (.cells #[.int .u64 0] 73)).alloc (.cells #[.pointer none, .pointer (some ⟨w.heap.size + 2, 0, none⟩)] 24)
  have h3 := (Blk.new ((w.alloc (.cells #[.int .i64 k, .int .i64 i0, .int .i64 j, .int .i64 p, .int .i64 r, .int .i64 c, .slice A n1 c1, .slice B n2 c2] 70)).alloc (.cells #[.bool false] 4)) 73 #[.int .u64 0]).alloc (.cells #[.pointer none, .pointer (some ⟨w.heap.size + 2, 0, none⟩)] 24)
  have h4 := Blk.new (((w.alloc (.cells #[.int .i64 k, .int .i64 i0, .int .i64 j, .int .i64 p, .int .i64 r, .int .i64 c, .slice A n1 c1, .slice B n2 c2] 70)).alloc (.cells #[.bool false] 4)).alloc (.cells #[.int .u64 0] 73)) 24 #[.pointer none, .pointer (some ⟨w.heap.size + 2, 0, none⟩)]
  simp only [World.size_alloc] at h2 h3 h4
  generalize ((((w.alloc (.cells #[.int .i64 k, .int .i64 i0, .int .i64 j, .int .i64 p, .int .i64 r, .int .i64 c, .slice A n1 c1, .slice B n2 c2] 70)).alloc (.cells #[.bool false] 4)).alloc (.cells #[.int .u64 0] 73)).alloc (.cells #[.pointer none, .pointer (some ⟨w.heap.size + 2, 0, none⟩)] 24)) = W at *
  have l1 : ∀ i, i < 2 → ∃ v, W.cell? ⟨w.heap.size + 3, i, none⟩ = some v ∧ MNo W v := by
    intro i hi
    have hc : i = 0 ∨ i = 1 := by omega
    rcases hc with rfl | rfl
    · exact ⟨_, h4.cell 0, .inl rfl⟩
    · exact ⟨_, h4.cell 1, .inr ⟨_, rfl, h3.lt, h3.cell 0⟩⟩
  have B0 := hide b0
  have HA := hide h1
  have HR := hide h2
  have HL1 := hide l1
  clear b0 h1 h2 h3 h4 l1
  gi_loopw [6, 7, 8] (fun u6 u7 u8 wr => ∃ i : Nat, u6 = .int .i64 (i : Int) ∧ i ≤ 2 ∧ wr = W) (fun u6 _ _ _ => 2 - (intOf u6).toNat)
  case atStart => exact ⟨0, rfl, by omega, rfl⟩
  case round =>
    obtain ⟨i, rfl, hi, rfl⟩ := hrel
    by_cases hlt : i < 2
    · obtain ⟨v, hv, hno⟩ := HL1.out i hlt
      have q16 := inv_no v wr hno
      have q14 := mzero_any v wr
      have q15 := one_no v wr hno
      have q18 := add_no v wr hno
      have q20 := sub_no v wr hno
      have q22 := mul_no v wr hno
      have HQ := hide (And.intro q16 (And.intro q14 (And.intro q15 (And.intro q18 (And.intro q20 q22)))))
      clear q16 q14 q15 q18 q20 q22 hno
      have i1 : (i : Int) < 2 := by omega
      have i2 : (0 : Int) ≤ (i : Int) := by omega
      gi_wp2_with first
        | (gi_at_call 16; refine (liftF HF.out HQ.out.1).mono ?_; rintro e w' ⟨rfl, rfl⟩)
        | (gi_at_call 14; refine (liftF HF.out HQ.out.2.1).mono ?_; rintro e w' ⟨rfl, rfl⟩)
        | (gi_at_call 15; refine (liftF HF.out HQ.out.2.2.1).mono ?_; rintro e w' ⟨rfl, rfl⟩)
        | (gi_at_call 18; refine (liftF HF.out HQ.out.2.2.2.1).mono ?_; rintro e w' ⟨rfl, rfl⟩)
        | (gi_at_call 20; refine (liftF HF.out HQ.out.2.2.2.2.1).mono ?_; rintro e w' ⟨rfl, rfl⟩)
        | (gi_at_call 22; refine (liftF HF.out HQ.out.2.2.2.2.2).mono ?_; rintro e w' ⟨rfl, rfl⟩)
      go_roundw
      case rel => exact ⟨i + 1, by go_num, by omega, by trivial⟩
      case measure => simp [intOf]; omega
    · have hi2 : i = 2 := by omega
      subst hi2
      have g4 : wr.cell? ⟨w.heap.size, 4, none⟩ = some (.int .i64 r) := HA.out.cell 4
      have g5 : wr.cell? ⟨w.heap.size, 5, none⟩ = some (.int .i64 c) := HA.out.cell 5
      have g6 : wr.cell? ⟨w.heap.size, 6, none⟩ = some (.slice A n1 c1) := HA.out.cell 6
      gi_wp2_with (gi_at_call 40; refine (liftF HF.out (newx_no _ _ _ _ _ _)).mono ?_; rintro e w1 ⟨rfl, b1⟩; have HA1 := hide (HA.out.below' b1); have HR1 := hide (HR.out.below' b1); have B1 := hide (B0.out.trans (b1.mono B0.out.size)); clear b1 g4 g5 g6; have g4 : w1.cell? ⟨w.heap.size, 4, none⟩ = some (.int .i64 r) := HA1.out.cell 4)
      gi_wp2_with (gi_at_call 41; refine (liftF HF.out (identity_no _ _)).mono ?_; rintro e w2 ⟨rfl, b2⟩; have HA2 := hide (HA1.out.below' b2); have HR2 := hide (HR1.out.below' b2); have B2 := hide (B1.out.trans (b2.mono B1.out.size)); clear b2 g4)
      have q7 := newmod_yes 7 w2 (primeR_true prime7 (by omega))
      rw [show ((7 : Nat) : Int) = 7 from rfl] at q7
      have Q7 := hide q7
      clear q7
      gi_wp2_with (gi_at_call 12; refine (liftF HF.out Q7.out).mono ?_; rintro e w3 ⟨gm, rfl, hm, b3⟩; have HA3 := hide (HA2.out.below' b3); have HR3 := hide (HR2.out.below' b3); have B3 := hide (B2.out.trans (b3.mono B2.out.size)); have HM := hide hm; clear b3 hm Q7)
      have q8 := identw_any 1 gm 7 w3 (by omega) HM.out (by omega) (by omega)
      rw [show ((1 : Nat) : Int) = 1 from rfl] at q8
      have Q8 := hide q8
      clear q8
      gi_wp2_with (gi_at_call 41; refine (liftF HF.out Q8.out).mono ?_; rintro e w4 ⟨gx, base, rfl, hbase, hx, b4⟩; have HA4 := hide (HA3.out.below' b4); have HR4 := hide (HR3.out.below' b4); have B4 := hide (B3.out.trans (b4.mono B3.out.size)); have HX := hide hx; clear b4 hbase hx Q8)
      have n1 := (Blk.new w4 82 #[.nilIface, .slice none 0 0]).alloc (.cells #[.pointer none, .pointer (some ⟨w4.heap.size, 0, none⟩)] 57)
      have n2 := Blk.new (w4.alloc (.cells #[.nilIface, .slice none 0 0] 82)) 57 #[.pointer none, .pointer (some ⟨w4.heap.size, 0, none⟩)]
      have b : Below w4.heap.size w4 ((w4.alloc (.cells #[.nilIface, .slice none 0 0] 82)).alloc (.cells #[.pointer none, .pointer (some ⟨w4.heap.size, 0, none⟩)] 57)) := ((Below.refl _ w4).alloc (Nat.le_refl _) _).alloc (by simp) _
      rw [World.size_alloc] at n2
      generalize (w4.alloc (.cells #[.nilIface, .slice none 0 0] 82)).alloc (.cells #[.pointer none, .pointer (some ⟨w4.heap.size, 0, none⟩)] 57) = w5 at *
      have HA5 := hide (HA4.out.below' b)
      have HR5 := hide (HR4.out.below' b)
      have B5 := hide (B4.out.trans (b.mono B4.out.size))
      have HY5 := hide (show XYes w5 (.pointer (some ⟨gx, 0, none⟩)) from by
        obtain ⟨_, v, h1, _⟩ := HX.out.below b
        exact ⟨gx, _, _, rfl, h1.lt, h1.cell 0⟩)
      have HB5 := hide n2
      have HD5 := hide n1
      have HNO0 : XNo w5 (.pointer none) := .inl rfl
      clear b n1 n2
      have hfe := feq
      refine wpIn_loop_rounds 3 ?_
      rw [roundsIn_succ]
      have HV5 : w5.cell? ⟨w4.heap.size + 1, 0, none⟩ = some (.pointer none) := HB5.out.cell 0
      have HN5 := hide (show XNo w5 (.pointer none) from HNO0)
      have g4 : w5.cell? ⟨w.heap.size, 4, none⟩ = some (.int .i64 r) := HA5.out.cell 4
      have g5 : w5.cell? ⟨w.heap.size, 5, none⟩ = some (.int .i64 c) := HA5.out.cell 5
      gi_wp2_with (gi_at_call 42; refine (liftF HF.out (at_no _ _ _ _ HN5.out)).mono ?_; rintro e w' ⟨rfl, rfl⟩; clear g4 g5 HV5)
      gi_wp2_with (gi_at_call 43; refine (liftF HF.out (mmul_no _ _ _ HN5.out)).mono ?_; rintro e w6 ⟨rfl, b⟩; have HA6 := hide (HA5.out.below' b); have HR6 := hide (HR5.out.below' b); have HB6 := hide (HB5.out.below' b); have HY6 := hide (HY5.out.below b); have HN6 := hide (HN5.out.below b); have B6 := hide (B5.out.trans (b.mono B5.out.size)); have HD6 := hide (HD5.out.below' b); clear b HA5 HR5 HB5 HY5 HN5 B5 HD5)
      gi_wp2_with (gi_at_call 43; refine (liftF HF.out (mmul_no2 _ _ _ HY6.out HN6.out)).mono ?_; rintro e w7 ⟨rfl, b⟩; have HA7 := hide (HA6.out.below' b); have HR7 := hide (HR6.out.below' b); have HB7 := hide (HB6.out.below' b); have HY7 := hide (HY6.out.below b); have HN7 := hide (HN6.out.below b); have B7 := hide (B6.out.trans (b.mono B6.out.size)); have HD7 := hide (HD6.out.below' b); have g6 : w7.cell? ⟨w.heap.size, 6, none⟩ = some (.slice A n1 c1) := HA7.out.cell 6; clear b HA6 HR6 HB6 HY6 HN6 B6 HD6)
      gi_wp2_with (gi_at_call 44; refine (liftF HF.out (times_no _ _ _ _ _ HN7.out)).mono ?_; rintro e w8 ⟨rfl, b⟩; clear g6; have HA8 := hide (HA7.out.below' b); have HR8 := hide (HR7.out.below' b); have HB8 := hide (HB7.out.below' b); have HY8 := hide (HY7.out.below b); have HN8 := hide (HN7.out.below b); have B8 := hide (B7.out.trans (b.mono B7.out.size)); have HD8 := hide (HD7.out.below' b); have g7 : w8.cell? ⟨w.heap.size, 7, none⟩ = some (.slice B n2 c2) := HA8.out.cell 7; clear b HA7 HR7 HB7 HY7 HN7 B7 HD7)
      gi_wp2_with (gi_at_call 45; refine (liftF HF.out (pick_no _ _ _ _ _ HN8.out)).mono ?_; rintro e w9 ⟨rfl, b⟩; clear g7; have HA9 := hide (HA8.out.below' b); have HR9 := hide (HR8.out.below' b); have HB9 := hide (HB8.out.below' b); have HY9 := hide (HY8.out.below b); have HN9 := hide (HN8.out.below b); have B9 := hide (B8.out.trans (b.mono B8.out.size)); have HD9 := hide (HD8.out.below' b); have g6 : w9.cell? ⟨w.heap.size, 6, none⟩ = some (.slice A n1 c1) := HA9.out.cell 6; clear b HA8 HR8 HB8 HY8 HN8 B8 HD8)
      gi_wp2_with (gi_at_call 46; refine (liftF HF.out (inverse_no _ _ HN9.out)).mono ?_; rintro e w' ⟨rfl, rfl⟩)
      gi_wp2_with (gi_at_call 47; refine (liftF HF.out (solve_no _ _ _ _ _ HN9.out)).mono ?_; rintro e w10 ⟨rfl, b⟩; clear g6; have HA10 := hide (HA9.out.below' b); have HR10 := hide (HR9.out.below' b); have HB10 := hide (HB9.out.below' b); have HY10 := hide (HY9.out.below b); have HN10 := hide (HN9.out.below b); have B10 := hide (B9.out.trans (b.mono B9.out.size)); have HD10 := hide (HD9.out.below' b); clear b HA9 HR9 HB9 HY9 HN9 B9 HD9)
      gi_wp2_with first
        | (gi_at_call 48; refine (liftF HF.out (rows_no _ _ HN10.out)).mono ?_; rintro e w' ⟨rfl, rfl⟩)
        | (gi_at_call 49; refine (liftF HF.out (cols_no _ _ HN10.out)).mono ?_; rintro e w' ⟨rfl, rfl⟩)
        | (gi_at_call 50; refine (liftF HF.out (rank_no _ _ HN10.out)).mono ?_; rintro e w' ⟨rfl, rfl⟩)
      gi_wp2_with (gi_at_call 51; refine (liftF HF.out (same_no _ _ _ HN10.out)).mono ?_; rintro e w11 ⟨rfl, b⟩; have HA11 := hide (HA10.out.below' b); have HR11 := hide (HR10.out.below' b); have HB11 := hide (HB10.out.below' b); have HY11 := hide (HY10.out.below b); have HN11 := hide (HN10.out.below b); have B11 := hide (B10.out.trans (b.mono B10.out.size)); have HD11 := hide (HD10.out.below' b); clear b HA10 HR10 HB10 HY10 HN10 B10 HD10)
      gi_wp2_with (gi_at_call 51; refine (liftF HF.out (same_no _ _ _ HN11.out)).mono ?_; rintro e w12 ⟨rfl, b⟩; have HA12 := hide (HA11.out.below' b); have HR12 := hide (HR11.out.below' b); have HB12 := hide (HB11.out.below' b); have HY12 := hide (HY11.out.below b); have HN12 := hide (HN11.out.below b); have B12 := hide (B11.out.trans (b.mono B11.out.size)); have HD12 := hide (HD11.out.below' b); clear b HA11 HR11 HB11 HY11 HN11 B11 HD11)
      gi_wp2_with (gi_at_call 51; refine (liftF HF.out (same_no2 _ _ _ HY12.out HN12.out)).mono ?_; rintro e w13 ⟨rfl, b⟩; have HA13 := hide (HA12.out.below' b); have HR13 := hide (HR12.out.below' b); have HB13 := hide (HB12.out.below' b); have HY13 := hide (HY12.out.below b); have HN13 := hide (HN12.out.below b); have B13 := hide (B12.out.trans (b.mono B12.out.size)); have HD13 := hide (HD12.out.below' b); clear b HA12 HR12 HB12 HY12 HN12 B12 HD12)
      gi_wp2_with (gi_at_call 52; refine (liftF HF.out (all_no _ _)).mono ?_; rintro e w14 ⟨rfl, hw9⟩; have b : Below w13.heap.size w13 w14 := (by rw [hw9]; exact (Below.refl _ _).alloc (Nat.le_refl _) _); have CB0 : w14.cell? ⟨w13.heap.size, 0, none⟩ = some (.pointer none) := (by rw [hw9]; exact (Blk.new _ _ _).cell 0); have CL0 : w13.heap.size < w14.heap.size := (by rw [hw9]; simp); clear hw9; have HA14 := hide (HA13.out.below' b); have HR14 := hide (HR13.out.below' b); have HB14 := hide (HB13.out.below' b); have HY14 := hide (HY13.out.below b); have HN14 := hide (HN13.out.below b); have B14 := hide (B13.out.trans (b.mono B13.out.size)); have HD14 := hide (HD13.out.below' b); clear b HA13 HR13 HB13 HY13 HN13 B13 HD13)

      gi_wp2
      apply wpIn_rangeFunc_ownG (α := Unit) (Kp := Below w14.heap.size) (w0 := w14) (N := 0) (S := fun ys => ys = []) (Sp := fun pre => pre <+: []) (encs := fun _ => #[.int .i64 0, .slice none 0 0]) hro (by omega) (gf := 98) (lb := #[.pointer (some ⟨w13.heap.size, 0, none⟩)]) rfl (hfn _) (enters_of Try.func98 (by kernel_rfl) rfl)
        (all1_no F HF.out 7 (by omega) w13.heap.size w14.heap.size (.pointer none) w14 HN14.out CL0 CB0) belowK_t (belowK_b (Nat.le_refl _)) (Below.refl _ _) (fun _ => rfl)
        (fun _ W => Below w14.heap.size w14 W) (fun _ _ _ => False) (ownFrom_below (Nat.le_refl _) (Nat.le_refl _)) (fun _ _ _ _ _ hs _ _ => hs) (Below.refl _ _) _ ?assign ?body ?done ?stop
      case assign =>
        intro l x W K hK
        gi_wp2
        exact hK
      case body =>
        rintro l pre x W _ hlt
        exact absurd hlt (by omega)
      case stop =>
        rintro D c pre W _ _ h _
        exact h.elim
      case done =>
        rintro D1 ys w15 hD1 rfl b HKq
        have hD1w : w.heap.size ≤ D1 := Nat.le_trans B14.out.size hD1
        have HA15 := hide (HA14.out.below' b); have HR15 := hide (HR14.out.below' b); have HB15 := hide (HB14.out.below' b); have HY15 := hide (HY14.out.below b); have HN15 := hide (HN14.out.below b); have B15 := hide (B14.out.trans (b.mono B14.out.size)); have HD15 := hide (HD14.out.below' b); clear b HA14 HR14 HB14 HY14 HN14 B14 HD14
        have HK15 := hide HKq
        clear HKq HN15
        gi_wp2
        have HNO1 : XNo w15 (.pointer (some ⟨w4.heap.size, 0, none⟩)) := .inr ⟨_, rfl, HD15.out.lt, HD15.out.cell 0⟩
        rw [roundsIn_succ]
        have HV15 : w15.cell? ⟨w4.heap.size + 1, 1, none⟩ = some (.pointer (some ⟨w4.heap.size, 0, none⟩)) := HB15.out.cell 1
        have HN15 := hide (show XNo w15 (.pointer (some ⟨w4.heap.size, 0, none⟩)) from HNO1)
        have g4 : w15.cell? ⟨w.heap.size, 4, none⟩ = some (.int .i64 r) := HA15.out.cell 4
        have g5 : w15.cell? ⟨w.heap.size, 5, none⟩ = some (.int .i64 c) := HA15.out.cell 5
        gi_wp2_with (gi_at_call 42; refine (liftF HF.out (at_no _ _ _ _ HN15.out)).mono ?_; rintro e w' ⟨rfl, rfl⟩; clear g4 g5 HV15)
        gi_wp2_with (gi_at_call 43; refine (liftF HF.out (mmul_no _ _ _ HN15.out)).mono ?_; rintro e w16 ⟨rfl, b⟩; have HA16 := hide (HA15.out.below' b); have HR16 := hide (HR15.out.below' b); have HB16 := hide (HB15.out.below' b); have HY16 := hide (HY15.out.below b); have HN16 := hide (HN15.out.below b); have B16 := hide (B15.out.trans (b.mono B15.out.size)); have HD16 := hide (HD15.out.below' b); have HK16 := hide ((b.block D1 (Array.getElem?_eq_some_iff.1 HK15.out).1).trans HK15.out); clear b HA15 HR15 HB15 HY15 HN15 B15 HD15 HK15)
        gi_wp2_with (gi_at_call 43; refine (liftF HF.out (mmul_no2 _ _ _ HY16.out HN16.out)).mono ?_; rintro e w17 ⟨rfl, b⟩; have HA17 := hide (HA16.out.below' b); have HR17 := hide (HR16.out.below' b); have HB17 := hide (HB16.out.below' b); have HY17 := hide (HY16.out.below b); have HN17 := hide (HN16.out.below b); have B17 := hide (B16.out.trans (b.mono B16.out.size)); have HD17 := hide (HD16.out.below' b); have HK17 := hide ((b.block D1 (Array.getElem?_eq_some_iff.1 HK16.out).1).trans HK16.out); have g6 : w17.cell? ⟨w.heap.size, 6, none⟩ = some (.slice A n1 c1) := HA17.out.cell 6; clear b HA16 HR16 HB16 HY16 HN16 B16 HD16 HK16)
        gi_wp2_with (gi_at_call 44; refine (liftF HF.out (times_no _ _ _ _ _ HN17.out)).mono ?_; rintro e w18 ⟨rfl, b⟩; clear g6; have HA18 := hide (HA17.out.below' b); have HR18 := hide (HR17.out.below' b); have HB18 := hide (HB17.out.below' b); have HY18 := hide (HY17.out.below b); have HN18 := hide (HN17.out.below b); have B18 := hide (B17.out.trans (b.mono B17.out.size)); have HD18 := hide (HD17.out.below' b); have HK18 := hide ((b.block D1 (Array.getElem?_eq_some_iff.1 HK17.out).1).trans HK17.out); have g7 : w18.cell? ⟨w.heap.size, 7, none⟩ = some (.slice B n2 c2) := HA18.out.cell 7; clear b HA17 HR17 HB17 HY17 HN17 B17 HD17 HK17)
        gi_wp2_with (gi_at_call 45; refine (liftF HF.out (pick_no _ _ _ _ _ HN18.out)).mono ?_; rintro e w19 ⟨rfl, b⟩; clear g7; have HA19 := hide (HA18.out.below' b); have HR19 := hide (HR18.out.below' b); have HB19 := hide (HB18.out.below' b); have HY19 := hide (HY18.out.below b); have HN19 := hide (HN18.out.below b); have B19 := hide (B18.out.trans (b.mono B18.out.size)); have HD19 := hide (HD18.out.below' b); have HK19 := hide ((b.block D1 (Array.getElem?_eq_some_iff.1 HK18.out).1).trans HK18.out); have g6 : w19.cell? ⟨w.heap.size, 6, none⟩ = some (.slice A n1 c1) := HA19.out.cell 6; clear b HA18 HR18 HB18 HY18 HN18 B18 HD18 HK18)
        gi_wp2_with (gi_at_call 46; refine (liftF HF.out (inverse_no _ _ HN19.out)).mono ?_; rintro e w' ⟨rfl, rfl⟩)
        gi_wp2_with (gi_at_call 47; refine (liftF HF.out (solve_no _ _ _ _ _ HN19.out)).mono ?_; rintro e w20 ⟨rfl, b⟩; clear g6; have HA20 := hide (HA19.out.below' b); have HR20 := hide (HR19.out.below' b); have HB20 := hide (HB19.out.below' b); have HY20 := hide (HY19.out.below b); have HN20 := hide (HN19.out.below b); have B20 := hide (B19.out.trans (b.mono B19.out.size)); have HD20 := hide (HD19.out.below' b); have HK20 := hide ((b.block D1 (Array.getElem?_eq_some_iff.1 HK19.out).1).trans HK19.out); clear b HA19 HR19 HB19 HY19 HN19 B19 HD19 HK19)
        gi_wp2_with first
          | (gi_at_call 48; refine (liftF HF.out (rows_no _ _ HN20.out)).mono ?_; rintro e w' ⟨rfl, rfl⟩)
          | (gi_at_call 49; refine (liftF HF.out (cols_no _ _ HN20.out)).mono ?_; rintro e w' ⟨rfl, rfl⟩)
          | (gi_at_call 50; refine (liftF HF.out (rank_no _ _ HN20.out)).mono ?_; rintro e w' ⟨rfl, rfl⟩)
        gi_wp2_with (gi_at_call 51; refine (liftF HF.out (same_no _ _ _ HN20.out)).mono ?_; rintro e w21 ⟨rfl, b⟩; have HA21 := hide (HA20.out.below' b); have HR21 := hide (HR20.out.below' b); have HB21 := hide (HB20.out.below' b); have HY21 := hide (HY20.out.below b); have HN21 := hide (HN20.out.below b); have B21 := hide (B20.out.trans (b.mono B20.out.size)); have HD21 := hide (HD20.out.below' b); have HK21 := hide ((b.block D1 (Array.getElem?_eq_some_iff.1 HK20.out).1).trans HK20.out); clear b HA20 HR20 HB20 HY20 HN20 B20 HD20 HK20)
        gi_wp2_with (gi_at_call 51; refine (liftF HF.out (same_no _ _ _ HN21.out)).mono ?_; rintro e w22 ⟨rfl, b⟩; have HA22 := hide (HA21.out.below' b); have HR22 := hide (HR21.out.below' b); have HB22 := hide (HB21.out.below' b); have HY22 := hide (HY21.out.below b); have HN22 := hide (HN21.out.below b); have B22 := hide (B21.out.trans (b.mono B21.out.size)); have HD22 := hide (HD21.out.below' b); have HK22 := hide ((b.block D1 (Array.getElem?_eq_some_iff.1 HK21.out).1).trans HK21.out); clear b HA21 HR21 HB21 HY21 HN21 B21 HD21 HK21)
        gi_wp2_with (gi_at_call 51; refine (liftF HF.out (same_no2 _ _ _ HY22.out HN22.out)).mono ?_; rintro e w23 ⟨rfl, b⟩; have HA23 := hide (HA22.out.below' b); have HR23 := hide (HR22.out.below' b); have HB23 := hide (HB22.out.below' b); have HY23 := hide (HY22.out.below b); have HN23 := hide (HN22.out.below b); have B23 := hide (B22.out.trans (b.mono B22.out.size)); have HD23 := hide (HD22.out.below' b); have HK23 := hide ((b.block D1 (Array.getElem?_eq_some_iff.1 HK22.out).1).trans HK22.out); clear b HA22 HR22 HB22 HY22 HN22 B22 HD22 HK22)
        gi_wp2_with (gi_at_call 52; refine (liftF HF.out (all_no _ _)).mono ?_; rintro e w24 ⟨rfl, hw9⟩; have b : Below w23.heap.size w23 w24 := (by rw [hw9]; exact (Below.refl _ _).alloc (Nat.le_refl _) _); have CB1 : w24.cell? ⟨w23.heap.size, 0, none⟩ = some (.pointer (some ⟨w4.heap.size, 0, none⟩)) := (by rw [hw9]; exact (Blk.new _ _ _).cell 0); have CL1 : w23.heap.size < w24.heap.size := (by rw [hw9]; simp); clear hw9; have HA24 := hide (HA23.out.below' b); have HR24 := hide (HR23.out.below' b); have HB24 := hide (HB23.out.below' b); have HY24 := hide (HY23.out.below b); have HN24 := hide (HN23.out.below b); have B24 := hide (B23.out.trans (b.mono B23.out.size)); have HD24 := hide (HD23.out.below' b); have HK24 := hide ((b.block D1 (Array.getElem?_eq_some_iff.1 HK23.out).1).trans HK23.out); clear b HA23 HR23 HB23 HY23 HN23 B23 HD23 HK23)
        gi_wp2
        apply wpIn_rangeFunc_ownG (α := Unit) (Kp := Below w24.heap.size) (w0 := w24) (N := 0) (S := fun ys => ys = []) (Sp := fun pre => pre <+: []) (encs := fun _ => #[.int .i64 0, .slice none 0 0]) hro (by omega) (gf := 98) (lb := #[.pointer (some ⟨w23.heap.size, 0, none⟩)]) rfl (hfn _) (enters_of Try.func98 (by kernel_rfl) rfl)
          (all1_no F HF.out 7 (by omega) w23.heap.size w24.heap.size (.pointer (some ⟨w4.heap.size, 0, none⟩)) w24 HN24.out CL1 CB1) belowK_t (belowK_b (Nat.le_refl _)) (Below.refl _ _) (fun _ => rfl)
          (fun _ W => Below w24.heap.size w24 W) (fun _ _ _ => False) (ownFrom_below (Nat.le_refl _) (Nat.le_refl _)) (fun _ _ _ _ _ hs _ _ => hs) (Below.refl _ _) _ ?assign ?body ?done ?stop
        case assign =>
          intro l x W K hK
          gi_wp2
          exact hK
        case body =>
          rintro l pre x W _ hlt
          exact absurd hlt (by omega)
        case stop =>
          rintro D c pre W _ _ h _
          exact h.elim
        case done =>
          rintro D2 ys w25 hD2 rfl b HKr
          have hD12 : D1 < D2 := Nat.lt_of_lt_of_le (Array.getElem?_eq_some_iff.1 HK24.out).1 hD2
          have hD2w : w.heap.size ≤ D2 := Nat.le_trans B24.out.size hD2
          have HA25 := hide (HA24.out.below' b); have HR25 := hide (HR24.out.below' b); have HB25 := hide (HB24.out.below' b); have HY25 := hide (HY24.out.below b); have HN25 := hide (HN24.out.below b); have B25 := hide (B24.out.trans (b.mono B24.out.size)); have HD25 := hide (HD24.out.below' b); have HK25 := hide ((b.block D1 (Array.getElem?_eq_some_iff.1 HK24.out).1).trans HK24.out); clear b HA24 HR24 HB24 HY24 HN24 B24 HD24 HK24
          have g2 : w25.cell? ⟨w.heap.size + 1, 0, none⟩ = some (.bool false) := HR25.out.cell 0
          have g3 : w25.frozen? ⟨w.heap.size + 1, 0, none⟩ = false := HR25.out.frozen 0
          gi_wp2
          rw [roundsIn_succ]
          gi_wp2
          have hRf : Blk (w25.setCell ⟨w.heap.size + 1, 0, none⟩ (.bool true)) (w.heap.size + 1) 4 #[.bool true] := HR25.out.set_ 0 _
          have hne2 : D2 ≠ w.heap.size + 1 := fun e => by have h := HR25.out; unfold Blk at h; rw [← e, HKr] at h; cases h
          have hne1 : D1 ≠ w.heap.size + 1 := fun e => by have h := HR25.out; unfold Blk at h; rw [← e, HK25.out] at h; cases h
          have hk2 : (w25.setCell ⟨w.heap.size + 1, 0, none⟩ (.bool true)).heap[D2]? = some (.deferred (some [])) := (Below.heap_setCell w25 ⟨w.heap.size + 1, 0, none⟩ _ D2 hne2).trans HKr
          have hk1 : (w25.setCell ⟨w.heap.size + 1, 0, none⟩ (.bool true)).heap[D1]? = some (.deferred (some [])) := (Below.heap_setCell w25 ⟨w.heap.size + 1, 0, none⟩ _ D1 hne1).trans HK25.out
          have hbf : Below w.heap.size w (w25.setCell ⟨w.heap.size + 1, 0, none⟩ (.bool true)) := B25.out.setCell (p := ⟨w.heap.size + 1, 0, none⟩) (by simp) _
          generalize w25.setCell ⟨w.heap.size + 1, 0, none⟩ (.bool true) = Wf at *
          have hk1' : (Wf.putObj D2 (.deferred none)).heap[D1]? = some (.deferred (some [])) := ((grownBy_putObj' Wf D2 (.deferred none)).block D1 (Array.getElem?_eq_some_iff.1 hk1).1 (fun e => by cases e; omega)).trans hk1
          have hr2 := (hRf.grown (grownBy_putObj' Wf D2 (.deferred none)) (fun e => by injection e with e; omega)).grown (grownBy_putObj' _ D1 (.deferred none)) (fun e => by injection e with e; omega)
          have hb2 := (hbf.grown (grownBy_putObj' Wf D2 (.deferred none)) hbf.size (fun k hk => by cases hk; omega))
          have hb3 := (hb2.grown (grownBy_putObj' _ D1 (.deferred none)) hb2.size (fun k hk => by cases hk; omega))
          have hcf := hr2.cell 0
          refine ⟨by simp, .inl ⟨_, _, rfl, run_takeDeferred hk2, by simp, .inl ⟨_, _, rfl, run_takeDeferred hk1', ?_⟩⟩⟩
          exact ⟨.bool true, by simp [results, Try.results8, go_sem, hcf], rfl, hb3⟩

theorem law_mnone (k i0 j p r c : Int) (A : Option Addr) (n1 c1 : Nat) (B : Option Addr) (n2 c2 : Nat) (w : World) :
    Calls Try.prog 8 #[.agg #[.int .i64 k, .int .i64 i0, .int .i64 j, .int .i64 p, .int .i64 r, .int .i64 c, .slice A n1 c1, .slice B n2 c2]] w fun e w' => e = .returned (.bool true) ∧ Below w.heap.size w w' :=
  callsIn_wide.1 (none_in Fence.wide rfl k i0 j p r c A n1 c1 B n2 c2 w)
end Go.Proofs.Ytoaaplngdomdcaa
