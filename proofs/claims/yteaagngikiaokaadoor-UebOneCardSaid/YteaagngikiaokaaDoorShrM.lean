/- Joined texts: ShrA, ShrB, ShrC, ShrD. -/
import Derived.Test.YteaagngikiaokaaDoorCutM
import Derived.RangeFuncBox
import Derived.RangeFuncLeaves
import Derived.Shelf.Abstract
import Derived.WalkKit
import Derived.OwnWalkIn
import Derived.TacticsInMore
import Derived.LoopNIn
import Derived.LoopIn
import Derived.Maps.AppendAt

/- Contracts of the program's trees' widths, of the nodes beside the way from leaf 0 up, which is a range over a function. -/
namespace Go.Proofs.YteaagngikiaokaaDoor
open Go.RowKit Go.Shelf

def wd : Nat → Nat → Nat → Nat
  | 0, x, _ => x
  | f + 1, x, n => if x < n then wd f (x * 2) n else x
def wid (n : Nat) : Nat := wd 9 1 n
theorem wd_le : ∀ (f x n : Nat), wd f x n ≤ x * 2 ^ f
  | 0, x, n => by simp [wd]
  | f + 1, x, n => by
    unfold wd
    split
    · have := wd_le f (x * 2) n
      rw [Nat.mul_assoc, ← Nat.pow_succ'] at this
      exact this
    · exact Nat.le_mul_of_pos_right _ (Nat.pow_pos (by omega))
theorem wd_pos : ∀ (f x n : Nat), 1 ≤ x → 1 ≤ wd f x n
  | 0, x, n, h => by simpa [wd] using h
  | f + 1, x, n, h => by
    unfold wd
    split
    · exact wd_pos f (x * 2) n (by omega)
    · exact h
theorem wid_le (n : Nat) : wid n ≤ 512 := wd_le 9 1 n
theorem wid_pos (n : Nat) : 1 ≤ wid n := wd_pos 9 1 n (by omega)

set_option maxRecDepth 100000 in
set_option maxHeartbeats 400000 in
theorem width_any (n : Nat) (w : World) (h : 1 ≤ n ∧ n ≤ 512) :
    Calls Tryd.prog 90 #[.int .i64 (n : Int)] w fun e w' => e = .returned (.tuple #[.int .i64 (wid n : Int), .int .i64 0]) ∧ w = w' := by
  have h1 : ¬ (n : Int) < 1 := by omega
  have h2 : ¬ 512 < (n : Int) := by omega
  go_enter Tryd.func90, Tryd.ntmps90
  go_wp2
  go_loopw [4] (fun u4 wr => ∃ f x : Nat, u4 = .int .i64 (x : Int) ∧ x * 2 ^ f = 512 ∧ 1 ≤ x ∧ wd f x n = wid n ∧ wr = w) (fun i _ => 1024 - (intOf i).toNat)
  case atStart => exact ⟨9, 1, rfl, by decide, by omega, rfl, rfl⟩
  case round =>
    obtain ⟨f, x, rfl, hf, hx, hw, rfl⟩ := hrel
    by_cases hlt : x < n
    · obtain ⟨g, rfl⟩ : ∃ g, f = g + 1 := by
        rcases f with _ | g
        · rw [Nat.pow_zero] at hf; omega
        · exact ⟨g, rfl⟩
      have i1 : (x : Int) < (n : Int) := by omega
      have e2 : IntKind.i64.wrap ((x : Int) * 2) = ((x * 2 : Nat) : Int) := by rw [IntWalk.i64_in _ (by omega)]; omega
      go_wp2
      go_roundw
      case rel => exact ⟨g, x * 2, by go_num, by rw [Nat.mul_assoc, ← Nat.pow_succ']; exact hf, by omega, by rw [← hw]; simp [wd, hlt], trivial⟩
      case measure => simp [intOf]; omega
    · have i1 : (n : Int) ≤ (x : Int) := by omega
      have e2 : x = wid n := by
        rw [← hw]
        rcases f with _ | f
        · rfl
        · simp [wd, hlt]
      go_wp2
      go_ret2
      exact ⟨by rw [e2]; rfl, rfl⟩

set_option maxRecDepth 100000 in
set_option maxHeartbeats 400000 in
theorem nodes_any (n : Nat) (w : World) (h : 1 ≤ n ∧ n ≤ 512) :
    Calls Tryd.prog 84 #[.int .i64 (n : Int)] w fun e w' => e = .returned (.int .i64 (2 * (wid n : Int) - 1)) ∧ w = w' := by
  have Q := hide (width_any n w h)
  have h1 := wid_le n
  have h2 := wid_pos n
  generalize wid n = m at *
  go_enter Tryd.func84, Tryd.ntmps84
  go_wp2_with fail
  refine Q.out.mono ?_
  rintro e w1 ⟨rfl, rfl⟩
  go_wp2
  go_ret
  exact ⟨by go_num, rfl⟩

set_option maxRecDepth 100000 in
set_option maxHeartbeats 400000 in
theorem node_any (n : Nat) (w : World) (h : 1 ≤ n ∧ n ≤ 512) :
    Calls Tryd.prog 88 #[.int .i64 (n : Int), .int .i64 0] w fun e w' => e = .returned (.tuple #[.int .i64 (wid n : Int), .int .i64 0]) ∧ w = w' := by
  have Q := hide (width_any n w h)
  have h1 := wid_le n
  have h2 := wid_pos n
  have i1 : ¬ (n : Int) ≤ 0 := by omega
  have i2 : 0 < (n : Int) := by omega
  generalize wid n = m at *
  go_enter Tryd.func88, Tryd.ntmps88
  go_wp2_with fail
  refine Q.out.mono ?_
  rintro e w1 ⟨rfl, rfl⟩
  go_wp2
  go_ret2
  exact ⟨rfl, rfl⟩

set_option maxRecDepth 100000 in
set_option maxHeartbeats 400000 in
theorem up_tree (n : Nat) (w : World) (h : 1 ≤ n ∧ n ≤ 512) :
    Calls Tryd.prog 89 #[.int .i64 (n : Int), .int .i64 0] w fun e w' => e = .returned (.func (.func 100) #[] #[.pointer (some ⟨w.heap.size, 0, none⟩)]) ∧ w' = w.alloc (.cells #[.int .i64 (wid n : Int)] 3) := by
  have Q := hide (node_any n w h)
  have h1 := wid_le n
  have h2 := wid_pos n
  generalize wid n = m at *
  go_enter Tryd.func89, Tryd.ntmps89
  go_wp2_with fail
  refine Q.out.mono ?_
  rintro e w1 ⟨rfl, rfl⟩
  go_wp2
  go_ret
  exact ⟨rfl, rfl⟩
end Go.Proofs.YteaagngikiaokaaDoor

/- The contract of the program's Chain for leaf 0: a range over a function. -/
namespace Go.Proofs.YteaagngikiaokaaDoor
open Go.RowKit Go.Shelf
attribute [local go_sem] Oper.semAt_some

def ups : Nat → Nat → List Nat
  | 0, _ => []
  | f + 1, x => if 1 ≤ x then x :: ups f (x / 2) else []
theorem ups_length : ∀ (f x : Nat), (ups f x).length ≤ f
  | 0, _ => Nat.le_refl _
  | f + 1, x => by
    unfold ups
    split
    · have := ups_length f (x / 2)
      simp only [List.length_cons]
      omega
    · simp

set_option maxRecDepth 100000 in
set_option maxHeartbeats 1000000 in
theorem up1_in (F : Fence) (n : Nat) (h6 : F.fn 100) (hro : F.round = none) (hn : 1 ≤ n) (l Bn n₀ : Nat) (from_ : Nat) (hfrom : from_ < 2 ^ 10) (U : List Nat) (hU : U = ups 10 from_) (J Jx : List Nat → World → Prop)
    (hY : ∀ (pre : List Nat) (x : Nat) (W : World), J pre W → pre.length < (U).length → YieldAt F (n - 1) Tryd.prog l #[.int .i64 (x : Int)] W fun e W' =>
      (e = .returned (.bool true) ∧ J (pre ++ [x]) W' ∧ Below n₀ W W') ∨ (e = .returned (.bool false) ∧ Jx (pre ++ [x]) W'))
    (W : World) (hBn : W.cell? ⟨Bn, 0, none⟩ = some (.int .i64 (from_ : Int))) (h0 : J [] W) :
    CallsIn F n Tryd.prog 100 #[.func (.yield l) #[] #[], .pointer (some ⟨Bn, 0, none⟩)] W fun e W' => (∃ v, e = .returned v) ∧
      ((∃ ys, ys = U ∧ J ys W') ∨ (∃ pre, pre <+: U ∧ Jx pre W')) := by
  refine callsIn_of_wp Tryd.func100 rfl h6 ?_ hro
  simp only [Tryd.ntmps100, List.size_toArray, List.length_cons, List.length_nil, Nat.reduceAdd, Nat.reduceSub, Array.replicate_succ, Array.replicate_zero, List.push_toArray, List.append_toArray, List.nil_append, List.cons_append]
  gi_wp2
  gi_loopw [3] (fun p wr => ∃ (pre : List Nat) (f x : Nat), p = .int .i64 (x : Int) ∧ U = pre ++ ups f x ∧ x < 2 ^ f ∧ f ≤ 10 ∧ J pre wr)
    (fun p _ => (intOf p).toNat)
  case atStart =>
    exact ⟨[], 10, from_, rfl, by rw [List.nil_append]; exact hU, hfrom, Nat.le_refl _, h0⟩
  case round =>
    obtain ⟨pre, f, x, rfl, hx, hxf, hf10, hJs⟩ := hrel
    by_cases h1 : 1 ≤ x
    · obtain ⟨g, rfl⟩ : ∃ g, f = g + 1 := by
        rcases f with _ | g
        · rw [Nat.pow_zero] at hxf; omega
        · exact ⟨g, rfl⟩
      have hx2 : U = (pre ++ [x]) ++ ups g (x / 2) := by
        rw [hx, show ups (g + 1) x = x :: ups g (x / 2) by simp [ups, h1], List.append_assoc]; rfl
      have hx3 : x / 2 < 2 ^ g := by rw [Nat.pow_succ] at hxf; omega
      have hx4 : 2 ^ (g + 1) ≤ 2 ^ 10 := Nat.pow_le_pow_right (by omega) hf10
      have i1 : 1 ≤ (x : Int) := by omega
      have e2 : wrap64 ((x : Int) / 2) = ((x / 2 : Nat) : Int) := by
        rw [show (x : Int) / 2 = ((x / 2 : Nat) : Int) by omega]
        exact wrap64_nat (x / 2) (by omega)
      have HE := hide e2
      obtain ⟨fn, tmps, assign, body, hy, hR⟩ := hY pre x wr hJs (by rw [hx2]; simp)
      have HX := hide (And.intro hx (And.intro hx2 (And.intro hx3 (And.intro hxf hx4))))
      clear hx hx2 hx3 hxf hx4
      gi_wp2
      refine hR.mono ?_
      rintro e W3 (⟨rfl, hJ3, hk3⟩ | ⟨rfl, hJx3⟩)
      · gi_wp2
        go_roundw
        case rel => exact ⟨pre ++ [x], g, x / 2, by simp only [HE.out], HX.out.2.1, HX.out.2.2.1, by omega, hJ3⟩
        case measure =>
          have HM : ∀ y : Int, y = ((x / 2 : Nat) : Int) → (intOf (.int .i64 y)).toNat < (intOf (.int .i64 (x : Int))).toNat := fun y hy => by
            subst hy
            simp only [intOf]
            omega
          exact HM _ HE.out
      · gi_wp2
        refine bodyPost_ret (results_none rfl _ _ _) rfl ?_
        exact ⟨⟨_, rfl⟩, .inr ⟨pre ++ [x], ⟨ups g (x / 2), HX.out.2.1.symm⟩, hJx3⟩⟩
    · have i1 : ¬ 1 ≤ (x : Int) := by omega
      have hx0 : x = 0 := by omega
      subst hx0
      clear hY
      have hnil : ups f 0 = [] := by rcases f with _ | f <;> simp [ups]
      rw [hnil, List.append_nil] at hx
      gi_wp2
      go_end0
      exact ⟨⟨_, rfl⟩, .inl (by rw [← hU, hx]; exact hJs)⟩

theorem up1_stops (F : Fence) (n : Nat) (h6 : F.fn 100) (hro : F.round = none) (hn : 1 ≤ n) (Bn n₀ : Nat) (from_ : Nat) (hfrom : from_ < 2 ^ 10) (w : World) (hBn : Bn < w.heap.size)
    (hc : w.cell? ⟨Bn, 0, none⟩ = some (.int .i64 (from_ : Int))) :
    SeqStopsK F n Tryd.prog 100 #[.pointer (some ⟨Bn, 0, none⟩)] (fun x : Nat => #[Value.int .i64 (x : Int)]) (Below n₀) (fun ys => ys = ups 10 from_) (fun pre => pre <+: ups 10 from_) (ups 10 from_).length w := fun l J Jx W hW _ _ hY h0 =>
  up1_in F n h6 hro hn l Bn n₀ from_ hfrom _ rfl J Jx hY W ((hW.cell (p := ⟨Bn, 0, none⟩) hBn).trans hc) h0
end Go.Proofs.YteaagngikiaokaaDoor

/- The contract of the program's Chain for leaf 0: a range over a function. -/
namespace Go.Proofs.YteaagngikiaokaaDoor
open Go.RowKit Go.Shelf
attribute [local go_sem] Oper.semAt_some

/-- The numbers above 1. -/
def abv (l : List Nat) : List Nat := l.filter fun x => decide (1 < x)
theorem abv_hit (pre : List Nat) {x : Nat} (h : 1 < x) : abv (pre ++ [x]) = abv pre ++ [x] := by simp [abv, h]
theorem abv_miss (pre : List Nat) {x : Nat} (h : ¬ 1 < x) : abv (pre ++ [x]) = abv pre := by simp [abv, h]
def chainLen (n : Nat) : Nat := (abv (ups 10 (wid n))).length
theorem chainLen_le (n : Nat) : chainLen n ≤ 10 := Nat.le_trans (List.length_filter_le _ _) (ups_length _ _)
/-- The brother's number. -/
def xr (x : Nat) : Value := .int .i64 (bits BinOp.xor IntKind.i64 (x : Int) 1)
theorem infoInt : (Tryd.prog.info? 3).map (fun i => (i.zero, i.size, i.bytes)) = some (some (.int .i64 0), 1, 8) := by kernel_rfl

set_option maxRecDepth 100000 in
set_option maxHeartbeats 1000000 in
theorem chain_in (F : Fence) (hF : F = Fence.wide) (n : Nat) (h : 1 ≤ n ∧ n ≤ 512) (w : World) :
    CallsIn F 5 Tryd.prog 83 #[.int .i64 (n : Int), .int .i64 0] w fun e W' => ∃ A c, e = .returned (.tuple #[.slice A (chainLen n) c, .int .i64 0]) ∧ Below w.heap.size w W' := by
  have hch : F.fn 83 := by rw [hF]; trivial
  have hnode : F.fn 88 := by rw [hF]; trivial
  have hup : F.fn 89 := by rw [hF]; trivial
  have hup1 : F.fn 100 := by rw [hF]; trivial
  have hro : F.round = none := by rw [hF]; rfl
  have q1 : ∀ m w, CallsIn F m Tryd.prog 88 #[.int .i64 (n : Int), .int .i64 0] w fun e w' => e = .returned (.tuple #[.int .i64 (wid n : Int), .int .i64 0]) ∧ w = w' := by
    subst hF; exact fun m w => callsIn_wide.2 (node_any n w h)
  have q2 : ∀ m w, CallsIn F m Tryd.prog 89 #[.int .i64 (n : Int), .int .i64 0] w fun e w' => e = .returned (.func (.func 100) #[] #[.pointer (some ⟨w.heap.size, 0, none⟩)]) ∧ w' = w.alloc (.cells #[.int .i64 (wid n : Int)] 3) := by
    subst hF; exact fun m w => callsIn_wide.2 (up_tree n w h)
  clear hF
  have hw1 := wid_le n
  have hw2 := wid_pos n
  unfold chainLen
  generalize wid n = m at *
  obtain ⟨i0, hi, hz0, hz1, hz2⟩ := info_parts infoInt
  refine callsIn_of_wp_marks Tryd.func83 rfl hch ?_ hro
  simp only [Tryd.ntmps83, List.size_toArray, List.length_cons, List.length_nil, Nat.reduceAdd, Nat.reduceSub, Array.replicate_succ, Array.replicate_zero, List.push_toArray, List.append_toArray, List.nil_append, List.cons_append]
  gi_wp2_with (gi_at_call 88; refine (q1 _ _).mono ?_; rintro e w' ⟨rfl, rfl⟩)
  gi_wp2_with (gi_at_call 89; refine (q2 _ _).mono ?_; rintro e w' ⟨rfl, rfl⟩)
  have bO := Boxed.new w 57 (.slice none 0 0)
  have bN := Boxed.new (w.alloc (.cells #[.slice none 0 0] 57)) 3 (.int .i64 (m : Int))
  rw [World.size_alloc] at bN
  have hB0 : Below w.heap.size w ((w.alloc (.cells #[.slice none 0 0] 57)).alloc (.cells #[.int .i64 (m : Int)] 3)) := ((Below.refl _ w).alloc (Nat.le_refl _) _).alloc (by simp) _
  have hlen := ups_length 10 m
  have hml : 20 ≤ maxLen := by unfold maxLen; omega
  refine wpIn_rangeFunc_ownG hro (by omega) (gf := 100) (lb := #[.pointer (some ⟨w.heap.size + 1, 0, none⟩)]) rfl hup1 (enters_of Tryd.func100 (by kernel_rfl) rfl)
    (up1_stops F 4 hup1 hro (by omega) (w.heap.size + 1) w.heap.size m (by omega) _ (by simp) bN.cell) belowK_t (belowK_b (by simp; omega)) (Below.refl _ _) (fun _ => rfl)
    (fun pre W => (∃ v, Boxed W w.heap.size 57 v ∧ W.ownsRow w.heap.size 3 1 v (abv pre).length ((abv pre).map xr) ∧ True) ∧ Below w.heap.size w W)
    (fun _ _ _ => False)
    (OwnFrom.and (Own.from (holdsRow_own w.heap.size w.heap.size 57 3 1 (fun pre => (abv pre).length) (fun pre => (abv pre).map xr) (fun _ _ => True)) _) (ownFrom_below (Nat.le_refl _) (by simp; omega)))
    (fun _ _ _ _ _ hs _ _ => hs)
    ⟨⟨_, bO.alloc _, World.ownsRow_nil _ _ _ _, trivial⟩, hB0⟩
    (fun x => { tmps := #[.int .i64 (n : Int), .int .i64 0, undef, undef, .slice none 0 0, .int .i64 0, .int .i64 (m : Int), .int .i64 0, .pointer (some ⟨w.heap.size, 0, none⟩), .int .i64 (x : Int), .tuple #[.int .i64 (m : Int), .int .i64 0], .int .i64 (n : Int), .int .i64 0, .tuple #[.int .i64 (m : Int), .int .i64 0], .int .i64 (m : Int), .int .i64 0, .int .i64 0, .bool false, undef, .int .i64 (n : Int), .int .i64 0, .func (.func 100) #[] #[.pointer (some ⟨w.heap.size + 1, 0, none⟩)], .int .i64 (x : Int), undef, undef, undef, undef, undef, undef, undef, undef], defers := [] }) ?assign ?body ?done ?stop
  case assign =>
    intro l x W K hK
    gi_wp2
    exact hK
  case body =>
    rintro l pre x W ⟨⟨v, hv, hrow, -⟩, hB⟩ hlt
    have hc := hv.cell
    have hpl : (abv pre).length ≤ pre.length := List.length_filter_le _ _
    gi_wp2_with (gi_at_builtin; refine wpListIn_append_own _ rfl _ _ 57 rfl w.heap.size 3 i0 (.int .i64 0) 1 8 Tryd.underlying57 hi hz0 hz1 hz2 rfl (by decide) _ _ _ rfl (hrow.alloc _) ⟨W.heap.size, 0, none⟩ 1 1 [xr x] rfl rfl (cell_one_new _ _ _) (by simp [Value.oneCell', xr]) (by omega) (by omega) (by have := hB.size; simp; omega) ?_; intro v' w1 hown' hgrow _; obtain ⟨g', cap', rfl⟩ := ownsRow_succ hown'; obtain ⟨hv1, hv2, hr2, hk2, hb2⟩ := hv.appended (by decide) hrow hB.size (Nat.le_refl _) hown' hgrow; have hc1 := hv1.cell; have hf1 := hv1.frozen)
    · have hx : 1 < x := by omega
      exact ⟨hk2.from _, hb2, ⟨_, hv2, by rw [abv_hit pre hx]; simpa using hr2, trivial⟩, hB.trans hb2⟩
    · have hx : ¬ 1 < x := by omega
      exact ⟨KeepsFrom.refl _ _, Below.refl _ _, ⟨v, hv, by rw [abv_miss pre hx]; exact hrow, trivial⟩, hB⟩
  case done =>
    rintro D ys W hD rfl ⟨⟨v, hv, hrow, -⟩, hB⟩ hK
    have hc := hv.cell
    gi_wp2
    refine ⟨by simp, .inl ⟨_, _, rfl, run_takeDeferred hK, ?_⟩⟩
    have hv' : ∃ A c, v = .slice A (abv (ups 10 m)).length c := by
      rcases hrow.2 with ⟨rfl, h0⟩ | ⟨g, cap, cur, rfl, _⟩
      · exact ⟨none, 0, by rw [h0]⟩
      · exact ⟨_, _, rfl⟩
    obtain ⟨A, c, rfl⟩ := hv'
    exact ⟨_, results_tmp2 rfl _ _ _, A, c, rfl, hB.trans (belowK_b (w := w) (Nat.le_refl _) W D _ _ (by simp at hD; omega) hK rfl rfl)⟩
  case stop =>
    rintro D c pre W _ _ h _
    exact h.elim

theorem chain_any (n : Nat) (w : World) (h : 1 ≤ n ∧ n ≤ 512) :
    Calls Tryd.prog 83 #[.int .i64 (n : Int), .int .i64 0] w fun e W' => ∃ A c, e = .returned (.tuple #[.slice A (chainLen n) c, .int .i64 0]) ∧ Below w.heap.size w W' :=
  callsIn_wide.1 (chain_in Fence.wide rfl n h w)
end Go.Proofs.YteaagngikiaokaaDoor

/- Contracts of Fits, size and BlockSize, at shapes that fit and at the shape of noughts. -/
namespace Go.Proofs.YteaagngikiaokaaDoor
open Go.RowKit

/-- A shape's value. -/
def shV (a b c d e f g h : Int) : Value := .agg #[.int .i64 a, .int .i64 b, .int .i64 c, .int .i64 d, .int .i64 e, .int .i64 f, .int .i64 g, .int .i64 h]
/-- A shape that Again gives back. -/
def Sits (a b c d e f g h : Int) : Prop := ∀ w, Calls Tryd.prog 54 #[.int .i64 a, .int .i64 b, .int .i64 c, .int .i64 d] w fun x w' => Below w.heap.size w w' ∧ x = .returned (.tuple #[.agg #[.int .i64 a, .int .i64 b, .int .i64 c, .int .i64 d, .int .i64 e, .int .i64 f, .int .i64 g, .int .i64 h], .int .i64 0])

set_option maxRecDepth 100000 in
set_option maxHeartbeats 1000000 in
theorem fits_ok (a b c d e f g h : Int) (w : World) (q : Sits a b c d e f g h) :
    Calls Tryd.prog 76 #[.agg #[.int .i64 a, .int .i64 b, .int .i64 c, .int .i64 d, .int .i64 e, .int .i64 f, .int .i64 g, .int .i64 h]] w fun x w' => Below w.heap.size w w' ∧ x = .returned (.bool true) := by
  have Q := hide q
  clear q
  go_enter Tryd.func76, Tryd.ntmps76
  go_wp2_with fail
  refine (Q.out _).mono ?_
  rintro x w1 ⟨b1, rfl⟩
  have B1 := hide (((Below.refl w.heap.size w).alloc (Nat.le_refl _) _).trans (b1.mono (by simp)))
  have HB := (Blk.new w 60 #[.int .i64 a, .int .i64 b, .int .i64 c, .int .i64 d, .int .i64 e, .int .i64 f, .int .i64 g, .int .i64 h]).below' b1
  have c0 : w1.cell? ⟨w.heap.size, 0, none⟩ = some (.int .i64 a) := HB.cell 0
  have c1 : w1.cell? ⟨w.heap.size, 1, none⟩ = some (.int .i64 b) := HB.cell 1
  have c2 : w1.cell? ⟨w.heap.size, 2, none⟩ = some (.int .i64 c) := HB.cell 2
  have c3 : w1.cell? ⟨w.heap.size, 3, none⟩ = some (.int .i64 d) := HB.cell 3
  have c4 : w1.cell? ⟨w.heap.size, 4, none⟩ = some (.int .i64 e) := HB.cell 4
  have c5 : w1.cell? ⟨w.heap.size, 5, none⟩ = some (.int .i64 f) := HB.cell 5
  have c6 : w1.cell? ⟨w.heap.size, 6, none⟩ = some (.int .i64 g) := HB.cell 6
  have c7 : w1.cell? ⟨w.heap.size, 7, none⟩ = some (.int .i64 h) := HB.cell 7
  clear b1
  have hlt := HB.lt
  have hne : ¬ w.heap.size = w1.heap.size := by omega
  have HBB := hide HB
  clear HB
  go_wp2
  go_ret
  exact ⟨B1.out.alloc B1.out.size _, rfl⟩

set_option maxRecDepth 100000 in
set_option maxHeartbeats 1000000 in
theorem fits_no (w : World) :
    Calls Tryd.prog 76 #[.agg #[.int .i64 0, .int .i64 0, .int .i64 0, .int .i64 0, .int .i64 0, .int .i64 0, .int .i64 0, .int .i64 0]] w fun x w' => Below w.heap.size w w' ∧ x = .returned (.bool false) := by
  have q : ∀ w, Calls Tryd.prog 54 #[.int .i64 0, .int .i64 0, .int .i64 0, .int .i64 0] w fun x w' => Below w.heap.size w w' ∧ x = .returned (.tuple #[.agg #[.int .i64 0, .int .i64 0, .int .i64 0, .int .i64 0, .int .i64 0, .int .i64 0, .int .i64 0, .int .i64 0], .int .i64 92]) := fun w => by
    have := again_any 0 0 0 0 w (by omega) (by omega) (by omega) (by omega)
    rwa [if_neg (by unfold agOK; omega)] at this
  have Q := hide q
  clear q
  go_enter Tryd.func76, Tryd.ntmps76
  go_wp2_with fail
  refine (Q.out _).mono ?_
  rintro x w1 ⟨b1, rfl⟩
  have B1 := hide (((Below.refl w.heap.size w).alloc (Nat.le_refl _) _).trans (b1.mono (by simp)))
  clear b1
  go_wp2
  go_ret
  exact ⟨B1.out.alloc B1.out.size _, rfl⟩

/-- What size answers at the place j of a shape that fits. -/
def szV (j n u l : Int) : Value := if n ≤ j then .tuple #[.int .i64 0, .int .i64 90] else if j = n - 1 then .tuple #[.int .i64 l, .int .i64 0] else .tuple #[.int .i64 u, .int .i64 0]

set_option maxRecDepth 100000 in
set_option maxHeartbeats 1000000 in
theorem size_ok (a b c d e f g h j u l : Int) (w : World) (q : Sits a b c d e f g h) (hj : 0 ≤ j) (he : 1 ≤ e ∧ e ≤ 512) :
    Calls Tryd.prog 78 #[.agg #[.int .i64 a, .int .i64 b, .int .i64 c, .int .i64 d, .int .i64 e, .int .i64 f, .int .i64 g, .int .i64 h], .int .i64 j, .int .i64 u, .int .i64 l] w fun x w' => Below w.heap.size w w' ∧ x = .returned (szV j e u l) := by
  have HQ := hide (fun w => fits_ok a b c d e f g h w q)
  clear q
  have i1 : ¬ j < 0 := by omega
  have e1 : IntKind.i64.wrap (e - 1) = e - 1 := IntWalk.i64_in _ (by omega)
  unfold szV
  have hcase : e ≤ j ∨ (¬ e ≤ j ∧ j = e - 1) ∨ (¬ e ≤ j ∧ ¬ j = e - 1) := by omega
  have hB1 := fun w' (hb : Below (w.alloc (.cells #[.int .i64 a, .int .i64 b, .int .i64 c, .int .i64 d, .int .i64 e, .int .i64 f, .int .i64 g, .int .i64 h] 60)).heap.size (w.alloc (.cells #[.int .i64 a, .int .i64 b, .int .i64 c, .int .i64 d, .int .i64 e, .int .i64 f, .int .i64 g, .int .i64 h] 60)) w') => And.intro (((Below.refl w.heap.size w).alloc (Nat.le_refl _) _).trans (hb.mono (by simp))) (show w'.cell? ⟨w.heap.size, 4, none⟩ = some (.int .i64 e) from ((Blk.new w 60 #[.int .i64 a, .int .i64 b, .int .i64 c, .int .i64 d, .int .i64 e, .int .i64 f, .int .i64 g, .int .i64 h]).below' hb).cell 4)
  have HB1 := hide hB1
  clear hB1
  rcases hcase with h1 | ⟨h1, h2⟩ | ⟨h1, h2⟩
  · rw [if_pos h1]
    go_enter Tryd.func78, Tryd.ntmps78
    go_wp2_with fail
    refine (HQ.out _).mono ?_
    rintro x w1 ⟨b1, rfl⟩
    obtain ⟨b2, c4⟩ := HB1.out _ b1
    have B1 := hide b2
    clear b1 b2
    go_wp2
    go_ret2
    exact ⟨B1.out, rfl⟩
  · rw [if_neg h1, if_pos h2]
    go_enter Tryd.func78, Tryd.ntmps78
    go_wp2_with fail
    refine (HQ.out _).mono ?_
    rintro x w1 ⟨b1, rfl⟩
    obtain ⟨b2, c4⟩ := HB1.out _ b1
    have B1 := hide b2
    clear b1 b2
    go_wp2
    go_ret2
    exact ⟨B1.out, rfl⟩
  · rw [if_neg h1, if_neg h2]
    go_enter Tryd.func78, Tryd.ntmps78
    go_wp2_with fail
    refine (HQ.out _).mono ?_
    rintro x w1 ⟨b1, rfl⟩
    obtain ⟨b2, c4⟩ := HB1.out _ b1
    have B1 := hide b2
    clear b1 b2
    go_wp2
    go_ret2
    exact ⟨B1.out, rfl⟩

set_option maxRecDepth 100000 in
set_option maxHeartbeats 1000000 in
theorem blockSize_ok (a b c d e f g h j : Int) (w : World) (q : Sits a b c d e f g h) (hj : 0 ≤ j) (he : 1 ≤ e ∧ e ≤ 512) :
    Calls Tryd.prog 58 #[.agg #[.int .i64 a, .int .i64 b, .int .i64 c, .int .i64 d, .int .i64 e, .int .i64 f, .int .i64 g, .int .i64 h], .int .i64 j] w fun x w' => Below w.heap.size w w' ∧ x = .returned (szV j e g h) := by
  have HQ := hide (fun w => size_ok a b c d e f g h j g h w q hj he)
  have hv : ∃ m s, szV j e g h = .tuple #[.int .i64 m, .int .i64 s] := by
    unfold szV; split
    · exact ⟨_, _, rfl⟩
    · split <;> exact ⟨_, _, rfl⟩
  obtain ⟨m, s, hv⟩ := hv
  rw [hv] at HQ
  rw [hv]
  clear q hv hj he
  go_enter Tryd.func58, Tryd.ntmps58
  go_wp2_with fail
  refine (HQ.out _).mono ?_
  rintro x w1 ⟨b1, rfl⟩
  have B1 := hide (((Below.refl w.heap.size w).alloc (Nat.le_refl _) _).trans (b1.mono (by simp)))
  clear b1
  go_wp2
  go_ret2
  exact ⟨B1.out, rfl⟩
end Go.Proofs.YteaagngikiaokaaDoor
