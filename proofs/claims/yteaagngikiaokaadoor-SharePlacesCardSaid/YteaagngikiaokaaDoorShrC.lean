/- The contract of the program's Chain for leaf 0: a range over a function. -/
import Derived.Test.YteaagngikiaokaaDoorShrB
namespace Go.Proofs.YteaagngikiaokaaDoor
open Go.RowKit Go.Shelf
attribute [local go_sem] Oper.semAt_some

/-- The numbers above 1. -/
def abv (l : List Nat) : List Nat := l.filter fun x => decide (1 < x)
theorem abv_hit (pre : List Nat) {x : Nat} (h : 1 < x) : abv (pre ++ [x]) = abv pre ++ [x] := by simp [abv, h]
theorem abv_miss (pre : List Nat) {x : Nat} (h : ¬ 1 < x) : abv (pre ++ [x]) = abv pre := by simp [abv, h]
def chainLen (n : Nat) : Nat := (abv (ups 10 (wid n))).length
theorem chainLen_le (n : Nat) : chainLen n ≤ 10 := Nat.le_trans (List.length_filter_le _ _) (ups_length _ _)
/-- The brother's number. -/
def xr (x : Nat) : Value := .int .i64 (bits BinOp.xor IntKind.i64 (x : Int) 1)
theorem infoInt : (Tryd.prog.info? 3).map (fun i => (i.zero, i.size, i.bytes)) = some (some (.int .i64 0), 1, 8) := by kernel_rfl

set_option maxRecDepth 100000 in
set_option maxHeartbeats 1000000 in
theorem chain_in (F : Fence) (hF : F = Fence.wide) (n : Nat) (h : 1 ≤ n ∧ n ≤ 512) (w : World) :
    CallsIn F 5 Tryd.prog 83 #[.int .i64 (n : Int), .int .i64 0] w fun e W' => ∃ A c, e = .returned (.tuple #[.slice A (chainLen n) c, .int .i64 0]) ∧ Below w.heap.size w W' := by
  have hch : F.fn 83 := by rw [hF]; trivial
  have hnode : F.fn 88 := by rw [hF]; trivial
  have hup : F.fn 89 := by rw [hF]; trivial
  have hup1 : F.fn 100 := by rw [hF]; trivial
  have hro : F.round = none := by rw [hF]; rfl
  have q1 : ∀ m w, CallsIn F m Tryd.prog 88 #[.int .i64 (n : Int), .int .i64 0] w fun e w' => e = .returned (.tuple #[.int .i64 (wid n : Int), .int .i64 0]) ∧ w = w' := by
    subst hF; exact fun m w => callsIn_wide.2 (node_any n w h)
  have q2 : ∀ m w, CallsIn F m Tryd.prog 89 #[.int .i64 (n : Int), .int .i64 0] w fun e w' => e = .returned (.func (.func 100) #[] #[.pointer (some ⟨w.heap.size, 0, none⟩)]) ∧ w' = w.alloc (.cells #[.int .i64 (wid n : Int)] 3) := by
    subst hF; exact fun m w => callsIn_wide.2 (up_tree n w h)
  clear hF
  have hw1 := wid_le n
  have hw2 := wid_pos n
  unfold chainLen
  generalize wid n = m at *
  obtain ⟨i0, hi, hz0, hz1, hz2⟩ := info_parts infoInt
  refine callsIn_of_wp_marks Tryd.func83 rfl hch ?_ hro
  simp only [Tryd.ntmps83, List.size_toArray, List.length_cons, List.length_nil, Nat.reduceAdd, Nat.reduceSub, Array.replicate_succ, Array.replicate_zero, List.push_toArray, List.append_toArray, List.nil_append, List.cons_append]
  gi_wp2_with (gi_at_call 88; refine (q1 _ _).mono ?_; rintro e w' ⟨rfl, rfl⟩)
  gi_wp2_with (gi_at_call 89; refine (q2 _ _).mono ?_; rintro e w' ⟨rfl, rfl⟩)
  have bO := Boxed.new w 57 (.slice none 0 0)
  have bN := Boxed.new (w.alloc (.cells #[.slice none 0 0] 57)) 3 (.int .i64 (m : Int))
  rw [World.size_alloc] at bN
  have hB0 : Below w.heap.size w ((w.alloc (.cells #[.slice none 0 0] 57)).alloc (.cells #[.int .i64 (m : Int)] 3)) := ((Below.refl _ w).alloc (Nat.le_refl _) _).alloc (by simp) _
  have hlen := ups_length 10 m
  have hml : 20 ≤ maxLen := by unfold maxLen; omega
  refine wpIn_rangeFunc_ownG hro (by omega) (gf := 100) (lb := #[.pointer (some ⟨w.heap.size + 1, 0, none⟩)]) rfl hup1 (enters_of Tryd.func100 (by kernel_rfl) rfl)
    (up1_stops F 4 hup1 hro (by omega) (w.heap.size + 1) w.heap.size m (by omega) _ (by simp) bN.cell) belowK_t (belowK_b (by simp; omega)) (Below.refl _ _) (fun _ => rfl)
    (fun pre W => (∃ v, Boxed W w.heap.size 57 v ∧ W.ownsRow w.heap.size 3 1 v (abv pre).length ((abv pre).map xr) ∧ True) ∧ Below w.heap.size w W)
    (fun _ _ _ => False)
    (OwnFrom.and (Own.from (holdsRow_own w.heap.size w.heap.size 57 3 1 (fun pre => (abv pre).length) (fun pre => (abv pre).map xr) (fun _ _ => True)) _) (ownFrom_below (Nat.le_refl _) (by simp; omega)))
    (fun _ _ _ _ _ hs _ _ => hs)
    ⟨⟨_, bO.alloc _, World.ownsRow_nil _ _ _ _, trivial⟩, hB0⟩
    (fun x => { tmps := #[.int .i64 (n : Int), .int .i64 0, undef, undef, .slice none 0 0, .int .i64 0, .int .i64 (m : Int), .int .i64 0, .pointer (some ⟨w.heap.size, 0, none⟩), .int .i64 (x : Int), .tuple #[.int .i64 (m : Int), .int .i64 0], .int .i64 (n : Int), .int .i64 0, .tuple #[.int .i64 (m : Int), .int .i64 0], .int .i64 (m : Int), .int .i64 0, .int .i64 0, .bool false, undef, .int .i64 (n : Int), .int .i64 0, .func (.func 100) #[] #[.pointer (some ⟨w.heap.size + 1, 0, none⟩)], .int .i64 (x : Int), undef, undef, undef, undef, undef, undef, undef, undef], defers := [] }) ?assign ?body ?done ?stop
  case assign =>
    intro l x W K hK
    gi_wp2
    exact hK
  case body =>
    rintro l pre x W ⟨⟨v, hv, hrow, -⟩, hB⟩ hlt
    have hc := hv.cell
    have hpl : (abv pre).length ≤ pre.length := List.length_filter_le _ _
    gi_wp2_with (gi_at_builtin; refine wpListIn_append_own _ rfl _ _ 57 rfl w.heap.size 3 i0 (.int .i64 0) 1 8 Tryd.underlying57 hi hz0 hz1 hz2 rfl (by decide) _ _ _ rfl (hrow.alloc _) ⟨W.heap.size, 0, none⟩ 1 1 [xr x] rfl rfl (cell_one_new _ _ _) (by simp [Value.oneCell', xr]) (by omega) (by omega) (by have := hB.size; simp; omega) ?_; intro v' w1 hown' hgrow _; obtain ⟨g', cap', rfl⟩ := ownsRow_succ hown'; obtain ⟨hv1, hv2, hr2, hk2, hb2⟩ := hv.appended (by decide) hrow hB.size (Nat.le_refl _) hown' hgrow; have hc1 := hv1.cell; have hf1 := hv1.frozen)
    · have hx : 1 < x := by omega
      exact ⟨hk2.from _, hb2, ⟨_, hv2, by rw [abv_hit pre hx]; simpa using hr2, trivial⟩, hB.trans hb2⟩
    · have hx : ¬ 1 < x := by omega
      exact ⟨KeepsFrom.refl _ _, Below.refl _ _, ⟨v, hv, by rw [abv_miss pre hx]; exact hrow, trivial⟩, hB⟩
  case done =>
    rintro D ys W hD rfl ⟨⟨v, hv, hrow, -⟩, hB⟩ hK
    have hc := hv.cell
    gi_wp2
    refine ⟨by simp, .inl ⟨_, _, rfl, run_takeDeferred hK, ?_⟩⟩
    have hv' : ∃ A c, v = .slice A (abv (ups 10 m)).length c := by
      rcases hrow.2 with ⟨rfl, h0⟩ | ⟨g, cap, cur, rfl, _⟩
      · exact ⟨none, 0, by rw [h0]⟩
      · exact ⟨_, _, rfl⟩
    obtain ⟨A, c, rfl⟩ := hv'
    exact ⟨_, results_tmp2 rfl _ _ _, A, c, rfl, hB.trans (belowK_b (w := w) (Nat.le_refl _) W D _ _ (by simp at hD; omega) hK rfl rfl)⟩
  case stop =>
    rintro D c pre W _ _ h _
    exact h.elim

theorem chain_any (n : Nat) (w : World) (h : 1 ≤ n ∧ n ≤ 512) :
    Calls Tryd.prog 83 #[.int .i64 (n : Int), .int .i64 0] w fun e W' => ∃ A c, e = .returned (.tuple #[.slice A (chainLen n) c, .int .i64 0]) ∧ Below w.heap.size w W' :=
  callsIn_wide.1 (chain_in Fence.wide rfl n h w)
end Go.Proofs.YteaagngikiaokaaDoor
