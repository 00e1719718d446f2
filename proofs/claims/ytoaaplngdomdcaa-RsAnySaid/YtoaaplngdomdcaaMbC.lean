/- The library's Grow and Concat at lists of bytes: two lists laid behind one another. -/
import Derived.Test.YtoaaplngdomdcaaMbA
namespace Go.Proofs.Ytoaaplngdomdcaa.MB
open Go.RowKit

theorem elemI : Elem1 Try.prog 38 5 (.int .u8 0) 1 := ⟨Try.underlying38, by kernel_rfl, rfl⟩
theorem elemO : Elem1 Try.prog 43 38 (.slice none 0 0) 24 := ⟨Try.underlying43, by kernel_rfl, rfl⟩
theorem own_new (w : World) (n c : Nat) (h1 : n ≤ c) (h2 : c ≤ maxLen) :
    (w.alloc (.cells (Builtin.zeroCells #[.int .u8 0] n ++ Builtin.zeroCells #[.int .u8 0] (c - n)) 5)).drew.ownsRow w.heap.size 5 1 (.slice (some ⟨w.heap.size, 0, none⟩) 0 c) 0 [] := by
  have := (Blk.new w 5 (Builtin.zeroCells #[.int .u8 0] n ++ Builtin.zeroCells #[.int .u8 0] (c - n))).drew.own (base := w.heap.size) (e := 5) (n := 0) (cap := c) (sz := 1) rfl (Nat.le_refl _) (by simp [size_zeroCells]; omega) (Nat.zero_le _) h2
  simpa using this
set_option maxRecDepth 100000 in
set_option maxHeartbeats 1000000 in
theorem grow_c (n : Nat) (w : World) (hn : n ≤ 1048576) :
    Calls Try.prog 159 #[.slice none 0 0, .int .i64 (n : Int)] w fun e w' => ∃ v, e = .returned v ∧ w'.ownsRow w.heap.size 5 1 v 0 [] ∧ Below w.heap.size w w' := by
  by_cases h0 : n = 0
  · have g1 : (n : Int) = 0 := by omega
    rw [g1]
    go_enter Try.func159, Try.ntmps159
    go_wp2
    go_ret
    exact ⟨_, rfl, World.ownsRow_nil _ _ _ _, Below.refl _ _⟩
  · have g1 : ¬ (n : Int) < 0 := by omega
    have g2 : (0 : Int) < (n : Int) := by omega
    have g3 : ¬ (281474976710656 : Int) < (n : Int) * ((Try.t5).bytes : Int) := by
      have : ((Try.t5).bytes : Int) = 1 := by kernel_rfl
      rw [this]; omega
    have g4 : ¬ 281474976710656 < Builtin.nextslicecap n 0 * (Try.t5).bytes := by
      have h1 : (Try.t5).bytes = 1 := by kernel_rfl
      have h2 : Builtin.nextslicecap n 0 = n := by unfold Builtin.nextslicecap; simp; omega
      rw [h1, h2]; omega
    go_enter Try.func159, Try.ntmps159
    go_wp2
    go_ret
    refine ⟨_, rfl, ?_, ?_⟩
    · exact own_new w n _ (grownCap_ge w n 0 5) (grownCap_le_maxLen w n 0 5 (by unfold maxLen; omega))
    · exact ((Below.refl _ w).alloc (Nat.le_refl _) _).drew
set_option maxRecDepth 100000 in
set_option maxHeartbeats 2000000 in
/-- Two lists laid behind one another. -/
theorem concat_c (g a b : Nat) (u v : Value) (xs ys : List Value) (w : World) (h0 : w.cell? ⟨g, 0, none⟩ = some u) (h1 : w.cell? ⟨g, 1, none⟩ = some v) (hg : g < w.heap.size) (hu : Sl w 1 u a xs) (hv : Sl w 1 v b ys) (ha : a ≤ 4096) (hb : b ≤ 4096) (hx : ∀ x ∈ xs, x.oneCell' = true) (hy : ∀ y ∈ ys, y.oneCell' = true) :
    Calls Try.prog 155 #[.slice (some ⟨g, 0, none⟩) 2 2] w fun e w' => ∃ r, e = .returned r ∧ w'.ownsRow w.heap.size 5 1 r (a + b) (xs ++ ys) ∧ Below w.heap.size w w' := by
  obtain ⟨Au, cu, rfl, -, -, -⟩ := hu.form
  obtain ⟨Av, cv, rfl, -, -, -⟩ := hv.form
  have HG := hide (grow_c (a + b))
  have HU := hide (And.intro hu (And.intro hv (And.intro hx hy)))
  have HB := hide (And.intro ha hb)
  have e1 : (a : Int) + (b : Int) = ((a + b : Nat) : Int) := by omega
  obtain ⟨s, hs⟩ : ∃ s, s = a + b := ⟨_, rfl⟩
  rw [← hs] at HG e1
  have HS := hide hs
  have l1 : (s : Int) ≤ 8192 := by omega
  have l2 : (a : Int) ≤ 4096 := by omega
  clear hu hv hx hy hs
  go_enter Try.func155, Try.ntmps155
  go_wp2
  go_loopw [3, 11] (fun u3 u11 wr => ((u11 = .int .i64 0 ∧ u3 = .int .i64 0) ∨ (u11 = .int .i64 1 ∧ u3 = .int .i64 (a : Int)) ∨ (u11 = .int .i64 2 ∧ u3 = .int .i64 (s : Int))) ∧ w = wr) (fun _ i _ => 2 - (intOf i).toNat)
  case atStart => exact ⟨.inl ⟨rfl, rfl⟩, rfl⟩
  case round =>
    obtain ⟨⟨rfl, rfl⟩ | ⟨rfl, rfl⟩ | ⟨rfl, rfl⟩, rfl⟩ := hrel
    · go_wp2
      go_roundw
      case rel => simp
      case measure => simp [intOf]
    · go_wp2
      go_roundw
      case rel => simp [e1]
      case measure => simp [intOf]
    · have HG2 := hide (show Calls Try.prog 159 #[.slice none 0 0, .int .i64 (s : Int)] w _ from HG.out w (by omega))
      go_wp2_with (go_at_call 159; refine HG2.out.mono ?_; rintro e w1 ⟨v0, rfl, o1, b1⟩)
      have HI := hide (And.intro o1 b1)
      clear o1 b1
      go_loopw [6, 27] (fun u6 u27 wr => ((u27 = .int .i64 0 ∧ wr.ownsRow w.heap.size 5 1 u6 0 []) ∨ (u27 = .int .i64 1 ∧ wr.ownsRow w.heap.size 5 1 u6 a xs) ∨ (u27 = .int .i64 2 ∧ wr.ownsRow w.heap.size 5 1 u6 (a + b) (xs ++ ys))) ∧ Below w.heap.size w wr) (fun _ i _ => 2 - (intOf i).toNat)
      case atStart => exact ⟨.inl ⟨rfl, HI.out.1⟩, HI.out.2⟩
      case round =>
        clear HI
        obtain ⟨⟨rfl, ho⟩ | ⟨rfl, ho⟩ | ⟨rfl, ho⟩, hb⟩ := hrel
        · have HO := hide ho
          have c0 : wr.cell? ⟨g, 0, none⟩ = some (.slice Au a cu) := (hb.cell (p := ⟨g, 0, none⟩) hg).trans h0
          clear ho
          go_wp2_with (at_builtin; go_loud (refine wpList_pushQ elemI HO.out hb hb.size (HU.out.1.below hb) (by have := HB.out; unfold maxLen; omega) (by have := HB.out; omega) HU.out.2.2.1 rfl _ _ rfl rfl rfl ?_); intro v2 w2 o2 b2)
          go_roundw
          case rel => exact ⟨.inr (.inl ⟨rfl, by simpa using o2⟩), b2⟩
          case measure => simp [intOf]
        · have HO := hide ho
          have c0 : wr.cell? ⟨g, 1, none⟩ = some (.slice Av b cv) := (hb.cell (p := ⟨g, 1, none⟩) hg).trans h1
          clear ho
          go_wp2_with (at_builtin; go_loud (refine wpList_pushQ elemI HO.out hb hb.size (HU.out.2.1.below hb) (by have := HB.out; unfold maxLen; omega) (by have := HB.out; omega) HU.out.2.2.2 rfl _ _ rfl rfl rfl ?_); intro v2 w2 o2 b2)
          go_roundw
          case rel => exact ⟨.inr (.inr ⟨rfl, o2⟩), b2⟩
          case measure => simp [intOf]
        · go_wp2
          go_ret
          exact ⟨_, rfl, ho, hb⟩
end Go.Proofs.Ytoaaplngdomdcaa.MB
