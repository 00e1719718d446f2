/- Contracts of laid, FrontLen, Len and Place, at shapes that fit. -/
import Derived.Test.YteaagngikiaokaaDoorShrE
import Derived.Test.YteaagngikiaokaaDoorAwkB
import Derived.Laws.ResultCell
namespace Go.Proofs.YteaagngikiaokaaDoor
open Go.RowKit

theorem uebLen_le (k n seg size : Int) (sh sg : List UInt8) (hk : -9223372036854775808 ≤ k ∧ k ≤ 9223372036854775807) (hn : -9223372036854775808 ≤ n ∧ n ≤ 9223372036854775807) (hs : -9223372036854775808 ≤ seg ∧ seg ≤ 9223372036854775807) (hz : -9223372036854775808 ≤ size ∧ size ≤ 9223372036854775807)
    (h1 : sh.length = 32) (h2 : sg.length = 32) : (encs (uebRows k n seg size sh sg)).length ≤ 400 := by
  have l1 := numS_len k hk
  have l2 := numS_len n hn
  have l3 := numS_len seg hs
  have l4 := numS_len size hz
  have f1 := fld_len _ (show (lst (numS k)).length ≤ 65536 by omega)
  have f2 := fld_len _ (show (lst (numS n)).length ≤ 65536 by omega)
  have f3 := fld_len _ (show (lst (numS seg)).length ≤ 65536 by omega)
  have f4 := fld_len _ (show (lst (numS size)).length ≤ 65536 by omega)
  have f5 := fld_len sh (by omega)
  have f6 := fld_len sg (by omega)
  have g1 := fld_len tK (by decide)
  have g2 := fld_len tN (by decide)
  have g3 := fld_len tSeg (by decide)
  have g4 := fld_len tSegments (by decide)
  have g5 := fld_len tShares (by decide)
  have g6 := fld_len tSize (by decide)
  have k1 : tK.length = 1 := rfl
  have k2 : tN.length = 1 := rfl
  have k3 : tSeg.length = 3 := rfl
  have k4 : tSegments.length = 8 := rfl
  have k5 : tShares.length = 6 := rfl
  have k6 : tSize.length = 4 := rfl
  simp only [encs, uebRows, List.flatMap_cons, List.flatMap_nil, enc, List.length_append, List.length_nil]
  omega

theorem results_row_tmp {P : Program} {fn : Func} {p u : Tmp} {ty : TypeId} (h : fn.results = #[.cell p ty, .tmp u]) (tmps : Array Value) (w : World) (g : Nat) (t : TypeId) (cs : Array Value) (fr : Nat × Nat) (d : TypeDesc)
    (hp : tmps.getD p undef = .pointer (some ⟨g, 0, none⟩)) (hg : w.heap[g]? = some (.cells cs t fr))
    (hu : P.underlying ty = some d) (hd : (match d with | .struct _ | .array _ _ => true | _ => false) = true) (hi : (P.info? ty).map (·.size) = some cs.size) :
    (results fn tmps).run P w = .ok (.tuple #[.agg cs, tmps.getD u undef]) w := by
  rw [results_cell_tmp h, hp]
  simp [asAddr, run_loadVar_row w g t ty cs fr d hg hu hd hi, Result.andThen]

/-- The places of the parts of a share whose Ueb has so many bytes. -/
def lays (n segs blk last L : Nat) : Array Value := #[.int .i64 36, .int .i64 (36 + (L : Int)), .int .i64 (36 + (L : Int) + 32 * (chainLen n : Int)), .int .i64 (36 + (L : Int) + 32 * (chainLen n : Int) + 32 * (2 * (wid segs : Int) - 1)), .int .i64 (36 + (L : Int) + 32 * (chainLen n : Int) + 32 * (2 * (wid segs : Int) - 1) + 32 * (2 * (wid segs : Int) - 1)),
        .int .i64 (36 + (L : Int) + 32 * (chainLen n : Int) + 32 * (2 * (wid segs : Int) - 1) + 32 * (2 * (wid segs : Int) - 1) + (((segs : Int) - 1) * (blk : Int) + (last : Int)))]

set_option maxRecDepth 100000 in
set_option maxHeartbeats 400000 in
theorem ueb_cells (k n seg size : Int) : ((((Tryd.zeroCells44.setIfInBounds 0 (Value.int IntKind.i64 k)).setIfInBounds 1 (Value.int IntKind.i64 n)).setIfInBounds 2 (Value.int IntKind.i64 seg)).setIfInBounds 3 (Value.int IntKind.i64 size)) = uebC k n seg size (bcells z32 ++ bcells z32) := by kernel_rfl

set_option maxRecDepth 100000 in
set_option maxHeartbeats 2000000 in
theorem laid_ok (K N G Z segs tail blk last : Nat) (w : World) (q : Sits K N G Z segs tail blk last) (hag : agOK K N G Z) (hn : 1 ≤ N ∧ N ≤ 255) (hs : 1 ≤ segs ∧ segs ≤ 512) (hb : blk ≤ 1048576) (hl : last ≤ 1048576) (hz : K ≤ 1048576 ∧ N ≤ 1048576 ∧ G ≤ 1048576 ∧ Z ≤ 1048576 * 1048576) (L : Nat) (hL : uebLen K N G Z z32 z32 = (L : Int)) (ht : Tab w) :
    Calls Tryd.prog 57 #[.agg #[.int .i64 K, .int .i64 N, .int .i64 G, .int .i64 Z, .int .i64 segs, .int .i64 tail, .int .i64 blk, .int .i64 last]] w fun x w' => Below w.heap.size w w' ∧
      x = .returned (.tuple #[.agg (lays N segs blk last L), .int .i64 0]) := by
  have hL4 : L ≤ 400 := by
    have := uebLen_le K N G Z z32 z32 (by omega) (by omega) (by omega) (by omega) rfl rfl
    unfold uebLen at hL
    omega
  have q1 := fun w => fits_ok K N G Z segs tail blk last w q
  have q2 : ∀ w, Tab w → Calls Tryd.prog 51 #[.agg (uebC K N G Z (bcells z32 ++ bcells z32))] w fun e w' => Below w.heap.size w w' ∧ e = .returned (.tuple #[.int .i64 (L : Int), .int .i64 0]) := fun w ht => by
    have := length_any K N G Z z32 z32 w (by omega) (by omega) (by omega) (by omega) rfl rfl ht
    rwa [if_pos hag, hL] at this
  have q3 : ∀ w, Calls Tryd.prog 77 #[.agg #[.int .i64 K, .int .i64 N, .int .i64 G, .int .i64 Z, .int .i64 segs, .int .i64 tail, .int .i64 blk, .int .i64 last], .int .i64 (L : Int)] w fun x w' => Below w.heap.size w w' ∧ x = .returned (.agg (lays N segs blk last L)) := fun w => lay_any K G Z tail N segs blk last L w (by omega) hs hb hl (by omega)
  have hsize : (lays N segs blk last L).size = 6 := rfl
  have hone : (lays N segs blk last L).all (·.oneCell') = true := by simp [lays, Value.oneCell']
  have hkc := ueb_cells K N G Z
  have Q1 := hide q1
  have Q2 := hide q2
  have Q3 := hide q3
  have HT := hide ht
  clear q q1 q2 q3 hag hL hn hs hb hl hz hL4 ht
  generalize lays N segs blk last L = ls at *
  have HO := hide (And.intro hsize hone)
  clear hsize hone
  generalize uebC K N G Z (bcells z32 ++ bcells z32) = cs at *
  go_enter Tryd.func57, Tryd.ntmps57
  go_wp2_with fail
  refine (Q1.out _).mono ?_
  rintro x w1 ⟨b1, rfl⟩
  have HB := ((Blk.new w 60 #[.int .i64 K, .int .i64 N, .int .i64 G, .int .i64 Z, .int .i64 segs, .int .i64 tail, .int .i64 blk, .int .i64 last]).alloc (.cells (Array.replicate 6 (.int .i64 0)) 92)).below' b1
  have c0 : w1.cell? ⟨w.heap.size, 0, none⟩ = some (.int .i64 K) := HB.cell 0
  have c1 : w1.cell? ⟨w.heap.size, 1, none⟩ = some (.int .i64 N) := HB.cell 1
  have c2 : w1.cell? ⟨w.heap.size, 2, none⟩ = some (.int .i64 G) := HB.cell 2
  have c3 : w1.cell? ⟨w.heap.size, 3, none⟩ = some (.int .i64 Z) := HB.cell 3
  have hB2 := (Blk.new (w.alloc (.cells #[.int .i64 K, .int .i64 N, .int .i64 G, .int .i64 Z, .int .i64 segs, .int .i64 tail, .int .i64 blk, .int .i64 last] 60)) 92 (Array.replicate 6 (.int .i64 0))).below' b1
  have B1 := hide (((Below.refl w.heap.size w).alloc (Nat.le_refl _) _).alloc (by simp) _ |>.trans (b1.mono (by simp; omega)))
  have HB1 := hide HB
  have HB2 := hide hB2
  clear b1 HB hB2
  go_wp2_with fail
  refine (Q2.out _ (HT.out.below B1.out)).mono ?_
  rintro x w2 ⟨b2, rfl⟩
  have c8 : ∀ i, w2.cell? ⟨w.heap.size, i, none⟩ = #[.int .i64 K, .int .i64 N, .int .i64 G, .int .i64 Z, .int .i64 segs, .int .i64 tail, .int .i64 blk, .int .i64 last][i]? := fun i => ((HB1.out).below' b2).cell i
  have d0 : w2.cell? ⟨w.heap.size, 0, none⟩ = some (.int .i64 K) := c8 0
  have d1 : w2.cell? ⟨w.heap.size, 1, none⟩ = some (.int .i64 N) := c8 1
  have d2 : w2.cell? ⟨w.heap.size, 2, none⟩ = some (.int .i64 G) := c8 2
  have d3 : w2.cell? ⟨w.heap.size, 3, none⟩ = some (.int .i64 Z) := c8 3
  have d4 : w2.cell? ⟨w.heap.size, 4, none⟩ = some (.int .i64 segs) := c8 4
  have d5 : w2.cell? ⟨w.heap.size, 5, none⟩ = some (.int .i64 tail) := c8 5
  have d6 : w2.cell? ⟨w.heap.size, 6, none⟩ = some (.int .i64 blk) := c8 6
  have d7 : w2.cell? ⟨w.heap.size, 7, none⟩ = some (.int .i64 last) := c8 7
  have B2 := hide (B1.out.trans (b2.mono B1.out.size))
  have HB3 := hide (HB2.out.below' b2)
  clear c0 c1 c2 c3 b2 HB2 HB1 c8
  go_wp2_with fail
  refine (Q3.out _).mono ?_
  rintro x w3 ⟨b3, rfl⟩
  have B3 := hide (B2.out.trans (b3.mono B2.out.size))
  have HB4 := hide (HB3.out.below' b3)
  clear d0 d1 d2 d3 d4 d5 d6 d7 b3
  go_wp2_with (refine wpList_store_row (o := ⟨none, .store _ _ _, _, _, _, _⟩) HB4.out ls (by rw [HO.out.1]; rfl) HO.out.2 rfl 92 _ _ rfl (by rw [HO.out.1]; kernel_rfl) (by simp only [World.size_alloc]; rfl) rfl ?_; intro wf hb1 hg1)
  simp only [World.size_alloc] at hb1 hg1
  exact bodyPost_ret (results_row_tmp rfl _ _ (w.heap.size + 1) 92 ls (0, 0) _ rfl hb1 Tryd.underlying92 rfl (by rw [HO.out.1]; kernel_rfl)) rfl ⟨B3.out.grown hg1 (by have := B3.out.size; have := HB4.out.lt; simp at this; omega) (fun k hk => by cases hk; omega), rfl⟩

set_option maxRecDepth 100000 in
set_option maxHeartbeats 1000000 in
theorem laid_no (w : World) :
    Calls Tryd.prog 57 #[.agg #[.int .i64 0, .int .i64 0, .int .i64 0, .int .i64 0, .int .i64 0, .int .i64 0, .int .i64 0, .int .i64 0]] w fun x w' => Below w.heap.size w w' ∧ x = .returned (.tuple #[.agg #[.int .i64 0, .int .i64 0, .int .i64 0, .int .i64 0, .int .i64 0, .int .i64 0], .int .i64 3]) := by
  have Q1 := hide (fun w => fits_no w)
  go_enter Tryd.func57, Tryd.ntmps57
  go_wp2_with fail
  refine (Q1.out _).mono ?_
  rintro x w1 ⟨b1, rfl⟩
  have hB2 := (Blk.new (w.alloc (.cells #[.int .i64 0, .int .i64 0, .int .i64 0, .int .i64 0, .int .i64 0, .int .i64 0, .int .i64 0, .int .i64 0] 60)) 92 #[.int .i64 0, .int .i64 0, .int .i64 0, .int .i64 0, .int .i64 0, .int .i64 0]).below' b1
  have B1 := hide (((Below.refl w.heap.size w).alloc (Nat.le_refl _) _).alloc (by simp) _ |>.trans (b1.mono (by simp; omega)))
  have HB2 := hide hB2
  clear b1 hB2
  go_wp2_with (refine wpList_store_row (o := ⟨none, .store _ _ _, _, _, _, _⟩) HB2.out #[.int .i64 0, .int .i64 0, .int .i64 0, .int .i64 0, .int .i64 0, .int .i64 0] rfl (by simp [Value.oneCell']) rfl 92 _ _ rfl (by kernel_rfl) (by simp only [World.size_alloc]; rfl) (by kernel_rfl) ?_; intro wf hb1 hg1)
  simp only [World.size_alloc] at hb1 hg1
  exact bodyPost_ret (results_row_tmp rfl _ _ (w.heap.size + 1) 92 #[.int .i64 0, .int .i64 0, .int .i64 0, .int .i64 0, .int .i64 0, .int .i64 0] (0, 0) _ rfl hb1 Tryd.underlying92 rfl (by kernel_rfl)) rfl ⟨B1.out.grown hg1 (by have := HB2.out.lt; simp at this; omega) (fun k hk => by cases hk; omega), rfl⟩

set_option maxRecDepth 100000 in
set_option maxHeartbeats 1000000 in
theorem frontLen_any (v0 v1 v2 v3 v4 v5 v6 v7 a0 a1 a2 a3 a4 a5 err : Int) (w : World)
    (q : ∀ w1, Below w.heap.size w w1 → Calls Tryd.prog 57 #[.agg #[.int .i64 v0, .int .i64 v1, .int .i64 v2, .int .i64 v3, .int .i64 v4, .int .i64 v5, .int .i64 v6, .int .i64 v7]] w1 fun x w' => Below w1.heap.size w1 w' ∧ x = .returned (.tuple #[.agg #[.int .i64 a0, .int .i64 a1, .int .i64 a2, .int .i64 a3, .int .i64 a4, .int .i64 a5], .int .i64 err])) :
    Calls Tryd.prog 35 #[.agg #[.int .i64 v0, .int .i64 v1, .int .i64 v2, .int .i64 v3, .int .i64 v4, .int .i64 v5, .int .i64 v6, .int .i64 v7]] w fun x w' => Below w.heap.size w w' ∧ x = .returned (.tuple #[.int .i64 a4, .int .i64 err]) := by
  have Q := hide q
  clear q
  go_enter Tryd.func35, Tryd.ntmps35
  go_wp2_with fail
  refine (Q.out _ ((Below.refl w.heap.size w).alloc (Nat.le_refl _) _)).mono ?_
  rintro x w1 ⟨b1, rfl⟩
  have B1 := hide (((Below.refl w.heap.size w).alloc (Nat.le_refl _) _).trans (b1.mono (by simp)))
  clear b1
  go_wp2
  go_ret2
  exact ⟨B1.out.alloc B1.out.size _, rfl⟩

set_option maxRecDepth 100000 in
set_option maxHeartbeats 1000000 in
theorem len_any (v0 v1 v2 v3 v4 v5 v6 v7 a0 a1 a2 a3 a4 a5 err : Int) (w : World)
    (q : ∀ w1, Below w.heap.size w w1 → Calls Tryd.prog 57 #[.agg #[.int .i64 v0, .int .i64 v1, .int .i64 v2, .int .i64 v3, .int .i64 v4, .int .i64 v5, .int .i64 v6, .int .i64 v7]] w1 fun x w' => Below w1.heap.size w1 w' ∧ x = .returned (.tuple #[.agg #[.int .i64 a0, .int .i64 a1, .int .i64 a2, .int .i64 a3, .int .i64 a4, .int .i64 a5], .int .i64 err])) :
    Calls Tryd.prog 36 #[.agg #[.int .i64 v0, .int .i64 v1, .int .i64 v2, .int .i64 v3, .int .i64 v4, .int .i64 v5, .int .i64 v6, .int .i64 v7]] w fun x w' => Below w.heap.size w w' ∧ x = .returned (.tuple #[.int .i64 a5, .int .i64 err]) := by
  have Q := hide q
  clear q
  go_enter Tryd.func36, Tryd.ntmps36
  go_wp2_with fail
  refine (Q.out _ ((Below.refl w.heap.size w).alloc (Nat.le_refl _) _)).mono ?_
  rintro x w1 ⟨b1, rfl⟩
  have B1 := hide (((Below.refl w.heap.size w).alloc (Nat.le_refl _) _).trans (b1.mono (by simp)))
  clear b1
  go_wp2
  go_ret2
  exact ⟨B1.out.alloc B1.out.size _, rfl⟩

set_option maxRecDepth 100000 in
set_option maxHeartbeats 1000000 in
theorem place_in (v0 v1 v2 v3 v4 v5 v6 v7 a0 a1 a2 a3 a4 a5 j m at_ : Int) (w : World) (hj : 0 ≤ j ∧ j < v4) (h4 : 1 ≤ v4 ∧ v4 ≤ 512) (qs : Sits v0 v1 v2 v3 v4 v5 v6 v7)
    (hm : szV j v4 v6 v7 = .tuple #[.int .i64 m, .int .i64 0]) (e1 : IntKind.i64.wrap (j * v6) = j * v6) (e2 : IntKind.i64.wrap (a4 + j * v6) = at_)
    (q : ∀ w1, Below w.heap.size w w1 → Calls Tryd.prog 57 #[.agg #[.int .i64 v0, .int .i64 v1, .int .i64 v2, .int .i64 v3, .int .i64 v4, .int .i64 v5, .int .i64 v6, .int .i64 v7]] w1 fun x w' => Below w1.heap.size w1 w' ∧ x = .returned (.tuple #[.agg #[.int .i64 a0, .int .i64 a1, .int .i64 a2, .int .i64 a3, .int .i64 a4, .int .i64 a5], .int .i64 0])) :
    Calls Tryd.prog 37 #[.agg #[.int .i64 v0, .int .i64 v1, .int .i64 v2, .int .i64 v3, .int .i64 v4, .int .i64 v5, .int .i64 v6, .int .i64 v7], .int .i64 j] w fun x w' => Below w.heap.size w w' ∧ x = .returned (.tuple #[.int .i64 at_, .int .i64 m, .int .i64 0]) := by
  have q2 := fun w => blockSize_ok v0 v1 v2 v3 v4 v5 v6 v7 j w qs hj.1 h4
  rw [hm] at q2
  have Q := hide q
  have Q2 := hide q2
  clear q q2 qs hm
  go_enter Tryd.func37, Tryd.ntmps37
  go_wp2_with fail
  refine (Q.out _ ((Below.refl w.heap.size w).alloc (Nat.le_refl _) _)).mono ?_
  rintro x w1 ⟨b1, rfl⟩
  have B1 := hide (((Below.refl w.heap.size w).alloc (Nat.le_refl _) _).trans (b1.mono (by simp)))
  have HB := hide ((Blk.new w 60 #[.int .i64 v0, .int .i64 v1, .int .i64 v2, .int .i64 v3, .int .i64 v4, .int .i64 v5, .int .i64 v6, .int .i64 v7]).below' b1)
  have hlt := HB.out.lt
  have hne : ¬ w.heap.size = w1.heap.size := by omega
  have c0 : w1.cell? ⟨w.heap.size, 0, none⟩ = some (.int .i64 v0) := HB.out.cell 0
  have c1 : w1.cell? ⟨w.heap.size, 1, none⟩ = some (.int .i64 v1) := HB.out.cell 1
  have c2 : w1.cell? ⟨w.heap.size, 2, none⟩ = some (.int .i64 v2) := HB.out.cell 2
  have c3 : w1.cell? ⟨w.heap.size, 3, none⟩ = some (.int .i64 v3) := HB.out.cell 3
  have c4 : w1.cell? ⟨w.heap.size, 4, none⟩ = some (.int .i64 v4) := HB.out.cell 4
  have c5 : w1.cell? ⟨w.heap.size, 5, none⟩ = some (.int .i64 v5) := HB.out.cell 5
  have c6 : w1.cell? ⟨w.heap.size, 6, none⟩ = some (.int .i64 v6) := HB.out.cell 6
  have c7 : w1.cell? ⟨w.heap.size, 7, none⟩ = some (.int .i64 v7) := HB.out.cell 7
  clear b1
  go_wp2_with fail
  refine (Q2.out _).mono ?_
  rintro x w2 ⟨b2, rfl⟩
  have hp := hide ((Blk.new w1 92 #[.int .i64 a0, .int .i64 a1, .int .i64 a2, .int .i64 a3, .int .i64 a4, .int .i64 a5]).below' b2)
  have d4 : w2.cell? ⟨w1.heap.size, 4, none⟩ = some (.int .i64 a4) := hp.out.cell 4
  have d6 : w2.cell? ⟨w.heap.size, 6, none⟩ = some (.int .i64 v6) := ((HB.out.alloc _).below' b2).cell 6
  have B2 := hide ((B1.out.alloc B1.out.size _).trans (b2.mono (by have := B1.out.size; simp; omega)))
  clear b2 c0 c1 c2 c3 c4 c5 c6 c7
  go_wp2
  go_ret3
  exact ⟨B2.out, rfl⟩
end Go.Proofs.YteaagngikiaokaaDoor
