import Derived.Test.YtdohebhbiokljaaGreatDoorJ6
import Derived.Laws.ResultCell
import Derived.Test.YtdohebhbiokljaaGreatDoorJ1
import Derived.Test.YtdohebhbiokljaaGreatDoorJ3
import Derived.Test.YtdohebhbiokljaaGreatDoorJ5
import Derived.Laws.BitsAllLaws
import Derived.Deep.MidRow
import Derived.OrdersHeld
import Derived.StillTail
import Derived.Deep.RegionHeld
set_option linter.all false
namespace Go.Proofs.YtdohebhbiokljaaGreatDoor
open Go.RowKit
theorem uebLen_le (k n seg size : Int) (sh sg : List UInt8) (hk : -9223372036854775808 ≤ k ∧ k ≤ 9223372036854775807) (hn : -9223372036854775808 ≤ n ∧ n ≤ 9223372036854775807) (hs : -9223372036854775808 ≤ seg ∧ seg ≤ 9223372036854775807) (hz : -9223372036854775808 ≤ size ∧ size ≤ 9223372036854775807)
  (h1 : sh.length = 32) (h2 : sg.length = 32) : (encs (uebRows k n seg size sh sg)).length ≤ 400 := by
 have l1 := numS_len k hk
 have l2 := numS_len n hn
 have l3 := numS_len seg hs
 have l4 := numS_len size hz
 have f1 := fld_len _ (show (lst (numS k)).length ≤ 65536 by omega)
 have f2 := fld_len _ (show (lst (numS n)).length ≤ 65536 by omega)
 have f3 := fld_len _ (show (lst (numS seg)).length ≤ 65536 by omega)
 have f4 := fld_len _ (show (lst (numS size)).length ≤ 65536 by omega)
 have f5 := fld_len sh (by omega)
 have f6 := fld_len sg (by omega)
 have g1 := fld_len tK (by decide)
 have g2 := fld_len tN (by decide)
 have g3 := fld_len tSeg (by decide)
 have g4 := fld_len tSegments (by decide)
 have g5 := fld_len tShares (by decide)
 have g6 := fld_len tSize (by decide)
 have k1 : tK.length = 1 := rfl
 have k2 : tN.length = 1 := rfl
 have k3 : tSeg.length = 3 := rfl
 have k4 : tSegments.length = 8 := rfl
 have k5 : tShares.length = 6 := rfl
 have k6 : tSize.length = 4 := rfl
 simp only [encs, uebRows, List.flatMap_cons, List.flatMap_nil, enc, List.length_append, List.length_nil]
 omega
theorem results_row_tmp {P : Program} {fn : Func} {p u : Tmp} {ty : TypeId} (h : fn.results = #[.cell p ty, .tmp u]) (tmps : Array Value) (w : World) (g : Nat) (t : TypeId) (cs : Array Value) (fr : Nat × Nat) (d : TypeDesc)
  (hp : tmps.getD p undef = .pointer (some ⟨g, 0, none⟩)) (hg : w.heap[g]? = some (.cells cs t fr))
  (hu : P.underlying ty = some d) (hd : (match d with | .struct _ | .array _ _ => true | _ => false) = true) (hi : (P.info? ty).map (·.size) = some cs.size) :
  (results fn tmps).run P w = .ok (.tuple #[.agg cs, tmps.getD u undef]) w := by
 rw [results_cell_tmp h, hp]
 simp [asAddr, run_loadVar_row w g t ty cs fr d hg hu hd hi, Result.andThen]
def lays (n segs blk last L : Nat) : Array Value := #[.int .i64 36, .int .i64 (36 + (L : Int)), .int .i64 (36 + (L : Int) + 32 * (chainLen n : Int)), .int .i64 (36 + (L : Int) + 32 * (chainLen n : Int) + 32 * (2 * (wid segs : Int) - 1)), .int .i64 (36 + (L : Int) + 32 * (chainLen n : Int) + 32 * (2 * (wid segs : Int) - 1) + 32 * (2 * (wid segs : Int) - 1)),
    .int .i64 (36 + (L : Int) + 32 * (chainLen n : Int) + 32 * (2 * (wid segs : Int) - 1) + 32 * (2 * (wid segs : Int) - 1) + (((segs : Int) - 1) * (blk : Int) + (last : Int)))]
set_option maxRecDepth 100000 in
set_option maxHeartbeats 400000 in
theorem ueb_cells (k n seg size : Int) : ((((Tryz.zeroCells25.setIfInBounds 0 (Value.int IntKind.i64 k)).setIfInBounds 1 (Value.int IntKind.i64 n)).setIfInBounds 2 (Value.int IntKind.i64 seg)).setIfInBounds 3 (Value.int IntKind.i64 size)) = uebC k n seg size (bcells z32 ++ bcells z32) := by kernel_rfl
set_option maxRecDepth 100000 in
set_option maxHeartbeats 2000000 in
theorem laid_ok (K N G Z segs tail blk last : Nat) (w : World) (q : Sits K N G Z segs tail blk last) (hag : agOK K N G Z) (hn : 1 ≤ N ∧ N ≤ 255) (hs : 1 ≤ segs ∧ segs ≤ 512) (hb : blk ≤ 1048576) (hl : last ≤ 1048576) (hz : K ≤ 1048576 ∧ N ≤ 1048576 ∧ G ≤ 1048576 ∧ Z ≤ 1048576 * 1048576) (L : Nat) (hL : uebLen K N G Z z32 z32 = (L : Int)) (ht : Tab w) :
  Calls Tryz.prog 42 #[.agg #[.int .i64 K, .int .i64 N, .int .i64 G, .int .i64 Z, .int .i64 segs, .int .i64 tail, .int .i64 blk, .int .i64 last]] w fun x w' => Below w.heap.size w w' ∧
   x = .returned (.tuple #[.agg (lays N segs blk last L), .int .i64 0]) := by
 have hL4 : L ≤ 400 := by
  have := uebLen_le K N G Z z32 z32 (by omega) (by omega) (by omega) (by omega) rfl rfl
  unfold uebLen at hL
  omega
 have q1 := fun w => fits_ok K N G Z segs tail blk last w q
 have q2 : ∀ w, Tab w → Calls Tryz.prog 22 #[.agg (uebC K N G Z (bcells z32 ++ bcells z32))] w fun e w' => Below w.heap.size w w' ∧ e = .returned (.tuple #[.int .i64 (L : Int), .int .i64 0]) := fun w ht => by
  have := length_any K N G Z z32 z32 w (by omega) (by omega) (by omega) (by omega) rfl rfl ht
  rwa [if_pos hag, hL] at this
 have q3 : ∀ w, Calls Tryz.prog 62 #[.agg #[.int .i64 K, .int .i64 N, .int .i64 G, .int .i64 Z, .int .i64 segs, .int .i64 tail, .int .i64 blk, .int .i64 last], .int .i64 (L : Int)] w fun x w' => Below w.heap.size w w' ∧ x = .returned (.agg (lays N segs blk last L)) := fun w => lay_any K G Z tail N segs blk last L w (by omega) hs hb hl (by omega)
 have hsize : (lays N segs blk last L).size = 6 := rfl
 have hone : (lays N segs blk last L).all (·.oneCell') = true := by simp [lays, Value.oneCell']
 have hkc := ueb_cells K N G Z
 have Q1 := hide q1
 have Q2 := hide q2
 have Q3 := hide q3
 have HT := hide ht
 clear q q1 q2 q3 hag hL hn hs hb hl hz hL4 ht
 generalize lays N segs blk last L = ls at *
 have HO := hide (And.intro hsize hone)
 clear hsize hone
 generalize uebC K N G Z (bcells z32 ++ bcells z32) = cs at *
 go_enter Tryz.func42, Tryz.ntmps42
 go_wp2_with fail
 refine (Q1.out _).mono ?_
 rintro x w1 ⟨b1, rfl⟩
 have HB := ((Blk.new w 54 #[.int .i64 K, .int .i64 N, .int .i64 G, .int .i64 Z, .int .i64 segs, .int .i64 tail, .int .i64 blk, .int .i64 last]).alloc (.cells (Array.replicate 6 (.int .i64 0)) 76)).below' b1
 have c0 : w1.cell? ⟨w.heap.size, 0, none⟩ = some (.int .i64 K) := HB.cell 0
 have c1 : w1.cell? ⟨w.heap.size, 1, none⟩ = some (.int .i64 N) := HB.cell 1
 have c2 : w1.cell? ⟨w.heap.size, 2, none⟩ = some (.int .i64 G) := HB.cell 2
 have c3 : w1.cell? ⟨w.heap.size, 3, none⟩ = some (.int .i64 Z) := HB.cell 3
 have hB2 := (Blk.new (w.alloc (.cells #[.int .i64 K, .int .i64 N, .int .i64 G, .int .i64 Z, .int .i64 segs, .int .i64 tail, .int .i64 blk, .int .i64 last] 54)) 76 (Array.replicate 6 (.int .i64 0))).below' b1
 have B1 := hide (((Below.refl w.heap.size w).alloc (Nat.le_refl _) _).alloc (by simp) _ |>.trans (b1.mono (by simp; omega)))
 have HB1 := hide HB
 have HB2 := hide hB2
 clear b1 HB hB2
 go_wp2_with fail
 refine (Q2.out _ (HT.out.below B1.out)).mono ?_
 rintro x w2 ⟨b2, rfl⟩
 have c8 : ∀ i, w2.cell? ⟨w.heap.size, i, none⟩ = #[.int .i64 K, .int .i64 N, .int .i64 G, .int .i64 Z, .int .i64 segs, .int .i64 tail, .int .i64 blk, .int .i64 last][i]? := fun i => ((HB1.out).below' b2).cell i
 have d0 : w2.cell? ⟨w.heap.size, 0, none⟩ = some (.int .i64 K) := c8 0
 have d1 : w2.cell? ⟨w.heap.size, 1, none⟩ = some (.int .i64 N) := c8 1
 have d2 : w2.cell? ⟨w.heap.size, 2, none⟩ = some (.int .i64 G) := c8 2
 have d3 : w2.cell? ⟨w.heap.size, 3, none⟩ = some (.int .i64 Z) := c8 3
 have d4 : w2.cell? ⟨w.heap.size, 4, none⟩ = some (.int .i64 segs) := c8 4
 have d5 : w2.cell? ⟨w.heap.size, 5, none⟩ = some (.int .i64 tail) := c8 5
 have d6 : w2.cell? ⟨w.heap.size, 6, none⟩ = some (.int .i64 blk) := c8 6
 have d7 : w2.cell? ⟨w.heap.size, 7, none⟩ = some (.int .i64 last) := c8 7
 have B2 := hide (B1.out.trans (b2.mono B1.out.size))
 have HB3 := hide (HB2.out.below' b2)
 clear c0 c1 c2 c3 b2 HB2 HB1 c8
 go_wp2_with fail
 refine (Q3.out _).mono ?_
 rintro x w3 ⟨b3, rfl⟩
 have B3 := hide (B2.out.trans (b3.mono B2.out.size))
 have HB4 := hide (HB3.out.below' b3)
 clear d0 d1 d2 d3 d4 d5 d6 d7 b3
 go_wp2_with (refine wpList_store_row (o := ⟨none, .store _ _ _, _, _, _, _⟩) HB4.out ls (by rw [HO.out.1]; rfl) HO.out.2 rfl 76 _ _ rfl (by rw [HO.out.1]; kernel_rfl) (by simp only [World.size_alloc]; rfl) rfl ?_; intro wf hb1 hg1)
 simp only [World.size_alloc] at hb1 hg1
 exact bodyPost_ret (results_row_tmp rfl _ _ (w.heap.size + 1) 76 ls (0, 0) _ rfl hb1 Tryz.underlying76 rfl (by rw [HO.out.1]; kernel_rfl)) rfl ⟨B3.out.grown hg1 (by have := B3.out.size; have := HB4.out.lt; simp at this; omega) (fun k hk => by cases hk; omega), rfl⟩
set_option maxRecDepth 100000 in
set_option maxHeartbeats 1000000 in
theorem frontLen_any (v0 v1 v2 v3 v4 v5 v6 v7 a0 a1 a2 a3 a4 a5 err : Int) (w : World)
  (q : ∀ w1, Below w.heap.size w w1 → Calls Tryz.prog 42 #[.agg #[.int .i64 v0, .int .i64 v1, .int .i64 v2, .int .i64 v3, .int .i64 v4, .int .i64 v5, .int .i64 v6, .int .i64 v7]] w1 fun x w' => Below w1.heap.size w1 w' ∧ x = .returned (.tuple #[.agg #[.int .i64 a0, .int .i64 a1, .int .i64 a2, .int .i64 a3, .int .i64 a4, .int .i64 a5], .int .i64 err])) :
  Calls Tryz.prog 18 #[.agg #[.int .i64 v0, .int .i64 v1, .int .i64 v2, .int .i64 v3, .int .i64 v4, .int .i64 v5, .int .i64 v6, .int .i64 v7]] w fun x w' => Below w.heap.size w w' ∧ x = .returned (.tuple #[.int .i64 a4, .int .i64 err]) := by
 have Q := hide q
 clear q
 go_enter Tryz.func18, Tryz.ntmps18
 go_wp2_with fail
 refine (Q.out _ ((Below.refl w.heap.size w).alloc (Nat.le_refl _) _)).mono ?_
 rintro x w1 ⟨b1, rfl⟩
 have B1 := hide (((Below.refl w.heap.size w).alloc (Nat.le_refl _) _).trans (b1.mono (by simp)))
 clear b1
 go_wp2
 go_ret2
 exact ⟨B1.out.alloc B1.out.size _, rfl⟩
set_option maxRecDepth 100000 in
set_option maxHeartbeats 1000000 in
theorem len_any (v0 v1 v2 v3 v4 v5 v6 v7 a0 a1 a2 a3 a4 a5 err : Int) (w : World)
  (q : ∀ w1, Below w.heap.size w w1 → Calls Tryz.prog 42 #[.agg #[.int .i64 v0, .int .i64 v1, .int .i64 v2, .int .i64 v3, .int .i64 v4, .int .i64 v5, .int .i64 v6, .int .i64 v7]] w1 fun x w' => Below w1.heap.size w1 w' ∧ x = .returned (.tuple #[.agg #[.int .i64 a0, .int .i64 a1, .int .i64 a2, .int .i64 a3, .int .i64 a4, .int .i64 a5], .int .i64 err])) :
  Calls Tryz.prog 20 #[.agg #[.int .i64 v0, .int .i64 v1, .int .i64 v2, .int .i64 v3, .int .i64 v4, .int .i64 v5, .int .i64 v6, .int .i64 v7]] w fun x w' => Below w.heap.size w w' ∧ x = .returned (.tuple #[.int .i64 a5, .int .i64 err]) := by
 have Q := hide q
 clear q
 go_enter Tryz.func20, Tryz.ntmps20
 go_wp2_with fail
 refine (Q.out _ ((Below.refl w.heap.size w).alloc (Nat.le_refl _) _)).mono ?_
 rintro x w1 ⟨b1, rfl⟩
 have B1 := hide (((Below.refl w.heap.size w).alloc (Nat.le_refl _) _).trans (b1.mono (by simp)))
 clear b1
 go_wp2
 go_ret2
 exact ⟨B1.out.alloc B1.out.size _, rfl⟩
set_option maxRecDepth 100000 in
set_option maxHeartbeats 1000000 in
theorem place_in (v0 v1 v2 v3 v4 v5 v6 v7 a0 a1 a2 a3 a4 a5 j m at_ : Int) (w : World) (hj : 0 ≤ j ∧ j < v4) (h4 : 1 ≤ v4 ∧ v4 ≤ 512) (qs : Sits v0 v1 v2 v3 v4 v5 v6 v7)
  (hm : szV j v4 v6 v7 = .tuple #[.int .i64 m, .int .i64 0]) (e1 : IntKind.i64.wrap (j * v6) = j * v6) (e2 : IntKind.i64.wrap (a4 + j * v6) = at_)
  (q : ∀ w1, Below w.heap.size w w1 → Calls Tryz.prog 42 #[.agg #[.int .i64 v0, .int .i64 v1, .int .i64 v2, .int .i64 v3, .int .i64 v4, .int .i64 v5, .int .i64 v6, .int .i64 v7]] w1 fun x w' => Below w1.heap.size w1 w' ∧ x = .returned (.tuple #[.agg #[.int .i64 a0, .int .i64 a1, .int .i64 a2, .int .i64 a3, .int .i64 a4, .int .i64 a5], .int .i64 0])) :
  Calls Tryz.prog 21 #[.agg #[.int .i64 v0, .int .i64 v1, .int .i64 v2, .int .i64 v3, .int .i64 v4, .int .i64 v5, .int .i64 v6, .int .i64 v7], .int .i64 j] w fun x w' => Below w.heap.size w w' ∧ x = .returned (.tuple #[.int .i64 at_, .int .i64 m, .int .i64 0]) := by
 have q2 := fun w => blockSize_ok v0 v1 v2 v3 v4 v5 v6 v7 j w qs hj.1 h4
 rw [hm] at q2
 have Q := hide q
 have Q2 := hide q2
 clear q q2 qs hm
 go_enter Tryz.func21, Tryz.ntmps21
 go_wp2_with fail
 refine (Q.out _ ((Below.refl w.heap.size w).alloc (Nat.le_refl _) _)).mono ?_
 rintro x w1 ⟨b1, rfl⟩
 have B1 := hide (((Below.refl w.heap.size w).alloc (Nat.le_refl _) _).trans (b1.mono (by simp)))
 have HB := hide ((Blk.new w 54 #[.int .i64 v0, .int .i64 v1, .int .i64 v2, .int .i64 v3, .int .i64 v4, .int .i64 v5, .int .i64 v6, .int .i64 v7]).below' b1)
 have hlt := HB.out.lt
 have hne : ¬ w.heap.size = w1.heap.size := by omega
 have c0 : w1.cell? ⟨w.heap.size, 0, none⟩ = some (.int .i64 v0) := HB.out.cell 0
 have c1 : w1.cell? ⟨w.heap.size, 1, none⟩ = some (.int .i64 v1) := HB.out.cell 1
 have c2 : w1.cell? ⟨w.heap.size, 2, none⟩ = some (.int .i64 v2) := HB.out.cell 2
 have c3 : w1.cell? ⟨w.heap.size, 3, none⟩ = some (.int .i64 v3) := HB.out.cell 3
 have c4 : w1.cell? ⟨w.heap.size, 4, none⟩ = some (.int .i64 v4) := HB.out.cell 4
 have c5 : w1.cell? ⟨w.heap.size, 5, none⟩ = some (.int .i64 v5) := HB.out.cell 5
 have c6 : w1.cell? ⟨w.heap.size, 6, none⟩ = some (.int .i64 v6) := HB.out.cell 6
 have c7 : w1.cell? ⟨w.heap.size, 7, none⟩ = some (.int .i64 v7) := HB.out.cell 7
 clear b1
 go_wp2_with fail
 refine (Q2.out _).mono ?_
 rintro x w2 ⟨b2, rfl⟩
 have hp := hide ((Blk.new w1 76 #[.int .i64 a0, .int .i64 a1, .int .i64 a2, .int .i64 a3, .int .i64 a4, .int .i64 a5]).below' b2)
 have d4 : w2.cell? ⟨w1.heap.size, 4, none⟩ = some (.int .i64 a4) := hp.out.cell 4
 have d6 : w2.cell? ⟨w.heap.size, 6, none⟩ = some (.int .i64 v6) := ((HB.out.alloc _).below' b2).cell 6
 have B2 := hide ((B1.out.alloc B1.out.size _).trans (b2.mono (by have := B1.out.size; simp; omega)))
 clear b2 c0 c1 c2 c3 c4 c5 c6 c7
 go_wp2
 go_ret3
 exact ⟨B2.out, rfl⟩
end Go.Proofs.YtdohebhbiokljaaGreatDoor
namespace Go.Proofs.YtdohebhbiokljaaGreatDoor
open Go.RowKit
theorem zero_cells : Tryz.zeroCells25 = US.zero.cells := by kernel_rfl
theorem results_row_tmp2 {P : Program} {fn : Func} {p u v : Tmp} {ty : TypeId} (h : fn.results = #[.cell p ty, .tmp u, .tmp v]) (tmps : Array Value) (w : World) (g : Nat) (t : TypeId) (cs : Array Value) (fr : Nat × Nat) (d : TypeDesc)
  (hp : tmps.getD p undef = .pointer (some ⟨g, 0, none⟩)) (hg : w.heap[g]? = some (.cells cs t fr))
  (hu : P.underlying ty = some d) (hd : (match d with | .struct _ | .array _ _ => true | _ => false) = true) (hi : (P.info? ty).map (·.size) = some cs.size) :
  (results fn tmps).run P w = .ok (.tuple #[.agg cs, tmps.getD u undef, tmps.getD v undef]) w := by
 have hp' : tmps[p]?.getD undef = .pointer (some ⟨g, 0, none⟩) := by simpa using hp
 simp only [results, h]
 simp [Sem.run_bind, Result.andThen, hp', asAddr, run_loadVar_row w g t ty cs fr d hg hu hd hi]
theorem below_grown {w w' : World} (h : Below w.heap.size w w') (row : Option Nat) : w.grownBy w' row := ⟨h.os, h.tape, h.output, h.size, fun k hk _ => h.block k hk⟩
theorem cell_grown {w W : World} {row : Option Nat} {p : Addr} {v : Value} (h : w.cell? p = some v) (hg : w.grownBy W row) (hne : some p.block ≠ row) : W.cell? p = some v := by
 have hb := World.block_lt_of_cell? _ _ h
 have := hg.block p.block hb hne
 unfold World.cell? at h ⊢
 rw [this]
 exact h
set_option maxRecDepth 100000 in
theorem call_clo (k : Nat) (args : Array Value) (W : World) : (callFunc (cloF k) args).run Tryz.prog W = .ok (.enter (cloF k) args) W := by
 unfold cloF
 by_cases h : k < 4
 ·rw [if_pos h]; rfl
 ·rw [if_neg h]; rfl
theorem ueb_one (u : US) : u.cells.all (·.oneCell') = true := by
 unfold US.cells uebC
 rw [← Array.all_toList]
 simp [bcells, Value.oneCell']
theorem laid_row (k b g : Nat) (v : Value) (l : List UInt8) (u : US) (w : World) (hk : k < 6) (h : By w v l) (hl : l.length ≤ 1048576) (ht : Tab w) (he : Err w) (hb : w.cell? ⟨b, 0, none⟩ = some (.pointer (some (tgt g k)))) (hg : Blk w g 25 u.cells) (hu : u.wf) :
  Calls Tryz.prog (cloF k) #[v, .pointer (some ⟨b, 0, none⟩)] w fun e w' => e = .returned (.bool (okV k l)) ∧ w.grownBy w' (some g) ∧ (okV k l = true → Blk w' g 25 (putU u k l).cells) := by
 have hsz := US.size_ hu
 by_cases h4 : k < 4
 ·have e1 : cloF k = 106 := by unfold cloF; rw [if_pos h4]
  have e2 : tgt g k = ⟨g, k, none⟩ := by
   have hc : k = 0 ∨ k = 1 ∨ k = 2 ∨ k = 3 := by omega
   rcases hc with rfl | rfl | rfl | rfl <;> rfl
  rw [e1]
  rw [e2] at hb
  obtain ⟨old, hq⟩ : ∃ old, w.cell? ⟨g, k, none⟩ = some old := ⟨_, (hg.cell k).trans (Array.getElem?_eq_getElem (by omega))⟩
  refine (num_lay v l b ⟨g, k, none⟩ w h hl ht he hb old hq (hg.frozen k) rfl).mono ?_
  rintro e w' ⟨rfl, w1, b1, rfl⟩
  refine ⟨by unfold okV; rw [if_pos h4], (below_grown b1 _).trans_ (store_grown _ _ _ _), fun _ => ?_⟩
  rw [putU_num h4]
  exact (hg.below' b1).set_ k _
 ·have e1 : cloF k = 109 := by unfold cloF; rw [if_neg h4]
  rw [e1]
  obtain ⟨_, A, c, rfl, hc, _, hcell⟩ := h
  by_cases h32 : l.length = 32
  ·obtain ⟨gA, oA, rfl, _, hcs⟩ := hcell (by omega)
   have e2 : ∃ q, tgt g k = ⟨g, q, none⟩ ∧ q = (tgt 0 k).off ∧ q + 32 ≤ 68 := by
    have hc : k = 4 ∨ k = 5 := by omega
    rcases hc with rfl | rfl
    ·exact ⟨36, rfl, rfl, by omega⟩
    ·exact ⟨4, rfl, rfl, by omega⟩
   obtain ⟨q, e2, e3, e4⟩ := e2
   rw [e2] at hb
   rw [h32]
   refine (dig_lay gA oA c l b g q w h32 (by omega) (fun j v hv => ?_) hb (fun j hj => ⟨?_, hg.frozen _⟩)).mono ?_
   ·rw [hcs j (by have := (List.getElem?_eq_some_iff.1 hv).1; simpa using this)]
    exact hv
   ·rw [hg.cell, Array.getElem?_eq_getElem (by omega)]; rfl
   ·rintro e w' ⟨rfl, rfl⟩
    refine ⟨by unfold okV; rw [if_neg h4, decide_eq_true h32], (grown_drew (World.grownBy.refl w _)).trans_ (stores_grown _ _ _ _), fun _ => ?_⟩
    rw [putU_dig hu hk h4 h32, ← e3]
    exact blk_setCells _ _ _ _ hg.drew (by simp [h32]; omega)
  ·refine (dig_no A l.length c b w h32).mono ?_
   rintro e w' ⟨rfl, rfl⟩
   refine ⟨by unfold okV; rw [if_neg h4, decide_eq_false h32], World.grownBy.refl _ _, fun h' => ?_⟩
   unfold okV at h'
   rw [if_neg h4] at h'
   simp [h32] at h'
theorem look_yes {w W : World} {m n g : Nat} {D : DataW Unit} {B : Nat → Nat} (hown : w.ownsMap Tryz.prog 9 rFun m n D) (hne : m ≠ g) (hgr : w.grownBy W (some g)) (hhas : ∀ k, k < 6 → Maps.has D (keyL k) = true) (hat : ∀ k, k < 6 → ∀ z, D.atKey (keyL k) z = cloD k (B k)) (s : ByteArray) (k : Nat) (hk : kx (lst s) = k) (h6 : k < 6) :
  (Instr.lookup 142 (.map (some m)) (.string s) true).run Tryz.prog W = .ok (.tuple #[.func (.func (cloF k)) #[] #[.pointer (some ⟨B k, 0, none⟩)], .bool true]) W := by
 have hs : lst s = (keyB k).data.toList := key_kx hk h6
 have hsz : s.size ≤ maxLen := by
  have := lst_len s
  rw [hs] at this
  have h2 := key_len k
  have h3 : (keyB k).data.toList.length = (keyB k).size := lst_len _
  omega
 have hkey := WideMaps.keyOf_string_mk (P := Tryz.prog) Tryz.underlying9 hsz
 have hz : (zeroValue 145).run Tryz.prog W = .ok .nilFunc W := by kernel_rfl
 have hzd : rFun .nilFunc = some (.nil, []) := by
  unfold rFun
  rw [dif_neg (by rintro ⟨b, hb⟩; cases hb), dif_neg (by rintro ⟨b, hb⟩; cases hb)]
 obtain ⟨v, ps, hrun, hR⟩ := (hown.kept hgr (fun h => hne (Option.some.inj h))).look_ok keyed_str Tryz.underlying142 hz hzd hkey
 have hkl : (Lit.string s.data.toList) = keyL k := by unfold keyL; rw [← hs]
 rw [hkl, hhas k h6] at hrun
 rw [hkl, hat k h6] at hR
 rw [hrun, rFun_back hR]
 rfl
theorem look_no {w W : World} {m n g : Nat} {D : DataW Unit} (hown : w.ownsMap Tryz.prog 9 rFun m n D) (hne : m ≠ g) (hgr : w.grownBy W (some g)) (hno : ∀ s : List UInt8, (∀ k, k < 6 → s ≠ (keyB k).data.toList) → Maps.has D (.string s) = false) (s : ByteArray) (hs : s.size ≤ maxLen) (hk : ¬ kx (lst s) < 6) :
  ∃ v, ∀ X, X = W → (Instr.lookup 142 (.map (some m)) (.string s) true).run Tryz.prog X = .ok (.tuple #[v, .bool false]) X := by
 have hkey := WideMaps.keyOf_string_mk (P := Tryz.prog) Tryz.underlying9 hs
 have hz : (zeroValue 145).run Tryz.prog W = .ok .nilFunc W := by kernel_rfl
 have hzd : rFun .nilFunc = some (.nil, []) := by
  unfold rFun
  rw [dif_neg (by rintro ⟨b, hb⟩; cases hb), dif_neg (by rintro ⟨b, hb⟩; cases hb)]
 obtain ⟨v, ps, hrun, hR⟩ := (hown.kept hgr (fun h => hne (Option.some.inj h))).look_ok keyed_str Tryz.underlying142 hz hzd hkey
 rw [hno _ (key_no hk)] at hrun
 exact ⟨v, fun X hX => by rw [hX]; exact hrun⟩
set_option maxRecDepth 100000 in
set_option maxHeartbeats 4000000 in
theorem read_any (v : Value) (b : List UInt8) (w : World) (h : By w v b) (hl : b.length ≤ 9223372036854775807) (ht : Tab w) (he : Err w) :
  Calls Tryz.prog 69 #[v] w fun e w' => Below w.heap.size w w' ∧ e = readV (readU b) := by
 obtain ⟨A, c, rfl, hc, hm, _⟩ := h.form
 have Q1 := hide (fun W (hW : Below w.heap.size w W) => unpack_any (.slice A b.length c) b W (h.below hW) hl (ht.below hW) (he.below hW))
 have HT := hide (And.intro ht he)
 clear h ht he
 go_enter Tryz.func69, Tryz.ntmps69
 go_wp2_with fail
 refine (Q1.out _ ((Below.refl _ w).alloc (Nat.le_refl _) _)).mono ?_
 rintro e w1 ⟨b1, ⟨L, v', hu, rfl, hL⟩ | ⟨p, hu, rfl⟩⟩
 ·have HB0 := hide ((Blk.new w 25 US.zero.cells).below' (zero_cells ▸ b1))
  have B1 := hide (((Below.refl w.heap.size w).alloc (Nat.le_refl _) _).trans (b1.mono (by simp)))
  have HU := hide hu
  have HL := hide hL
  have hL2 := hide hL.rws_
  obtain ⟨_, A2, c2, rfl, hc2, hm2, _⟩ := hL.rws_.1
  have Q2 := hide (fun W => layers_any w1.heap.size W)
  clear b1 hu hL Q1
  go_wp2_with fail
  refine (Q2.out _).mono ?_
  rintro e w2 ⟨m, B, D, n, rfl, b2, hmm, hown, hn, hsz, hhas, hat, hno, hcell⟩
  have hlen := hown.len (ty := 3) Tryz.underlying142
  rw [hsz] at hlen
  have hrw := hL2.out
  have HOWN := hide hown
  have HM := hide (And.intro hhas (And.intro hat (And.intro hno hcell)))
  have B2 := hide ((Below.refl w1.heap.size w1).alloc (Nat.le_refl _) _ |>.trans (b2.mono (by simp)))
  have HBU := hide ((Blk.new w1 25 US.zero.cells).below' (zero_cells ▸ b2))
  have HMAY : Hid (may (rws L)) := by
   rcases unpack_cases b with ⟨rs, h1, _, h3⟩ | ⟨p, _, h1⟩
   ·have h2 := HU.out
    rw [h1] at h2
    simp only [Prod.mk.injEq] at h2
    rw [← h2.1]; exact h3
   ·have h2 := HU.out
    rw [h1] at h2
    simp at h2
  have hmm' : w1.heap.size < m := by simp at hmm; omega
  have HROW := hide hL2.out.form
  clear hown hhas hat hno hcell b2 hmm Q2 hrw
  by_cases h6 : L.length = 6
  ·have i6 : (L.length : Int) = 6 := by omega
   go_wp2
   go_loopw [35] (fun u35 wr => ∃ (i : Nat) (u : US), i ≤ L.length ∧ u35 = .int .i64 i ∧ Below w1.heap.size w1 wr ∧ w2.grownBy wr (some w1.heap.size) ∧ Blk wr w1.heap.size 25 u.cells ∧ u.wf ∧ u.in ∧ foldU u (rws (L.drop i)) = foldU US.zero (rws L)) (fun u35 _ => L.length - (intOf u35).toNat)
   case atStart => exact ⟨0, US.zero, by omega, rfl, B2.out, World.grownBy.refl _ _, HBU.out, US.zero_wf, US.zero_in, rfl⟩
   case round =>
    obtain ⟨i, u, hi, rfl, hb, hgr, hblk, hwf, hin, hfold⟩ := hrel
    by_cases hlt : i < L.length
    ·have i1 : (i : Int) < 6 := by omega
     obtain ⟨x, hx⟩ : ∃ x, L[i]? = some x := ⟨_, List.getElem?_eq_getElem hlt⟩
     obtain ⟨A', c', hv, _, _, hcl⟩ := HROW.out
     injection hv with e1 _ e3
     subst e1 e3
     obtain ⟨bb, o, rfl, hbl, h1, h2⟩ := hcl i x hx
     have i2 : (i : Int) < (L.length : Int) := by omega
     have i3 : (0 : Int) ≤ (i : Int) := by omega
     have hb1 : wr.cell? ⟨bb, o + i * 2, none⟩ = some (.string x.1) := (hb.cell (p := ⟨bb, o + i * 2, none⟩) hbl).trans h1
     have hb2 : wr.cell? ⟨bb, o + i * 2 + 1, none⟩ = some x.2.1 := (hb.cell (p := ⟨bb, o + i * 2 + 1, none⟩) hbl).trans h2
     have hby := (hL2.out.2 x (List.mem_of_getElem? hx)).below hb
     obtain ⟨A3, c3, hv3, _⟩ := hby.form
     rw [hv3] at hb2 hby
     have HBY := hide hby
     have HBB := hide hb
     have HGR := hide hgr
     have HBK := hide hblk
     have HF := hide hfold
     clear hcl h1 h2 hby hb hgr hblk hfold hv3
     have hsp := (may_mem HMAY.out _ (List.mem_of_getElem? (rws_get hx)))
     have hdrop : rws (L.drop i) = (lst x.1, x.2.2) :: rws (L.drop (i + 1)) := by
      obtain ⟨hlt', hge⟩ := List.getElem?_eq_some_iff.1 hx
      rw [List.drop_eq_getElem_cons hlt', hge]
      rfl
     rw [hdrop] at HF
     have hg1 : w2.grownBy (wr.alloc (.cells #[.string x.1, .slice A3 x.2.2.length c3] 94)) (some w1.heap.size) := HGR.out.trans_ (World.grownBy_alloc wr _ _)
     have hBW := Below.al0 HBB.out (.cells #[.string x.1, .slice A3 x.2.2.length c3] 94)
     by_cases hk : kx (lst x.1) < 6
     ·have hlk := look_yes HOWN.out (by omega) hg1 HM.out.1 HM.out.2.1 x.1 _ rfl hk
      have Q3 := hide (laid_row _ (B (kx (lst x.1))) w1.heap.size _ x.2.2 u _ hk (HBY.out.alloc _) (Nat.le_trans hsp.2 (by omega)) (HT.out.1.below (Below.step B1.out hBW)) (HT.out.2.below (Below.step B1.out hBW)) (cell_grown (HM.out.2.2.2 _ hk).1 hg1 (fun h => by have := (HM.out.2.2.2 _ hk).2; have h' := Option.some.inj h; simp at h' this; omega)) (HBK.out.alloc _) hwf)
      have hcf := call_clo (kx (lst x.1))
      generalize hkk : kx (lst x.1) = k at *
      have HG1 := hide hg1
      have HBW := hide hBW
      have hb0 := (HB0.out.below' HBB.out).alloc (.cells #[.string x.1, .slice A3 x.2.2.length c3] 94)
      have hlt1 := HB0.out.lt
      rcases hok : okV k x.2.2 with _ | _
      ·rw [hok] at Q3
       have hno' : foldU US.zero (rws L) = none := by
        rw [← HF.out]
        unfold foldU stepU
        simp only [hkk, hok]
        rw [if_neg (by simp)]
       have HNO := hide hno'
       clear hdrop hg1 hBW hkk hok hno'
       go_wp2_with fail
       refine Q3.out.mono ?_
       rintro e w4 ⟨rfl, g4, -⟩
       have HB4 := hide (hb0.grown g4 (fun h => by have := Option.some.inj h; omega))
       have BB4 := hide ((Below.step B1.out HBW.out).grown g4 (Below.step B1.out HBW.out).size (fun k hk => by cases hk; exact B1.out.size))
       clear g4 hb0 Q3
       go_wp2_with (refine wpList_store_row (o := ⟨none, .store _ _ _, _, _, _, _⟩) HB4.out US.zero.cells rfl (by kernel_rfl) rfl 25 _ _ rfl (by kernel_rfl) rfl (by rw [← zero_cells]; rfl) ?_; intro wf hb1 hg1)
       refine bodyPost_ret (results_row_tmp2 rfl _ _ w.heap.size 25 US.zero.cells (0, 0) _ rfl hb1 Tryz.underlying25 rfl (by kernel_rfl)) rfl ⟨BB4.out.grown hg1 (by have := HB4.out.lt; omega) (fun k hk => by cases hk; omega), ?_⟩
       rw [readU_no HU.out HNO.out]; rfl
      ·rw [hok] at Q3
       have hnext : foldU (putU u k x.2.2) (rws (L.drop (i + 1))) = foldU US.zero (rws L) := by
        rw [← HF.out]
        conv => rhs; unfold foldU stepU
        simp only [hkk, hok]
        rw [if_pos (by simp [hk])]
       have HNX := hide hnext
       have HWF := hide (And.intro (putU_wf hwf hk hok) (putU_in (v := x.2.2) hin hk))
       clear hdrop hg1 hBW hkk hok hnext hwf hin
       go_wp2_with fail
       refine Q3.out.mono ?_
       rintro e w4 ⟨rfl, g4, hb4⟩
       have HG4 := hide g4
       have HB4 := hide (hb4 trivial)
       have BB4 := hide (HBW.out.grown g4 HBW.out.size (fun k hk => by cases hk; exact Nat.le_refl _))
       clear g4 hb0 Q3 hb4
       go_wp2_with fail
       go_roundw
       case rel => exact ⟨i + 1, putU u k x.2.2, by omega, by simp, BB4.out, HG1.out.trans_ HG4.out, HB4.out, HWF.out.1, HWF.out.2, HNX.out⟩
       case measure => simp [intOf]; omega
     ·obtain ⟨vv, hlk0⟩ := look_no HOWN.out (by omega) hg1 HM.out.2.2.1 x.1 (by have := hsp.1; rw [lst_len] at this; unfold maxLen; omega) hk
      have hlk := hlk0 _ rfl
      have hb0 := (HB0.out.below' HBB.out).alloc (.cells #[.string x.1, .slice A3 x.2.2.length c3] 94)
      have hlt1 := HB0.out.lt
      have hno' : foldU US.zero (rws L) = none := by
       rw [← HF.out]
       unfold foldU stepU
       simp only
       rw [if_neg (fun h => hk h.1)]
      have HNO := hide hno'
      have HB4 := hide hb0
      have BB4 := hide (Below.step B1.out hBW)
      clear hdrop hg1 hBW hno' hb0 hlk0
      go_wp2_with (refine wpList_store_row (o := ⟨none, .store _ _ _, _, _, _, _⟩) HB4.out US.zero.cells rfl (by kernel_rfl) rfl 25 _ _ rfl (by kernel_rfl) rfl (by rw [← zero_cells]; rfl) ?_; intro wf hb1 hg1)
      refine bodyPost_ret (results_row_tmp2 rfl _ _ w.heap.size 25 US.zero.cells (0, 0) _ rfl hb1 Tryz.underlying25 rfl (by kernel_rfl)) rfl ⟨BB4.out.grown hg1 (by have := HB4.out.lt; omega) (fun k hk => by cases hk; omega), ?_⟩
      rw [readU_no HU.out HNO.out]; rfl
    ·have hi6 : i = L.length := by omega
     subst hi6
     have hf6 : foldU US.zero (rws L) = some u := by rw [← hfold, List.drop_length]; rfl
     have i1 : ¬ (L.length : Int) < 6 := by omega
     have hsz6 := US.size_ hwf
     unfold US.in at hin
     have q4 : ∀ W, Calls Tryz.prog 74 #[.agg u.cells] W _ := fun W => check_any_ueb u.k u.n u.seg u.size (bcells u.sh ++ bcells u.sg) W (by omega) (by omega) (by omega) (by omega)
     have Q4 := hide q4
     have HR := hide (readU_some HU.out (by rw [rws_length]; exact h6) hf6)
     have HBK := hide hblk
     have HBB := hide hb
     have HSZ := hide hsz6
     have H1C := hide (ueb_one u)
     have hb0 := HB0.out.below' hb
     have hlt1 := HB0.out.lt
     have hle1 := hb.size
     clear q4 hf6 hfold hgr hblk hb hsz6 hin hwf
     obtain ⟨k0, n0, g0, z0, sh0, sg0⟩ := u
     generalize hcs : US.cells ⟨k0, n0, g0, z0, sh0, sg0⟩ = cs at *
     go_wp2_with (refine wpList_load_row (o := ⟨some 57, .load _ _, _, _, _, _⟩) rfl 25 _ rfl w1.heap.size rfl 25 cs (0, 0) _ HBK.out Tryz.underlying25 rfl (by rw [HSZ.out]; kernel_rfl) ?_)
     refine (Q4.out _).mono ?_
     rintro e w4 ⟨b4, rfl⟩
     have HB4 := hide (hb0.below' b4)
     have HK4 := hide (HBK.out.below' b4)
     have BB4 := hide ((B1.out.trans (HBB.out.mono B1.out.size)).trans (b4.mono (Nat.le_trans B1.out.size hle1)))
     clear b4 hb0 Q4
     by_cases hag : agOK k0 n0 g0 z0
     ·rw [if_pos hag]
      simp only [if_pos hag] at HR
      clear hag
      go_wp2_with first
       | ((with_reducible change wpList _ _ _ (⟨some 63, _, _, _, _, _⟩ :: _) _ _); refine wpList_load_row (o := ⟨some 63, .load _ _, _, _, _, _⟩) rfl 25 _ rfl w1.heap.size rfl 25 cs (0, 0) _ HK4.out Tryz.underlying25 rfl (by rw [HSZ.out]; kernel_rfl) ?_)
       | (refine wpList_store_row (o := ⟨none, .store _ _ _, _, _, _, _⟩) HB4.out cs (by rw [HSZ.out]; rfl) H1C.out rfl 25 _ _ rfl (by rw [HSZ.out]; kernel_rfl) rfl rfl ?_; intro wf hb1 hg1)
      refine bodyPost_ret (results_row_tmp2 rfl _ _ w.heap.size 25 cs (0, 0) _ rfl hb1 Tryz.underlying25 rfl (by rw [HSZ.out]; kernel_rfl)) rfl ⟨BB4.out.grown hg1 (by have := HB4.out.lt; omega) (fun k hk => by cases hk; omega), ?_⟩
      rw [HR.out]
      unfold readV
      simp only [hcs]
      rfl
     ·rw [if_neg hag]
      simp only [if_neg hag] at HR
      clear hag
      go_wp2_with (refine wpList_store_row (o := ⟨none, .store _ _ _, _, _, _, _⟩) HB4.out US.zero.cells rfl (by kernel_rfl) rfl 25 _ _ rfl (by kernel_rfl) rfl (by rw [← zero_cells]; rfl) ?_; intro wf hb1 hg1)
      refine bodyPost_ret (results_row_tmp2 rfl _ _ w.heap.size 25 US.zero.cells (0, 0) _ rfl hb1 Tryz.underlying25 rfl (by kernel_rfl)) rfl ⟨BB4.out.grown hg1 (by have := HB4.out.lt; omega) (fun k hk => by cases hk; omega), ?_⟩
      rw [HR.out]; rfl
  ·have i6 : ¬ (L.length : Int) = 6 := by omega
   go_wp2_with (refine wpList_store_row (o := ⟨none, .store _ _ _, _, _, _, _⟩) (HB0.out.below' B2.out) US.zero.cells rfl (by kernel_rfl) rfl 25 _ _ rfl (by kernel_rfl) rfl (by rw [← zero_cells]; rfl) ?_; intro wf hb1 hg1)
   refine bodyPost_ret (results_row_tmp2 rfl _ _ w.heap.size 25 US.zero.cells (0, 0) _ rfl hb1 Tryz.underlying25 rfl (by kernel_rfl)) rfl ⟨?_, ?_⟩
   ·exact (B1.out.trans (B2.out.mono B1.out.size)).grown hg1 (by have := HB0.out.lt; have := B2.out.size; omega) (fun k hk => by cases hk; omega)
   ·rw [readU_len HU.out (by rw [rws_length]; exact h6)]; rfl
 ·have HB0 := hide ((Blk.new w 25 US.zero.cells).below' (zero_cells ▸ b1))
  have B1 := hide (((Below.refl w.heap.size w).alloc (Nat.le_refl _) _).trans (b1.mono (by simp)))
  have HU := hide hu
  clear b1 hu Q1
  go_wp2_with (refine wpList_store_row (o := ⟨none, .store _ _ _, _, _, _, _⟩) HB0.out US.zero.cells rfl (by kernel_rfl) rfl 25 _ _ rfl (by kernel_rfl) rfl (by rw [← zero_cells]; rfl) ?_; intro wf hb1 hg1)
  refine bodyPost_ret (results_row_tmp2 rfl _ _ w.heap.size 25 US.zero.cells (0, 0) _ rfl hb1 Tryz.underlying25 rfl (by kernel_rfl)) rfl ⟨?_, ?_⟩
  ·exact B1.out.grown hg1 (by have := HB0.out.lt; omega) (fun k hk => by cases hk; omega)
  ·rw [readU_form HU.out]; rfl
end Go.Proofs.YtdohebhbiokljaaGreatDoor
namespace Go.Proofs.YtdohebhbiokljaaGreatDoor
open Go.RowKit
def US.in64 (u : US) : Prop := (-9223372036854775808 ≤ u.k ∧ u.k ≤ 9223372036854775807) ∧ (-9223372036854775808 ≤ u.n ∧ u.n ≤ 9223372036854775807) ∧ (-9223372036854775808 ≤ u.seg ∧ u.seg ≤ 9223372036854775807) ∧ (-9223372036854775808 ≤ u.size ∧ u.size ≤ 9223372036854775807)
theorem US.may_in64 {u : US} (h : u.may) : u.in64 := by
 have := agOK_in h
 unfold US.in64
 omega
theorem writeU_ok (u : US) (hw : u.wf) (ha : u.may) (w : World) (ht : Tab w) :
  Calls Tryz.prog 43 #[.agg u.cells] w fun e w' => Below w.heap.size w w' ∧ ∃ A c, e = .returned (.tuple #[.slice A (writeU u).length c, .int .i64 0]) ∧ Own w' w.heap.size 5 (.slice A (writeU u).length c) (writeU u) := by
 obtain ⟨h1, h2, h3, h4⟩ := US.may_in64 ha
 refine Calls.mono (write_ok u.k u.n u.seg u.size u.sh u.sg w h1 h2 h3 h4 hw.1 hw.2 ht ha) ?_
 rintro e w' ⟨b, A, n', c, rfl, o⟩
 have hn : n' = (writeU u).length := by
  obtain ⟨A', c', hv, _⟩ := o.by_.form
  injection hv
 subst hn
 exact ⟨b, A, c, rfl, o⟩
theorem writeU_bad (u : US) (hw : u.wf) (hi : u.in64) (hn : ¬ u.may) (w : World) :
  Calls Tryz.prog 43 #[.agg u.cells] w fun e w' => Below w.heap.size w w' ∧ e = .returned (.tuple #[.slice none 0 0, .int .i64 133]) :=
 write_bad u.k u.n u.seg u.size (bcells u.sh ++ bcells u.sg) w hi.1 hi.2.1 hi.2.2.1 hi.2.2.2 (by simp [hw.1, hw.2]) hn
end Go.Proofs.YtdohebhbiokljaaGreatDoor
namespace Go.Proofs.YtdohebhbiokljaaGreatDoor
open Go.RowKit
structure FS where
 num : Int
 u : US
 ch : List (List UInt8)
 bs : List (List UInt8)
 sg : List (List UInt8)
structure SS where
 f : FS
 data : List (List UInt8)
def Dg (l : List (List UInt8)) : Prop := ∀ x ∈ l, x.length = 32
def FS.wf (f : FS) : Prop := f.u.wf ∧ Dg f.ch ∧ Dg f.bs ∧ Dg f.sg
def CU (u : US) : Nat := chainLen u.n.toNat
def SG (u : US) : Nat := upN u.size.toNat u.seg.toNat
def TU (u : US) : Nat := 2 * wid (SG u) - 1
def BL (u : US) : Nat := u.seg.toNat / u.k.toNat
def LS (u : US) : Nat := upN (u.size.toNat - (SG u - 1) * u.seg.toNat) u.k.toNat
def pl (u : US) (L : Nat) : Nat → Nat
 | 0 => 36
 | 1 => 36 + L
 | 2 => 36 + L + 32 * CU u
 | 3 => 36 + L + 32 * CU u + 32 * TU u
 | 4 => 36 + L + 32 * CU u + 32 * TU u + 32 * TU u
 | _ => 36 + L + 32 * CU u + 32 * TU u + 32 * TU u + ((SG u - 1) * BL u + LS u)
theorem u_bounds {u : US} (h : u.may) : 1 ≤ SG u ∧ SG u ≤ 512 ∧ BL u ≤ 65536 ∧ LS u ≤ BL u ∧ 1 ≤ LS u ∧ CU u ≤ 10 ∧ TU u ≤ 1023 ∧ 1 ≤ TU u ∧ u.n ≤ 255 ∧ 1 ≤ u.n := by
 obtain ⟨K, N, G, Z, sh, sg⟩ := u
 obtain ⟨⟨h1, h2, h3, h4, h5⟩, h6, h7, h8, h9, h10⟩ := h
 unfold SG TU BL LS CU
 unfold SG
 simp only at *
 obtain ⟨k, rfl⟩ := Int.eq_ofNat_of_zero_le (show 0 ≤ K by omega)
 obtain ⟨n, rfl⟩ := Int.eq_ofNat_of_zero_le (show 0 ≤ N by omega)
 obtain ⟨g, rfl⟩ := Int.eq_ofNat_of_zero_le (show 0 ≤ G by omega)
 obtain ⟨z, rfl⟩ := Int.eq_ofNat_of_zero_le (show 0 ≤ Z by omega)
 simp only [Int.toNat_natCast] at *
 have hs := upN_spec z g (by omega) (by omega)
 have hb1 : g / k ≤ upN 65536 k := by omega
 have hb2 := upN_le 65536 k (by omega)
 have hkg : k ∣ g := Nat.dvd_of_mod_eq_zero (by omega)
 have hc := chainLen_le n
 have hw := wid_le (upN z g)
 have hw1 := wid_pos (upN z g)
 obtain ⟨q, hq⟩ := hkg
 have hqb : g / k = q := by rw [hq]; exact Nat.mul_div_cancel_left q (by omega)
 have ht : 1 ≤ z - (upN z g - 1) * g := by omega
 have ht2 : z - (upN z g - 1) * g ≤ g := by
  have : (upN z g - 1) * g + g = upN z g * g := by
   conv => rhs; rw [show upN z g = (upN z g - 1) + 1 by omega]
   rw [Nat.add_mul, Nat.one_mul]
  omega
 have hl := upN_spec (z - (upN z g - 1) * g) k (by omega) ht
 have hl2 : upN (z - (upN z g - 1) * g) k ≤ q := by
  refine Nat.le_of_lt_succ (Nat.lt_of_mul_lt_mul_right (a := k) (show upN (z - (upN z g - 1) * g) k * k < (q + 1) * k from ?_))
  have h1 : (upN (z - (upN z g - 1) * g) k - 1) * k + k = upN (z - (upN z g - 1) * g) k * k := by
   conv => rhs; rw [show upN (z - (upN z g - 1) * g) k = (upN (z - (upN z g - 1) * g) k - 1) + 1 by omega]
   rw [Nat.add_mul, Nat.one_mul]
  have h2 : (q + 1) * k = k * q + k := by rw [Nat.add_mul, Nat.one_mul, Nat.mul_comm]
  omega
 refine ⟨hs.1, by omega, by omega, by omega, hl.1, hc, by omega, by omega, by omega, by omega⟩
theorem pl_lt {u : US} (h : u.may) {L : Nat} (hL : L ≤ 67108864) (i : Nat) : pl u L i < 4294967296 := by
 obtain ⟨h1, h2, h3, h4, h5, h6, h7, h8, _⟩ := u_bounds h
 have : (SG u - 1) * BL u ≤ 511 * 65536 := Nat.mul_le_mul (by omega) h3
 unfold pl
 split <;> omega
def bw4 (x : Nat) : List UInt8 := [UInt8.ofNat (x / 16777216), UInt8.ofNat (x / 65536), UInt8.ofNat (x / 256), UInt8.ofNat x]
theorem bigL_bw4 (x : Nat) : bigL x 4 = bw4 x := by
 simp [bigL, bw4, List.range_succ]
def vw4 (a b c d : UInt8) : Nat := ((a.toNat * 256 + b.toNat) * 256 + c.toNat) * 256 + d.toNat
def val4 : List UInt8 → Nat
 | [a, b, c, d] => vw4 a b c d
 | _ => 0
theorem vw4_lt (a b c d : UInt8) : vw4 a b c d < 4294967296 := by
 unfold vw4
 have := a.toNat_lt; have := b.toNat_lt; have := c.toNat_lt; have := d.toNat_lt
 omega
theorem bw4_val4 {l : List UInt8} (h : l.length = 4) : bw4 (val4 l) = l := by
 match l, h with
 | [a, b, c, d], _ =>
  have h1 := a.toNat_lt; have h2 := b.toNat_lt; have h3 := c.toNat_lt; have h4 := d.toNat_lt
  have e : ∀ (x : UInt8) (n : Nat), n % 256 = x.toNat → UInt8.ofNat n = x := fun x n hx => by
   apply UInt8.toNat_inj.1
   rw [UInt8.toNat_ofNat', hx]
  simp only [val4, bw4, vw4]
  rw [e a _ (by omega), e b _ (by omega), e c _ (by omega), e d _ (by omega)]
def w4 (b : List UInt8) (at_ : Nat) : Nat := val4 ((b.drop at_).take 4)
theorem val4_lt (l : List UInt8) : val4 l < 4294967296 := by
 unfold val4
 split
 ·exact vw4_lt _ _ _ _
 ·omega
theorem w4_lt (b : List UInt8) (i : Nat) : w4 b i < 4294967296 := val4_lt _
def mark4 : List UInt8 := [82, 79, 79, 77]
def hdF (num : Nat) (u : US) (L : Nat) : List UInt8 :=
 mark4 ++ (bw4 1 ++ (bw4 num ++ (bw4 (pl u L 0) ++ (bw4 (pl u L 1) ++ (bw4 (pl u L 2) ++ (bw4 (pl u L 3) ++ (bw4 (pl u L 4) ++ bw4 (pl u L 5))))))))
theorem hdF_length (num : Nat) (u : US) (L : Nat) : (hdF num u L).length = 36 := by simp [hdF, mark4, bw4]
def okF (f : FS) : Prop := f.u.may ∧ 0 ≤ f.num ∧ f.num < f.u.n ∧ f.ch.length = CU f.u ∧ f.bs.length = TU f.u ∧ f.sg.length = TU f.u
def packF (f : FS) : List UInt8 := hdF f.num.toNat f.u (writeU f.u).length ++ (writeU f.u ++ (f.ch.flatten ++ (f.bs.flatten ++ f.sg.flatten)))
def lens (u : US) : List Nat := (List.range (SG u)).map fun j => if j + 1 = SG u then LS u else BL u
def okS (s : SS) : Prop := okF s.f ∧ s.data.map List.length = lens s.f.u
def packS (s : SS) : List UInt8 := packF s.f ++ s.data.flatten
def ck : Nat → List UInt8 → List (List UInt8)
 | 0, _ => []
 | n + 1, l => l.take 32 :: ck n (l.drop 32)
theorem ck_length : ∀ (n : Nat) (l : List UInt8), (ck n l).length = n
 | 0, _ => rfl
 | n + 1, l => by simp [ck, ck_length n]
theorem ck_flat : ∀ (n : Nat) (l : List UInt8), l.length = 32 * n → (ck n l).flatten = l
 | 0, l, h => by simp at h; simp [ck, h]
 | n + 1, l, h => by
  have := ck_flat n (l.drop 32) (by simp; omega)
  simp only [ck, List.flatten_cons, this, List.take_append_drop]
theorem ck_dg : ∀ (n : Nat) (l : List UInt8), 32 * n ≤ l.length → Dg (ck n l)
 | 0, _, _ => fun x hx => by simp [ck] at hx
 | n + 1, l, h => fun x hx => by
  simp only [ck, List.mem_cons] at hx
  rcases hx with rfl | hx
  ·simp; omega
  ·exact ck_dg n (l.drop 32) (by simp; omega) x hx
theorem flat_len {D : List (List UInt8)} (h : Dg D) : D.flatten.length = 32 * D.length := by
 induction D with
 | nil => rfl
 | cons x D ih =>
  have hx : x.length = 32 := h x (by simp)
  have := ih fun y hy => h y (by simp [hy])
  simp only [List.flatten_cons, List.length_append, List.length_cons]
  omega
def cutD : List Nat → List UInt8 → List (List UInt8)
 | [], _ => []
 | n :: ns, l => l.take n :: cutD ns (l.drop n)
theorem cutD_flat : ∀ (ns : List Nat) (l : List UInt8), l.length = ns.sum → (cutD ns l).flatten = l
 | [], l, h => by simp at h; simp [cutD, h]
 | n :: ns, l, h => by
  rw [List.sum_cons] at h
  have := cutD_flat ns (l.drop n) (by simp; omega)
  simp only [cutD, List.flatten_cons, this, List.take_append_drop]
theorem cutD_lens : ∀ (ns : List Nat) (l : List UInt8), ns.sum ≤ l.length → (cutD ns l).map List.length = ns
 | [], _, _ => rfl
 | n :: ns, l, h => by
  rw [List.sum_cons] at h
  have := cutD_lens ns (l.drop n) (by simp; omega)
  simp only [cutD, List.map_cons, this, List.length_take]
  rw [Nat.min_eq_left (by omega)]
theorem lens_sum {u : US} (h : 1 ≤ SG u) : (lens u).sum = (SG u - 1) * BL u + LS u := by
 have key : ∀ n, n < SG u → ((List.range n).map fun j => if j + 1 = SG u then LS u else BL u).sum = n * BL u := by
  intro n
  induction n with
  | zero => intro _; simp
  | succ n ih =>
   intro hn
   rw [List.range_succ, List.map_append, List.sum_append, ih (by omega), List.map_singleton, List.sum_singleton, if_neg (by omega), Nat.add_mul, Nat.one_mul]
 unfold lens
 conv => lhs; rw [show SG u = (SG u - 1) + 1 by omega, List.range_succ, List.map_append, List.sum_append, List.map_singleton, List.sum_singleton]
 rw [← show SG u = (SG u - 1) + 1 by omega, if_pos (by omega), key _ (by omega)]
def sub (b : List UInt8) (i j : Nat) : List UInt8 := (b.drop i).take (j - i)
def txt (b : List UInt8) : List UInt8 := sub b 36 (w4 b 16)
def openF (e : Nat) (b : List UInt8) : Option FS × Nat :=
 if b.length < 36 then (none, b.length)
 else if b.take 4 ≠ mark4 then (none, 0)
 else if w4 b 4 ≠ 1 then (none, 4)
 else if w4 b 12 ≠ 36 then (none, 12)
 else if w4 b 16 < 36 ∨ b.length < w4 b 16 then (none, 16)
 else if (readU (txt b)).2.2 ≠ 0 then (none, 36)
 else if (readU (txt b)).1.n ≤ (w4 b 8 : Int) then (none, 8)
 else if w4 b 20 ≠ pl (readU (txt b)).1 (w4 b 16 - 36) 2 then (none, 20)
 else if w4 b 24 ≠ pl (readU (txt b)).1 (w4 b 16 - 36) 3 then (none, 24)
 else if w4 b 28 ≠ pl (readU (txt b)).1 (w4 b 16 - 36) 4 then (none, 28)
 else if w4 b 32 ≠ pl (readU (txt b)).1 (w4 b 16 - 36) 5 then (none, 32)
 else if b.length ≠ pl (readU (txt b)).1 (w4 b 16 - 36) e then (none, min b.length (pl (readU (txt b)).1 (w4 b 16 - 36) e))
 else (some ⟨(w4 b 8 : Int), (readU (txt b)).1, ck (CU (readU (txt b)).1) (sub b (pl (readU (txt b)).1 (w4 b 16 - 36) 1) (pl (readU (txt b)).1 (w4 b 16 - 36) 2)),
  ck (TU (readU (txt b)).1) (sub b (pl (readU (txt b)).1 (w4 b 16 - 36) 2) (pl (readU (txt b)).1 (w4 b 16 - 36) 3)), ck (TU (readU (txt b)).1) (sub b (pl (readU (txt b)).1 (w4 b 16 - 36) 3) (pl (readU (txt b)).1 (w4 b 16 - 36) 4))⟩, 0)
def openS (b : List UInt8) : Option SS × Nat :=
 match openF 5 b with
 | (some f, _) => (some ⟨f, cutD (lens f.u) (b.drop (pl f.u (w4 b 16 - 36) 4))⟩, 0)
 | (none, at_) => (none, at_)
theorem cond_ok {c : Prop} [Decidable c] {x : Option FS × Nat} {k : Nat} {f : FS} {m : Nat} (h : (if c then (none, k) else x) = (some f, m)) : ¬ c ∧ x = (some f, m) := by
 by_cases hc : c
 ·rw [if_pos hc] at h
  simp at h
 ·rw [if_neg hc] at h
  exact ⟨hc, h⟩
structure Opened (e : Nat) (b : List UInt8) (f : FS) : Prop where
 long : 36 ≤ b.length
 mrk : b.take 4 = mark4
 form : w4 b 4 = 1
 head : w4 b 12 = 36
 text : 36 ≤ w4 b 16 ∧ w4 b 16 ≤ b.length
 ueb : readU (txt b) = (f.u, 0, 0)
 num : f.num = (w4 b 8 : Int) ∧ (w4 b 8 : Int) < f.u.n
 p2 : w4 b 20 = pl f.u (w4 b 16 - 36) 2
 p3 : w4 b 24 = pl f.u (w4 b 16 - 36) 3
 p4 : w4 b 28 = pl f.u (w4 b 16 - 36) 4
 p5 : w4 b 32 = pl f.u (w4 b 16 - 36) 5
 len : b.length = pl f.u (w4 b 16 - 36) e
 ch : f.ch = ck (CU f.u) (sub b (pl f.u (w4 b 16 - 36) 1) (pl f.u (w4 b 16 - 36) 2))
 bs : f.bs = ck (TU f.u) (sub b (pl f.u (w4 b 16 - 36) 2) (pl f.u (w4 b 16 - 36) 3))
 sg : f.sg = ck (TU f.u) (sub b (pl f.u (w4 b 16 - 36) 3) (pl f.u (w4 b 16 - 36) 4))
theorem openF_ok {e : Nat} {b : List UInt8} {f : FS} {m : Nat} (h : openF e b = (some f, m)) : Opened e b f ∧ m = 0 := by
 unfold openF at h
 obtain ⟨h0, h⟩ := cond_ok h
 obtain ⟨h1, h⟩ := cond_ok h
 obtain ⟨h2, h⟩ := cond_ok h
 obtain ⟨h3, h⟩ := cond_ok h
 obtain ⟨h4, h⟩ := cond_ok h
 obtain ⟨h5, h⟩ := cond_ok h
 obtain ⟨h6, h⟩ := cond_ok h
 obtain ⟨h7, h⟩ := cond_ok h
 obtain ⟨h8, h⟩ := cond_ok h
 obtain ⟨h9, h⟩ := cond_ok h
 obtain ⟨h10, h⟩ := cond_ok h
 obtain ⟨h11, h⟩ := cond_ok h
 simp only [Prod.mk.injEq, Option.some.injEq] at h
 obtain ⟨rfl, hm⟩ := h
 refine ⟨⟨by omega, Classical.not_not.1 h1, by omega, by omega, by omega, ?_, ⟨rfl, by simp only; omega⟩, by simp only; omega, by simp only; omega, by simp only; omega, by simp only; omega, by simp only; omega, rfl, rfl, rfl⟩, hm.symm⟩
 rcases readU_cases (txt b) with ⟨u, hu⟩ | ⟨p, q, hu, hq, _⟩
 ·rw [hu]
 ·rw [hu] at h5; exact absurd h5 (by simp; exact hq)
theorem take_split (b : List UInt8) (i n m : Nat) : (b.drop i).take (n + m) = (b.drop i).take n ++ (b.drop (i + n)).take m := by
 rw [List.take_add, List.drop_drop]
theorem head_split (b : List UInt8) : b.take 36 = b.take 4 ++ ((b.drop 4).take 4 ++ ((b.drop 8).take 4 ++ ((b.drop 12).take 4 ++ ((b.drop 16).take 4 ++ ((b.drop 20).take 4 ++ ((b.drop 24).take 4 ++ ((b.drop 28).take 4 ++ (b.drop 32).take 4))))))) := by
 have := take_split b 0 4 32
 simp only [List.drop_zero] at this
 rw [this, take_split b _ 4 28, take_split b _ 4 24, take_split b _ 4 20, take_split b _ 4 16, take_split b _ 4 12, take_split b _ 4 8, take_split b _ 4 4]
theorem bw4_w4 {b : List UInt8} {i : Nat} (h : i + 4 ≤ b.length) : (b.drop i).take 4 = bw4 (w4 b i) := (bw4_val4 (by simp; omega)).symm
theorem sub_length {b : List UInt8} {i j : Nat} (h : j ≤ b.length) : (sub b i j).length = j - i := by simp [sub]; omega
theorem sub_glue (b : List UInt8) {i j k : Nat} (h1 : i ≤ j) (h2 : j ≤ k) : sub b i j ++ sub b j k = sub b i k := by
 unfold sub
 rw [show k - i = (j - i) + (k - j) by omega, take_split, show i + (j - i) = j by omega]
theorem pl_0 (u : US) (L : Nat) : pl u L 0 = 36 := rfl
theorem pl_1 (u : US) (L : Nat) : pl u L 1 = 36 + L := rfl
theorem pl_2 (u : US) (L : Nat) : pl u L 2 = pl u L 1 + 32 * CU u := rfl
theorem pl_3 (u : US) (L : Nat) : pl u L 3 = pl u L 2 + 32 * TU u := rfl
theorem pl_4 (u : US) (L : Nat) : pl u L 4 = pl u L 3 + 32 * TU u := rfl
theorem pl_5 (u : US) (L : Nat) : pl u L 5 = pl u L 4 + ((SG u - 1) * BL u + LS u) := rfl
theorem Opened.txt_len {e : Nat} {b : List UInt8} {f : FS} (h : Opened e b f) : (writeU f.u).length = w4 b 16 - 36 := by
 have := (readU_one h.ueb).1
 rw [← this]
 exact sub_length h.text.2
theorem Opened.may {e : Nat} {b : List UInt8} {f : FS} (h : Opened e b f) : f.u.may := (readU_one h.ueb).2.2
theorem Opened.okF {e : Nat} {b : List UInt8} {f : FS} (h : Opened e b f) : okF f :=
 ⟨h.may, by have := h.num.1; omega, by have := h.num; omega, by rw [h.ch, ck_length], by rw [h.bs, ck_length], by rw [h.sg, ck_length]⟩
theorem Opened.pack {e : Nat} {b : List UInt8} {f : FS} (h : Opened e b f) (hl : pl f.u (w4 b 16 - 36) 4 ≤ b.length) : packF f = b.take (pl f.u (w4 b 16 - 36) 4) := by
 have ht := h.txt_len
 have h4 := pl_4 f.u (w4 b 16 - 36)
 have h3 := pl_3 f.u (w4 b 16 - 36)
 have h2 := pl_2 f.u (w4 b 16 - 36)
 have h1 := pl_1 f.u (w4 b 16 - 36)
 have hx := h.text
 have e1 : hdF f.num.toNat f.u (writeU f.u).length = sub b 0 36 := by
  have hs := head_split b
  have hlong := h.long
  unfold sub
  rw [List.drop_zero, Nat.sub_zero, hs, h.mrk, bw4_w4 (by omega), bw4_w4 (by omega), bw4_w4 (by omega), bw4_w4 (by omega), bw4_w4 (by omega), bw4_w4 (by omega), bw4_w4 (by omega), bw4_w4 (by omega), h.form, h.head, h.p2, h.p3, h.p4, h.p5]
  unfold hdF
  rw [ht, pl_0, pl_1, h.num.1, Int.toNat_natCast, show 36 + (w4 b 16 - 36) = w4 b 16 by omega]
 have e2 : writeU f.u = sub b 36 (pl f.u (w4 b 16 - 36) 1) := by
  rw [h1, show 36 + (w4 b 16 - 36) = w4 b 16 by omega]
  exact (readU_one h.ueb).1.symm
 have e3 : f.ch.flatten = sub b (pl f.u (w4 b 16 - 36) 1) (pl f.u (w4 b 16 - 36) 2) := by
  rw [h.ch]
  exact ck_flat _ _ (by rw [sub_length (by omega)]; omega)
 have e4 : f.bs.flatten = sub b (pl f.u (w4 b 16 - 36) 2) (pl f.u (w4 b 16 - 36) 3) := by
  rw [h.bs]
  exact ck_flat _ _ (by rw [sub_length (by omega)]; omega)
 have e5 : f.sg.flatten = sub b (pl f.u (w4 b 16 - 36) 3) (pl f.u (w4 b 16 - 36) 4) := by
  rw [h.sg]
  exact ck_flat _ _ (by rw [sub_length (by omega)]; omega)
 unfold packF
 rw [e1, e2, e3, e4, e5, sub_glue b (by omega) (by omega), sub_glue b (by omega) (by omega), sub_glue b (by omega) (by omega), sub_glue b (by omega) (by omega)]
 simp [sub]
theorem openS_one {b : List UInt8} {s : SS} {m : Nat} (h : openS b = (some s, m)) : packS s = b ∧ okS s := by
 unfold openS at h
 rcases hf : openF 5 b with ⟨_ | f, k⟩
 ·rw [hf] at h; simp at h
 ·rw [hf] at h
  simp only [Prod.mk.injEq, Option.some.injEq] at h
  obtain ⟨rfl, _⟩ := h
  obtain ⟨ho, _⟩ := openF_ok hf
  have h5 := pl_5 f.u (w4 b 16 - 36)
  have hlen := ho.len
  have hsum := lens_sum (u_bounds ho.may).1
  have hdl : (b.drop (pl f.u (w4 b 16 - 36) 4)).length = (lens f.u).sum := by rw [List.length_drop]; omega
  refine ⟨?_, ho.okF, cutD_lens _ _ (by omega)⟩
  unfold packS
  simp only
  rw [ho.pack (by omega), cutD_flat _ _ hdl, List.take_append_drop]
theorem packF_len (f : FS) (hw : f.wf) (ho : okF f) : (packF f).length = pl f.u (writeU f.u).length 4 := by
 obtain ⟨hm, h0, hn, hc, hb, hg⟩ := ho
 obtain ⟨hu, d1, d2, d3⟩ := hw
 have l1 := flat_len d1
 have l2 := flat_len d2
 have l3 := flat_len d3
 unfold packF
 simp only [List.length_append, hdF_length]
 rw [pl_4, pl_3, pl_2, pl_1]
 omega
theorem flat_sum (D : List (List UInt8)) : D.flatten.length = (D.map List.length).sum := by simp
end Go.Proofs.YtdohebhbiokljaaGreatDoor
namespace Go.Proofs.YtdohebhbiokljaaGreatDoor
open Go.RowKit
theorem Opened.wf {e : Nat} {b : List UInt8} {f : FS} (h : Opened e b f) (hl : pl f.u (w4 b 16 - 36) 4 ≤ b.length) : f.wf := by
 have h4 := pl_4 f.u (w4 b 16 - 36)
 have h3 := pl_3 f.u (w4 b 16 - 36)
 have h2 := pl_2 f.u (w4 b 16 - 36)
 refine ⟨(readU_one h.ueb).2.1, ?_, ?_, ?_⟩
 ·rw [h.ch]
  exact ck_dg _ _ (by rw [sub_length (by omega)]; omega)
 ·rw [h.bs]
  exact ck_dg _ _ (by rw [sub_length (by omega)]; omega)
 ·rw [h.sg]
  exact ck_dg _ _ (by rw [sub_length (by omega)]; omega)
theorem openS_ok {b : List UInt8} {s : SS} {m : Nat} (h : openS b = (some s, m)) : s.f.wf ∧ s.f.u.in64 ∧ okS s ∧ packS s = b := by
 obtain ⟨h1, h2⟩ := openS_one h
 unfold openS at h
 rcases hf : openF 5 b with ⟨_ | f, k⟩
 ·rw [hf] at h; simp at h
 ·rw [hf] at h
  simp only [Prod.mk.injEq, Option.some.injEq] at h
  obtain ⟨rfl, _⟩ := h
  obtain ⟨ho, _⟩ := openF_ok hf
  have h5 := pl_5 f.u (w4 b 16 - 36)
  have hlen := ho.len
  exact ⟨ho.wf (by omega), US.may_in64 ho.may, h2, h1⟩
end Go.Proofs.YtdohebhbiokljaaGreatDoor
namespace Go.Proofs.YtdohebhbiokljaaGreatDoor
open Go.RowKit
def NC (x y : List UInt8) : Prop := shaL x = shaL y → x = y
def tag1 (t : Nat) (x : List UInt8) : List UInt8 := framedL [lst (tagB t), x]
theorem frame_eq {a b : List UInt8} (h : frameL a = frameL b) : a = b := by
 unfold frameL at h
 exact (List.append_inj h (by simp)).2
theorem tag1_inj {t : Nat} {x y : List UInt8} (h : tag1 t x = tag1 t y) : x = y := by
 unfold tag1 framedL at h
 simp only [List.flatMap_cons, List.flatMap_nil, List.append_nil] at h
 exact frame_eq (List.append_cancel_left h)
theorem tag2_inj {t : Nat} {x y x' y' : List UInt8} (hl : x.length = x'.length) (h : tag2 t x y = tag2 t x' y') : x = x' ∧ y = y' := by
 unfold tag2 framedL at h
 simp only [List.flatMap_cons, List.flatMap_nil, List.append_nil] at h
 have h2 := List.append_inj (List.append_cancel_left h) (by simp [hl])
 exact ⟨frame_eq h2.1, frame_eq h2.2⟩
def stepL (k : Nat) (d c : List UInt8) : List UInt8 := if k % 2 = 1 then tag2 6 c d else tag2 6 d c
def climbL : Nat → List UInt8 → List (List UInt8) → List UInt8
 | _, d, [] => d
 | k, d, c :: cs => climbL (k / 2) (shaL (stepL k d c)) cs
def NCs : Nat → List UInt8 → List UInt8 → List (List UInt8) → List (List UInt8) → Prop
 | k, x, y, c :: cs, e :: es => NC (stepL k x c) (stepL k y e) ∧ NCs (k / 2) (shaL (stepL k x c)) (shaL (stepL k y e)) cs es
 | _, _, _, _, _ => True
theorem climb_one : ∀ (cs es : List (List UInt8)) (k : Nat) (x y : List UInt8), Dg cs → Dg es → x.length = 32 → y.length = 32 → cs.length = es.length → NCs k x y cs es → climbL k x cs = climbL k y es → x = y ∧ cs = es
 | [], [], k, x, y, _, _, _, _, _, _, h => ⟨h, rfl⟩
 | [], e :: es, k, x, y, _, _, _, _, hl, _, _ => by simp at hl
 | c :: cs, [], k, x, y, _, _, _, _, hl, _, _ => by simp at hl
 | c :: cs, e :: es, k, x, y, hc, he, hx, hy, hl, hn, h => by
  obtain ⟨n1, n2⟩ := hn
  have hc32 : c.length = 32 := hc c (by simp)
  have he32 : e.length = 32 := he e (by simp)
  obtain ⟨h1, h2⟩ := climb_one cs es (k / 2) _ _ (fun z hz => hc z (by simp [hz])) (fun z hz => he z (by simp [hz])) (shaL_length _) (shaL_length _) (by simpa using hl) n2 h
  have h3 := n1 h1
  unfold stepL at h3
  by_cases hk : k % 2 = 1
  ·rw [if_pos hk, if_pos hk] at h3
   obtain ⟨h4, h5⟩ := tag2_inj (by omega) h3
   exact ⟨h5, by rw [h4, h2]⟩
  ·rw [if_neg hk, if_neg hk] at h3
   obtain ⟨h4, h5⟩ := tag2_inj (by omega) h3
   exact ⟨h4, by rw [h5, h2]⟩
def Tr (w : Nat) (L : List (List UInt8)) : Prop := ∀ x, 1 ≤ x → x < w → ∃ a l r, L[x - 1]? = some a ∧ L[2 * x - 1]? = some l ∧ L[2 * x]? = some r ∧ a = nodeD l r
def NCt (A B : List (List UInt8)) : Prop := ∀ i, 1 ≤ i → 2 * i < A.length → 2 * i < B.length → ∀ l r l' r', A[2 * i - 1]? = some l → A[2 * i]? = some r → B[2 * i - 1]? = some l' → B[2 * i]? = some r' → NC (tag2 6 l r) (tag2 6 l' r')
theorem tree_one {w : Nat} {A B : List (List UInt8)} (hA : Dg A) (hB : Dg B) (la : A.length = 2 * w - 1) (lb : B.length = 2 * w - 1) (ta : Tr w A) (tb : Tr w B) (h0 : A[0]? = B[0]?) (hn : NCt A B) : A = B := by
 have key : ∀ n i, i < n → i < 2 * w - 1 → A[i]? = B[i]? := by
  intro n
  induction n with
  | zero => intro i hi; omega
  | succ n ih =>
   intro i hi hw
   by_cases hz : i = 0
   ·rw [hz]; exact h0
   ·obtain ⟨a, l, r, a1, a2, a3, a4⟩ := ta ((i + 1) / 2) (by omega) (by omega)
    obtain ⟨b, l', r', b1, b2, b3, b4⟩ := tb ((i + 1) / 2) (by omega) (by omega)
    have hp := ih ((i + 1) / 2 - 1) (by omega) (by omega)
    rw [a1, b1] at hp
    injection hp with hp
    rw [a4, b4] at hp
    have h2 := hn ((i + 1) / 2) (by omega) (by omega) (by omega) l r l' r' a2 a3 b2 b3 hp
    have hl : l.length = 32 := hA l (List.mem_of_getElem? a2)
    have hl' : l'.length = 32 := hB l' (List.mem_of_getElem? b2)
    obtain ⟨h3, h4⟩ := tag2_inj (by omega) h2
    rcases (by omega : i = 2 * ((i + 1) / 2) - 1 ∨ i = 2 * ((i + 1) / 2)) with he | he
    ·rw [he, a2, b2, h3]
    ·rw [he, a3, b3, h4]
 refine List.ext_getElem? fun i => ?_
 by_cases hi : i < 2 * w - 1
 ·exact key (i + 1) i (by omega) hi
 ·rw [List.getElem?_eq_none (by omega), List.getElem?_eq_none (by omega)]
structure Snd (s : SS) : Prop where
 wf : s.f.wf
 ok : okS s
 climb : ∃ b0, s.f.bs[0]? = some b0 ∧ climbL s.f.num.toNat (tagD 5 b0) s.f.ch = s.f.u.sh
 seg : s.f.sg[0]? = some s.f.u.sg
 tb : Tr (wid (SG s.f.u)) s.f.bs
 ts : Tr (wid (SG s.f.u)) s.f.sg
 leaf : ∀ j, j < SG s.f.u → ∃ d x, s.f.bs[wid (SG s.f.u) - 1 + j]? = some d ∧ s.data[j]? = some x ∧ d = tagD 3 x
theorem okS_data {s : SS} (h : okS s) : s.data.length = SG s.f.u := by
 have := congrArg List.length h.2
 simpa [lens] using this
theorem share_one {a b : SS} (ha : Snd a) (hb : Snd b) (hn : a.f.num = b.f.num) (hd : tagD 8 (writeU a.f.u) = tagD 8 (writeU b.f.u)) (n1 : NC (tag1 8 (writeU a.f.u)) (tag1 8 (writeU b.f.u)))
  (n2 : ∀ (x y : List UInt8), a.f.bs[0]? = some x → b.f.bs[0]? = some y → NC (tag1 5 x) (tag1 5 y) ∧ NCs a.f.num.toNat (tagD 5 x) (tagD 5 y) a.f.ch b.f.ch)
  (n4 : NCt a.f.bs b.f.bs) (n5 : NCt a.f.sg b.f.sg) (n6 : ∀ (j : Nat) (x y : List UInt8), a.data[j]? = some x → b.data[j]? = some y → NC (tag1 3 x) (tag1 3 y)) : a = b := by
 have hu : a.f.u = b.f.u := by
  have h1 := tag1_inj (n1 hd)
  have h2 := readU_write ha.wf.1 ha.ok.1.1
  have h3 := readU_write hb.wf.1 hb.ok.1.1
  rw [h1, h3] at h2
  injection h2 with h2 _
  exact h2.symm
 obtain ⟨x, hx, hcx⟩ := ha.climb
 obtain ⟨y, hy, hcy⟩ := hb.climb
 obtain ⟨n3, n3'⟩ := n2 x y hx hy
 have la := ha.ok.1.2.2.2
 have lb := hb.ok.1.2.2.2
 rw [← hu] at lb hcy
 rw [← hn] at hcy
 obtain ⟨h1, hch⟩ := climb_one _ _ _ _ _ ha.wf.2.1 hb.wf.2.1 (tagD_length _ _) (tagD_length _ _) (by omega) n3' (hcx.trans hcy.symm)
 have hxy := tag1_inj (n3 h1)
 have tb' := hb.tb
 have ts' := hb.ts
 have sg' := hb.seg
 rw [← hu] at tb' ts' sg'
 have hbs : a.f.bs = b.f.bs := tree_one ha.wf.2.2.1 hb.wf.2.2.1 la.2.1 lb.2.1 ha.tb tb' (by rw [hx, hy, hxy]) n4
 have hsg : a.f.sg = b.f.sg := tree_one ha.wf.2.2.2 hb.wf.2.2.2 la.2.2 lb.2.2 ha.ts ts' (by rw [ha.seg, sg']) n5
 have da := okS_data ha.ok
 have db := okS_data hb.ok
 rw [← hu] at db
 have hdata : a.data = b.data := by
  refine List.ext_getElem? fun j => ?_
  by_cases hj : j < SG a.f.u
  ·obtain ⟨d, p, p1, p2, p3⟩ := ha.leaf j hj
   obtain ⟨e, q, q1, q2, q3⟩ := hb.leaf j (by rw [← hu]; exact hj)
   rw [← hu, ← hbs, p1] at q1
   injection q1 with q1
   rw [p3, q3] at q1
   rw [p2, q2, tag1_inj (n6 j p q p2 q2 q1)]
  ·rw [List.getElem?_eq_none (by omega), List.getElem?_eq_none (by omega)]
 obtain ⟨⟨an, au, ac, ab, ag⟩, ad⟩ := a
 obtain ⟨⟨bn, bu, bc, bb, bg⟩, bd⟩ := b
 simp only at hn hu hch hbs hsg hdata
 subst hn hu hch hbs hsg hdata
 rfl
end Go.Proofs.YtdohebhbiokljaaGreatDoor
namespace Go.Proofs.YtdohebhbiokljaaGreatDoor
open Go.RowKit Go.Shelf
theorem wd_pow : ∀ (f x n : Nat), ∃ k, k ≤ f ∧ wd f x n = x * 2 ^ k
 | 0, x, n => ⟨0, by omega, by simp [wd]⟩
 | f + 1, x, n => by
  unfold wd
  split
  ·obtain ⟨k, hk, he⟩ := wd_pow f (x * 2) n
   exact ⟨k + 1, by omega, by rw [he, Nat.pow_succ, Nat.mul_assoc, Nat.mul_comm 2]⟩
  ·exact ⟨0, by omega, by simp⟩
theorem wd_ge : ∀ (f x n : Nat), n ≤ x * 2 ^ f → n ≤ wd f x n
 | 0, x, n, h => by simpa [wd] using h
 | f + 1, x, n, h => by
  unfold wd
  split
  ·exact wd_ge f (x * 2) n (by rw [Nat.mul_assoc, ← Nat.pow_succ']; exact h)
  ·omega
theorem wid_ge {n : Nat} (h : n ≤ 512) : n ≤ wid n := wd_ge 9 1 n h
theorem abv_cons (x : Nat) (l : List Nat) : abv (x :: l) = if 1 < x then x :: abv l else abv l := by
 unfold abv
 by_cases h : 1 < x <;> simp [h]
theorem ups_zero (f : Nat) : ups f 0 = [] := by cases f <;> rfl
theorem abv_ups : ∀ (k f i : Nat), k + 1 ≤ f → i < 2 ^ k → (abv (ups f (2 ^ k + i))).length = k
 | 0, f, i, hf, hi => by
  obtain ⟨g, rfl⟩ : ∃ g, f = g + 1 := ⟨f - 1, by omega⟩
  have : i = 0 := by rw [Nat.pow_zero] at hi; omega
  subst this
  simp [ups, abv_cons, ups_zero, abv]
 | k + 1, f, i, hf, hi => by
  obtain ⟨g, rfl⟩ : ∃ g, f = g + 1 := ⟨f - 1, by omega⟩
  have hp : 0 < 2 ^ k := Nat.pow_pos (by omega)
  rw [Nat.pow_succ] at hi ⊢
  have h2 : (2 ^ k * 2 + i) / 2 = 2 ^ k + i / 2 := by omega
  have := abv_ups k g (i / 2) (by omega) (by omega)
  rw [show ups (g + 1) (2 ^ k * 2 + i) = (2 ^ k * 2 + i) :: ups g ((2 ^ k * 2 + i) / 2) by simp [ups]; omega, abv_cons, if_pos (by omega), h2, List.length_cons, this]
theorem chain_same {n i : Nat} (h : 1 ≤ n ∧ n ≤ 512) (hi : i < n) : (abv (ups 10 (wid n + i))).length = chainLen n := by
 obtain ⟨k, hk, he⟩ := wd_pow 9 1 n
 have hg := wid_ge h.2
 have hw : wid n = 2 ^ k := by unfold wid; rw [he, Nat.one_mul]
 have h0 := abv_ups k 10 0 (by omega) (Nat.pow_pos (by omega))
 have h1 := abv_ups k 10 i (by omega) (by omega)
 unfold chainLen
 rw [hw, h1]
 rw [Nat.add_zero] at h0
 exact h0.symm
set_option maxRecDepth 100000 in
set_option maxHeartbeats 400000 in
theorem nodei_any (n i : Nat) (w : World) (h : 1 ≤ n ∧ n ≤ 512) (hi : i < n) :
  Calls Tryz.prog 78 #[.int .i64 (n : Int), .int .i64 (i : Int)] w fun e w' => e = .returned (.tuple #[.int .i64 ((wid n + i : Nat) : Int), .int .i64 0]) ∧ w = w' := by
 have Q := hide (width_any n w h)
 have h1 := wid_le n
 have h2 := wid_pos n
 have i1 : ¬ (i : Int) < 0 := by omega
 have i2 : ¬ (i : Int) ≥ (n : Int) := by omega
 have hw1 : IntKind.i64.wrap ((wid n : Int) + (i : Int)) = ((wid n + i : Nat) : Int) := by rw [IntWalk.i64_in _ (by omega)]; omega
 have HW := hide hw1
 generalize hs : wid n + i = s at *
 generalize wid n = m at *
 clear hs
 go_enter Tryz.func78, Tryz.ntmps78
 go_wp2_with fail
 refine Q.out.mono ?_
 rintro e w1 ⟨rfl, rfl⟩
 go_wp2
 go_ret2
 exact ⟨rfl, rfl⟩
set_option maxRecDepth 100000 in
set_option maxHeartbeats 400000 in
theorem nodei_bad (n : Nat) (i : Int) (w : World) (h : 1 ≤ n ∧ n ≤ 512) (hi : ¬ (0 ≤ i ∧ i < (n : Int))) :
  Calls Tryz.prog 78 #[.int .i64 (n : Int), .int .i64 i] w fun e w' => e = .returned (.tuple #[.int .i64 0, .int .i64 111]) ∧ w = w' := by
 have Q := hide (width_any n w h)
 have h1 := wid_le n
 have h2 := wid_pos n
 generalize wid n = m at *
 by_cases h0 : i < 0
 ·clear hi
  go_enter Tryz.func78, Tryz.ntmps78
  go_wp2_with fail
  refine Q.out.mono ?_
  rintro e w1 ⟨rfl, rfl⟩
  go_wp2
  go_ret2
  exact ⟨rfl, rfl⟩
 ·have i2 : i ≥ (n : Int) := by omega
  clear hi
  go_enter Tryz.func78, Tryz.ntmps78
  go_wp2_with fail
  refine Q.out.mono ?_
  rintro e w1 ⟨rfl, rfl⟩
  go_wp2
  go_ret2
  exact ⟨rfl, rfl⟩
set_option maxRecDepth 100000 in
set_option maxHeartbeats 400000 in
theorem upi_tree (n i : Nat) (w : World) (h : 1 ≤ n ∧ n ≤ 512) (hi : i < n) :
  Calls Tryz.prog 79 #[.int .i64 (n : Int), .int .i64 (i : Int)] w fun e w' => e = .returned (.func (.func 98) #[] #[.pointer (some ⟨w.heap.size, 0, none⟩)]) ∧ w' = w.alloc (.cells #[.int .i64 ((wid n + i : Nat) : Int)] 3) := by
 have Q := hide (nodei_any n i w h hi)
 generalize wid n + i = m at *
 go_enter Tryz.func79, Tryz.ntmps79
 go_wp2_with fail
 refine Q.out.mono ?_
 rintro e w1 ⟨rfl, rfl⟩
 go_wp2
 go_ret
 exact ⟨rfl, rfl⟩
end Go.Proofs.YtdohebhbiokljaaGreatDoor
namespace Go.Proofs.YtdohebhbiokljaaGreatDoor
open Go.RowKit Go.Shelf
attribute [local go_sem] Oper.semAt_some
theorem row_put {W : World} {base : Nat} {e : TypeId} {sz : Nat} {v : Value} {n : Nat} {xs : List Value} {D : Nat} {ds : Option (List Deferred)} {o : Obj} (h : W.ownsRow base e sz v n xs) (hK : W.heap[D]? = some (.deferred ds)) : (W.putObj D o).ownsRow base e sz v n xs := by
 refine h.kept (w' := W.putObj D o) (row := some D) ⟨rfl, rfl, rfl, by simp [World.putObj], fun b hb hne => ?_⟩ ?_
 ·have : D ≠ b := fun e => hne (by rw [e])
  simp [World.putObj, Array.getElem?_setIfInBounds, this]
 ·rcases h.2 with ⟨rfl, _⟩ | ⟨g, cap, cur, rfl, _, hh, _⟩
  ·exact .inl rfl
  ·refine .inr fun he => ?_
   have : g = D := by simpa [Value.ownBlock] using he
   subst this
   rw [hK] at hh
   cases hh
set_option maxRecDepth 100000 in
set_option maxHeartbeats 1000000 in
theorem chaini_in (F : Fence) (hF : F = Fence.wide) (n i : Nat) (h : 1 ≤ n ∧ n ≤ 512) (hi0 : i < n) (w : World) :
  CallsIn F 5 Tryz.prog 44 #[.int .i64 (n : Int), .int .i64 (i : Int)] w fun e W' => ∃ A c, e = .returned (.tuple #[.slice A (chainLen n) c, .int .i64 0]) ∧ W'.ownsRow w.heap.size 3 1 (.slice A (chainLen n) c) (chainLen n) ((abv (ups 10 (wid n + i))).map xr) ∧ Below w.heap.size w W' := by
 have hch : F.fn 44 := by rw [hF]; trivial
 have hnode : F.fn 78 := by rw [hF]; trivial
 have hup : F.fn 79 := by rw [hF]; trivial
 have hup1 : F.fn 98 := by rw [hF]; trivial
 have hro : F.round = none := by rw [hF]; rfl
 have q1 : ∀ m w, CallsIn F m Tryz.prog 78 #[.int .i64 (n : Int), .int .i64 (i : Int)] w fun e w' => e = .returned (.tuple #[.int .i64 ((wid n + i : Nat) : Int), .int .i64 0]) ∧ w = w' := by
  subst hF; exact fun m w => callsIn_wide.2 (nodei_any n i w h hi0)
 have q2 : ∀ m w, CallsIn F m Tryz.prog 79 #[.int .i64 (n : Int), .int .i64 (i : Int)] w fun e w' => e = .returned (.func (.func 98) #[] #[.pointer (some ⟨w.heap.size, 0, none⟩)]) ∧ w' = w.alloc (.cells #[.int .i64 ((wid n + i : Nat) : Int)] 3) := by
  subst hF; exact fun m w => callsIn_wide.2 (upi_tree n i w h hi0)
 clear hF
 have hw1 := wid_le n
 have hw2 := wid_pos n
 rw [← chain_same h hi0]
 have hm0 : wid n + i < 1024 := by omega
 generalize wid n + i = m at *
 clear hw1 hw2
 obtain ⟨i0, hi, hz0, hz1, hz2⟩ := info_parts infoInt
 refine callsIn_of_wp_marks Tryz.func44 rfl hch ?_ hro
 simp only [Tryz.ntmps44, List.size_toArray, List.length_cons, List.length_nil, Nat.reduceAdd, Nat.reduceSub, Array.replicate_succ, Array.replicate_zero, List.push_toArray, List.append_toArray, List.nil_append, List.cons_append]
 gi_wp2_with (gi_at_call 78; refine (q1 _ _).mono ?_; rintro e w' ⟨rfl, rfl⟩)
 gi_wp2_with (gi_at_call 79; refine (q2 _ _).mono ?_; rintro e w' ⟨rfl, rfl⟩)
 have bO := Boxed.new w 81 (.slice none 0 0)
 have bN := Boxed.new (w.alloc (.cells #[.slice none 0 0] 81)) 3 (.int .i64 (m : Int))
 rw [World.size_alloc] at bN
 have hB0 : Below w.heap.size w ((w.alloc (.cells #[.slice none 0 0] 81)).alloc (.cells #[.int .i64 (m : Int)] 3)) := ((Below.refl _ w).alloc (Nat.le_refl _) _).alloc (by simp) _
 have hlen := ups_length 10 m
 have hml : 20 ≤ maxLen := by unfold maxLen; omega
 refine wpIn_rangeFunc_ownG hro (by omega) (gf := 98) (lb := #[.pointer (some ⟨w.heap.size + 1, 0, none⟩)]) rfl hup1 (enters_of Tryz.func98 (by kernel_rfl) rfl)
  (up1_stops F 4 hup1 hro (by omega) (w.heap.size + 1) w.heap.size m (by omega) _ (by simp) bN.cell) belowK_t (belowK_b (by simp; omega)) (Below.refl _ _) (fun _ => rfl)
  (fun pre W => (∃ v, Boxed W w.heap.size 81 v ∧ W.ownsRow w.heap.size 3 1 v (abv pre).length ((abv pre).map xr) ∧ True) ∧ Below w.heap.size w W)
  (fun _ _ _ => False)
  (OwnFrom.and (Own.from (holdsRow_own w.heap.size w.heap.size 81 3 1 (fun pre => (abv pre).length) (fun pre => (abv pre).map xr) (fun _ _ => True)) _) (ownFrom_below (Nat.le_refl _) (by simp; omega)))
  (fun _ _ _ _ _ hs _ _ => hs)
  ⟨⟨_, bO.alloc _, World.ownsRow_nil _ _ _ _, trivial⟩, hB0⟩
  (fun x => { tmps := #[.int .i64 (n : Int), .int .i64 (i : Int), undef, undef, .slice none 0 0, .int .i64 0, .int .i64 (m : Int), .int .i64 0, .pointer (some ⟨w.heap.size, 0, none⟩), .int .i64 (x : Int), .tuple #[.int .i64 (m : Int), .int .i64 0], .int .i64 (n : Int), .int .i64 (i : Int), .tuple #[.int .i64 (m : Int), .int .i64 0], .int .i64 (m : Int), .int .i64 0, .int .i64 0, .bool false, undef, .int .i64 (n : Int), .int .i64 (i : Int), .func (.func 98) #[] #[.pointer (some ⟨w.heap.size + 1, 0, none⟩)], .int .i64 (x : Int), undef, undef, undef, undef, undef, undef, undef, undef], defers := [] }) ?assign ?body ?done ?stop
 case assign =>
  intro l x W K hK
  gi_wp2
  exact hK
 case body =>
  rintro l pre x W ⟨⟨v, hv, hrow, -⟩, hB⟩ hlt
  have hc := hv.cell
  have hpl : (abv pre).length ≤ pre.length := List.length_filter_le _ _
  gi_wp2_with (gi_at_builtin; refine wpListIn_append_own _ rfl _ _ 81 rfl w.heap.size 3 i0 (.int .i64 0) 1 8 Tryz.underlying81 hi hz0 hz1 hz2 rfl (by decide) _ _ _ rfl (hrow.alloc _) ⟨W.heap.size, 0, none⟩ 1 1 [xr x] rfl rfl (cell_one_new _ _ _) (by simp [Value.oneCell', xr]) (by omega) (by omega) (by have := hB.size; simp; omega) ?_; intro v' w1 hown' hgrow _; obtain ⟨g', cap', rfl⟩ := ownsRow_succ hown'; obtain ⟨hv1, hv2, hr2, hk2, hb2⟩ := hv.appended (by decide) hrow hB.size (Nat.le_refl _) hown' hgrow; have hc1 := hv1.cell; have hf1 := hv1.frozen)
  ·have hx : 1 < x := by omega
   exact ⟨hk2.from _, hb2, ⟨_, hv2, by rw [abv_hit pre hx]; simpa using hr2, trivial⟩, hB.trans hb2⟩
  ·have hx : ¬ 1 < x := by omega
   exact ⟨KeepsFrom.refl _ _, Below.refl _ _, ⟨v, hv, by rw [abv_miss pre hx]; exact hrow, trivial⟩, hB⟩
 case done =>
  rintro D ys W hD rfl ⟨⟨v, hv, hrow, -⟩, hB⟩ hK
  have hc := hv.cell
  gi_wp2
  refine ⟨by simp, .inl ⟨_, _, rfl, run_takeDeferred hK, ?_⟩⟩
  have hrow2 := hrow
  have hv' : ∃ A c, v = .slice A (abv (ups 10 m)).length c := by
   rcases hrow.2 with ⟨rfl, h0⟩ | ⟨g, cap, cur, rfl, _⟩
   ·exact ⟨none, 0, by rw [h0]⟩
   ·exact ⟨_, _, rfl⟩
  obtain ⟨A, c, rfl⟩ := hv'
  refine ⟨_, results_tmp2 rfl _ _ _, A, c, rfl, ?_, hB.trans (belowK_b (w := w) (Nat.le_refl _) W D _ _ (by simp at hD; omega) hK rfl rfl)⟩
  exact row_put hrow2 hK
 case stop =>
  rintro D c pre W _ _ h _
  exact h.elim
theorem chaini_any (n i : Nat) (w : World) (h : 1 ≤ n ∧ n ≤ 512) (hi : i < n) :
  Calls Tryz.prog 44 #[.int .i64 (n : Int), .int .i64 (i : Int)] w fun e W' => ∃ A c, e = .returned (.tuple #[.slice A (chainLen n) c, .int .i64 0]) ∧ W'.ownsRow w.heap.size 3 1 (.slice A (chainLen n) c) (chainLen n) ((abv (ups 10 (wid n + i))).map xr) ∧ Below w.heap.size w W' :=
 callsIn_wide.1 (chaini_in Fence.wide rfl n i h hi w)
set_option maxRecDepth 100000 in
set_option maxHeartbeats 400000 in
theorem chaini_bad (n : Nat) (i : Int) (w : World) (h : 1 ≤ n ∧ n ≤ 512) (hi : ¬ (0 ≤ i ∧ i < (n : Int))) :
  Calls Tryz.prog 44 #[.int .i64 (n : Int), .int .i64 i] w fun e w' => e = .returned (.tuple #[.slice none 0 0, .int .i64 111]) ∧ w = w' := by
 have Q := hide (nodei_bad n i w h hi)
 clear hi
 go_enter Tryz.func44, Tryz.ntmps44
 go_wp2_with fail
 refine Q.out.mono ?_
 rintro e w1 ⟨rfl, rfl⟩
 go_wp2
 go_ret2
 exact ⟨rfl, rfl⟩
end Go.Proofs.YtdohebhbiokljaaGreatDoor
namespace Go.Proofs.YtdohebhbiokljaaGreatDoor
open Go Go.RowKit
section
variable {P : Program} {ops : Array Oper} {Q : Exit → Act → World → Prop} {md : Region.Mode}
structure FI (R : World → World → Prop) (a0 : Act) (w0 : World) (n : Nat) (d : Nat → Nat) (S : Nat → World → Value → Prop) (listed : Array Bool) (a : Act) (w : World) : Prop where
 size : listed.size = n
 tsz : a.tmps.size = a0.tmps.size
 df : a.defers = a0.defers
 old : ∀ t, (∀ i, i < n → d i ≠ t) → a.tmps[t]? = a0.tmps[t]?
 bel : R w0 w
 slots : ∀ i, i < n → listed.getD i false = true → ∃ v, a.tmps[d i]? = some v ∧ S i w v
theorem FI.put {R : World → World → Prop} (hRt : ∀ a b c, R a b → R b c → R a c) {a0 : Act} {w0 : World} {n : Nat} {d : Nat → Nat} {S : Nat → World → Value → Prop} {listed : Array Bool} {a : Act} {w W' : World} (h : FI R a0 w0 n d S listed a w)
  (hinj : ∀ i j, i < n → j < n → d i = d j → i = j) (hlt : ∀ i, i < n → d i < a0.tmps.size) (hst : ∀ i, i < n → ∀ W W' v, S i W v → R W W' → S i W' v)
  {i : Nat} (hi : i < n) {v : Value} (hb : R w W') (hv : S i W' v) : FI R a0 w0 n d S (listed.setIfInBounds i true) (a.put (some (d i)) v) W' := by
 refine ⟨by simpa using h.size, by simpa [Act.put] using h.tsz, h.df, fun t ht => ?_, hRt _ _ _ h.bel hb, fun j hj hl => ?_⟩
 ·have := ht i hi
  rw [show (a.put (some (d i)) v).tmps[t]? = a.tmps[t]? by simp [Act.put, Array.getElem?_setIfInBounds, this]]
  exact h.old t ht
 ·rw [getD_set (by rw [h.size]; exact hi)] at hl
  by_cases e : j = i
  ·subst e
   exact ⟨v, by simp [Act.put, h.tsz, hlt j hj], hv⟩
  ·rw [if_neg e] at hl
   obtain ⟨x, hx, hs⟩ := h.slots j hj hl
   have hne : d i ≠ d j := fun he => e (hinj i j hi hj he).symm
   exact ⟨x, by simp [Act.put, Array.getElem?_setIfInBounds, hne, hx], hst j hj _ _ _ hs hb⟩
def puts (d : Nat → Nat) (v : Nat → Value) (a0 : Act) (n : Nat) : Act := (List.range n).foldl (fun a i => a.put (some (d i)) (v i)) a0
theorem puts_succ (d : Nat → Nat) (v : Nat → Value) (a0 : Act) (n : Nat) : puts d v a0 (n + 1) = (puts d v a0 n).put (some (d n)) (v n) := by simp [puts, List.range_succ]
theorem puts_size (d : Nat → Nat) (v : Nat → Value) (a0 : Act) (n : Nat) : (puts d v a0 n).tmps.size = a0.tmps.size := by
 induction n with
 | zero => rfl
 | succ n ih => rw [puts_succ]; simpa [Act.put] using ih
theorem puts_defers (d : Nat → Nat) (v : Nat → Value) (a0 : Act) (n : Nat) : (puts d v a0 n).defers = a0.defers := by
 induction n with
 | zero => rfl
 | succ n ih => rw [puts_succ]; exact ih
theorem puts_old (d : Nat → Nat) (v : Nat → Value) (a0 : Act) (n t : Nat) (h : ∀ i, i < n → d i ≠ t) : (puts d v a0 n).tmps[t]? = a0.tmps[t]? := by
 induction n with
 | zero => rfl
 | succ n ih =>
  rw [puts_succ, show ((puts d v a0 n).put (some (d n)) (v n)).tmps[t]? = (puts d v a0 n).tmps[t]? by simp [Act.put, Array.getElem?_setIfInBounds, h n (by omega)]]
  exact ih fun i hi => h i (by omega)
theorem puts_at (d : Nat → Nat) (v : Nat → Value) (a0 : Act) (n : Nat) (hinj : ∀ i j, i < n → j < n → d i = d j → i = j) (hlt : ∀ i, i < n → d i < a0.tmps.size) : ∀ i, i < n → (puts d v a0 n).tmps[d i]? = some (v i) := by
 induction n with
 | zero => intro i hi; omega
 | succ n ih =>
  intro i hi
  rw [puts_succ]
  by_cases e : i = n
  ·subst e
   simp [Act.put, puts_size, hlt i hi]
  ·have hne : d n ≠ d i := fun he => e (hinj n i (by omega) hi he).symm
   rw [show ((puts d v a0 n).put (some (d n)) (v n)).tmps[d i]? = (puts d v a0 n).tmps[d i]? by simp [Act.put, Array.getElem?_setIfInBounds, hne]]
   exact ih (fun i j hi hj => hinj i j (by omega) (by omega)) (fun i hi => hlt i (by omega)) i (by omega)
theorem act_eq {a b : Act} (h1 : a.tmps = b.tmps) (h2 : a.defers = b.defers) : a = b := by
 cases a; cases b; simp_all
theorem region_free (R : World → World → Prop) (hRr : ∀ a, R a a) (hRt : ∀ a b c, R a b → R b c → R a c) (a0 : Act) (w0 : World) (n : Nat) (d : Nat → Nat) (S : Nat → World → Value → Prop) (deps : Nat → List Nat) (hn : ops.size = n)
  (hinj : ∀ i j, i < n → j < n → d i = d j → i = j) (hlt : ∀ i, i < n → d i < a0.tmps.size) (hst : ∀ i, i < n → ∀ W W' v, S i W v → R W W' → S i W' v)
  (hord : ((List.range ops.size).all fun i => ((ops[i]?).map fun o => o.after.all fun e => decide (e.on < i)).getD true) = true)
  (hdeps : ((List.range n).all fun i => (deps i).all fun j => decide (j < n) && ((ops[i]?).map fun o => o.after.any fun e => e.on == j && Region.binds md e).getD false) = true)
  (hstep : ∀ i, i < n → ∀ a W, a.tmps.size = a0.tmps.size → (∀ t, (∀ i, i < n → d i ≠ t) → a.tmps[t]? = a0.tmps[t]?) → R w0 W → (∀ j, j ∈ deps i → ∃ v, a.tmps[d j]? = some v ∧ S j W v) →
   wpOp P ops Q i (fun a' W' => ∃ v, a' = a.put (some (d i)) v ∧ R W W' ∧ S i W' v) a W)
  (hfin : ∀ (v : Nat → Value) W, R w0 W → (∀ i, i < n → S i W (v i)) → Q .normal (puts d v a0 n) W) :
  ∀ fuel listed, listed.toList.count false ≤ fuel → listed.size = n → (∀ i, listed.getD i false = false) → wpAny P md ops Q fuel listed a0 w0 := by
 intro fuel listed hc hs h0
 refine wpAny_inv (FI R a0 w0 n d S) (fun listed a w h => h.size.trans hn.symm) ?step ?fin fuel listed a0 w0 hc ⟨hs, rfl, rfl, fun _ _ => rfl, hRr _, fun i _ hl => by rw [h0 i] at hl; cases hl⟩
 case step =>
  intro listed a W i h hi
  obtain ⟨hlt', hf, o, ho, hdep⟩ := ready_at hi
  have hin : i < n := hn ▸ hlt'
  refine wpOp_mono (fun a' W' hh => ?_) (hstep i hin a W h.tsz h.old h.bel fun j hj => ?_)
  ·obtain ⟨v, rfl, hb, hv⟩ := hh
   exact FI.put hRt h hinj hlt hst hin hb hv
  ·have h1 := List.all_eq_true.1 (List.all_eq_true.1 hdeps i (List.mem_range.2 hin)) j hj
   rw [Bool.and_eq_true, ho] at h1
   simp only [Option.map_some, Option.getD_some] at h1
   obtain ⟨hjn, he⟩ := h1
   rw [Array.any_eq_true] at he
   obtain ⟨z, hz, he2⟩ := he
   obtain ⟨e, hze⟩ : ∃ e, e = o.after[z] := ⟨_, rfl⟩
   have hem : e ∈ o.after := hze ▸ Array.getElem_mem hz
   rw [← hze, Bool.and_eq_true] at he2
   have hej : e.on = j := by simpa using he2.1
   rw [Array.all_eq_true_iff_forall_mem] at hdep
   have h3 := hdep e hem
   rw [he2.2, hej] at h3
   exact h.slots j (of_decide_eq_true hjn) (by simpa using h3)
 case fin =>
  intro listed a W h hr
  have hall : ∀ i, i < n → listed.getD i false = true := fun i hi => all_ready (h.size.trans hn.symm) hord hr i (by omega)
  have hval : ∀ i, i < n → a.tmps[d i]? = some (a.tmps.getD (d i) undef) ∧ S i W (a.tmps.getD (d i) undef) := fun i hi => by
   obtain ⟨v, hv, hs⟩ := h.slots i hi (hall i hi)
   have : a.tmps.getD (d i) undef = v := by simp [Array.getD_eq_getD_getElem?, hv]
   rw [this]
   exact ⟨hv, hs⟩
  have hae : a = puts d (fun i => a.tmps.getD (d i) undef) a0 n := by
   refine act_eq ?_ (h.df.trans (puts_defers _ _ _ _).symm)
   apply Array.ext_getElem?
   intro t
   by_cases ht : ∃ i, i < n ∧ d i = t
   ·obtain ⟨i, hi, rfl⟩ := ht
    rw [(hval i hi).1, puts_at d _ a0 n hinj hlt i hi]
   ·have ht' : ∀ i, i < n → d i ≠ t := fun i hi he => ht ⟨i, hi, he⟩
    rw [h.old t ht', puts_old _ _ _ _ _ ht']
  rw [hae]
  exact hfin _ W h.bel fun i hi => (hval i hi).2
end
end Go.Proofs.YtdohebhbiokljaaGreatDoor
namespace Go.Proofs.YtdohebhbiokljaaGreatDoor
open Go.RowKit
def Ds (w : World) (v : Value) (L : List (List UInt8)) : Prop := Sl w 32 v L.length (L.flatMap bcells) ∧ Dg L
theorem Ds.below {w w' : World} {v : Value} {L : List (List UInt8)} (h : Ds w v L) (hb : Below w.heap.size w w') : Ds w' v L := ⟨h.1.below hb, h.2⟩
theorem flat_get : ∀ (L : List (List UInt8)), Dg L → ∀ (k : Nat) (d : List UInt8), L[k]? = some d → ∀ j, j < 32 → (L.flatMap bcells)[k * 32 + j]? = (bcells d)[j]?
 | [], _, k, d, h => by simp at h
 | x :: L, hd, 0, d, h => fun j hj => by
  simp only [List.getElem?_cons_zero, Option.some.injEq] at h
  subst h
  have : x.length = 32 := hd x (by simp)
  rw [List.flatMap_cons, Nat.zero_mul, Nat.zero_add, List.getElem?_append_left (by simp; omega)]
 | x :: L, hd, k + 1, d, h => fun j hj => by
  have hx : x.length = 32 := hd x (by simp)
  have ih := flat_get L (fun y hy => hd y (by simp [hy])) k d (by simpa using h) j hj
  rw [List.flatMap_cons, List.getElem?_append_right (by simp [hx]; omega), bcells_length, hx, ← ih]
  congr 1
  omega
theorem flat_size {L : List (List UInt8)} (h : Dg L) : (L.flatMap bcells).length = 32 * L.length := by
 induction L with
 | nil => rfl
 | cons x L ih =>
  have hx : x.length = 32 := h x (by simp)
  have := ih fun y hy => h y (by simp [hy])
  simp only [List.flatMap_cons, List.length_append, bcells_length, List.length_cons]
  omega
theorem Ds.at {w : World} {A : Option Addr} {n c : Nat} {L : List (List UInt8)} (h : Ds w (.slice A n c) L) {k : Nat} {d : List UInt8} (hk : L[k]? = some d) :
  ∃ b o, A = some ⟨b, o, none⟩ ∧ w.rangeAt b (o + k * 32) (bcells d) ∧ d.length = 32 ∧ b < w.heap.size := by
 have hd : d.length = 32 := h.2 d (List.mem_of_getElem? hk)
 have hkl : k < L.length := (List.getElem?_eq_some_iff.1 hk).1
 obtain ⟨A', c', hv, _, _, hca⟩ := h.1.form
 injection hv with hA hn hc
 obtain ⟨b, o, hb, hlt, hcell⟩ := hca (by omega)
 refine ⟨b, o, hA.trans hb, fun j v hj => ?_, hd, hlt⟩
 have hj32 : j < 32 := by
  have := (List.getElem?_eq_some_iff.1 hj).1
  simp [hd] at this
  exact this
 have h1 := hcell (k * 32 + j) (by omega)
 rw [flat_get L h.2 k d hk j hj32, hj] at h1
 rw [← h1]
 congr 2
 omega
theorem wpList_load_midW {P : Program} {ops : Array Oper} {rest : List Oper} {op : Oper} {a : Act} {w : World} {Q : Exit → Act → World → Prop} (hw : Region.wanted op (yielded ops a.tmps) = true) (ty : TypeId) (x : Operand) (ho : op.op = .load ty x)
  (b o : Nat) (hx : a.eval x = .pointer (some ⟨b, o, none⟩)) (cs : List Value) (d : TypeDesc) (hc : w.rangeAt b o cs)
  (hu : P.underlying ty = some d) (hd : d.isRow = true) (hi : (P.info? ty).map (·.size) = some cs.length)
  (h : wpList P ops Q rest (a.put op.dst (.agg cs.toArray)) w) : wpList P ops Q (op :: rest) a w :=
 wpList_step fun K hK => by
  rw [if_pos hw]
  exact wp_load_mid ty x ho b o hx cs d hc hu hd hi (hK _ _ h)
theorem wpList_load_midF {P : Program} {ops : Array Oper} {rest : List Oper} {op : Oper} {a : Act} {w : World} {Q : Exit → Act → World → Prop} (hw : Region.wanted op (yielded ops a.tmps) = true) (ty : TypeId) (x : Operand) (ho : op.op = .load ty x)
  (b o : Nat) (hx : a.eval x = .pointer (some ⟨b, o, none⟩)) (F : Array Value) (d : TypeDesc) (hc : w.rangeAt b o F.toList)
  (hu : P.underlying ty = some d) (hd : d.isRow = true) (hi : (P.info? ty).map (·.size) = some F.size)
  (h : wpList P ops Q rest (a.put op.dst (.agg F)) w) : wpList P ops Q (op :: rest) a w :=
 wpList_load_midW hw ty x ho b o hx F.toList d hc hu hd (by simpa using hi) (by simpa using h)
theorem digC_cells {d : List UInt8} (h : d.length = 32) : ∃ F : Array Value, F = (bcells d).toArray ∧ F.size = 32 ∧ F.all (·.oneCell') = true ∧ F.toList = bcells d := by
 refine ⟨_, rfl, by simp [h], ?_, by simp⟩
 rw [List.all_toArray]
 simp [bcells, Value.oneCell']
theorem shl8_or (x : Nat) (c : UInt8) (h : x < 16777216) : bits .or .u64 ((x * 256 : Nat) : Int) (c.toNat : Int) = ((x * 256 + c.toNat : Nat) : Int) := by
 have hc := c.toNat_lt
 rw [u64_or_nat _ _ (by omega) (by omega)]
 congr 1
 have := Nat.two_pow_add_eq_or_of_lt (i := 8) (b := c.toNat) (by omega) x
 rw [show (256 : Nat) = 2 ^ 8 from rfl, Nat.mul_comm x]
 exact this.symm
def pre4 (a b c d : UInt8) : Nat → Nat
 | 0 => 0
 | 1 => a.toNat
 | 2 => a.toNat * 256 + b.toNat
 | 3 => (a.toNat * 256 + b.toNat) * 256 + c.toNat
 | _ => vw4 a b c d
def at4 (a b c d : UInt8) : Nat → UInt8
 | 0 => a | 1 => b | 2 => c | _ => d
theorem pre4_step (a b c d : UInt8) {k : Nat} (hk : k < 4) : pre4 a b c d (k + 1) = pre4 a b c d k * 256 + (at4 a b c d k).toNat ∧ pre4 a b c d k < 16777216 ∧ [a, b, c, d][k]? = some (at4 a b c d k) := by
 have h1 := a.toNat_lt; have h2 := b.toNat_lt; have h3 := c.toNat_lt; have h4 := d.toNat_lt
 have : k = 0 ∨ k = 1 ∨ k = 2 ∨ k = 3 := by omega
 rcases this with rfl | rfl | rfl | rfl <;> refine ⟨?_, ?_, rfl⟩ <;> simp only [pre4, at4, vw4] <;> omega
set_option maxRecDepth 100000 in
set_option maxHeartbeats 1000000 in
theorem small4_any (v : Value) (a b c d : UInt8) (w : World) (h : By w v [a, b, c, d]) :
  Calls Tryz.prog 91 #[v] w fun e w' => e = .returned (.tuple #[.int .u32 ((vw4 a b c d : Nat) : Int), .int .i64 0]) ∧ w = w' := by
 obtain ⟨A, cp, rfl, _, _, hca⟩ := h.form
 have HC := hide hca
 have hv := vw4_lt a b c d
 have hf : IntKind.u32.wrap ((vw4 a b c d : Nat) : Int) = ((vw4 a b c d : Nat) : Int) := by simp [IntKind.wrap, IntKind.bits, IntKind.signed]; omega
 have HV := hide (And.intro hv hf)
 have q := width32_any w
 clear h hca hv hf
 show Calls Tryz.prog 91 #[.slice A 4 cp] w _
 go_enter Tryz.func91, Tryz.ntmps91
 go_wp2_with fail
 refine q.mono ?_
 rintro e w' ⟨rfl, rfl⟩
 clear q
 go_wp2
 go_loopw [5, 7, 21] (fun u5 _ u21 wr => ∃ k : Nat, k ≤ 4 ∧ u21 = .int .i64 (k : Int) ∧ u5 = .int .u64 ((pre4 a b c d k : Nat) : Int) ∧ w = wr) (fun _ _ u21 _ => 4 - (intOf u21).toNat)
 case atStart => exact ⟨0, by omega, rfl, rfl, rfl⟩
 case round =>
  obtain ⟨k, hk, rfl, rfl, rfl⟩ := hrel
  by_cases hlt : k < 4
  ·obtain ⟨hs, hb, hg⟩ := pre4_step a b c d hlt
   obtain ⟨bb, o, rfl, _, hcx⟩ := HC.out k _ hg
   have hx8 := (at4 a b c d k).toNat_lt
   have hor := shl8_or (pre4 a b c d k) (at4 a b c d k) hb
   have hw1 : IntKind.u64.wrap ((at4 a b c d k).toNat : Int) = ((at4 a b c d k).toNat : Int) := by simp [IntKind.wrap, IntKind.bits, IntKind.signed]; omega
   have hw2 : IntKind.u64.wrap (((pre4 a b c d k : Nat) : Int) * 256) = ((pre4 a b c d k * 256 : Nat) : Int) := by simp [IntKind.wrap, IntKind.bits, IntKind.signed]; omega
   rw [← hs, Int.natCast_mul] at hor
   obtain ⟨n1, hn1⟩ : ∃ n1, n1 = pre4 a b c d (k + 1) := ⟨_, rfl⟩
   rw [← hn1] at hor hs
   have HN := hide hn1
   clear hn1
   generalize pre4 a b c d k = n0 at *
   generalize (at4 a b c d k) = x at *
   clear hs hb hg
   have j1 : (k : Int) < 4 := by omega
   have j2 : (0 : Int) ≤ (k : Int) := by omega
   go_wp2
   go_roundw
   case rel => exact ⟨k + 1, by omega, by go_num, by rw [← HN.out]; simpa using hor, trivial⟩
   case measure => simp [intOf]; omega
  ·have hkk : k = 4 := by omega
   subst hkk
   have hl : pre4 a b c d 4 = vw4 a b c d := rfl
   rw [hl]
   have hm : ((vw4 a b c d : Nat) : Int) % 4294967296 = ((vw4 a b c d : Nat) : Int) := by have := HV.out.1; omega
   go_wp2
   go_ret2
   exact ⟨rfl, rfl⟩
set_option maxRecDepth 100000 in
set_option maxHeartbeats 1000000 in
theorem sword_any (v : Value) (l : List UInt8) (i : Nat) (w : World) (h : By w v l) (hi : i + 4 ≤ l.length) (hl : l.length ≤ 9223372036854775807) :
  Calls Tryz.prog 68 #[v, .int .i64 (i : Int)] w fun e w' => e = .returned (.int .i64 ((w4 l i : Nat) : Int)) ∧ w = w' := by
 obtain ⟨A, c, rfl, hc, hm, hca⟩ := h.form
 obtain ⟨g, o, rfl, _, _⟩ := hca 0 _ (List.getElem?_eq_getElem (show 0 < l.length by omega))
 have hs := h.sub i 4 (c - i) hi (by omega) (by omega)
 obtain ⟨a0, a1, a2, a3, hq⟩ : ∃ a0 a1 a2 a3, (l.drop i).take 4 = [a0, a1, a2, a3] := by
  have : ((l.drop i).take 4).length = 4 := by simp; omega
  match hx : (l.drop i).take 4, this with
  | [a0, a1, a2, a3], _ => exact ⟨a0, a1, a2, a3, rfl⟩
 have hw : w4 l i = vw4 a0 a1 a2 a3 := by unfold w4; rw [hq]; rfl
 rw [hq] at hs
 have q := small4_any _ a0 a1 a2 a3 w hs
 have hlt := w4_lt l i
 rw [← hw] at q
 generalize w4 l i = x at *
 have e1 : IntKind.i64.wrap ((i : Int) + 4) = (i : Int) + 4 := IntWalk.i64_in _ (by omega)
 have e2 : IntKind.i64.wrap ((x : Nat) : Int) = ((x : Nat) : Int) := IntWalk.i64_in _ (by omega)
 have i1 : (0 : Int) ≤ (i : Int) := by omega
 have i2 : (i : Int) ≤ (i : Int) + 4 := by omega
 have i3 : (i : Int) + 4 ≤ (c : Int) := by unfold maxLen at hm; omega
 have i4 : (i : Int) + 4 - (i : Int) = 4 := by omega
 have i5 : (c : Int) - (i : Int) = ((c - i : Nat) : Int) := by omega
 clear h hca hs hq hw hlt hc hm
 go_enter Tryz.func68, Tryz.ntmps68
 go_wp2_with fail
 refine q.mono ?_
 rintro e w' ⟨rfl, rfl⟩
 clear q
 go_wp2
 go_ret
 exact ⟨rfl, rfl⟩
set_option maxRecDepth 100000 in
set_option maxHeartbeats 1000000 in
theorem digests_any (v : Value) (L : List (List UInt8)) (w : World) (h : Ds w v L) (hl : L.length ≤ 1048576) :
  Calls Tryz.prog 63 #[v] w fun e w' => ∃ u, e = .returned u ∧ Own w' w.heap.size 5 u L.flatten ∧ Below w.heap.size w w' := by
 obtain ⟨A, c, rfl, hc, hm, _⟩ := h.1.form
 have H := hide h
 clear h
 go_enter Tryz.func63, Tryz.ntmps63
 go_wp2
 go_loopw [3, 5, 8] (fun u3 _ u8 wr => ∃ k : Nat, k ≤ L.length ∧ u8 = .int .i64 (k : Int) ∧ Own wr w.heap.size 5 u3 (L.take k).flatten ∧ Below w.heap.size w wr) (fun _ _ u8 _ => L.length - (intOf u8).toNat)
 case atStart => exact ⟨0, by omega, rfl, Own.nil _ _ _, Below.refl _ _⟩
 case round =>
  obtain ⟨k, hk, rfl, hown, hbel⟩ := hrel
  have HO := hide hown
  have HB := hide hbel
  clear hown hbel
  by_cases hlt : k < L.length
  ·obtain ⟨d, hd⟩ : ∃ d, L[k]? = some d := ⟨_, List.getElem?_eq_getElem hlt⟩
   obtain ⟨b, o, rfl, hr, hd32, _⟩ := (H.out.below HB.out).at hd
   obtain ⟨F, hF, hF1, hF2, hF3⟩ := digC_cells hd32
   rw [← hF3] at hr
   have HR := hide hr
   have HD := hide hd
   have HF := hide (And.intro hF1 (And.intro hF2 (And.intro hF3 hd32)))
   have hlen : (L.take k).flatten.length ≤ 33554432 := by
    have := flat_len (D := L.take k) (fun x hx => H.out.2 x (List.mem_of_mem_take hx))
    rw [this, List.length_take]
    omega
   have j1 : (k : Int) < (L.length : Int) := by omega
   have j2 : (0 : Int) ≤ (k : Int) := by omega
   clear hr hd hF hF1 hF2 hF3 hd32
   go_wp2_with (first
    | (refine wpList_load_midF (by rfl) 23 _ rfl b (o + k * 32) rfl F _ HR.out Tryz.underlying23 rfl (by rw [HF.out.1]; kernel_rfl) ?_)
    | ((with_reducible change wpList _ _ _ (⟨none, .store _ (.tmp 5) _, _, _, _, _⟩ :: _) _ _); go_loud (refine wpList_store_row (o := ⟨none, .store _ (.tmp 5) _, _, _, _, _⟩) (Blk.new wr _ _) F (by rw [HF.out.1]; kernel_rfl) HF.out.2.1 rfl 23 _ _ rfl (by rw [HF.out.1]; kernel_rfl) rfl rfl ?_; intro w2 hb2 hg2; have hbb : Below wr.heap.size wr w2 := ((Below.refl _ wr).alloc (Nat.le_refl _) _).grown hg2 (by simp) (fun k hk => by cases hk; exact Nat.le_refl _); have hby := by_mid (o := 0) (l := d) HF.out.2.2.2.symm hb2 (fun j hj => by rw [Nat.zero_add, ← Array.getElem?_toList, HF.out.2.2.1]) (by have := HF.out.2.2.2; omega)))
    | (at_builtin; go_loud (refine wpList_pushV elem8 (Own.below HO.out hbb) (Below.step HB.out hbb) (Below.step HB.out hbb).size hby (by have := HF.out.2.2.2; omega) rfl _ _ rfl rfl rfl ?_; intro v3 w3 hown3 hbel3 _ _)))
   go_roundw
   case rel => exact ⟨k + 1, by omega, by go_num, by rw [take_snoc _ _ _ HD.out, List.flatten_append]; simpa using hown3, hbel3⟩
   case measure => simp [intOf]; omega
  ·have hkl : k = L.length := by omega
   subst hkl
   have hO := HO.out
   rw [List.take_of_length_le (Nat.le_refl _)] at hO
   have HO2 := hide hO
   clear hO HO
   go_wp2
   go_ret
   exact ⟨_, rfl, HO2.out, HB.out⟩
set_option maxHeartbeats 400000 in
theorem join_any (v : Value) (L : List (Value × List UInt8)) (w : World) (h : Lsts w v L) (ht : total L ≤ 1099511627776) :
  Calls Tryz.prog 39 #[v] w fun e w' => ∃ v', e = .returned v' ∧ Own w' w.heap.size 5 v' (cat L) ∧ Below w.heap.size w w' := by
 obtain ⟨A, c, rfl, -, -, -⟩ := h.1.form
 have H := hide h
 clear h
 go_enter Tryz.func39, Tryz.ntmps39
 go_wp2_with fail
 refine (concat_any _ L w H.out ht).mono ?_
 rintro e w1 ⟨v1, rfl, o1, b1⟩
 go_wp2
 go_ret
 exact ⟨_, rfl, o1, b1⟩
theorem lsts_new {w : World} {cs : Array Value} {t : TypeId} (L : List (Value × List UInt8)) (hcs : cs.toList = L.map (·.1)) (hm : L.length ≤ 1000) (hby : ∀ x ∈ L, By w x.1 x.2) : Lsts (w.alloc (.cells cs t)) (.slice (some ⟨w.heap.size, 0, none⟩) L.length L.length) L :=
 lsts_row (Blk.new w t cs) L hcs hm fun x hx => (hby x hx).below ((Below.refl _ w).alloc (Nat.le_refl _) _)
theorem big4_any (x : Nat) (w : World) (hx : x < 4294967296) :
  Calls Tryz.prog 61 #[.int .u32 (x : Int)] w fun e w' => ∃ g, e = .returned (.slice (some ⟨g, 0, none⟩) 4 4) ∧ By w' (.slice (some ⟨g, 0, none⟩) 4 4) (bw4 x) ∧ Below w.heap.size w w' :=
 (big32_any x w hx).mono fun e w' ⟨hb, he, ho⟩ => ⟨_, he, by rw [← bigL_bw4]; exact ho.by_, hb⟩
end Go.Proofs.YtdohebhbiokljaaGreatDoor
namespace Go.Proofs.YtdohebhbiokljaaGreatDoor
open Go
section
variable {P : Program} {Q : Exit → Act → World → Prop} {md : Region.Mode} {ops hd : Array Oper} {o : Oper}
def Behind (P : Program) (o : Oper) (Q : Exit → Act → World → Prop) : Exit → Act → World → Prop
 | .normal, a, w => o.wp P a w (Q .normal) Q
 | e, a, w => Q e a w
theorem push_getD (l : Array Bool) (k : Nat) : (l.push false).getD k false = l.getD k false := by
 rcases Nat.lt_trichotomy k l.size with h | h | h
 ·simp [Array.getD, h, Nat.lt_succ_of_lt h, Array.getElem_push_lt h]
 ·subst h; simp [Array.getD]
 ·simp [Array.getD, Nat.not_lt.2 (Nat.le_of_lt h), show ¬ k < l.size + 1 by omega]
theorem push_getD' (l : Array Bool) (k : Nat) (h : k < l.size) : (l.push false).getD k true = l.getD k true := by
 simp [Array.getD, h, Nat.lt_succ_of_lt h, Array.getElem_push_lt h]
theorem push_set (l : Array Bool) (k : Nat) (h : k < l.size) : (l.push false).setIfInBounds k true = (l.setIfInBounds k true).push false := by
 apply Array.ext_getElem?
 intro i
 rw [Array.getElem?_setIfInBounds, Array.getElem?_push, Array.getElem?_push, Array.getElem?_setIfInBounds, Array.size_push, Array.size_setIfInBounds]
 by_cases e : k = i
 ·subst e
  rw [if_pos rfl, if_pos (by omega), if_neg (by omega), if_pos rfl, if_pos h]
 ·rw [if_neg e, if_neg e]
theorem hd_at (hops : ops = hd.push o) {i : Nat} (hi : i < hd.size) : ops[i]? = hd[i]? := by
 rw [hops, Array.getElem?_push, if_neg (by omega)]
theorem ready_hd (hops : ops = hd.push o) {l : Array Bool} (hl : l.size = hd.size) {i : Nat} (hi : i < hd.size) : i ∈ Region.ready md ops (l.push false) ↔ i ∈ Region.ready md hd l := by
 rw [mem_ready, mem_ready, push_getD' l i (by omega), hd_at hops hi]
 simp only [push_getD]
theorem wpOp_hd (hops : ops = hd.push o) (hg : (ops.all fun x => x.guard.isNone) = true) {i : Nat} (hi : i < hd.size) {K : Act → World → Prop} {a : Act} {w : World} (h : wpOp P hd (Behind P o Q) i K a w) : wpOp P ops Q i K a w := by
 unfold wpOp at *
 rw [hd_at hops hi]
 obtain ⟨x, hx⟩ : ∃ x, hd[i]? = some x := ⟨_, Array.getElem?_eq_getElem hi⟩
 rw [hx] at h ⊢
 have hgx : x.guard = none := by
  rw [Array.all_eq_true_iff_forall_mem] at hg
  have hm : x ∈ ops := by rw [hops]; exact Array.mem_push_of_mem o (Array.mem_of_getElem? hx)
  simpa using hg x hm
 have hw : ∀ y, Region.wanted x y = true := fun y => by simp [Region.wanted, hgx]
 simp only [hw, if_true] at h ⊢
 exact h.imp (fun h => h) (fun ⟨h1, h2⟩ => ⟨h1, h2⟩)
def lowB (ops : Array Oper) : Bool := (List.range ops.size).all fun i => ((ops[i]?).map fun o => o.after.all fun e => decide (e.on < i)).getD true
theorem lowB_spec (h : lowB ops = true) {i : Nat} {x : Oper} (hx : ops[i]? = some x) : ∀ e ∈ x.after, e.on < i := fun e he => by
 have h1 := List.all_eq_true.1 h i (List.mem_range.2 (Array.getElem?_eq_some_iff.1 hx).1)
 rw [hx] at h1
 simp only [Option.map_some, Option.getD_some] at h1
 rw [Array.all_eq_true_iff_forall_mem] at h1
 simpa using h1 e he
theorem wpAny_last (hops : ops = hd.push o) (hg : (ops.all fun x => x.guard.isNone) = true) (hs : Region.sinkB md ops hd.size = true) (hlow : lowB ops = true) :
  ∀ (f : Nat) (l : Array Bool) (a : Act) (w : World), HeadInv md ops hd.size (l.push false) → l.size = hd.size → wpAny P md hd (Behind P o Q) f l a w → wpAny P md ops Q (f + 1) (l.push false) a w := by
 have hn : hd.size < ops.size := by rw [hops]; simp
 have hc : Region.chainB md ops hd.size = true := by
  unfold Region.chainB
  rw [List.all_eq_true]
  intro t ht
  have := List.mem_range.1 ht
  rw [hops, Array.size_push] at this
  simp only [Bool.or_eq_true, decide_eq_true_eq]
  exact .inl (by omega)
 have hon : ops[hd.size]? = some o := by rw [hops]; simp
 have hgo : ∀ y, Region.wanted o y = true := fun y => by
  rw [Array.all_eq_true_iff_forall_mem] at hg
  have := hg o (by rw [hops]; simp)
  simp [Region.wanted, show o.guard = none by simpa using this]
 have fin : ∀ (g : Nat) (l : Array Bool) (a : Act) (w : World), l.size = hd.size → Region.ready md hd l = [] → Behind P o Q .normal a w → wpAny P md ops Q (g + 1) (l.push false) a w := by
  intro g l a w hl hr hb
  have all : ∀ i, i < hd.size → l.getD i false = true := by
   intro i
   induction i using Nat.strongRecOn with
   | ind i ih =>
    intro hi
    rcases hbl : l.getD i false with _ | _
    ·exfalso
     have hmem : i ∈ Region.ready md hd l := by
      obtain ⟨x, hx⟩ : ∃ x, hd[i]? = some x := ⟨_, Array.getElem?_eq_getElem hi⟩
      refine mem_ready.2 ⟨getD_in (by omega) hbl, x, hx, fun e he _ => ?_⟩
      have := lowB_spec hlow ((hd_at hops hi).trans hx) e he
      exact ih e.on this (by omega)
     rw [hr] at hmem
     cases hmem
    ·rfl
  have none_ : ∀ i, i < hd.size → (l.push false).getD i true = true := fun i hi => by
   rw [push_getD' l i (by omega)]
   have := all i hi
   simp [Array.getD, show i < l.size by omega] at this ⊢
   exact this
  have hmem : hd.size ∈ Region.ready md ops (l.push false) := by
   refine mem_ready.2 ⟨by rw [← hl]; simp [Array.getD], o, hon, fun e he _ => ?_⟩
   rw [push_getD]
   exact all e.on (lowB_spec hlow hon e he)
  refine ⟨fun h0 => (by rw [h0] at hmem; cases hmem), fun i hi => ?_⟩
  have hie : i = hd.size := by
   obtain ⟨h1, x, hx, _⟩ := mem_ready.1 hi
   have := (Array.getElem?_eq_some_iff.1 hx).1
   rw [hops, Array.size_push] at this
   rcases Nat.lt_or_ge i hd.size with h | h
   ·rw [none_ i h] at h1; cases h1
   ·omega
  subst hie
  have hfull : Region.ready md ops ((l.push false).setIfInBounds hd.size true) = [] := by
   rw [List.eq_nil_iff_forall_not_mem]
   intro i hi
   obtain ⟨h1, x, hx, _⟩ := mem_ready.1 hi
   have := (Array.getElem?_eq_some_iff.1 hx).1
   rw [hops, Array.size_push] at this
   rcases Nat.lt_or_ge i hd.size with h | h
   ·rw [getD_set_ne true (by omega), none_ i h] at h1; cases h1
   ·have : i = hd.size := by omega
    subst this
    simp [Array.getD, hl] at h1
  unfold wpOp
  simp only [hon, hgo, if_true]
  refine .inl (Oper.wp_mono (fun a w hq => ?_) hb)
  cases g with
  | zero => exact ⟨hfull, hq⟩
  | succ g => exact ⟨fun _ => hq, fun i hi => by rw [hfull] at hi; cases hi⟩
 intro f
 induction f with
 | zero => intro l a w inv hl h; exact fin 0 l a w hl h.1 h.2
 | succ f ih =>
  intro l a w inv hl h
  by_cases hr : Region.ready md hd l = []
  ·exact fin (f + 1) l a w hl hr (h.1 hr)
  ·obtain ⟨i, hi⟩ := List.exists_mem_of_ne_nil _ hr
   have hi2 : i < hd.size := by
    obtain ⟨_, x, hx, _⟩ := mem_ready.1 hi
    exact (Array.getElem?_eq_some_iff.1 hx).1
   have hun : (l.push false).getD i true = false := by
    rw [push_getD' l i (by omega)]
    exact (mem_ready.1 hi).1
   have hi' := (ready_hd hops hl hi2).2 hi
   refine ⟨fun h0 => (by rw [h0] at hi'; cases hi'), fun j hj => ?_⟩
   have hjn : j < hd.size := by
    rcases Nat.lt_or_ge j hd.size with h | h
    ·exact h
    ·exact absurd hj (tail_waits hs hc hn inv _ i rfl hi2 hun j h)
   refine wpOp_mono (fun a' w' h' => ?_) (wpOp_hd hops hg hjn (h.2 j ((ready_hd hops hl hjn).1 hj)))
   rw [push_set l j (by omega)]
   exact ih _ a' w' (by rw [← push_set l j (by omega)]; exact inv.set hj hjn) (by simpa using hl) h'
theorem region_last {S : World → Prop} {id : Nat} {a : Act} {w : World} (hm : P.follows .mixedOrders = true) (hops : ops = hd.push o) (hg : (ops.all fun x => x.guard.isNone) = true) (hs : Region.sinkB .any ops hd.size = true) (hlow : lowB ops = true)
  (hS : S w.drew) (h : S w.drew → wpAnyH P .any hd (Behind P o Q) S hd.size (Array.replicate hd.size false) a w.drew) : (Code.region id ops true).wp P Q a w := by
 refine wp_region_any hm ?_
 have e : Array.replicate ops.size false = (Array.replicate hd.size false).push false := by rw [hops, Array.size_push, Array.replicate_succ]
 rw [e, show ops.size = hd.size + 1 by rw [hops, Array.size_push]]
 refine wpAny_last hops hg hs hlow _ _ _ _ ?_ (by simp) (wpAny_of_held _ _ _ _ (h hS))
 refine ⟨by rw [hops]; simp, fun j oj _ hl => ?_, fun t ht ht' => ?_⟩
 ·rw [push_getD, getD_replicate_false] at hl; cases hl
 ·rw [hops, Array.size_push] at ht'
  have : t = hd.size := by omega
  subst this
  have hx : (Array.replicate hd.size false).size = hd.size := by simp
  generalize Array.replicate hd.size false = z at hx
  rw [← hx]
  simp [Array.getD]
theorem region_last_at {S : World → Prop} {id : Nat} {a : Act} {w : World} (n : Nat) (ho : ops[n]? = some o) (hn : ops.size = n + 1) (hm : P.follows .mixedOrders = true) (hg : (ops.all fun x => x.guard.isNone) = true) (hs : Region.sinkB .any ops n = true) (hlow : lowB ops = true)
  (hS : S w.drew) (h : S w.drew → wpAnyH P .any (ops.toList.take n).toArray (Behind P o Q) S n (Array.replicate n false) a w.drew) : (Code.region id ops true).wp P Q a w := by
 have hsz : (ops.toList.take n).toArray.size = n := by simp; omega
 have hops : ops = (ops.toList.take n).toArray.push o := by
  apply Array.ext_getElem?
  intro i
  rw [Array.getElem?_push, hsz]
  by_cases e : i = n
  ·rw [if_pos e, e, ho]
  ·rw [if_neg e, ← Array.getElem?_toList, ← Array.getElem?_toList, List.toList_toArray]
   rcases Nat.lt_or_ge i n with h | h
   ·rw [List.getElem?_take_of_lt h]
   ·rw [List.getElem?_eq_none (by simp; omega), List.getElem?_eq_none (by simp; omega)]
 refine region_last hm hops hg (by rw [hsz]; exact hs) hlow hS ?_
 rw [hsz]
 exact h
theorem Behind.run {a : Act} {w : World} (h : o.wp P a w (Q .normal) Q) : Behind P o Q .normal a w := h
end
end Go.Proofs.YtdohebhbiokljaaGreatDoor
