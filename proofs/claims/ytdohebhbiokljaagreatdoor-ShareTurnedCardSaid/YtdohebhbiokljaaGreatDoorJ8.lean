import Derived.Maps.RangeWalk
import Derived.Test.YtdohebhbiokljaaGreatDoorJ5
import Derived.Test.YtdohebhbiokljaaGreatDoorJ7
import Derived.Laws.BitsAllLaws
import Derived.Maps.AppendAt
set_option linter.all false
namespace Go.Proofs.YtdohebhbiokljaaGreatDoor
open Go.RowKit Exs
theorem i64_xor1 (a : Nat) (ha : a < 9223372036854775808) : bits .xor .i64 (a : Int) 1 = ((a ^^^ 1 : Nat) : Int) := by
 have hx : a ^^^ 1 < 2 ^ 63 := Nat.xor_lt_two_pow (by omega) (by omega)
 show IntKind.i64.wrap ((BitVec.ofInt 64 (a : Int) ^^^ BitVec.ofInt 64 ((1 : Nat) : Int)).toNat : Int) = _
 rw [BitVec.toNat_xor, ofInt_u64 a (by omega), ofInt_u64 1 (by omega)]
 rw [IntWalk.i64_in _ (by omega)]
theorem xor1_par (a : Nat) : (a ^^^ 1) % 2 = 1 - a % 2 := by
 have := Nat.xor_mod_two_eq_one (a := a) (b := 1)
 omega
theorem sib_par (x : Nat) (h : x < 9223372036854775808) : ∃ s : Nat, xr x = .int .i64 (s : Int) ∧ s < 9223372036854775808 ∧ (s % 2 = 0 ↔ x % 2 = 1) := by
 refine ⟨x ^^^ 1, by unfold xr; rw [i64_xor1 x h], Nat.xor_lt_two_pow (n := 63) (by omega) (by omega), ?_⟩
 have := xor1_par x
 omega
theorem abv_get : ∀ (K f i k : Nat), K + 1 ≤ f → i < 2 ^ K → k < K → (abv (ups f (2 ^ K + i)))[k]? = some ((2 ^ K + i) / 2 ^ k)
 | 0, f, i, k, hf, hi, hk => by omega
 | K + 1, f, i, k, hf, hi, hk => by
  obtain ⟨g, rfl⟩ : ∃ g, f = g + 1 := ⟨f - 1, by omega⟩
  have hp : 0 < 2 ^ K := Nat.pow_pos (by omega)
  rw [Nat.pow_succ] at hi ⊢
  have h2 : (2 ^ K * 2 + i) / 2 = 2 ^ K + i / 2 := by omega
  rw [show ups (g + 1) (2 ^ K * 2 + i) = (2 ^ K * 2 + i) :: ups g ((2 ^ K * 2 + i) / 2) by simp [ups]; omega, abv_cons, if_pos (by omega), h2]
  cases k with
  | zero => simp
  | succ k =>
   rw [List.getElem?_cons_succ, abv_get K g (i / 2) k (by omega) (by omega) (by omega), Nat.pow_succ', ← Nat.div_div_eq_div_mul, h2]
theorem par_up (K i k : Nat) (hk : k < K) : (2 ^ K + i) / 2 ^ k % 2 = i / 2 ^ k % 2 := by
 obtain ⟨j, rfl⟩ : ∃ j, K = k + 1 + j := ⟨K - k - 1, by omega⟩
 have hp : 0 < 2 ^ k := Nat.pow_pos (by omega)
 rw [show 2 ^ (k + 1 + j) + i = i + 2 ^ k * (2 * 2 ^ j) by rw [Nat.pow_add, Nat.pow_succ, Nat.mul_assoc]; omega, Nat.add_mul_div_left _ _ hp]
 omega
theorem chain_get {n i k : Nat} (h : 1 ≤ n ∧ n ≤ 512) (hi : i < n) (hk : k < chainLen n) : ∃ s : Nat, ((abv (ups 10 (wid n + i))).map xr)[k]? = some (.int .i64 (s : Int)) ∧ s < 9223372036854775808 ∧ (s % 2 = 0 ↔ i / 2 ^ k % 2 = 1) := by
 obtain ⟨K, hK, he⟩ := wd_pow 9 1 n
 have hg := wid_ge h.2
 have hw : wid n = 2 ^ K := by unfold wid; rw [he, Nat.one_mul]
 have hkl : chainLen n = K := by
  have h0 := abv_ups K 10 0 (by omega) (Nat.pow_pos (by omega))
  unfold chainLen
  rw [hw]
  rw [Nat.add_zero] at h0
  exact h0
 rw [hkl] at hk
 have hget := abv_get K 10 i k (by omega) (by omega) hk
 have hlt : (2 ^ K + i) / 2 ^ k < 9223372036854775808 := by
  have h1 := Nat.div_le_self (2 ^ K + i) (2 ^ k)
  have h2 := wid_le n
  omega
 obtain ⟨s, h1, h2, h3⟩ := sib_par _ hlt
 refine ⟨s, ?_, h2, ?_⟩
 ·rw [List.getElem?_map, hw, hget, Option.map_some, h1]
 ·rw [h3, par_up K i k hk]
theorem climb_snoc : ∀ (cs : List (List UInt8)) (c : List UInt8) (k : Nat) (d : List UInt8), climbL k d (cs ++ [c]) = shaL (stepL (k / 2 ^ cs.length) (climbL k d cs) c)
 | [], c, k, d => by simp [climbL]
 | b :: cs, c, k, d => by
  simp only [List.cons_append, climbL, List.length_cons]
  rw [climb_snoc cs c, Nat.pow_succ', ← Nat.div_div_eq_div_mul]
theorem climb_len : ∀ (cs : List (List UInt8)) (k : Nat) (d : List UInt8), d.length = 32 → (climbL k d cs).length = 32
 | [], k, d, h => h
 | b :: cs, k, d, _ => climb_len cs (k / 2) _ (shaL_length _)
theorem results_row_tmp1 {P : Program} {fn : Func} {p u : Tmp} {ty : TypeId} (h : fn.results = #[.cell p ty, .tmp u]) (tmps : Array Value) (w : World) (g : Nat) (t : TypeId) (cs : Array Value) (fr : Nat × Nat) (d : TypeDesc)
  (hp : tmps.getD p undef = .pointer (some ⟨g, 0, none⟩)) (hg : w.heap[g]? = some (.cells cs t fr))
  (hu : P.underlying ty = some d) (hd : (match d with | .struct _ | .array _ _ => true | _ => false) = true) (hi : (P.info? ty).map (·.size) = some cs.size) {x : Value} (hx : tmps.getD u undef = x) :
  (results fn tmps).run P w = .ok (.tuple #[.agg cs, x]) w := by
 subst hx
 have hp' : tmps[p]?.getD undef = .pointer (some ⟨g, 0, none⟩) := by simpa using hp
 simp only [results, h]
 simp [Sem.run_bind, Result.andThen, hp', asAddr, run_loadVar_row w g t ty cs fr d hg hu hd hi]
theorem Ds.keptBy {w w' : World} {A : Option Addr} {n c X : Nat} {L : List (List UInt8)} (h : Ds w (.slice A n c) L) (hg : w.grownBy w' (some X)) (hX : ∀ b o, A = some ⟨b, o, none⟩ → b ≠ X) : Ds w' (.slice A n c) L := by
 obtain ⟨⟨h1, A', c', hv, hn, hc, h2⟩, hd⟩ := h
 refine ⟨⟨h1, A', c', hv, hn, hc, fun h0 => ?_⟩, hd⟩
 obtain ⟨b, o, hA, hlt, hcell⟩ := h2 h0
 injection hv with hA' _ _
 have hne := hX b o (hA'.trans hA)
 exact ⟨b, o, hA, Nat.lt_of_lt_of_le hlt hg.size, fun j hj => by rw [← hcell j hj]; exact World.cell?_of_block (hg.block b hlt (by intro e; injection e with e; exact hne e))⟩
set_option maxRecDepth 100000 in
set_option maxHeartbeats 4000000 in
theorem climb_any (n i : Nat) (d : List UInt8) (hd : d.length = 32) (v : Value) (L : List (List UInt8)) (w : World) (h : 1 ≤ n ∧ n ≤ 512) (hi : i < n) (hL : Ds w v L) (hlen : L.length = chainLen n) :
  Calls Tryz.prog 23 #[.int .i64 (n : Int), .int .i64 (i : Int), .agg (bcells d).toArray, v] w fun e w' => Below w.heap.size w w' ∧ e = .returned (.tuple #[.agg (bcells (climbL i d L)).toArray, .int .i64 0]) := by
 obtain ⟨A, c, rfl, _, hca, hcell0⟩ := hL.1.form
 have HA := hide (show 0 < L.length → ∃ b o, A = some ⟨b, o, none⟩ ∧ b < w.heap.size from fun h0 => by
  obtain ⟨b, o, h1, h2, _⟩ := hcell0 h0
  exact ⟨b, o, h1, h2⟩)
 clear hcell0
 obtain ⟨D0, hD0⟩ : ∃ D, D = (bcells d).toArray := ⟨_, rfl⟩
 obtain ⟨Z, hzl, hZ⟩ : ∃ Z : Array Value, (#[Value.int .u8 0, .int .u8 0, .int .u8 0, .int .u8 0, .int .u8 0, .int .u8 0, .int .u8 0, .int .u8 0, .int .u8 0, .int .u8 0, .int .u8 0, .int .u8 0, .int .u8 0, .int .u8 0, .int .u8 0, .int .u8 0, .int .u8 0, .int .u8 0, .int .u8 0, .int .u8 0, .int .u8 0, .int .u8 0, .int .u8 0, .int .u8 0, .int .u8 0, .int .u8 0, .int .u8 0, .int .u8 0, .int .u8 0, .int .u8 0, .int .u8 0, .int .u8 0] : Array Value) = Z ∧ Z.size = 32 := ⟨_, rfl, rfl⟩
 have n0 := (Blk.new w 23 D0).alloc (.cells Z 23)
 have n1 := Blk.new (w.alloc (.cells D0 23)) 23 Z
 simp only [World.size_alloc] at n1
 have b1 := ((Below.refl _ w).alloc (Nat.le_refl _) (.cells D0 23)).alloc (by simp) (.cells Z 23)
 obtain ⟨m, hm⟩ : ∃ m, m = chainLen n := ⟨_, rfl⟩
 have hm10 : m ≤ 10 := by rw [hm]; exact chainLen_le n
 have HG := hide (fun k (hk : k < m) => chain_get h hi (by rw [← hm]; exact hk))
 have QC := hide (fun W => chaini_any n i W h hi)
 rw [← hm] at QC hlen
 have HX := hide (And.intro (hL.below b1) (And.intro hd hlen))
 rw [hlen]
 rw [← hD0]
 have H0 := hide (And.intro n0 (And.intro n1 b1))
 have HD0 := hide hD0
 have HZ := hide hZ
 have HLT := hide (show w.heap.size + 1 < ((w.alloc (.cells D0 23)).alloc (.cells Z 23)).heap.size from by simp)
 generalize hW0 : (w.alloc (.cells D0 23)).alloc (.cells Z 23) = W0 at *
 clear n0 n1 b1 hL hd hZ hD0 hlen hm hca
 go_enter Tryz.func23, Tryz.ntmps23
 go_wp2_with fail
 refine (QC.out W0).mono ?_
 rintro e w1 ⟨A1, c1, rfl, own1, b1⟩
 have HI := hide (And.intro own1 b1)
 clear own1 b1 QC
 go_wp2
 go_loopw [34] (fun u34 wr => ∃ k : Nat, k ≤ m ∧ u34 = .int .i64 (k : Int) ∧ Blk wr w.heap.size 23 (bcells (climbL i d (L.take k))).toArray ∧ Blk wr (w.heap.size + 1) 23 Z ∧ wr.ownsRow W0.heap.size 3 1 (.slice A1 m c1) m ((abv (ups 10 (wid n + i))).map xr) ∧ Ds wr (.slice A m c) L ∧ Below w.heap.size w wr) (fun u34 _ => m - (intOf u34).toNat)
 case atStart =>
  refine ⟨0, by omega, rfl, ?_, H0.out.2.1.below' HI.out.2, HI.out.1, ?_, Below.step H0.out.2.2 HI.out.2⟩
  ·have := H0.out.1.below' HI.out.2
   rw [HD0.out] at this
   exact this
  ·have := HX.out.1.below HI.out.2
   rw [HX.out.2.2] at this
   exact this
 case round =>
  obtain ⟨k, hk, rfl, hcur, hz1, hown, hds, hbel⟩ := hrel
  by_cases hlt : k < m
  ·obtain ⟨s, hs1, hs2, hs3⟩ := HG.out k hlt
   obtain ⟨c0, hc0⟩ : ∃ x, L[k]? = some x := ⟨_, List.getElem?_eq_getElem (by have := HX.out.2.2; omega)⟩
   obtain ⟨b2, o2, hA2, hr2, hc32, hb2⟩ := hds.at hc0
   obtain ⟨b2', o2', hA2', hb2w⟩ := HA.out (by have := HX.out.2.2; omega)
   rw [hA2] at hA2'
   injection hA2' with hA2'
   injection hA2' with hA2b hA2o _
   subst hA2b hA2o
   subst hA2
   obtain ⟨b3, o3, hA3, _, hcells⟩ := (show 0 < m → ∃ b o, A1 = some ⟨b, o, none⟩ ∧ b < wr.heap.size ∧ ∀ j, j < m * 1 → wr.cell? ⟨b, o + j, none⟩ = ((abv (ups 10 (wid n + i))).map xr)[j]? from by
    obtain ⟨A', c', hv', _, _, hca⟩ := (Sl.of_own hown).form
    injection hv' with hA' _ _
    subst hA'
    exact hca) (by omega)
   subst hA3
   have hx1 := (hcells k (by omega)).trans hs1
   obtain ⟨cu, hcu⟩ : ∃ x, x = climbL i d (L.take k) := ⟨_, rfl⟩
   rw [← hcu] at hcur
   have hcl : cu.length = 32 := by rw [hcu]; exact climb_len _ _ _ HX.out.2.1
   obtain ⟨nx, hnx⟩ : ∃ x, x = climbL i d (L.take (k + 1)) := ⟨_, rfl⟩
   have hstep : nx = shaL (stepL (i / 2 ^ k) cu c0) := by
    rw [hnx, List.take_add_one, hc0, hcu]
    have := climb_snoc (L.take k) c0 i d
    rw [List.length_take, Nat.min_eq_left (by have := HX.out.2.2; omega)] at this
    exact this
   have hnl : nx.length = 32 := by rw [hstep]; exact shaL_length _
   obtain ⟨C, hC⟩ : ∃ C, C = (bcells c0).toArray := ⟨_, rfl⟩
   obtain ⟨CUR, hCUR⟩ : ∃ C, C = (bcells cu).toArray := ⟨_, rfl⟩
   obtain ⟨F, hF⟩ : ∃ C, C = (bcells nx).toArray := ⟨_, rfl⟩
   have hr2' : wr.rangeAt b2 (o2 + k * 32) C.toList := by rw [hC]; exact hr2
   rw [← hCUR] at hcur
   have HF := hide (show F = (bcells (climbL i d (L.take (k + 1)))).toArray from by rw [hF, hnx])
   have HC := hide (show C.size = 32 ∧ CUR.size = 32 ∧ F.size = 32 ∧ F.all (·.oneCell') = true from ⟨by rw [hC, arrSize]; exact hc32, by rw [hCUR, arrSize]; exact hcl, by rw [hF, arrSize]; exact hnl, by rw [hF]; exact arrOne _⟩)
   have HS := hide (show ∀ W, Below wr.heap.size wr W → Blk W w.heap.size 23 CUR ∧ W.rangeAt b2 (o2 + k * 32) C.toList from fun W hW => ⟨hcur.below' hW, fun j v hj => (hW.cell (p := ⟨b2, o2 + k * 32 + j, none⟩) hb2).trans (hr2' j v hj)⟩)
   have HDK := hide (show ∀ W W', Below wr.heap.size wr W → W.grownBy W' (some w.heap.size) → Ds W' (.slice (some ⟨b2, o2, none⟩) m c) L from fun W W' hW hg => (hds.below hW).keptBy hg (fun b o e => by injection e with e; injection e with e _; omega))
   have HK := hide (And.intro hz1 (And.intro hown (And.intro hds hbel)))
   have i1 : (k : Int) < (m : Int) := by omega
   have i2 : (0 : Int) ≤ (k : Int) := by omega
   by_cases hp : s % 2 = 0
   ·have hq : nx = nodeD c0 cu := by rw [hstep]; unfold stepL nodeD; rw [if_pos (hs3.1 hp)]
    have QN := hide (show ∀ W, Calls Tryz.prog 45 #[.agg C, .agg CUR] W fun e w' => e = .returned (.agg F) ∧ Below W.heap.size W w' from fun W => by rw [hC, hCUR, hF, hq]; exact tnode_any c0 cu hc32 hcl W)
    have hrem : (s : Int).tmod 2 = 0 := by rw [Int.tmod_eq_emod_of_nonneg (by omega)]; omega
    clear hcur hz1 hown hds hr2 hr2' hcells hs1 hs3 hc0 hcu hnx hstep hC hCUR hF hq
    go_wp2_with fail
    refine region_last_at (S := fun W => Blk W w.heap.size 23 CUR ∧ W.rangeAt b2 (o2 + k * 32) C.toList) 6 rfl rfl (by kernel_rfl) (by kernel_rfl) (by kernel_rfl) (by kernel_rfl) (HS.out _ (Below.refl _ _).drew) (fun hHeld => ?_)
    simp only [List.take_succ_cons, List.take_zero]
    refine wpAnyH_take (i := 0) (v := ?_) rfl (by kernel_rfl) (by kernel_rfl) (by kernel_rfl) (fun _ _ _ h => h) (Or.inl ⟨by rfl, ?_⟩) (by assumption) ?_
    rotate_left
    ·(intro w9 hSw; go_simp; try with_reducible rfl)
    try go_frame
    refine wpAnyH_take (i := 1) (v := ?_) rfl (by kernel_rfl) (by kernel_rfl) (by kernel_rfl) (fun _ _ _ h => h) (Or.inl ⟨by rfl, ?_⟩) (by assumption) ?_
    rotate_left
    ·(intro w9 hSw; go_simp; try with_reducible rfl)
    try go_frame
    refine wpAnyH_take (i := 2) (v := ?_) rfl (by kernel_rfl) (by kernel_rfl) (by kernel_rfl) (fun _ _ _ h => h) (Or.inl ⟨by rfl, ?_⟩) (by assumption) ?_
    rotate_left
    ·(intro w9 hSw; go_simp; try with_reducible rfl)
    try go_frame
    refine wpAnyH_take (i := 3) (v := .agg C) rfl (by kernel_rfl) (by kernel_rfl) (by kernel_rfl) (fun _ _ _ h => h) (Or.inl ⟨by rfl, ?_⟩) (by assumption) ?_
    ·(intro W hW; exact ex_loadR 23 (.tmp 44) (by kernel_rfl) b2 (o2 + k * 32) rfl C _ hW.2 Tryz.underlying23 rfl (by rw [HC.out.1]; kernel_rfl))
    try go_frame
    refine wpAnyH_take (i := 4) (v := .agg CUR) rfl (by kernel_rfl) (by kernel_rfl) (by kernel_rfl) (fun _ _ _ h => h) (Or.inl ⟨by rfl, ?_⟩) (by assumption) ?_
    ·(intro W hW; exact ex_loadB 23 (.tmp 6) (by kernel_rfl) w.heap.size (by kernel_rfl) 23 CUR _ hW.1 Tryz.underlying23 rfl (by rw [HC.out.2.1]; kernel_rfl))
    try go_frame
    refine wpAnyH_ready (rs := [5]) (by kernel_rfl) (by simp) ?_
    refine AllReadyH.cons rfl (fun K hK => ?_) AllReadyH.nil
    go_simp
    refine (QN.out wr.drew).mono ?_
    rintro e w2 ⟨rfl, q2⟩
    have Q2 := hide (Below.step (Below.refl _ wr).drew q2)
    clear q2
    refine hK.out _ _ (HS.out _ Q2.out) (fun hHeld => ?_)
    clear hK K
    try go_frame
    refine wpAnyH_done (by kernel_rfl) ?_ _
    refine Behind.run ?_
    refine wp_store_blk (g := _) (t := 23) (HS.out _ Q2.out).1 F (by rw [HC.out.2.2.1, HC.out.2.1]) HC.out.2.2.2 23 _ _ rfl (by rw [HC.out.2.2.1]; kernel_rfl) rfl rfl ?_
    intro w7 hb7 hg7
    have H7 := hide (And.intro hb7 hg7)
    clear hb7 hg7
    go_wp2
    go_roundw
    case rel =>
     refine ⟨k + 1, by omega, by go_num, by rw [← HF.out]; exact H7.out.1, (HK.out.1.below' Q2.out).grown H7.out.2 (by intro e; injection e with e; omega), ?_, ?_, ?_⟩
     ·exact (own_below' HK.out.2.1 Q2.out).kept H7.out.2 (own_blk_ne (own_below' HK.out.2.1 Q2.out) ((HS.out _ Q2.out).1) (by decide))
     ·exact HDK.out w2 w7 Q2.out H7.out.2
     ·exact (Below.step HK.out.2.2.2 Q2.out).grown H7.out.2 (Below.step HK.out.2.2.2 Q2.out).size (fun j hj => by injection hj with hj; omega)
    case measure => simp [intOf]; omega
   ·have hq : nx = nodeD cu c0 := by rw [hstep]; unfold stepL nodeD; rw [if_neg (fun h => hp (hs3.2 h))]
    have QN := hide (show ∀ W, Calls Tryz.prog 45 #[.agg CUR, .agg C] W fun e w' => e = .returned (.agg F) ∧ Below W.heap.size W w' from fun W => by rw [hC, hCUR, hF, hq]; exact tnode_any cu c0 hcl hc32 W)
    have hrem : (s : Int).tmod 2 = 1 := by rw [Int.tmod_eq_emod_of_nonneg (by omega)]; omega
    clear hcur hz1 hown hds hr2 hr2' hcells hs1 hs3 hc0 hcu hnx hstep hC hCUR hF hq
    go_wp2_with fail
    refine region_last_at (S := fun W => Blk W w.heap.size 23 CUR ∧ W.rangeAt b2 (o2 + k * 32) C.toList) 6 rfl rfl (by kernel_rfl) (by kernel_rfl) (by kernel_rfl) (by kernel_rfl) (HS.out _ (Below.refl _ _).drew) (fun hHeld => ?_)
    simp only [List.take_succ_cons, List.take_zero]
    refine wpAnyH_take (i := 0) (v := .agg CUR) rfl (by kernel_rfl) (by kernel_rfl) (by kernel_rfl) (fun _ _ _ h => h) (Or.inl ⟨by rfl, ?_⟩) (by assumption) ?_
    ·(intro W hW; exact ex_loadB 23 (.tmp 6) (by kernel_rfl) w.heap.size (by kernel_rfl) 23 CUR _ hW.1 Tryz.underlying23 rfl (by rw [HC.out.2.1]; kernel_rfl))
    try go_frame
    refine wpAnyH_take (i := 1) (v := ?_) rfl (by kernel_rfl) (by kernel_rfl) (by kernel_rfl) (fun _ _ _ h => h) (Or.inl ⟨by rfl, ?_⟩) (by assumption) ?_
    rotate_left
    ·(intro w9 hSw; go_simp; try with_reducible rfl)
    try go_frame
    refine wpAnyH_take (i := 2) (v := ?_) rfl (by kernel_rfl) (by kernel_rfl) (by kernel_rfl) (fun _ _ _ h => h) (Or.inl ⟨by rfl, ?_⟩) (by assumption) ?_
    rotate_left
    ·(intro w9 hSw; go_simp; try with_reducible rfl)
    try go_frame
    refine wpAnyH_take (i := 3) (v := ?_) rfl (by kernel_rfl) (by kernel_rfl) (by kernel_rfl) (fun _ _ _ h => h) (Or.inl ⟨by rfl, ?_⟩) (by assumption) ?_
    rotate_left
    ·(intro w9 hSw; go_simp; try with_reducible rfl)
    try go_frame
    refine wpAnyH_take (i := 4) (v := .agg C) rfl (by kernel_rfl) (by kernel_rfl) (by kernel_rfl) (fun _ _ _ h => h) (Or.inl ⟨by rfl, ?_⟩) (by assumption) ?_
    ·(intro W hW; exact ex_loadR 23 (.tmp 51) (by kernel_rfl) b2 (o2 + k * 32) rfl C _ hW.2 Tryz.underlying23 rfl (by rw [HC.out.1]; kernel_rfl))
    try go_frame
    refine wpAnyH_ready (rs := [5]) (by kernel_rfl) (by simp) ?_
    refine AllReadyH.cons rfl (fun K hK => ?_) AllReadyH.nil
    go_simp
    refine (QN.out wr.drew).mono ?_
    rintro e w2 ⟨rfl, q2⟩
    have Q2 := hide (Below.step (Below.refl _ wr).drew q2)
    clear q2
    refine hK.out _ _ (HS.out _ Q2.out) (fun hHeld => ?_)
    clear hK K
    try go_frame
    refine wpAnyH_done (by kernel_rfl) ?_ _
    refine Behind.run ?_
    refine wp_store_blk (g := _) (t := 23) (HS.out _ Q2.out).1 F (by rw [HC.out.2.2.1, HC.out.2.1]) HC.out.2.2.2 23 _ _ rfl (by rw [HC.out.2.2.1]; kernel_rfl) rfl rfl ?_
    intro w7 hb7 hg7
    have H7 := hide (And.intro hb7 hg7)
    clear hb7 hg7
    go_wp2
    go_roundw
    case rel =>
     refine ⟨k + 1, by omega, by go_num, by rw [← HF.out]; exact H7.out.1, (HK.out.1.below' Q2.out).grown H7.out.2 (by intro e; injection e with e; omega), ?_, ?_, ?_⟩
     ·exact (own_below' HK.out.2.1 Q2.out).kept H7.out.2 (own_blk_ne (own_below' HK.out.2.1 Q2.out) ((HS.out _ Q2.out).1) (by decide))
     ·exact HDK.out w2 w7 Q2.out H7.out.2
     ·exact (Below.step HK.out.2.2.2 Q2.out).grown H7.out.2 (Below.step HK.out.2.2.2 Q2.out).size (fun j hj => by injection hj with hj; omega)
    case measure => simp [intOf]; omega
  ·have hkm : k = m := by omega
   subst hkm
   obtain ⟨R, hR⟩ : ∃ R, R = (bcells (climbL i d L)).toArray := ⟨_, rfl⟩
   rw [List.take_of_length_le (by have := HX.out.2.2; omega), ← hR] at hcur
   have HR := hide (show R.size = 32 ∧ R.all (·.oneCell') = true ∧ R = (bcells (climbL i d L)).toArray from ⟨by rw [hR, arrSize]; exact climb_len _ _ _ HX.out.2.1, by rw [hR]; exact arrOne _, hR⟩)
   have HK := hide (And.intro hcur (And.intro hz1 hbel))
   clear hcur hz1 hown hds hR
   go_wp2_with (first
    | ((with_reducible change wpList _ _ _ (⟨some 55, _, _, _, _, _⟩ :: _) _ _); refine wpList_load_row (o := ⟨some 55, .load _ _, _, _, _, _⟩) rfl 23 _ rfl w.heap.size rfl 23 R (0, 0) _ HK.out.1 Tryz.underlying23 rfl (by rw [HR.out.1]; kernel_rfl) ?_)
    | ((with_reducible change wpList _ _ _ (⟨none, .store _ (.tmp 8) _, _, _, _, _⟩ :: _) _ _); go_loud (refine wpList_store_row (o := ⟨none, .store _ (.tmp 8) _, _, _, _, _⟩) (HK.out.2.1) (R) (by rw [HR.out.1, HZ.out]) (HR.out.2.1) rfl 23 _ _ rfl (by rw [HR.out.1]; kernel_rfl) rfl rfl ?_; intro w9 hb9 hg9; have H9 := hide (And.intro hb9 hg9); clear hb9 hg9)))
   refine bodyPost_ret (results_row_tmp1 (x := .int .i64 0) rfl _ _ (w.heap.size + 1) 23 R (0, 0) _ rfl H9.out.1 Tryz.underlying23 rfl (by rw [HR.out.1]; kernel_rfl) rfl) rfl ⟨HK.out.2.2.grown H9.out.2 HK.out.2.2.size (fun j hj => by injection hj with hj; omega), by rw [HR.out.2.2]⟩
end Go.Proofs.YtdohebhbiokljaaGreatDoor
namespace Go.Proofs.YtdohebhbiokljaaGreatDoor
open Go.RowKit
def Rd (w : World) (R g : Nat) (l : List UInt8) : Prop := (∃ o c, Blk w R 148 #[.slice (some ⟨g, o, none⟩) l.length c, .bool true, .bool false] ∧ By w (.slice (some ⟨g, o, none⟩) l.length c) l) ∧ g ≠ R ∧ g < w.heap.size
theorem Rd.below {w w' : World} {R g : Nat} {l : List UInt8} (h : Rd w R g l) (hb : Below w.heap.size w w') : Rd w' R g l := by
 obtain ⟨⟨o, c, h1, h2⟩, h3, h4⟩ := h
 exact ⟨⟨o, c, h1.below' hb, h2.below hb⟩, h3, Nat.lt_of_lt_of_le h4 hb.size⟩
theorem Rd.lt {w : World} {R g : Nat} {l : List UInt8} (h : Rd w R g l) : R < w.heap.size := by
 obtain ⟨⟨o, c, h1, _⟩, _⟩ := h
 exact h1.lt
theorem by_kept {w w' : World} {b o n c R : Nat} {l : List UInt8} (h : By w (.slice (some ⟨b, o, none⟩) n c) l) (hg : w.grownBy w' (some R)) (hne : b ≠ R) : By w' (.slice (some ⟨b, o, none⟩) n c) l := by
 obtain ⟨h1, A, c', hv, hn, hc, h2⟩ := h
 refine ⟨h1, A, c', hv, hn, hc, fun h0 => ?_⟩
 obtain ⟨b', o', hA, hlt, hcell⟩ := h2 h0
 injection hv with hA' _ _
 rw [hA] at hA'
 injection hA' with hA'
 injection hA' with hb ho
 subst hb ho
 exact ⟨b, o, hA, Nat.lt_of_lt_of_le hlt hg.size, fun j hj => by rw [← hcell j hj]; exact World.cell?_of_block (hg.block b hlt (by intro e; injection e with e; exact hne e))⟩
theorem clone_any (g o n c : Nat) (l : List UInt8) (w : World) (h : By w (.slice (some ⟨g, o, none⟩) n c) l) (hl : l.length ≤ 1099511627776) :
  Calls Tryz.prog 41 #[.slice (some ⟨g, o, none⟩) n c] w fun e w' => ∃ v, e = .returned v ∧ Own w' w.heap.size 5 v l ∧ Below w.heap.size w w' := by
 obtain ⟨A', c', hv, hlc, hcm, _⟩ := h.form
 injection hv with hA hn hc
 subst hn hc
 have q := Tryz.bytes_Clone_at ⟨g, o, none⟩ l.length c (l.map fun x => (x.toNat : Int)) w (by simp) (by unfold maxLen at hcm; omega) (fun i hi => by
  have ea : (⟨g, o, none⟩ : Addr).add i = ⟨g, o + i, none⟩ := by simp [Addr.add]
  rw [ea]
  exact by_ints h i hi)
 refine q.mono ?_
 rintro e w' ⟨v', he, ho, -, hbl⟩
 have hb3 : Own w' w.heap.size 5 v' l := by
  unfold Own
  have : (l.map fun x => (x.toNat : Int)).map (Value.int .u8) = bcells l := by rw [List.map_map]; rfl
  rw [← this]
  exact ho
 exact ⟨v', he, hb3, hbl⟩
set_option maxRecDepth 100000 in
set_option maxHeartbeats 1000000 in
theorem newReader_any (g o n c : Nat) (l : List UInt8) (w : World) (h : By w (.slice (some ⟨g, o, none⟩) n c) l) (h0 : 0 < l.length) (hl : l.length ≤ 1099511627776) :
  Calls Tryz.prog 70 #[.slice (some ⟨g, o, none⟩) n c] w fun e w' => ∃ R g', e = .returned (.pointer (some ⟨R, 0, none⟩)) ∧ Rd w' R g' l ∧ w.heap.size ≤ R ∧ w.heap.size ≤ g' ∧ Below w.heap.size w w' := by
 have Q := hide (clone_any g o n c l w h hl)
 clear h
 go_enter Tryz.func70, Tryz.ntmps70
 go_wp2_with fail
 refine Q.out.mono ?_
 rintro e w1 ⟨v1, rfl, o1, b1⟩
 obtain ⟨g1, c1, rfl, hg1, hg2⟩ := World.ownsRow.form o1 h0
 have H1 := hide (And.intro o1.by_ b1)
 have hne : g1 ≠ w1.heap.size := by omega
 clear o1 b1 Q
 go_wp2
 go_ret
 refine ⟨w1.heap.size, g1, rfl, ⟨⟨0, c1, Blk.new w1 148 _, H1.out.1.below ((Below.refl _ w1).alloc (Nat.le_refl _) _)⟩, hne, by simp; omega⟩, H1.out.2.size, hg1, H1.out.2.alloc H1.out.2.size _⟩
set_option maxRecDepth 100000 in
set_option maxHeartbeats 1000000 in
theorem take_any (R g n : Nat) (l : List UInt8) (w : World) (h : Rd w R g l) (hn : n ≤ l.length) (hl : l.length ≤ 1099511627776) :
  Calls Tryz.prog 94 #[.pointer (some ⟨R, 0, none⟩), .int .i64 (n : Int)] w fun e w' => ∃ o, e = .returned (.tuple #[.slice (some ⟨g, o, none⟩) n n, .bool true]) ∧ By w' (.slice (some ⟨g, o, none⟩) n n) (l.take n) ∧ Rd w' R g (l.drop n) ∧ w.grownBy w' (some R) := by
 obtain ⟨⟨o, c, hblk, hby⟩, hne, hgl⟩ := h
 have c0 : w.cell? ⟨R, 0, none⟩ = some (.slice (some ⟨g, o, none⟩) l.length c) := by rw [hblk.cell]; rfl
 have c1 : w.cell? ⟨R, 1, none⟩ = some (.bool true) := by rw [hblk.cell]; rfl
 have c2 : w.cell? ⟨R, 2, none⟩ = some (.bool false) := by rw [hblk.cell]; rfl
 obtain ⟨A', c', hv, hlc, hcm, _⟩ := hby.form
 injection hv with hA hn' hc
 subst hc
 have i1 : ¬ (n : Int) < 0 := by omega
 have i2 : ¬ (n : Int) > (l.length : Int) := by omega
 have i3 : (n : Int) ≤ (c : Int) := by omega
 have i4 : (0 : Int) ≤ (n : Int) := by omega
 have i5 : (n : Int) ≤ (l.length : Int) := by omega
 have hf := hblk.frozen 0
 have hld : (l.drop n).length = l.length - n := by simp
 have hst : ∀ v : Value, w.grownBy (w.setCell ⟨R, 0, none⟩ v) (some R) ∧ Blk (w.setCell ⟨R, 0, none⟩ v) R 148 #[v, .bool true, .bool false] := fun v =>
  ⟨store_grown _ _ _ _, by have := hblk.set_ 0 v; simpa using this⟩
 have hk1 : By w (.slice (some ⟨g, o, none⟩) n n) (l.take n) := by
  have := hby.sub 0 n n (by omega) (Nat.le_refl _) (by omega)
  simpa using this
 have hk2 : ∀ o' c', (o' = o + n ∧ c' = c - n) ∨ (o' = o ∧ c = n ∧ c' = 0) → By w (.slice (some ⟨g, o', none⟩) (l.length - n) c') (l.drop n) := fun o' c' hc' => by
  rcases hc' with ⟨rfl, rfl⟩ | ⟨rfl, hcn, rfl⟩
  ·have := hby.sub n (l.length - n) (c - n) (by omega) (by omega) (by omega)
   rwa [List.take_of_length_le (by simp)] at this
  ·have : l.drop n = [] := List.drop_of_length_le (by omega)
   rw [this, show l.length - n = 0 by omega]
   exact ⟨by simp, _, _, rfl, Nat.le_refl _, by unfold maxLen; omega, fun h => by simp at h⟩
 have hR := (Array.getElem?_eq_some_iff.1 (show w.heap[R]? = some _ from hblk)).1
 have HB := hide (And.intro hst (And.intro hk1 (And.intro hk2 (And.intro hld hne))))
 clear hblk hby hA hn' hst hk1 hk2 hld
 go_enter Tryz.func94, Tryz.ntmps94
 go_wp2
 all_goals
  go_ret2
  refine ⟨o, rfl, ?_, ?_, (HB.out.1 _).1⟩
  ·exact by_kept HB.out.2.1 (HB.out.1 _).1 HB.out.2.2.2.2
 ·refine ⟨⟨o, 0, ?_, ?_⟩, HB.out.2.2.2.2, Nat.lt_of_lt_of_le hgl (HB.out.1 _).1.size⟩
  ·rw [HB.out.2.2.2.1]; exact (HB.out.1 _).2
  ·rw [HB.out.2.2.2.1]; exact by_kept (HB.out.2.2.1 o 0 (.inr ⟨rfl, by assumption, rfl⟩)) (HB.out.1 _).1 HB.out.2.2.2.2
 ·refine ⟨⟨o + n, c - n, ?_, ?_⟩, HB.out.2.2.2.2, Nat.lt_of_lt_of_le hgl (HB.out.1 _).1.size⟩
  ·rw [HB.out.2.2.2.1]; exact (HB.out.1 _).2
  ·rw [HB.out.2.2.2.1]; exact by_kept (HB.out.2.2.1 (o + n) (c - n) (.inl ⟨rfl, rfl⟩)) (HB.out.1 _).1 HB.out.2.2.2.2
theorem Rd.grown {w w' : World} {R g X : Nat} {l : List UInt8} (h : Rd w R g l) (hg : w.grownBy w' (some X)) (hne : X ≠ R) (hne2 : X ≠ g) : Rd w' R g l := by
 obtain ⟨⟨o, c, h1, h2⟩, h3, h4⟩ := h
 exact ⟨⟨o, c, h1.grown hg (by intro e; injection e with e; exact hne e.symm), by_kept h2 hg (Ne.symm hne2)⟩, h3, Nat.lt_of_lt_of_le h4 hg.size⟩
set_option maxRecDepth 100000 in
set_option maxHeartbeats 1000000 in
theorem rdigest_any (R gb : Nat) (l : List UInt8) (w : World) (h : Rd w R gb l) (hn : 32 ≤ l.length) (hl : l.length ≤ 1099511627776) :
  Calls Tryz.prog 72 #[.pointer (some ⟨R, 0, none⟩)] w fun e w' => e = .returned (.agg (bcells (l.take 32)).toArray) ∧ Rd w' R gb (l.drop 32) ∧ w.grownBy w' (some R) := by
 have hRlt : R < w.heap.size := h.lt
 have hglt : gb < w.heap.size := h.2.2
 have b0 := (Below.refl w.heap.size w).alloc (Nat.le_refl _) (.cells (bcells (List.replicate 32 0)).toArray 23)
 have n0 := Blk.new w 23 (bcells (List.replicate 32 0)).toArray
 have Q := hide (take_any R gb 32 l _ (h.below b0) hn hl)
 have HB := hide (And.intro b0 (And.intro n0 hRlt))
 clear h b0 n0
 obtain ⟨F, hF, hF1, hF2, hF3⟩ := digC_cells (d := l.take 32) (by rw [List.length_take]; omega)
 have HF := hide (And.intro hF1 (And.intro hF2 hF3))
 rw [← hF]
 clear hF hF1 hF2 hF3
 have hs2a : ∀ (o : Nat) (W : World), (Instr.arrayAt 23 (.slice (some ⟨gb, o, none⟩) 32 32)).run Tryz.prog W = .ok (.pointer (some ⟨gb, o, none⟩)) W := fun o W => s2a_dig gb o 32 W (by omega)
 go_enter Tryz.func72, Tryz.ntmps72
 go_wp2_with fail
 refine Q.out.mono ?_
 rintro e w1 ⟨o, rfl, hy, hrd, hgr⟩
 have hra : w1.rangeAt gb o F.toList := by
  rw [HF.out.2.2]
  intro j v hj
  obtain ⟨A', c', hv, _, _, hca⟩ := hy.form
  injection hv with hA _ _
  have hj32 : j < (l.take 32).length := by
   have := (List.getElem?_eq_some_iff.1 hj).1
   simpa using this
  obtain ⟨b2, o2, hb2, _, hc2⟩ := hca j _ (List.getElem?_eq_getElem hj32)
  rw [← hA] at hb2
  injection hb2 with hb2
  injection hb2 with e1 e2
  subst e1 e2
  rw [hc2, ← hj, bcells_get, List.getElem?_eq_getElem hj32]
  rfl
 obtain ⟨Z, hZ⟩ : ∃ Z : Array Value, Z = (bcells (List.replicate 32 0)).toArray := ⟨_, rfl⟩
 have hblk := HB.out.2.1.grown hgr (by intro e; injection e with e; have := HB.out.2.2; omega)
 rw [← hZ] at hblk
 have hZs : Z.size = 32 := by rw [hZ]; rfl
 have H1 := hide (And.intro hblk (And.intro hZs (And.intro hra (And.intro hrd hgr))))
 clear hblk hZ hZs hra hrd hgr hy Q
 go_wp2_with (first
  | (refine wpList_load_midF (by rfl) 23 _ rfl gb o rfl F _ H1.out.2.2.1 Tryz.underlying23 rfl (by rw [HF.out.1]; kernel_rfl) ?_)
  | ((with_reducible change wpList _ _ _ (⟨none, .store _ (.tmp 2) _, _, _, _, _⟩ :: _) _ _); go_loud (refine wpList_store_row (o := ⟨none, .store _ (.tmp 2) _, _, _, _, _⟩) H1.out.1 F (by rw [HF.out.1, H1.out.2.1]) HF.out.2.1 rfl 23 _ _ rfl (by rw [HF.out.1]; kernel_rfl) rfl rfl ?_; intro w7 hb7 hg7)))
 have hrd7 : Rd w7 R gb (l.drop 32) := H1.out.2.2.2.1.grown hg7 (by omega) (by omega)
 have hgr7 : w.grownBy w7 (some R) := by
  have h1 := H1.out.2.2.2.2
  refine ⟨hg7.os.trans h1.os, hg7.tape.trans h1.tape, hg7.output.trans h1.output, Nat.le_trans (Nat.le_trans (by simp) h1.size) hg7.size, fun b hb hne => ?_⟩
  rw [hg7.block b (Nat.lt_of_lt_of_le (by simp; omega) h1.size) (by intro e; injection e with e; omega), h1.block b (by simp; omega) hne]
  exact Below.heap_alloc w _ b hb
 refine bodyPost_ret (results_cell_row rfl _ _ w.heap.size 23 F (0, 0) _ rfl hb7 Tryz.underlying23 rfl (by rw [HF.out.1]; kernel_rfl)) rfl ⟨rfl, hrd7, hgr7⟩
end Go.Proofs.YtdohebhbiokljaaGreatDoor
namespace Go.Proofs.YtdohebhbiokljaaGreatDoor
open Go.RowKit
theorem ck_snoc : ∀ (k : Nat) (l : List UInt8), ck (k + 1) l = ck k l ++ [(l.drop (32 * k)).take 32]
 | 0, l => by simp [ck]
 | k + 1, l => by
  have ih := ck_snoc k (l.drop 32)
  rw [show ck (k + 1 + 1) l = l.take 32 :: ck (k + 1) (l.drop 32) from rfl, ih, List.drop_drop]
  show _ = (l.take 32 :: ck k (l.drop 32)) ++ _
  rw [show 32 + 32 * k = 32 * (k + 1) by omega]
  rfl
theorem Rd.same {w w' : World} {R g : Nat} {l : List UInt8} (h : Rd w R g l) (hs : w.heap.size ≤ w'.heap.size) (h1 : w'.heap[R]? = w.heap[R]?) (h2 : w'.heap[g]? = w.heap[g]?) : Rd w' R g l := by
 obtain ⟨⟨o, c, hb, hy⟩, h3, h4⟩ := h
 refine ⟨⟨o, c, h1.trans hb, ?_⟩, h3, Nat.lt_of_lt_of_le h4 hs⟩
 obtain ⟨e1, A, c', hv, hn, hc, e2⟩ := hy
 refine ⟨e1, A, c', hv, hn, hc, fun h0 => ?_⟩
 obtain ⟨b', o', hA, hlt, hcell⟩ := e2 h0
 injection hv with hA' _ _
 rw [hA] at hA'
 injection hA' with hA'
 injection hA' with hb ho
 subst hb ho
 exact ⟨g, o, hA, Nat.lt_of_lt_of_le hlt hs, fun j hj => by rw [← hcell j hj]; exact World.cell?_of_block h2⟩
theorem infoDig : (Tryz.prog.info? 23).map (fun i => (i.zero, i.size, i.bytes)) = some (some (.agg (Array.replicate 32 (.int .u8 0))), 32, 32) := by kernel_rfl
theorem fold_zip : ∀ (L : List Value) (k : Nat) (Z : Array Value), k + L.length ≤ Z.size → ∀ i : Nat, (List.foldl (fun (cs : Array Value) (x : Value × Nat) => cs.setIfInBounds x.snd x.fst) Z (L.zipIdx k))[i]? = if k ≤ i ∧ i < k + L.length then L[i - k]? else Z[i]?
 | [], k, Z, _, i => by simp; omega
 | x :: L, k, Z, h, i => by
  simp only [List.length_cons] at h
  rw [List.zipIdx_cons, List.foldl_cons, fold_zip L (k + 1) _ (by simp; omega) i]
  by_cases h1 : k + 1 ≤ i ∧ i < k + 1 + L.length
  ·rw [if_pos h1, if_pos (by simp; omega), show i - k = (i - (k + 1)) + 1 by omega, List.getElem?_cons_succ]
  ·rw [if_neg h1, Array.getElem?_setIfInBounds]
   by_cases h2 : k = i
   ·subst h2
    rw [if_pos rfl, if_pos (by omega), if_pos (by simp), Nat.sub_self]
    rfl
   ·rw [if_neg h2, if_neg (by simp; omega)]
theorem fold_set (Z F : Array Value) (h : Z.size = F.size) : Array.foldl (fun (cs : Array Value) (x : Value × Nat) => cs.setIfInBounds x.snd x.fst) Z F.zipIdx 0 F.size = F := by
 have h1 : Array.foldl (fun (cs : Array Value) (x : Value × Nat) => cs.setIfInBounds x.snd x.fst) Z F.zipIdx 0 F.size = List.foldl (fun (cs : Array Value) (x : Value × Nat) => cs.setIfInBounds x.snd x.fst) Z (F.toList.zipIdx 0) := by
  rw [← Array.toList_zipIdx, Array.foldl_toList]
  congr 1
  simp
 rw [h1]
 apply Array.ext_getElem?
 intro i
 rw [fold_zip _ _ _ (by simp; omega)]
 by_cases hi : i < F.size
 ·rw [if_pos (by simp; omega)]
  simp
 ·rw [if_neg (by simp; omega), Array.getElem?_eq_none (by omega), Array.getElem?_eq_none (by omega)]
set_option maxRecDepth 100000 in
set_option maxHeartbeats 1000000 in
theorem takes_any (V R gb m : Nat) (l : List UInt8) (w : World) (hV : w.cell? ⟨V, 0, none⟩ = some (.pointer (some ⟨R, 0, none⟩))) (hVR : V ≠ R) (h : Rd w R gb l) (hm : m ≤ 4096) (hn : 32 * m ≤ l.length) (hl : l.length ≤ 1099511627776) :
  Calls Tryz.prog 71 #[.int .i64 ((32 * m : Nat) : Int), .pointer (some ⟨V, 0, none⟩)] w fun e w' => ∃ v, e = .returned v ∧ w'.ownsRow w.heap.size 23 32 v m ((ck m l).flatMap bcells) ∧ Rd w' R gb (l.drop (32 * m)) ∧ w.grownBy w' (some R) := by
 have hq1 : ((32 * m : Nat) : Int) / 32 = (m : Int) := by omega
 have hq2 : ((32 * m : Nat) : Int).tdiv 32 = (m : Int) := by rw [Int.tdiv_eq_ediv_of_nonneg (by omega)]; omega
 have hq3 : IntKind.i64.wrap (m : Int) = (m : Int) := IntWalk.i64_in _ (by omega)
 obtain ⟨i0, hi, hz0, hz1, hz2⟩ := info_parts infoDig
 generalize hN : ((32 * m : Nat) : Int) = N at *
 have HI := hide (And.intro hi (And.intro hz0 (And.intro hz1 hz2)))
 have H := hide h
 have HVlt := hide (World.block_lt_of_cell? _ _ hV)
 clear h hi hz0 hz1 hz2 hN
 go_enter Tryz.func71, Tryz.ntmps71
 go_wp2
 go_loopw [4, 7] (fun u4 u7 wr => ∃ k : Nat, k ≤ m ∧ u7 = .int .i64 (k : Int) ∧ wr.ownsRow w.heap.size 23 32 u4 k ((ck k l).flatMap bcells) ∧ Rd wr R gb (l.drop (32 * k)) ∧ w.grownBy wr (some R)) (fun _ u7 _ => m - (intOf u7).toNat)
 case atStart => exact ⟨0, by omega, rfl, World.ownsRow_nil _ _ _ _, by simpa using H.out, ⟨rfl, rfl, rfl, Nat.le_refl _, fun _ _ _ => rfl⟩⟩
 case round =>
  obtain ⟨k, hk, rfl, hown, hrd, hgr⟩ := hrel
  have HR := hide (And.intro hown (And.intro hrd hgr))
  have hVr : wr.cell? ⟨V, 0, none⟩ = some (.pointer (some ⟨R, 0, none⟩)) := (World.cell?_of_block (hgr.block V HVlt.out (by intro e; injection e with e; exact hVR e))).trans hV
  clear hown hrd hgr
  by_cases hlt : k < m
  ·have QD := hide (rdigest_any R gb _ wr HR.out.2.1 (by rw [List.length_drop]; omega) (by rw [List.length_drop]; omega))
   obtain ⟨F, hF, hF1, hF2, hF3⟩ := digC_cells (d := (l.drop (32 * k)).take 32) (by rw [List.length_take, List.length_drop]; omega)
   rw [← hF] at QD
   have HF := hide (And.intro hF1 (And.intro hF2 hF3))
   clear hF hF1 hF2 hF3
   have j1 : (k : Int) < (m : Int) := by omega
   have hFs := HF.out.1
   have hfz := fold_set #[.int .u8 0, .int .u8 0, .int .u8 0, .int .u8 0, .int .u8 0, .int .u8 0, .int .u8 0, .int .u8 0, .int .u8 0, .int .u8 0, .int .u8 0, .int .u8 0, .int .u8 0, .int .u8 0, .int .u8 0, .int .u8 0, .int .u8 0, .int .u8 0, .int .u8 0, .int .u8 0, .int .u8 0, .int .u8 0, .int .u8 0, .int .u8 0, .int .u8 0, .int .u8 0, .int .u8 0, .int .u8 0, .int .u8 0, .int .u8 0, .int .u8 0, .int .u8 0] F (by rw [HF.out.1]; rfl)
   have hfz2 := hfz
   rw [hFs] at hfz2
   go_wp2_with fail
   refine QD.out.mono ?_
   rintro e w2 ⟨rfl, hrd2, hgr2⟩
   have H2 := hide (And.intro hrd2 hgr2)
   clear hrd2 hgr2 QD
   have hRlt := H.out.lt
   have hglt := H.out.2.2
   have hob : ∀ b, u4.ownBlock = some b → w.heap.size ≤ b := fun b hb => (HR.out.1.lt b hb).1
   have hown2 := World.ownsRow.alloc (World.ownsRow.kept HR.out.1 H2.out.2 (by
    rcases hb : u4.ownBlock with _ | b
    ·exact .inl rfl
    ·refine .inr fun e => ?_
     injection e with e
     have := hob b hb
     omega)) (.cells F 23)
   have hsz2 : w.heap.size ≤ w2.heap.size := Nat.le_trans HR.out.2.2.size H2.out.2.size
   have HO2 := hide (And.intro hown2 (And.intro hob (And.intro hRlt (And.intro hglt hsz2))))
   have hnew : ∀ j u, F.toList[j]? = some u → (w2.alloc (.cells F 23)).cell? ((⟨w2.heap.size, 0, none⟩ : Addr).add j) = some u := fun j u hj => by
    rw [Addr.add_mid, Nat.zero_add, (Blk.new w2 23 F).cell j, ← Array.getElem?_toList]; exact hj
   have HNW := hide hnew
   clear hob hown2 hsz2 hRlt hglt hnew
   go_wp2_with (at_builtin; go_loud (refine wpList_append_own_at _ rfl _ _ 26 rfl w.heap.size 23 i0 (.agg (Array.replicate 32 (.int .u8 0))) 32 32 Tryz.underlying26 HI.out.1 HI.out.2.1 HI.out.2.2.1 HI.out.2.2.2 rfl (by decide) _ _ _ rfl HO2.out.1 ⟨w2.heap.size, 0, none⟩ 1 1 F.toList rfl (by simpa using HF.out.1) HNW.out (fun u hu => by have := HF.out.2.1; rw [Array.all_eq_true_iff_forall_mem] at this; exact this u (by simpa using hu)) (by unfold maxLen; omega) (by omega) (by have := HO2.out.2.2.2.2; simp; omega) ?_; intro v3 w3 hown3 hgr3 _ _))
   have hg13 : ∀ b, b < w.heap.size → b ≠ R → w3.heap[b]? = w.heap[b]? := fun b hb hne => by
    have h1 := HR.out.2.2.block b hb (by intro e; injection e with e; exact hne e)
    have h2 := H2.out.2.block b (Nat.lt_of_lt_of_le hb HR.out.2.2.size) (by intro e; injection e with e; exact hne e)
    have h3 := Below.heap_alloc w2 (.cells F 23) b (Nat.lt_of_lt_of_le hb HO2.out.2.2.2.2)
    have h4 := hgr3.block b (by have := HO2.out.2.2.2.2; simp; omega) (fun e => by have := HO2.out.2.1 b e.symm; omega)
    rw [h4, h3, h2, h1]
   have hg23 : ∀ b, b < w.heap.size → w3.heap[b]? = w2.heap[b]? := fun b hb => by
    have h3 := Below.heap_alloc w2 (.cells F 23) b (Nat.lt_of_lt_of_le hb HO2.out.2.2.2.2)
    have h4 := hgr3.block b (by have := HO2.out.2.2.2.2; simp; omega) (fun e => by have := HO2.out.2.1 b e.symm; omega)
    rw [h4, h3]
   have hsz3 : w2.heap.size ≤ w3.heap.size := Nat.le_trans (by simp) hgr3.size
   have hrd3 : Rd w3 R gb (l.drop (32 * (k + 1))) := by
    have := H2.out.1.same hsz3 (hg23 R HO2.out.2.2.1) (hg23 gb HO2.out.2.2.2.1)
    rw [List.drop_drop] at this
    rwa [show 32 * (k + 1) = 32 * k + 32 by omega]
   have hgw : w.grownBy w3 (some R) := ⟨(hgr3.os.trans H2.out.2.os).trans HR.out.2.2.os, (hgr3.tape.trans H2.out.2.tape).trans HR.out.2.2.tape, (hgr3.output.trans H2.out.2.output).trans HR.out.2.2.output, Nat.le_trans HO2.out.2.2.2.2 hsz3, fun b hb hne => hg13 b hb (fun e => hne (by rw [e]))⟩
   have hck : (ck (k + 1) l).flatMap bcells = (ck k l).flatMap bcells ++ F.toList := by rw [ck_snoc, List.flatMap_append, HF.out.2.2]; simp
   have HE := hide (And.intro (show w3.ownsRow w.heap.size 23 32 v3 (k + 1) ((ck (k + 1) l).flatMap bcells) by rw [hck]; exact hown3) (And.intro hrd3 hgw))
   clear hown3 hgr3 hg13 hg23 hsz3 hrd3 hgw hck
   go_roundw
   case rel => exact ⟨k + 1, by omega, by go_num, HE.out.1, HE.out.2.1, HE.out.2.2⟩
   case measure => simp [intOf]; omega
  ·have hkm : k = m := by omega
   subst hkm
   go_wp2
   go_ret
   exact ⟨_, rfl, HR.out.1, HR.out.2.1, HR.out.2.2⟩
end Go.Proofs.YtdohebhbiokljaaGreatDoor
namespace Go.Proofs.YtdohebhbiokljaaGreatDoor
open Go.RowKit
def mk4 : Array Value := #[.int .u8 82, .int .u8 79, .int .u8 79, .int .u8 77]
structure MkR (B : Nat) (W W' : World) : Prop where
 os : W'.os = W.os
 tape : W'.tape = W.tape
 output : W'.output = W.output
 size : W.heap.size ≤ W'.heap.size
 blk : ∀ b, b < W.heap.size → W'.heap[b]? = W.heap[b]? ∨ (B ≤ b ∧ ∃ f f', W.heap[b]? = some (.cells mk4 5 f) ∧ W'.heap[b]? = some (.cells mk4 5 f'))
theorem MkR.refl (B : Nat) (W : World) : MkR B W W := ⟨rfl, rfl, rfl, Nat.le_refl _, fun _ _ => .inl rfl⟩
theorem MkR.trans {B : Nat} {a b c : World} (h : MkR B a b) (k : MkR B b c) : MkR B a c := by
 refine ⟨k.os.trans h.os, k.tape.trans h.tape, k.output.trans h.output, Nat.le_trans h.size k.size, fun i hi => ?_⟩
 rcases h.blk i hi with h1 | ⟨hB, f, f', h1, h2⟩ <;> rcases k.blk i (Nat.lt_of_lt_of_le hi h.size) with k1 | ⟨kB, g, g', k1, k2⟩
 ·exact .inl (k1.trans h1)
 ·exact .inr ⟨kB, g, g', h1 ▸ k1, k2⟩
 ·exact .inr ⟨hB, f, f', h1, k1.trans h2⟩
 ·exact .inr ⟨hB, f, g', h1, k2⟩
theorem MkR.of {B : Nat} {W W' : World} (h : Below W.heap.size W W') : MkR B W W' := ⟨h.os, h.tape, h.output, h.size, fun b hb => .inl (h.block b hb)⟩
theorem MkR.below {B : Nat} {W W' : World} (h : MkR B W W') (hB : B ≤ W.heap.size) : Below B W W' := ⟨h.os, h.tape, h.output, h.size, fun b hb => (h.blk b (by omega)).resolve_right fun ⟨k, _⟩ => by omega⟩
theorem MkR.cell {B : Nat} {W W' : World} (h : MkR B W W') {p : Addr} {v : Value} (hp : W.cell? p = some v) : W'.cell? p = some v := by
 have hlt := World.block_lt_of_cell? _ _ hp
 rcases h.blk p.block hlt with h1 | ⟨_, f, f', h1, h2⟩
 ·exact (World.cell?_of_block h1).trans hp
 ·unfold World.cell? at hp ⊢
  rw [h1] at hp
  rw [h2]
  exact hp
theorem MkR.sl {B : Nat} {W W' : World} (h : MkR B W W') {sz n : Nat} {v : Value} {xs : List Value} (hs : Sl W sz v n xs) : Sl W' sz v n xs := by
 obtain ⟨h1, A, c, hv, hn, hc, h2⟩ := hs
 refine ⟨h1, A, c, hv, hn, hc, fun h0 => ?_⟩
 obtain ⟨b, o, hA, hlt, hcell⟩ := h2 h0
 refine ⟨b, o, hA, Nat.lt_of_lt_of_le hlt h.size, fun j hj => ?_⟩
 have hj2 : j < xs.length := by omega
 have := hcell j hj
 rw [List.getElem?_eq_getElem hj2] at this ⊢
 exact h.cell this
theorem MkR.by_ {B : Nat} {W W' : World} (h : MkR B W W') {v : Value} {l : List UInt8} (hs : By W v l) : By W' v l := h.sl hs
theorem MkR.lsts {B : Nat} {W W' : World} (h : MkR B W W') {v : Value} {L : List (Value × List UInt8)} (hs : Lsts W v L) : Lsts W' v L := ⟨h.sl hs.1, fun x hx => h.by_ (hs.2 x hx)⟩
theorem MkR.own {B : Nat} {W W' : World} (h : MkR B W W') {base : Nat} {e : TypeId} {v : Value} {l : List UInt8} (hs : Own W base e v l) (hl : 4 < l.length) : Own W' base e v l := by
 obtain ⟨h1, h2 | ⟨g, cap, cur, hv, hg, hh, hnc, hcm, hcs, ht⟩⟩ := hs
 ·omega
 ·refine ⟨h1, .inr ⟨g, cap, cur, hv, hg, ?_, hnc, hcm, hcs, ht⟩⟩
  have hlt : g < W.heap.size := (Array.getElem?_eq_some_iff.1 hh).1
  rcases h.blk g hlt with h3 | ⟨_, f, f', h3, _⟩
  ·exact h3.trans hh
  ·rw [hh] at h3
   injection h3 with h3
   injection h3 with h3
   rw [h3] at hcs
   simp [mk4] at hcs
   omega
def Mk (B : Nat) (W : World) (v : Value) : Prop := ∃ g f, v = .slice (some ⟨g, 0, none⟩) 4 4 ∧ B ≤ g ∧ W.heap[g]? = some (.cells mk4 5 f)
theorem MkR.four {B : Nat} {W W' : World} (h : MkR B W W') {v : Value} (hs : Mk B W v) : Mk B W' v := by
 obtain ⟨g, f, hv, hg, hh⟩ := hs
 have hlt : g < W.heap.size := (Array.getElem?_eq_some_iff.1 hh).1
 rcases h.blk g hlt with h3 | ⟨_, f1, f2, _, h4⟩
 ·exact ⟨g, f, hv, hg, h3.trans hh⟩
 ·exact ⟨g, f2, hv, hg, h4⟩
theorem Mk.by_ {B : Nat} {W : World} {v : Value} (h : Mk B W v) : By W v mark4 := by
 obtain ⟨g, f, rfl, _, hh⟩ := h
 exact by_mid (l := mark4) (o := 0) rfl hh (fun j hj => by
  have : j = 0 ∨ j = 1 ∨ j = 2 ∨ j = 3 := by simp [mark4] at hj; omega
  rcases this with rfl | rfl | rfl | rfl <;> rfl) (by simp [mark4])
theorem Mk.new {B : Nat} {W : World} (h : B ≤ W.heap.size) : Mk B (W.alloc (.cells mk4 5)) (.slice (some ⟨W.heap.size, 0, none⟩) 4 4) :=
 ⟨_, (0, 0), rfl, h, Blk.new W 5 mk4⟩
theorem Mk.conv {B : Nat} {W : World} {v : Value} (h : Mk B W v) : ∃ W', (convert 34 34 v).run Tryz.prog W = .ok v W' ∧ MkR B W W' := by
 obtain ⟨g, f, rfl, hg, hh⟩ := h
 have hlt : g < W.heap.size := (Array.getElem?_eq_some_iff.1 hh).1
 have hsh : W.shape? g = some (5, 4) := by unfold World.shape?; rw [hh]; rfl
 refine ⟨W.freeze ⟨g, 4, none⟩ 1, ?_, ?_⟩
 ·simp [convert, run_underlying Tryz.underlying34, run_underlying Tryz.underlying5, markStringish, hsh]
 ·refine ⟨rfl, rfl, rfl, by simp [World.freeze], fun b hb => ?_⟩
  by_cases hbg : b = g
  ·subst hbg
   refine .inr ⟨hg, f, ?_⟩
   obtain ⟨lo, hi⟩ := f
   refine ⟨(if lo == hi then (4, 5) else (min lo 4, max hi 5)), hh, ?_⟩
   unfold World.freeze
   rw [if_neg (by decide)]
   simp only [Array.getElem?_modify, if_pos, hh, Option.map_some]
  ·refine .inl ?_
   unfold World.freeze
   rw [if_neg (by decide)]
   simp only [Array.getElem?_modify]
   rw [if_neg (by exact Ne.symm hbg)]
section
variable {P : Program} {ops : Array Oper} {Q : Exit → Act → World → Prop}
theorem fop_conv {K : Act → World → Prop} {i : Nat} {a : Act} {w w' : World} {d s : Tmp} {st dt t : TypeId} {p : String} {af : Array Edge} {u v : Value} (hi : ops[i]? = some ⟨some d, .convert st dt (.tmp s), t, p, af, none⟩) (hs : a.tmps[s]? = some u) (hr : (convert st dt u).run P w = .ok v w') (h : K (a.put (some d) v) w') : wpOp P ops Q i K a w :=
 op_value hi rfl (by simp [execOp, eval_tmp hs, hr, Result.andThen]) h
theorem fop_move {K : Act → World → Prop} {i : Nat} {a : Act} {w : World} {d s : Tmp} {t : TypeId} {p : String} {af : Array Edge} {v : Value} (hi : ops[i]? = some ⟨some d, .move (.tmp s), t, p, af, none⟩) (hs : a.tmps[s]? = some v) (h : K (a.put (some d) v) w) : wpOp P ops Q i K a w := op_move hi (eval_tmp hs) h
theorem fop_load {K : Act → World → Prop} {i : Nat} {a : Act} {w : World} {d s : Tmp} {ty t : TypeId} {p : String} {af : Array Edge} {u v : Value} (hi : ops[i]? = some ⟨some d, .load ty (.tmp s), t, p, af, none⟩) (hs : a.tmps[s]? = some u) (hr : (Instr.loadAt ty u).run P w = .ok v w) (h : K (a.put (some d) v) w) : wpOp P ops Q i K a w :=
 op_value hi rfl (by simp [execOp, eval_tmp hs, hr, Result.andThen]) h
theorem fop_field {K : Act → World → Prop} {i : Nat} {a : Act} {w : World} {d s : Tmp} {ty t : TypeId} {f : Nat} {p : String} {af : Array Edge} {u v : Value} (hi : ops[i]? = some ⟨some d, .fieldAddr ty (.tmp s) f, t, p, af, none⟩) (hs : a.tmps[s]? = some u) (hr : (Instr.fieldAt ty u f).run P w = .ok v w) (h : K (a.put (some d) v) w) : wpOp P ops Q i K a w :=
 op_value hi rfl (by simp [execOp, eval_tmp hs, hr, Result.andThen]) h
theorem fop_assign {K : Act → World → Prop} {i : Nat} {a : Act} {w : World} {d s : Tmp} {t : TypeId} {p : String} {af : Array Edge} {v : Value} (hi : ops[i]? = some ⟨some d, .assign (.tmp s), t, p, af, none⟩) (hs : a.tmps[s]? = some v) (h : K (a.put (some d) v) w) : wpOp P ops Q i K a w :=
 op_value hi rfl (by simp [execOp, eval_tmp hs]) h
theorem fop_assignc {K : Act → World → Prop} {i : Nat} {a : Act} {w : World} {d : Tmp} {t : TypeId} {p : String} {af : Array Edge} {v : Value} (hi : ops[i]? = some ⟨some d, .assign (.const v), t, p, af, none⟩) (h : K (a.put (some d) v) w) : wpOp P ops Q i K a w :=
 op_value hi rfl (by simp [execOp, Act.eval]) h
theorem fop_four {K : Act → World → Prop} {i : Nat} {a : Act} {w w' : World} {d : Tmp} {ty t : TypeId} {p : String} {af : Array Edge} {u0 u1 u2 u3 v : Value} (hi : ops[i]? = some ⟨some d, .buildSlice ty 4 #[(0, .const u0), (1, .const u1), (2, .const u2), (3, .const u3)], t, p, af, none⟩)
  (hr : (Instr.buildSlice ty 4 #[(0, u0), (1, u1), (2, u2), (3, u3)]).run P w = .ok v w') (h : K (a.put (some d) v) w') : wpOp P ops Q i K a w :=
 op_value hi rfl (by simp [execOp, Act.eval, hr, Result.andThen]) h
theorem fop_six {K : Act → World → Prop} {i : Nat} {a : Act} {w w' : World} {d s0 s1 s2 s3 s4 s5 : Tmp} {ty t : TypeId} {p : String} {af : Array Edge} {u0 u1 u2 u3 u4 u5 v : Value} (hi : ops[i]? = some ⟨some d, .buildSlice ty 6 #[(0, .tmp s0), (1, .tmp s1), (2, .tmp s2), (3, .tmp s3), (4, .tmp s4), (5, .tmp s5)], t, p, af, none⟩)
  (h0 : a.tmps[s0]? = some u0) (h1 : a.tmps[s1]? = some u1) (h2 : a.tmps[s2]? = some u2) (h3 : a.tmps[s3]? = some u3) (h4 : a.tmps[s4]? = some u4) (h5 : a.tmps[s5]? = some u5) (hr : (Instr.buildSlice ty 6 #[(0, u0), (1, u1), (2, u2), (3, u3), (4, u4), (5, u5)]).run P w = .ok v w') (h : K (a.put (some d) v) w') : wpOp P ops Q i K a w :=
 op_value hi rfl (by simp [execOp, eval_tmp h0, eval_tmp h1, eval_tmp h2, eval_tmp h3, eval_tmp h4, eval_tmp h5, hr, Result.andThen]) h
end
theorem four_new (W : World) : (Instr.buildSlice 34 4 #[(0, .int .u8 82), (1, .int .u8 79), (2, .int .u8 79), (3, .int .u8 77)]).run Tryz.prog W = .ok (.slice (some ⟨W.heap.size, 0, none⟩) 4 4) (W.alloc (.cells mk4 5)) := by kernel_rfl
theorem six_new (A0 A1 A2 A3 A4 A5 : Option Addr) (n0 n1 n2 n3 n4 n5 c0 c1 c2 c3 c4 c5 : Nat) (W : World) : (Instr.buildSlice 29 6 #[(0, .slice A0 n0 c0), (1, .slice A1 n1 c1), (2, .slice A2 n2 c2), (3, .slice A3 n3 c3), (4, .slice A4 n4 c4), (5, .slice A5 n5 c5)]).run Tryz.prog W =
  .ok (.slice (some ⟨W.heap.size, 0, none⟩) 6 6) (W.alloc (.cells #[.slice A0 n0 c0, .slice A1 n1 c1, .slice A2 n2 c2, .slice A3 n3 c3, .slice A4 n4 c4, .slice A5 n5 c5] 34)) := by kernel_rfl
theorem fld2 (g : Nat) (W : World) : (Instr.fieldAt 28 (.pointer (some ⟨g, 0, none⟩)) 2).run Tryz.prog W = .ok (.pointer (some ⟨g, 69, none⟩)) W := by kernel_rfl
theorem fld3 (g : Nat) (W : World) : (Instr.fieldAt 28 (.pointer (some ⟨g, 0, none⟩)) 3).run Tryz.prog W = .ok (.pointer (some ⟨g, 70, none⟩)) W := by kernel_rfl
theorem fld4 (g : Nat) (W : World) : (Instr.fieldAt 28 (.pointer (some ⟨g, 0, none⟩)) 4).run Tryz.prog W = .ok (.pointer (some ⟨g, 71, none⟩)) W := by kernel_rfl
theorem load_dsl {W : World} {g o : Nat} {A : Option Addr} {n c : Nat} (h : W.cell? ⟨g, o, none⟩ = some (.slice A n c)) : (Instr.loadAt 26 (.pointer (some ⟨g, o, none⟩))).run Tryz.prog W = .ok (.slice A n c) W := by
 go_simp
end Go.Proofs.YtdohebhbiokljaaGreatDoor
namespace Go.Proofs.YtdohebhbiokljaaGreatDoor
open Go.RowKit
def tailU (u : US) : Nat := u.size.toNat - (SG u - 1) * u.seg.toNat
def shU (u : US) : Array Value := #[.int .i64 ((u.k.toNat : Nat) : Int), .int .i64 ((u.n.toNat : Nat) : Int), .int .i64 ((u.seg.toNat : Nat) : Int), .int .i64 ((u.size.toNat : Nat) : Int), .int .i64 ((SG u : Nat) : Int), .int .i64 ((tailU u : Nat) : Int), .int .i64 ((BL u : Nat) : Int), .int .i64 ((LS u : Nat) : Int)]
theorem writeU_len2 {u : US} (hw : u.wf) (ha : u.may) : (writeU u).length ≤ 400 := by
 obtain ⟨h1, h2, h3, h4⟩ := US.may_in64 ha
 exact uebLen_le u.k u.n u.seg u.size u.sh u.sg h1 h2 h3 h4 hw.1 hw.2
set_option maxRecDepth 100000 in
set_option maxHeartbeats 1000000 in
theorem shapeOf_ok (u : US) (ha : u.may) (w : World) :
  Calls Tryz.prog 37 #[.agg u.cells] w fun e w' => Below w.heap.size w w' ∧ e = .returned (.tuple #[.agg (shU u), .int .i64 0]) := by
 obtain ⟨i1, i2, i3, i4⟩ := US.may_in64 ha
 have Q : Hid (∀ w, Calls Tryz.prog 64 #[.int .i64 u.k, .int .i64 u.n, .int .i64 u.seg, .int .i64 u.size] w fun e w' => Below w.heap.size w w' ∧ e = .returned (.tuple #[.agg (shU u), .int .i64 0])) := fun w => by
  have q := again_any u.k u.n u.seg u.size w i1 i2 i3 i4
  rw [if_pos (show agOK _ _ _ _ from ha)] at q
  exact q
 have f0 : u.cells[0]? = some (.int .i64 u.k) := rfl
 have f1 : u.cells[1]? = some (.int .i64 u.n) := rfl
 have f2 : u.cells[2]? = some (.int .i64 u.seg) := rfl
 have f3 : u.cells[3]? = some (.int .i64 u.size) := rfl
 obtain ⟨F, hF, hF1, hF2⟩ : ∃ F, F = shU u ∧ F.size = 8 ∧ F.all (·.oneCell') = true := ⟨_, rfl, rfl, by simp [shU, Value.oneCell']⟩
 rw [← hF] at Q ⊢
 have HF := hide (And.intro hF1 hF2)
 have b1 := (Below.refl w.heap.size w).alloc (Nat.le_refl _) (.cells u.cells 25)
 have b2 := b1.alloc (by simp) (.cells #[.int .i64 0, .int .i64 0, .int .i64 0, .int .i64 0, .int .i64 0, .int .i64 0, .int .i64 0, .int .i64 0] 54)
 have n2 := Blk.new (w.alloc (.cells u.cells 25)) 54 #[.int .i64 0, .int .i64 0, .int .i64 0, .int .i64 0, .int .i64 0, .int .i64 0, .int .i64 0, .int .i64 0]
 simp only [World.size_alloc] at n2
 have HB := hide (And.intro b2 n2)
 clear i1 i2 i3 i4 hF hF1 hF2 b1 b2 n2 ha
 generalize u.k = k at *
 generalize u.n = n at *
 generalize u.seg = s at *
 generalize u.size = z at *
 generalize u.cells = cs at *
 go_enter Tryz.func37, Tryz.ntmps37
 go_wp2_with fail
 refine (Q.out _).mono ?_
 rintro e w1 ⟨b1, rfl⟩
 have hblk := HB.out.2.below' b1
 have H1 := hide (HB.out.1.trans (b1.mono HB.out.1.size))
 clear b1 Q
 go_wp2_with ((with_reducible change wpList _ _ _ (⟨none, .store _ (.tmp 2) _, _, _, _, _⟩ :: _) _ _); go_loud (refine wpList_store_row (o := ⟨none, .store _ (.tmp 2) _, _, _, _, _⟩) hblk F (by rw [HF.out.1]; rfl) HF.out.2 rfl 54 _ _ rfl (by rw [HF.out.1]; kernel_rfl) rfl rfl ?_; intro w7 hb7 hg7))
 exact bodyPost_ret (results_row_tmp rfl _ _ (w.heap.size + 1) 54 F (0, 0) _ rfl hb7 Tryz.underlying54 rfl (by rw [HF.out.1]; kernel_rfl)) rfl ⟨H1.out.grown hg7 H1.out.size fun k hk => (by injection hk with hk; omega), rfl⟩
def frC (num : Int) (u : US) (a b c : Value) : Array Value := (.int .i64 num :: (u.cells.toList ++ [a, b, c])).toArray
theorem frC_size {num : Int} {u : US} {a b c : Value} (hu : u.wf) : (frC num u a b c).size = 72 := by
 have := US.size_ hu
 simp [frC]
 omega
theorem frC_get {num : Int} {u : US} {a b c : Value} (hu : u.wf) : (frC num u a b c)[0]? = some (.int .i64 num) ∧ (∀ j, j < 68 → (frC num u a b c)[1 + j]? = u.cells[j]?) ∧
  (frC num u a b c)[69]? = some a ∧ (frC num u a b c)[70]? = some b ∧ (frC num u a b c)[71]? = some c := by
 have hs : u.cells.toList.length = 68 := by simpa using US.size_ hu
 unfold frC
 refine ⟨rfl, fun j hj => ?_, ?_, ?_, ?_⟩
 ·rw [List.getElem?_toArray, Nat.add_comm, List.getElem?_cons_succ, List.getElem?_append_left (by omega), Array.getElem?_toList]
 all_goals
  rw [List.getElem?_toArray, List.getElem?_cons_succ, List.getElem?_append_right (by omega), hs]
  rfl
theorem Blk.front {w : World} {g : Nat} {t : TypeId} {num : Int} {u : US} {a b c : Value} (hu : u.wf) (h : Blk w g t (frC num u a b c)) :
  w.cell? ⟨g, 0, none⟩ = some (.int .i64 num) ∧ w.rangeAt g 1 u.cells.toList ∧ w.cell? ⟨g, 69, none⟩ = some a ∧ w.cell? ⟨g, 70, none⟩ = some b ∧ w.cell? ⟨g, 71, none⟩ = some c := by
 obtain ⟨h0, h1, h2, h3, h4⟩ := frC_get (num := num) (a := a) (b := b) (c := c) hu
 refine ⟨by rw [h.cell, h0], fun j v hj => ?_, by rw [h.cell, h2], by rw [h.cell, h3], by rw [h.cell, h4]⟩
 have hj68 : j < 68 := by
  have := (List.getElem?_eq_some_iff.1 hj).1
  have hs := US.size_ hu
  simp at this
  omega
 rw [h.cell, h1 j hj68, ← Array.getElem?_toList, hj]
def plA (u : US) (L : Nat) : Array Value := #[.int .i64 ((pl u L 0 : Nat) : Int), .int .i64 ((pl u L 1 : Nat) : Int), .int .i64 ((pl u L 2 : Nat) : Int), .int .i64 ((pl u L 3 : Nat) : Int), .int .i64 ((pl u L 4 : Nat) : Int), .int .i64 ((pl u L 5 : Nat) : Int)]
theorem lay_u (u : US) (L : Nat) (hm : u.may) (hL : L ≤ 1048576) (w : World) : Calls Tryz.prog 62 #[.agg (shU u), .int .i64 (L : Int)] w fun e w' => Below w.heap.size w w' ∧ e = .returned (.agg (plA u L)) := by
 have hbd := u_bounds hm
 have q := lay_any ((u.k.toNat : Nat) : Int) ((u.seg.toNat : Nat) : Int) ((u.size.toNat : Nat) : Int) ((tailU u : Nat) : Int) u.n.toNat (SG u) (BL u) (LS u) L w (by omega) (by omega) (by omega) (by omega) hL
 refine q.mono ?_
 rintro e w' ⟨hb, rfl⟩
 refine ⟨hb, ?_⟩
 have hw := wid_pos (SG u)
 have hT : (2 * (wid (SG u) : Int) - 1) = ((TU u : Nat) : Int) := by unfold TU; omega
 have hC : (chainLen u.n.toNat : Int) = ((CU u : Nat) : Int) := rfl
 have hS : (((SG u : Nat) : Int) - 1) * (BL u : Int) = (((SG u - 1) * BL u : Nat) : Int) := by
  rw [Int.natCast_mul]
  congr 1
  omega
 rw [hT, hC, hS]
 unfold plA
 simp only [pl, Int.natCast_add, Int.natCast_mul]
 rfl
theorem idxp0 (a b c d e f : Value) (w : World) : Sem.run Tryz.prog (Instr.index 76 (.agg #[a, b, c, d, e, f]) (.int .i64 0)) w = .ok a w := by
 kernel_rfl
theorem idxp1 (a b c d e f : Value) (w : World) : Sem.run Tryz.prog (Instr.index 76 (.agg #[a, b, c, d, e, f]) (.int .i64 1)) w = .ok b w := by
 kernel_rfl
theorem idxp2 (a b c d e f : Value) (w : World) : Sem.run Tryz.prog (Instr.index 76 (.agg #[a, b, c, d, e, f]) (.int .i64 2)) w = .ok c w := by
 kernel_rfl
theorem idxp3 (a b c d e f : Value) (w : World) : Sem.run Tryz.prog (Instr.index 76 (.agg #[a, b, c, d, e, f]) (.int .i64 3)) w = .ok d w := by
 kernel_rfl
theorem idxp4 (a b c d e f : Value) (w : World) : Sem.run Tryz.prog (Instr.index 76 (.agg #[a, b, c, d, e, f]) (.int .i64 4)) w = .ok e w := by
 kernel_rfl
theorem idxp5 (a b c d e f : Value) (w : World) : Sem.run Tryz.prog (Instr.index 76 (.agg #[a, b, c, d, e, f]) (.int .i64 5)) w = .ok f w := by
 kernel_rfl
theorem idx_pl (u : US) (L k : Nat) (hk : k < 6) (w : World) : Sem.run Tryz.prog (Instr.index 76 (.agg (plA u L)) (.int .i64 (k : Int))) w = .ok (.int .i64 ((pl u L k : Nat) : Int)) w := by
 have : k = 0 ∨ k = 1 ∨ k = 2 ∨ k = 3 ∨ k = 4 ∨ k = 5 := by omega
 unfold plA
 rcases this with rfl | rfl | rfl | rfl | rfl | rfl
 ·exact idxp0 _ _ _ _ _ _ w
 ·exact idxp1 _ _ _ _ _ _ w
 ·exact idxp2 _ _ _ _ _ _ w
 ·exact idxp3 _ _ _ _ _ _ w
 ·exact idxp4 _ _ _ _ _ _ w
 ·exact idxp5 _ _ _ _ _ _ w
def S14 (B g : Nat) (wd tx ch bs sg pk : List UInt8) (vw vt va vb vc : Value) (i : Nat) (W : World) (v : Value) : Prop :=
 match i with
 | 0 => Mk B W v
 | 1 => Mk B W v
 | 2 => v = vw
 | 3 => v = vt
 | 4 => v = .pointer (some ⟨g, 69, none⟩)
 | 5 => v = va
 | 6 => ∃ A c, v = .slice A ch.length c ∧ By W v ch
 | 7 => v = .pointer (some ⟨g, 70, none⟩)
 | 8 => v = vb
 | 9 => ∃ A c, v = .slice A bs.length c ∧ By W v bs
 | 10 => v = .pointer (some ⟨g, 71, none⟩)
 | 11 => v = vc
 | 12 => ∃ A c, v = .slice A sg.length c ∧ By W v sg
 | 13 => ∃ h L, v = .slice (some ⟨h, 0, none⟩) 6 6 ∧ Lsts W v L ∧ cat L = pk
 | 14 => ∃ A c, v = .slice A pk.length c ∧ Own W B 5 v pk
 | 15 => ∃ A c, v = .slice A pk.length c ∧ Own W B 5 v pk
 | 16 => v = .int .i64 0
 | _ => True
theorem S14.st {B g : Nat} {wd tx ch bs sg pk : List UInt8} {vw vt va vb vc : Value} (hp : 4 < pk.length) {i : Nat} {W W' : World} {v : Value} (h : S14 B g wd tx ch bs sg pk vw vt va vb vc i W v) (hR : MkR B W W') : S14 B g wd tx ch bs sg pk vw vt va vb vc i W' v := by
 unfold S14 at h ⊢
 split
 ·exact hR.four h
 ·exact hR.four h
 ·exact h
 ·exact h
 ·exact h
 ·exact h
 ·obtain ⟨A, c, h1, h2⟩ := h
  exact ⟨A, c, h1, hR.by_ h2⟩
 ·exact h
 ·exact h
 ·obtain ⟨A, c, h1, h2⟩ := h
  exact ⟨A, c, h1, hR.by_ h2⟩
 ·exact h
 ·exact h
 ·obtain ⟨A, c, h1, h2⟩ := h
  exact ⟨A, c, h1, hR.by_ h2⟩
 ·obtain ⟨h, L, h1, h2, h3⟩ := h
  exact ⟨h, L, h1, hR.lsts h2, h3⟩
 ·obtain ⟨A, c, h1, h2⟩ := h
  exact ⟨A, c, h1, hR.own h2 hp⟩
 ·obtain ⟨A, c, h1, h2⟩ := h
  exact ⟨A, c, h1, hR.own h2 hp⟩
 ·exact h
 ·trivial
def d14 (i : Nat) : Nat := if i < 15 then 82 + i else i - 13
def dp14 : Nat → List Nat
 | 1 => [0] | 5 => [4] | 6 => [5] | 8 => [7] | 9 => [8] | 11 => [10] | 12 => [11] | 13 => [1, 2, 3, 6, 9, 12] | 14 => [13] | 15 => [14] | _ => []
set_option maxRecDepth 100000 in
theorem op_digs {ops : Array Oper} {Q : Exit → Act → World → Prop} {K : Act → World → Prop} {i : Nat} {a : Act} {w : World} {d x : Tmp} {t at_ : TypeId} {p : String} {af : Array Edge} {u : Value} {R : Ending → World → Prop} (hi : ops[i]? = some ⟨some d, .call { callee := .value (.func 63), args := #[.tmp x], argTypes := #[at_] }, t, p, af, none⟩)
  (hx : a.tmps[x]? = some u) (hq : Calls Tryz.prog 63 #[u] w R) (h : ∀ e w', R e w' → ∃ v, e = .returned v ∧ K (a.put (some d) v) w') : wpOp Tryz.prog ops Q i K a w := by
 unfold wpOp
 simp only [hi]
 rw [if_pos (by simp [Region.wanted])]
 refine .inl ?_
 unfold Oper.wp
 go_simp
 refine hq.mono ?_
 intro e w2 he
 obtain ⟨v, rfl, hk⟩ := h e w2 he
 exact hk
set_option maxRecDepth 100000 in
theorem op_joins {ops : Array Oper} {Q : Exit → Act → World → Prop} {K : Act → World → Prop} {i : Nat} {a : Act} {w : World} {d x : Tmp} {t at_ : TypeId} {p : String} {af : Array Edge} {u : Value} {R : Ending → World → Prop} (hi : ops[i]? = some ⟨some d, .call { callee := .value (.func 39), args := #[.tmp x], argTypes := #[at_] }, t, p, af, none⟩)
  (hx : a.tmps[x]? = some u) (hq : Calls Tryz.prog 39 #[u] w R) (h : ∀ e w', R e w' → ∃ v, e = .returned v ∧ K (a.put (some d) v) w') : wpOp Tryz.prog ops Q i K a w := by
 unfold wpOp
 simp only [hi]
 rw [if_pos (by simp [Region.wanted])]
 refine .inl ?_
 unfold Oper.wp
 go_simp
 refine hq.mono ?_
 intro e w2 he
 obtain ⟨v, rfl, hk⟩ := h e w2 he
 exact hk
theorem fin_act {v : Nat → Value} {X Y : Value} {a0 : Act} {F : Act → World → Prop} {W : World} (e2 : ∀ a0 : Act, a0.tmps.size = 97 → (puts d14 v a0 17).tmps.getD 2 undef = X) (e3 : ∀ a0 : Act, a0.tmps.size = 97 → (puts d14 v a0 17).tmps.getD 3 undef = Y)
  (h : ∀ aa : Act, aa.tmps.getD 2 undef = X → aa.tmps.getD 3 undef = Y → aa.defers = [] → F aa W) (h0 : a0.tmps.size = 97) (hd : a0.defers = []) : F (puts d14 v a0 17) W :=
 h _ (e2 a0 h0) (e3 a0 h0) ((puts_defers _ _ _ _).trans hd)
theorem d14_ne {t : Nat} (h : t < 82) (h2 : t ≠ 2) (h3 : t ≠ 3) : ∀ i, i < 17 → d14 i ≠ t := by
 intro i hi
 unfold d14
 split <;> omega
def wordsL (u : US) (L num k : Nat) : List UInt8 := bw4 1 ++ (bw4 num ++ (List.range k).flatMap fun i => bw4 (pl u L i))
theorem wordsL_succ (u : US) (L num k : Nat) : wordsL u L num (k + 1) = wordsL u L num k ++ bw4 (pl u L k) := by simp [wordsL, List.range_succ]
theorem wordsL_length (u : US) (L num k : Nat) : (wordsL u L num k).length = 8 + 4 * k := by
 induction k with
 | zero => simp [wordsL, bw4]
 | succ k ih => rw [wordsL_succ, List.length_append, ih]; simp [bw4]; omega
theorem wordsL_all (u : US) (L num : Nat) : mark4 ++ wordsL u L num 6 = hdF num u L := by simp [wordsL, hdF, List.range_succ]
set_option maxRecDepth 100000 in
set_option maxHeartbeats 4000000 in
theorem packFront_ok (f : FS) (va vb vc : Value) (w : World) (hw : f.wf) (ho : okF f) (ha : Ds w va f.ch) (hb : Ds w vb f.bs) (hc : Ds w vc f.sg) (ht : Tab w) :
  Calls Tryz.prog 36 #[.agg (frC f.num f.u va vb vc)] w fun e w' => Below w.heap.size w w' ∧ ∃ A c, e = .returned (.tuple #[.slice A (packF f).length c, .int .i64 0]) ∧ Own w' w.heap.size 5 (.slice A (packF f).length c) (packF f) := by
 obtain ⟨num, u, ch, bs, sg⟩ := f
 obtain ⟨hu, d1, d2, d3⟩ := hw
 obtain ⟨hm, h0, hn, hl1, hl2, hl3⟩ := ho
 simp only at *
 have hbd := u_bounds hm
 obtain ⟨Aa, ca, rfl, _, _, _⟩ := ha.1.form
 obtain ⟨Ab, cb, rfl, _, _, _⟩ := hb.1.form
 obtain ⟨Ac, cc, rfl, _, _, _⟩ := hc.1.form
 obtain ⟨nn, hnn⟩ : ∃ nn : Nat, num = (nn : Int) := ⟨num.toNat, by omega⟩
 subst hnn
 obtain ⟨C, hC⟩ : ∃ C, C = CU u := ⟨_, rfl⟩
 obtain ⟨T, hT⟩ : ∃ T, T = TU u := ⟨_, rfl⟩
 have n0 := Blk.new w 28 (frC (nn : Int) u (.slice Aa ch.length ca) (.slice Ab bs.length cb) (.slice Ac sg.length cc))
 have b0 := (Below.refl w.heap.size w).alloc (Nat.le_refl _) (.cells (frC (nn : Int) u (.slice Aa ch.length ca) (.slice Ab bs.length cb) (.slice Ac sg.length cc)) 28)
 have hfr := fun W (hW : Below (w.alloc (.cells (frC (nn : Int) u (.slice Aa ch.length ca) (.slice Ab bs.length cb) (.slice Ac sg.length cc)) 28)).heap.size (w.alloc (.cells (frC (nn : Int) u (.slice Aa ch.length ca) (.slice Ab bs.length cb) (.slice Ac sg.length cc)) 28)) W) => (n0.below' hW).front hu
 have DA := hide (And.intro (ha.below b0) (And.intro (hb.below b0) (hc.below b0)))
 rw [hl1, hl2, hl3, ← hC, ← hT] at DA n0 b0 hfr ⊢
 have HFR := hide hfr
 generalize hfc : frC (nn : Int) u (.slice Aa C ca) (.slice Ab T cb) (.slice Ac T cc) = fc at n0 b0 HFR DA ⊢
 have Q1 := hide (writeU_ok u hu hm _ (ht.below b0))
 have Q2 := hide (fun W => shapeOf_ok u hm W)
 have QC := hide (fun W => chaini_any u.n.toNat nn W (by omega) (by omega))
 have QN : Hid (∀ W, Calls Tryz.prog 60 #[.int .i64 ((SG u : Nat) : Int)] W fun e w' => e = .returned (.int .i64 (T : Int)) ∧ W = w') := fun W => by
  have := nodes_any (SG u) W (by omega)
  have h2 := wid_pos (SG u)
  rw [show (2 * (wid (SG u) : Int) - 1) = (T : Int) by rw [hT]; unfold TU; omega] at this
  exact this
 have husz := US.size_ hu
 have hL := writeU_len2 hu hm
 have hFC := frC_get (num := (nn : Int)) (a := .slice Aa C ca) (b := .slice Ab T cb) (c := .slice Ac T cc) hu
 rw [hfc] at hFC
 have HH := hide (And.intro hu (And.intro hm (And.intro hbd (And.intro hn (And.intro hl1 (And.intro hl2 (And.intro hl3 (And.intro hC (And.intro hT (And.intro hL (And.intro d1 (And.intro d2 (And.intro d3 (And.intro husz hfc))))))))))))))
 have HB := hide b0
 generalize hW0 : w.alloc (.cells fc 28) = W0 at *
 obtain ⟨uc, huc⟩ : ∃ uc, uc = u.cells := ⟨_, rfl⟩
 rw [← huc] at Q1 Q2
 have HFR2 : Hid (∀ W, Below W0.heap.size W0 W → W.cell? ⟨w.heap.size, 0, none⟩ = some (.int .i64 (nn : Int)) ∧ W.rangeAt w.heap.size 1 uc.toList ∧ W.cell? ⟨w.heap.size, 69, none⟩ = some (.slice Aa C ca) ∧ W.cell? ⟨w.heap.size, 70, none⟩ = some (.slice Ab T cb) ∧ W.cell? ⟨w.heap.size, 71, none⟩ = some (.slice Ac T cc)) := fun W hW => by rw [huc]; exact HFR.out W hW
 have HUC := hide (show uc.size = 68 by rw [huc]; exact husz)
 obtain ⟨F8, hF8, hF1, hF2, hF3, hF4⟩ : ∃ F : Array Value, F = shU u ∧ F.size = 8 ∧ F.all (·.oneCell') = true ∧ F[1]? = some (.int .i64 ((u.n.toNat : Nat) : Int)) ∧ F[4]? = some (.int .i64 ((SG u : Nat) : Int)) := ⟨_, rfl, rfl, by simp [shU, Value.oneCell'], rfl, rfl⟩
 rw [← hF8] at Q2
 have HF8 := hide (And.intro hF8 (And.intro hF1 (And.intro hF2 (And.intro hF3 hF4))))
 clear hF8 hF1 hF2 hF3 hF4
 obtain ⟨Nn, hNn⟩ : ∃ Nn, Nn = u.n.toNat := ⟨_, rfl⟩
 obtain ⟨Sn, hSn⟩ : ∃ Sn, Sn = SG u := ⟨_, rfl⟩
 have QC2 : Hid (∀ W, Calls Tryz.prog 44 #[.int .i64 (Nn : Int), .int .i64 (nn : Int)] W fun e W' => ∃ A c, e = .returned (.tuple #[.slice A C c, .int .i64 0]) ∧ Below W.heap.size W W') := fun W => by
  rw [hNn, hC]
  exact (QC.out W).mono fun e w' ⟨A, c, he, _, hb⟩ => ⟨A, c, he, hb⟩
 rw [← hNn, ← hSn] at HF8
 rw [← hSn] at QN
 have HSN := hide (And.intro hNn hSn)
 clear hNn hSn QC
 clear hu hm hbd hn hl1 hl2 hl3 hL d1 d2 d3 husz ha hb hc hfr n0 b0 ht huc HFR hfc hC hT h0 hFC
 go_enter Tryz.func36, Tryz.ntmps36
 go_wp2_with (first
  | ((with_reducible change wpList _ _ _ (⟨some 14, _, _, _, _, _⟩ :: _) _ _); go_loud (refine wpList_load_midF (by rfl) 25 _ rfl w.heap.size 1 rfl uc _ (HFR2.out W0 (Below.refl _ _)).2.1 Tryz.underlying25 rfl (by rw [HUC.out]; kernel_rfl) ?_)))
 refine Q1.out.mono ?_
 rintro e w1 ⟨b1, A1, c1, rfl, o1⟩
 obtain ⟨tx, htx, htl⟩ : ∃ tx, tx = writeU u ∧ tx.length ≤ 400 := ⟨_, rfl, HH.out.2.2.2.2.2.2.2.2.2.1⟩
 rw [← htx] at o1 ⊢
 have HTX := hide (And.intro htx htl)
 have H1 := hide (And.intro b1 o1)
 obtain ⟨k0, -, -, -, -⟩ := HFR2.out w1 b1
 clear b1 o1 Q1 htx htl
 go_wp2_with (first
  | ((with_reducible change wpList _ _ _ (⟨some 22, _, _, _, _, _⟩ :: _) _ _); go_loud (refine wpList_load_midF (by rfl) 25 _ rfl w.heap.size 1 rfl uc _ (HFR2.out w1 H1.out.1).2.1 Tryz.underlying25 rfl (by rw [HUC.out]; kernel_rfl) ?_)))
 refine (Q2.out w1).mono ?_
 rintro e w2 ⟨b2, rfl⟩
 have H2 := hide b2
 clear b2 Q2 k0
 obtain ⟨X, hX⟩ : ∃ X, X = w2.heap.size := ⟨_, rfl⟩
 go_wp2_with ((with_reducible change wpList _ _ _ (⟨none, .store _ (.tmp 6) _, _, _, _, _⟩ :: _) _ _); go_loud (refine wpList_store_row (o := ⟨none, .store _ (.tmp 6) _, _, _, _, _⟩) (Blk.new w2 _ _) F8 (by rw [HF8.out.2.1]; rfl) HF8.out.2.2.1 rfl 54 _ _ rfl (by rw [HF8.out.2.1]; kernel_rfl) rfl rfl ?_; intro w3 hb3 hg3; have H3 := hide (show Below w2.heap.size w2 w3 from ((Below.refl _ w2).alloc (Nat.le_refl _) _).grown hg3 (by simp) (fun k hk => by cases hk; exact Nat.le_refl _)); clear hg3; obtain ⟨k0, -, ka, kb, kc⟩ := HFR2.out w3 (Below.step H1.out.1 (Below.step H2.out H3.out)); have hx1 : w3.cell? ⟨w2.heap.size, 1, none⟩ = some (.int .i64 (Nn : Int)) := (by rw [hb3.cell]; exact HF8.out.2.2.2.1); have hx4 : w3.cell? ⟨w2.heap.size, 4, none⟩ = some (.int .i64 (Sn : Int)) := (by rw [hb3.cell]; exact HF8.out.2.2.2.2); have HX := hide hb3; clear hb3))
 refine (QC2.out w3).mono ?_
 rintro e w4 ⟨A4, c4, rfl, b4⟩
 rw [← hX] at HX ⊢
 clear hX k0 ka kb kc hx1 hx4
 have H04 := hide (Below.step H1.out.1 (Below.step H2.out (Below.step H3.out b4)))
 have H14 := hide (Below.step H2.out (Below.step H3.out b4))
 have HS : Hid (∀ W, Below w4.heap.size w4 W → W.cell? ⟨w.heap.size, 0, none⟩ = some (.int .i64 (nn : Int)) ∧ W.cell? ⟨w.heap.size, 69, none⟩ = some (.slice Aa C ca) ∧ W.cell? ⟨w.heap.size, 70, none⟩ = some (.slice Ab T cb) ∧ W.cell? ⟨w.heap.size, 71, none⟩ = some (.slice Ac T cc) ∧ W.cell? ⟨X, 1, none⟩ = some (.int .i64 (Nn : Int)) ∧ W.cell? ⟨X, 4, none⟩ = some (.int .i64 (Sn : Int))) := fun W hW => by
  obtain ⟨k0, -, ka, kb, kc⟩ := HFR2.out W (Below.step H04.out hW)
  have hx := (HX.out.below' b4).below' hW
  exact ⟨k0, ka, kb, kc, by rw [hx.cell]; exact HF8.out.2.2.2.1, by rw [hx.cell]; exact HF8.out.2.2.2.2⟩
 have HX4 := hide (HX.out.below' b4)
 obtain ⟨k0, ka, kb, kc, kn, ks⟩ := HS.out w4 (Below.refl _ _)
 clear b4 HX QC2
 go_wp2_with fail
 go_region_held3 (fun w' => w'.cell? ⟨w.heap.size, 0, none⟩ = some (.int .i64 (nn : Int)) ∧ w'.cell? ⟨w.heap.size, 69, none⟩ = some (.slice Aa C ca) ∧ w'.cell? ⟨w.heap.size, 70, none⟩ = some (.slice Ab T cb) ∧ w'.cell? ⟨w.heap.size, 71, none⟩ = some (.slice Ac T cc) ∧ w'.cell? ⟨X, 1, none⟩ = some (.int .i64 (Nn : Int)) ∧ w'.cell? ⟨X, 4, none⟩ = some (.int .i64 (Sn : Int))) (first | go_keep | assumption | exact HS.out _ (Below.drew (Below.refl _ _)))
  (first | (go_at_call 60; (with_reducible refine (QN.out _).mono ?_); rintro e w' ⟨rfl, rfl⟩))
 have hm1 : ((nn : Nat) : Int) % 4294967296 = ((nn : Nat) : Int) := by have := HH.out.2.2.1; have := HH.out.2.2.2.1; omega
 have hm2 : IntKind.u32.wrap ((nn : Nat) : Int) = ((nn : Nat) : Int) := by have := HH.out.2.2.1; have := HH.out.2.2.2.1; simp [IntKind.wrap, IntKind.bits, IntKind.signed]; omega
 have Q8a : Hid (∀ W, Below w4.heap.size w4 W → Calls Tryz.prog 61 #[.int .u32 1] W fun e w' => ∃ g, e = .returned (.slice (some ⟨g, 0, none⟩) 4 4) ∧ By w' (.slice (some ⟨g, 0, none⟩) 4 4) (bw4 1) ∧ Below w4.heap.size w4 w') := fun W hW =>
  Calls.mono (show Calls Tryz.prog 61 #[.int .u32 1] W _ from big4_any 1 W (by omega)) fun e w' ⟨g, he, hb, hbe⟩ => ⟨g, he, hb, Below.step hW hbe⟩
 have Q8b : Hid (∀ W, Below w4.heap.size w4 W → Calls Tryz.prog 61 #[.int .u32 (nn : Int)] W fun e w' => ∃ g, e = .returned (.slice (some ⟨g, 0, none⟩) 4 4) ∧ By w' (.slice (some ⟨g, 0, none⟩) 4 4) (bw4 nn) ∧ Below W.heap.size W w' ∧ Below w4.heap.size w4 w') := fun W hW =>
  (big4_any nn W (by have := HH.out.2.2.1; have := HH.out.2.2.2.1; omega)).mono fun e w' ⟨g, he, hb, hbe⟩ => ⟨g, he, hb, hbe, Below.step hW hbe⟩
 clear k0 ka kb kc kn ks QN
 go_wp2_with fail
 go_region_held3 (fun w' => w'.cell? ⟨w.heap.size, 0, none⟩ = some (.int .i64 (nn : Int)) ∧ w'.cell? ⟨w.heap.size, 69, none⟩ = some (.slice Aa C ca) ∧ w'.cell? ⟨w.heap.size, 70, none⟩ = some (.slice Ab T cb) ∧ w'.cell? ⟨w.heap.size, 71, none⟩ = some (.slice Ac T cc) ∧ w'.cell? ⟨X, 1, none⟩ = some (.int .i64 (Nn : Int)) ∧ w'.cell? ⟨X, 4, none⟩ = some (.int .i64 (Sn : Int)))
  (first | go_keep | assumption | exact HS.out _ (by assumption) | exact HS.out _ (Below.drew (by assumption)) | exact HS.out _ (Below.drew (Below.refl _ _)) | exact HS.out _ (Below.drew (Below.drew (Below.refl _ _))) | exact HS.out _ ((by assumption : Below w4.heap.size w4 _).alloc (by assumption : Below w4.heap.size w4 _).size _))
  (first
   | (go_at_call 61; (with_reducible refine (Q8a.out _ ?bb).mono ?_); (case bb => (repeat (first | with_reducible exact Below.refl _ _ | with_reducible assumption | with_reducible refine Below.drew ?_))); rintro e w5 ⟨g5, rfl, hy5, hb5⟩)
   | (go_at_call 61; (with_reducible refine (Q8b.out _ ?bb).mono ?_); (case bb => (repeat (first | with_reducible exact Below.refl _ _ | with_reducible assumption | with_reducible refine Below.drew ?_))); rintro e w6 ⟨g6, rfl, hy6, hs6, hb6⟩)
   | (go_at_call 39; (refine (join_any _ [(.slice (some ⟨g5, 0, none⟩) 4 4, bw4 1), (.slice (some ⟨g6, 0, none⟩) 4 4, bw4 nn)] _ ?ls (by simp [total, bw4])).mono ?_); (case ls => exact lsts_new _ rfl (by simp) (fun x hx => by simp only [List.mem_cons, List.not_mem_nil, or_false] at hx; rcases hx with rfl | rfl <;> first | exact hy6 | exact hy5.below hs6)); rintro e w7 ⟨v7, rfl, ho7, hb7⟩; have hs7 := Below.step (hb6.alloc hb6.size _) hb7; have ho7' := Own.base ho7 (hb6.alloc hb6.size _).size))
 have QL : Hid (∀ W, Calls Tryz.prog 62 #[.agg F8, .int .i64 (tx.length : Int)] W fun e w' => Below W.heap.size W w' ∧ e = .returned (.agg (plA u tx.length))) := fun W => by
  rw [HF8.out.1]
  exact lay_u u _ HH.out.2.1 (by have := HTX.out.2; omega) W
 have HIX := hide (fun k (hk : k < 6) W => idx_pl u tx.length k hk W)
 have HPL := hide (fun k => pl_lt HH.out.2.1 (L := tx.length) (by have := HTX.out.2; omega) k)
 have HW7 := hide (And.intro ho7' hs7)
 have hr7 := ((HX4.out.below' hs7).cell)
 have HR7 : Hid (w7.rangeAt X 0 F8.toList) := fun j v hj => by rw [Nat.zero_add, hr7, ← Array.getElem?_toList]; exact hj
 clear ho7 hb7 ho7' hs7 hr7 hy5 hb5 hy6 hs6 hb6 Q8a Q8b hm1 hm2
 go_wp2_with (first
  | ((with_reducible change wpList _ _ _ (⟨some 69, _, _, _, _, _⟩ :: _) _ _); go_loud (refine wpList_load_midF (by rfl) 54 _ rfl X 0 rfl F8 _ HR7.out Tryz.underlying54 rfl (by rw [HF8.out.2.1]; kernel_rfl) ?_)))
 refine (QL.out _).mono ?_
 rintro e w8 ⟨b8, rfl⟩
 generalize hPA : plA u tx.length = pa at *
 have HPA := hide hPA
 have H8 := hide (And.intro (Own.below HW7.out.1 b8) (Below.step HW7.out.2 b8))
 clear b8 HW7 QL HR7 hPA
 go_wp2
 go_loopw [9, 11, 73] (fun u9 _ u73 wr => ∃ k : Nat, k ≤ 6 ∧ u73 = .int .i64 (k : Int) ∧ Own wr w4.heap.size 5 u9 (wordsL u tx.length nn k) ∧ Below w4.heap.size w4 wr) (fun _ _ u73 _ => 6 - (intOf u73).toNat)
 case atStart => exact ⟨0, by omega, rfl, by simpa [wordsL, cat] using H8.out.1, H8.out.2⟩
 case round =>
  clear H8
  obtain ⟨k, hk, rfl, hown, hbel⟩ := hrel
  have HO := hide hown
  have HB2 := hide hbel
  clear hown hbel
  by_cases hlt : k < 6
  ·have hix := fun W => HIX.out k hlt W
   have hpk := HPL.out k
   have QB := hide (big4_any (pl u tx.length k) wr hpk)
   have hm1 : ((pl u tx.length k : Nat) : Int) % 4294967296 = ((pl u tx.length k : Nat) : Int) := by omega
   have hm2 : IntKind.u32.wrap ((pl u tx.length k : Nat) : Int) = ((pl u tx.length k : Nat) : Int) := by simp [IntKind.wrap, IntKind.bits, IntKind.signed]; omega
   have hln := wordsL_length u tx.length nn k
   have HWS := hide (wordsL_succ u tx.length nn k)
   generalize pl u tx.length k = pk at *
   clear hpk
   go_wp2_with fail
   refine QB.out.mono ?_
   rintro e wb ⟨g9, rfl, hy9, hb9⟩
   have H9 := hide (And.intro hy9 hb9)
   clear hy9 hb9 QB hm1 hm2
   go_wp2_with (at_builtin; go_loud (refine wpList_pushV elem8 (Own.below HO.out H9.out.2) (Below.step HB2.out H9.out.2) (Below.step HB2.out H9.out.2).size H9.out.1 (by rw [hln]; simp [bw4]; omega) rfl _ _ rfl rfl rfl ?_; intro vc wc hownc hbelc _ _))
   go_roundw
   case rel => exact ⟨k + 1, by omega, by go_num, by rw [HWS.out]; exact hownc, hbelc⟩
   case measure => simp [intOf]; omega
  ·have hk6 : k = 6 := by omega
   subst hk6
   obtain ⟨Aw, cw, rfl, _⟩ := HO.out.by_.form
   have hwl := wordsL_length u tx.length nn 6
   have QDa : Hid (∀ W, Below wr.heap.size wr W → Calls Tryz.prog 63 #[.slice Aa C ca] W fun e w' => ∃ A c, e = .returned (.slice A ch.flatten.length c) ∧ By w' (.slice A ch.flatten.length c) ch.flatten ∧ Below W.heap.size W w' ∧ Below wr.heap.size wr w') := fun W hW =>
    (digests_any _ ch W (DA.out.1.below (Below.step H04.out (Below.step HB2.out hW))) (by have := HH.out.2.2.1; have := HH.out.2.2.2.2.1; omega)).mono fun e w' ⟨v, he, ho, hb⟩ => by
     obtain ⟨A, c, rfl, _⟩ := ho.by_.form
     exact ⟨A, c, he, ho.by_, hb, Below.step hW hb⟩
   have QDb : Hid (∀ W, Below wr.heap.size wr W → Calls Tryz.prog 63 #[.slice Ab T cb] W fun e w' => ∃ A c, e = .returned (.slice A bs.flatten.length c) ∧ By w' (.slice A bs.flatten.length c) bs.flatten ∧ Below W.heap.size W w' ∧ Below wr.heap.size wr w') := fun W hW =>
    (digests_any _ bs W (DA.out.2.1.below (Below.step H04.out (Below.step HB2.out hW))) (by have := HH.out.2.2.1; have := HH.out.2.2.2.2.2.1; omega)).mono fun e w' ⟨v, he, ho, hb⟩ => by
     obtain ⟨A, c, rfl, _⟩ := ho.by_.form
     exact ⟨A, c, he, ho.by_, hb, Below.step hW hb⟩
   have QDc : Hid (∀ W, Below wr.heap.size wr W → Calls Tryz.prog 63 #[.slice Ac T cc] W fun e w' => ∃ A c, e = .returned (.slice A sg.flatten.length c) ∧ By w' (.slice A sg.flatten.length c) sg.flatten ∧ Below W.heap.size W w' ∧ Below wr.heap.size wr w') := fun W hW =>
    (digests_any _ sg W (DA.out.2.2.below (Below.step H04.out (Below.step HB2.out hW))) (by have := HH.out.2.2.1; have := HH.out.2.2.2.2.2.2.1; omega)).mono fun e w' ⟨v, he, ho, hb⟩ => by
     obtain ⟨A, c, rfl, _⟩ := ho.by_.form
     exact ⟨A, c, he, ho.by_, hb, Below.step hW hb⟩
   have HS2 : Hid (∀ W, Below wr.heap.size wr W → W.cell? ⟨w.heap.size, 69, none⟩ = some (.slice Aa C ca) ∧ W.cell? ⟨w.heap.size, 70, none⟩ = some (.slice Ab T cb) ∧ W.cell? ⟨w.heap.size, 71, none⟩ = some (.slice Ac T cc)) := fun W hW => by
    obtain ⟨_, h1, h2, h3, _⟩ := HS.out W (Below.step HB2.out hW)
    exact ⟨h1, h2, h3⟩
   have HT2 : Hid (∀ W, Below wr.heap.size wr W → By W (.slice A1 tx.length c1) tx ∧ By W (.slice Aw (wordsL u tx.length nn 6).length cw) (wordsL u tx.length nn 6)) := fun W hW => ⟨by
    have h1 := H1.out.2.by_
    exact h1.below (Below.step H14.out (Below.step HB2.out hW)), HO.out.by_.below hW⟩
   have hpk : packF ⟨(nn : Int), u, ch, bs, sg⟩ = mark4 ++ (wordsL u tx.length nn 6 ++ (tx ++ (ch.flatten ++ (bs.flatten ++ sg.flatten)))) := by
    have := wordsL_all u tx.length nn
    unfold packF
    simp only [Int.toNat_natCast]
    rw [← HTX.out.1, ← this, List.append_assoc]
   have htot : (packF ⟨(nn : Int), u, ch, bs, sg⟩).length ≤ 1000000 ∧ 4 < (packF ⟨(nn : Int), u, ch, bs, sg⟩).length := by
    have e1 := flat_len HH.out.2.2.2.2.2.2.2.2.2.2.1
    have e2 := flat_len HH.out.2.2.2.2.2.2.2.2.2.2.2.1
    have e3 := flat_len HH.out.2.2.2.2.2.2.2.2.2.2.2.2.1
    have e4 := HH.out.2.2.1
    have e5 := HH.out.2.2.2.2.1
    have e6 := HH.out.2.2.2.2.2.1
    have e7 := HH.out.2.2.2.2.2.2.1
    have e8 := HTX.out.2
    rw [hpk]
    simp only [List.length_append, hwl]
    have e9 : mark4.length = 4 := rfl
    omega
   have HPK := hide (And.intro hpk htot)
   generalize hwd : wordsL u tx.length nn 6 = wd at *
   clear hwd hwl HO HIX HPL hpk htot
   go_wp2_with fail
   refine wp_region_any rfl ?_
   refine region_free (MkR wr.heap.size) (MkR.refl _) (fun _ _ _ => MkR.trans) _ _ 17 d14
    (S14 wr.heap.size w.heap.size wd tx ch.flatten bs.flatten sg.flatten (packF ⟨(nn : Int), u, ch, bs, sg⟩) (.slice Aw wd.length cw) (.slice A1 tx.length c1) (.slice Aa C ca) (.slice Ab T cb) (.slice Ac T cc)) dp14 rfl
    (fun i j hi hj he => by unfold d14 at he; split at he <;> split at he <;> omega) (fun i hi => by unfold d14; split <;> simp <;> omega) (fun i _ W W' v h hR => S14.st HPK.out.2.2 h hR) (by kernel_rfl) (by kernel_rfl) ?step ?fin _ _ (by simp) (by simp) (fun i => by simp [Array.getD])
   case fin =>
    intro v W hR hS
    have hRb2 : Below wr.heap.size wr W := (Below.drew (Below.refl _ _)).trans (hR.below (Nat.le_refl _))
    obtain ⟨A, c, hv15, ho⟩ := hS 15 (by omega)
    have hv16 : v 16 = .int .i64 0 := hS 16 (by omega)
    have e2 : ∀ a0 : Act, a0.tmps.size = 97 → (puts d14 v a0 17).tmps.getD 2 undef = .slice A (packF ⟨(nn : Int), u, ch, bs, sg⟩).length c := fun a0 h0 => by
     have := puts_at d14 v a0 17 (fun i j hi hj he => by unfold d14 at he; split at he <;> split at he <;> omega) (fun i hi => by rw [h0]; unfold d14; split <;> omega) 15 (by omega)
     rw [show d14 15 = 2 from rfl, hv15] at this
     rw [Array.getD_eq_getD_getElem?, this]
     rfl
    have e3 : ∀ a0 : Act, a0.tmps.size = 97 → (puts d14 v a0 17).tmps.getD 3 undef = .int .i64 0 := fun a0 h0 => by
     have := puts_at d14 v a0 17 (fun i j hi hj he => by unfold d14 at he; split at he <;> split at he <;> omega) (fun i hi => by rw [h0]; unfold d14; split <;> omega) 16 (by omega)
     rw [show d14 16 = 3 from rfl, hv16] at this
     rw [Array.getD_eq_getD_getElem?, this]
     rfl
    rw [hv15] at ho
    have hbel : Below w.heap.size w W := Below.step HB.out (Below.step H04.out (Below.step HB2.out hRb2))
    have hbase : w.heap.size ≤ wr.heap.size := (Below.step HB.out (Below.step H04.out HB2.out)).size
    have ho2 := Own.base ho hbase
    clear hR hS hRb2 hv15 hv16 ho hbase
    refine fin_act (fun a0 => e2 a0) (fun a0 => e3 a0) (fun aa h2 h3 hd => ?_) rfl rfl
    go_wp2
    exact bodyPost_ret (results_tmp2 rfl _ _ _) hd ⟨hbel, A, c, by rw [h2, h3], ho2⟩
   case step =>
    intro i hi a W hts hold hR hdep
    have hRb : Below wr.heap.size wr.drew W := hR.below (Nat.le_refl _)
    have hRb2 : Below wr.heap.size wr W := (Below.drew (Below.refl _ _)).trans hRb
    have hc6 : i = 0 ∨ i = 1 ∨ i = 2 ∨ i = 3 ∨ i = 4 ∨ i = 5 ∨ i = 6 ∨ i = 7 ∨ i = 8 ∨ i = 9 ∨ i = 10 ∨ i = 11 ∨ i = 12 ∨ i = 13 ∨ i = 14 ∨ i = 15 ∨ i = 16 := by omega
    have h1 : a.tmps[1]? = some (.pointer (some ⟨w.heap.size, 0, none⟩)) := (hold 1 (d14_ne (by omega) (by omega) (by omega))).trans rfl
    rcases hc6 with rfl | rfl | rfl | rfl | rfl | rfl | rfl | rfl | rfl | rfl | rfl | rfl | rfl | rfl | rfl | rfl | rfl
    ·exact fop_four rfl (four_new W) ⟨_, rfl, MkR.of ((Below.refl _ _).alloc (Nat.le_refl _) _), Mk.new hRb2.size⟩
    ·obtain ⟨v, hv, hs⟩ := hdep 0 (by simp [dp14])
     obtain ⟨W', hr, hm⟩ := Mk.conv hs
     exact fop_conv rfl hv hr ⟨_, rfl, hm, hm.four hs⟩
    ·exact fop_move rfl ((hold 9 (d14_ne (by omega) (by omega) (by omega))).trans rfl) ⟨_, rfl, MkR.refl _ _, rfl⟩
    ·exact fop_move rfl ((hold 4 (d14_ne (by omega) (by omega) (by omega))).trans rfl) ⟨_, rfl, MkR.refl _ _, rfl⟩
    ·exact fop_field rfl h1 (fld2 _ W) ⟨_, rfl, MkR.refl _ _, rfl⟩
    ·obtain ⟨v, hv, hs⟩ := hdep 4 (by simp [dp14])
     have hs : v = .pointer (some ⟨w.heap.size, 69, none⟩) := hs
     subst hs
     exact fop_load rfl hv (load_dsl (HS2.out W hRb2).1) ⟨_, rfl, MkR.refl _ _, rfl⟩
    ·obtain ⟨v, hv, hs⟩ := hdep 5 (by simp [dp14])
     have hs : v = .slice Aa C ca := hs
     subst hs
     refine op_digs rfl hv (QDa.out W hRb2) ?_
     rintro e W' ⟨A, c, rfl, hy, hb, _⟩
     exact ⟨_, rfl, _, rfl, MkR.of hb, A, c, rfl, hy⟩
    ·exact fop_field rfl h1 (fld3 _ W) ⟨_, rfl, MkR.refl _ _, rfl⟩
    ·obtain ⟨v, hv, hs⟩ := hdep 7 (by simp [dp14])
     have hs : v = .pointer (some ⟨w.heap.size, 70, none⟩) := hs
     subst hs
     exact fop_load rfl hv (load_dsl (HS2.out W hRb2).2.1) ⟨_, rfl, MkR.refl _ _, rfl⟩
    ·obtain ⟨v, hv, hs⟩ := hdep 8 (by simp [dp14])
     have hs : v = .slice Ab T cb := hs
     subst hs
     refine op_digs rfl hv (QDb.out W hRb2) ?_
     rintro e W' ⟨A, c, rfl, hy, hb, _⟩
     exact ⟨_, rfl, _, rfl, MkR.of hb, A, c, rfl, hy⟩
    ·exact fop_field rfl h1 (fld4 _ W) ⟨_, rfl, MkR.refl _ _, rfl⟩
    ·obtain ⟨v, hv, hs⟩ := hdep 10 (by simp [dp14])
     have hs : v = .pointer (some ⟨w.heap.size, 71, none⟩) := hs
     subst hs
     exact fop_load rfl hv (load_dsl (HS2.out W hRb2).2.2) ⟨_, rfl, MkR.refl _ _, rfl⟩
    ·obtain ⟨v, hv, hs⟩ := hdep 11 (by simp [dp14])
     have hs : v = .slice Ac T cc := hs
     subst hs
     refine op_digs rfl hv (QDc.out W hRb2) ?_
     rintro e W' ⟨A, c, rfl, hy, hb, _⟩
     exact ⟨_, rfl, _, rfl, MkR.of hb, A, c, rfl, hy⟩
    ·obtain ⟨v1, hv1, hs1⟩ := hdep 1 (by simp [dp14])
     obtain ⟨v2, hv2, hs2⟩ := hdep 2 (by simp [dp14])
     obtain ⟨v3, hv3, hs3⟩ := hdep 3 (by simp [dp14])
     obtain ⟨v6, hv6, A6, c6, rfl, hs6⟩ := hdep 6 (by simp [dp14])
     obtain ⟨v9, hv9, A9, c9, rfl, hs9⟩ := hdep 9 (by simp [dp14])
     obtain ⟨v12, hv12, A12, c12, rfl, hs12⟩ := hdep 12 (by simp [dp14])
     have hs2 : v2 = .slice Aw wd.length cw := hs2
     have hs3 : v3 = .slice A1 tx.length c1 := hs3
     have hs1 : Mk wr.heap.size W v1 := hs1
     have hm1 := hs1.by_
     obtain ⟨g1, f1, rfl, _, _⟩ := hs1
     subst hs2 hs3
     refine fop_six rfl hv1 hv2 hv3 hv6 hv9 hv12 (six_new _ _ _ _ _ _ _ _ _ _ _ _ _ _ _ _ _ _ W) ⟨_, rfl, MkR.of ((Below.refl _ _).alloc (Nat.le_refl _) _), W.heap.size,
      [(.slice (some ⟨g1, 0, none⟩) 4 4, mark4), (.slice Aw wd.length cw, wd), (.slice A1 tx.length c1, tx), (.slice A6 ch.flatten.length c6, ch.flatten), (.slice A9 bs.flatten.length c9, bs.flatten), (.slice A12 sg.flatten.length c12, sg.flatten)], rfl, lsts_new _ rfl (by simp) (fun x hx => ?_), ?_⟩
     ·simp only [List.mem_cons, List.not_mem_nil, or_false] at hx
      rcases hx with rfl | rfl | rfl | rfl | rfl | rfl
      ·exact hm1
      ·exact (HT2.out W hRb2).2
      ·exact (HT2.out W hRb2).1
      ·exact hs6
      ·exact hs9
      ·exact hs12
     ·rw [HPK.out.1]
      simp [cat]
    ·obtain ⟨v, hv, h, L, rfl, hL, hcat⟩ := hdep 13 (by simp [dp14])
     have htl : total L ≤ 1099511627776 := by rw [← cat_length, hcat]; have := HPK.out.2; omega
     refine op_joins rfl hv (join_any _ L W hL htl) ?_
     rintro e W' ⟨v', rfl, ho, hb⟩
     rw [hcat] at ho
     obtain ⟨A, c, rfl, _⟩ := ho.by_.form
     exact ⟨_, rfl, _, rfl, MkR.of hb, A, c, rfl, Own.base ho hRb2.size⟩
    ·obtain ⟨v, hv, hs⟩ := hdep 14 (by simp [dp14])
     exact fop_assign rfl hv ⟨_, rfl, MkR.refl _ _, hs⟩
    ·exact fop_assignc rfl ⟨_, rfl, MkR.refl _ _, rfl⟩
end Go.Proofs.YtdohebhbiokljaaGreatDoor
