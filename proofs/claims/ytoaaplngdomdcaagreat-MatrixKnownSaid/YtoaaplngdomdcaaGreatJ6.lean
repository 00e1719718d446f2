/- Joined texts: MatS, MvU, AwkM, MvW, MvZA, MvV, MvX, MvZB, MvYA, KnA, WalkKnown, Open. -/
import Derived.Test.YtoaaplngdomdcaaGreatJ5
import Derived.Laws.Cover3
import Derived.Lib.EndianMore
import Derived.Deep.Upon
import Derived.Deep.RegionHeld3
import Derived.Test.YtoaaplngdomdcaaGreatJ1
import Derived.ProofKit
import Derived.OpenShut
import Derived.ShutString
import Derived.ChangeOld
import Derived.SizedLaws
import Derived.JoinedCond
import Derived.Deep.CondSized

/- What a drawn region with a matrix' load and store needs. -/
namespace Go.Proofs.YtoaaplngdomdcaaGreat
open Go.RowKit

theorem noPanic_norm {Q : Exit → Act → World → Prop} {a : Act} {w : World} (h : Q .normal a w) : NoPanic Q .normal a w := h
theorem there_blk {w : World} {g n : Nat} {t : TypeId} {cs : Array Value} (h : Blk w g t cs) (hn : cs.size = n) : w.there g 0 n := fun j hj => ⟨by rw [Nat.zero_add, h.cell j, Array.getElem?_eq_getElem (by omega)]; rfl, by rw [Nat.zero_add]; exact h.frozen j⟩
theorem res_mid_tmp {P : Program} {fn : Func} {p u : Tmp} {ty : TypeId} (h : fn.results = #[.cell p ty, .tmp u]) (tmps : Array Value) (w : World) (g : Nat) (cs : List Value) (d : TypeDesc)
    (hp : tmps.getD p undef = .pointer (some ⟨g, 0, none⟩)) (hr : w.rangeAt g 0 cs) (hu : P.underlying ty = some d) (hd : d.isRow = true) (hi : (P.info? ty).map (·.size) = some cs.length) :
    (results fn tmps).run P w = .ok (.tuple #[.agg cs.toArray, tmps.getD u undef]) w := by
  rw [results_cell_tmp h, hp]
  simp [asAddr, run_loadVar_mid w g 0 ty cs d hr hu hd hi, Result.andThen]
theorem mat_store {W : World} {g : Nat} {a b : Option Addr} (h : W.there g 0 2) : (Instr.storeAt 32 (.pointer (some ⟨g, 0, none⟩)) (.agg #[.pointer a, .pointer b])).run Tryz.prog W = .ok () (W.setCells g 0 [.pointer a, .pointer b]) :=
  run_storeAt_mid (P := Tryz.prog) W g 0 32 #[.pointer a, .pointer b] (by exact h) (by kernel_rfl) (by simp [Value.oneCell'])
theorem mat_storeC {W : World} {g : Nat} {a b : Option Addr} (h : W.there g 0 2) : (storeCells ⟨g, 0, none⟩ [.pointer a, .pointer b]).run Tryz.prog W = .ok () (W.setCells g 0 [.pointer a, .pointer b]) := by
  have := run_storeCells_cells (P := Tryz.prog) g 0 [.pointer a, .pointer b] 0 W (fun j hj => by simpa using (h j hj).1) (fun j hj => by simpa using (h j hj).2) (by simp [Value.oneCell'])
  simpa using this
theorem keepM {w : World} {g2 g n : Nat} {u v : Value} {vs : List Value} (h : w.cell? ⟨g2, 0, none⟩ = some u ∧ w.cell? ⟨g2, 1, none⟩ = some v ∧ w.there g 0 n) (hne : g2 ≠ g) : (w.setCells g 0 vs).cell? ⟨g2, 0, none⟩ = some u ∧ (w.setCells g 0 vs).cell? ⟨g2, 1, none⟩ = some v ∧ (w.setCells g 0 vs).there g 0 n :=
  ⟨(World.cell?_of_block (w := w) (World.heap_setCells_other w g 0 vs (World.block_lt_of_cell? _ _ h.1) hne)).trans h.1, (World.cell?_of_block (w := w) (World.heap_setCells_other w g 0 vs (World.block_lt_of_cell? _ _ h.2.1) hne)).trans h.2.1, World.there_setCells h.2.2 _ _ _⟩
/-- The first k elements, noughts where they are too few. -/
def padN (es : List Nat) (k : Nat) : List Nat := (List.range k).map fun i => es.getD i 0
@[simp] theorem padN_length (es : List Nat) (k : Nat) : (padN es k).length = k := by simp [padN]
theorem padN_succ (es : List Nat) (k : Nat) : padN es (k + 1) = padN es k ++ [es.getD k 0] := by simp [padN, List.range_succ]
theorem padN_get (es : List Nat) (k i : Nat) (h : i < k) : (padN es k).getD i 0 = es.getD i 0 := by
  unfold padN
  rw [List.getD_eq_getElem?_getD, List.getElem?_map, List.getElem?_range h]
  rfl
theorem padN_bound (es : List Nat) (k : Nat) (hbd : ∀ (i x : Nat), es[i]? = some x → (x : Int) ≤ 4294967295) (i x : Nat) (h : (padN es k)[i]? = some x) : (x : Int) ≤ 4294967295 := by
  unfold padN at h
  rw [List.getElem?_map] at h
  rcases hr : (List.range k)[i]? with _ | j
  · rw [hr] at h; cases h
  · rw [hr] at h
    injection h with h
    rw [← h]
    show ((es.getD j 0 : Nat) : Int) ≤ 4294967295
    rw [List.getD_eq_getElem?_getD]
    rcases he : es[j]? with _ | y
    · simp
    · exact hbd j y he
end Go.Proofs.YtoaaplngdomdcaaGreat

/- The statements' square over words. -/
namespace Go.Proofs.YtoaaplngdomdcaaGreat.MV
open Go.RowKit
attribute [local go_sem high] mat_store
attribute [local go_sem high] mat_storeC
section
variable {p gm : Nat} {hp : 0 < p}
set_option maxRecDepth 100000 in
set_option maxHeartbeats 4000000 in
theorem square_c (n : Nat) (ve : Value) (es : List Nat) (w : World) (hk : (Fk p gm) w) (hn : 1 ≤ n ∧ n ≤ 256)
    (he : Ny w .u32 ve es) (hbd : ∀ (i x : Nat), es[i]? = some x → (x : Int) ≤ 4294967295) (hp0 : 2 ≤ p) :
    Calls Tryz.prog 9 #[.int .u32 (p : Int), .pointer (some ⟨gm, 0, none⟩), .int .i64 (n : Int), ve] w fun e w' =>
      ∃ g, e = .returned (.tuple #[.agg #[.pointer none, .pointer (some ⟨g, 0, none⟩)], .bool true]) ∧ Mtx gm w' g n n (fun i j => (own hp) (es.getD (i * n + j) 0)) ∧ Below w.heap.size w w' := by
  have hN0 : n * n ≤ 65536 := Nat.le_trans (Nat.mul_le_mul hn.2 hn.2) (by omega)
  obtain ⟨N, hN⟩ : ∃ N, N = n * n := ⟨_, rfl⟩
  rw [← hN] at hN0
  have hw1 : IntKind.i64.wrap ((n : Int) * (n : Int)) = (N : Int) := by
    rw [show (n : Int) * (n : Int) = (N : Int) by rw [hN, Int.natCast_mul]]
    simp [IntKind.wrap, IntKind.bits, IntKind.signed]
    omega
  have HN := hide hN
  obtain ⟨A, c, rfl, hlc, hcm, hca⟩ := he.form
  unfold maxLen at hcm
  have b0 := (Below.refl w.heap.size w).alloc (Nat.le_refl _) (.cells #[.pointer none, .pointer none] 32)
  have n0 := Blk.new w 32 #[.pointer none, .pointer none]
  have z0 : (w.alloc (.cells #[.pointer none, .pointer none] 32)).heap.size = w.heap.size + 1 := by simp
  have HH := hide (And.intro hn (And.intro hbd (And.intro hk he)))
  have HC := hide hca
  generalize hW0 : w.alloc (.cells #[.pointer none, .pointer none] 32) = W0 at b0 n0 z0
  have HB0 := hide (And.intro b0 (And.intro n0 z0))
  clear hN hn hbd hk he hca b0 n0 z0
  go_enter Tryz.func9, Tryz.ntmps9
  go_wp2_with fail
  go_loopw [10, 11, 12] (fun v i x wr => ∃ k : Nat, k ≤ N ∧ i = .int .i64 k ∧ OwnN wr W0.heap.size 22 .u32 v (padN es k) ∧ Below W0.heap.size W0 wr) (fun _ i _ _ => N - (intOf i).toNat)
  case atStart => exact ⟨0, by omega, rfl, OwnN.nil _ _ _ _, Below.refl _ _⟩
  case round =>
    obtain ⟨k, hk, rfl, hown, hbel⟩ := hrel
    have HO := hide hown
    clear hown
    by_cases hlt : k < N
    · by_cases hin : k < es.length
      · obtain ⟨x, hx⟩ : ∃ x, es[k]? = some x := ⟨_, List.getElem?_eq_getElem hin⟩
        obtain ⟨b, o, rfl, hbl, hcell⟩ := HC.out k x hx
        have hcx : wr.cell? ⟨b, o + k, none⟩ = some (.int .u32 (x : Int)) := (hbel.cell (p := ⟨b, o + k, none⟩) (Nat.lt_of_lt_of_le hbl HB0.out.1.size)).trans ((HB0.out.1.cell (p := ⟨b, o + k, none⟩) hbl).trans hcell)
        have HX := hide (show es.getD k 0 = x by rw [List.getD_eq_getElem?_getD, hx]; rfl)
        clear hx hcell
        have j1 : (k : Int) < (es.length : Int) := by omega
        have j2 : (k : Int) < (N : Int) := by omega
        go_wp2_with (at_builtin; go_loud (refine wpList_push1 elemW HO.out hbel hbel.size (by rw [padN_length]; unfold maxLen; omega) (by rw [padN_length]; omega) (.int .u32 (x : Int)) rfl rfl _ _ rfl rfl rfl ?_); intro v1 w1 ho1 hbel1 _ _ _; have hown1 := OwnN.push ho1; clear ho1)
        go_roundw
        case rel => exact ⟨k + 1, by omega, by go_num, by rw [padN_succ, HX.out]; exact hown1, hbel1⟩
        case measure => simp [intOf]; omega
      · have HX := hide (show es.getD k 0 = 0 by rw [List.getD_eq_getElem?_getD, List.getElem?_eq_none (by omega)]; rfl)
        have j1 : ¬ (k : Int) < (es.length : Int) := by omega
        have j2 : (k : Int) < (N : Int) := by omega
        go_wp2_with (at_builtin; go_loud (refine wpList_push1 elemW HO.out hbel hbel.size (by rw [padN_length]; unfold maxLen; omega) (by rw [padN_length]; omega) (.int .u32 0) rfl rfl _ _ rfl rfl rfl ?_); intro v1 w1 ho1 hbel1 _ _ _; have hown1 := OwnN.push (x := 0) ho1; clear ho1)
        go_roundw
        case rel => exact ⟨k + 1, by omega, by go_num, by rw [padN_succ, HX.out]; exact hown1, hbel1⟩
        case measure => simp [intOf]; omega
    · have hkl : k = N := by omega
      subst hkl
      have j2 : ¬ (k : Int) < (k : Int) := by omega
      have q := fresh_c (hp := hp) n n u10 (padN es k) wr ((HH.out.2.2.1.below HB0.out.1).below hbel) HH.out.1 HH.out.1 HO.out.ny (padN_bound es k HH.out.2.1) (by rw [padN_length]; exact HN.out) hp0
      have HR := hide (And.intro hbel (Below.step HB0.out.1 hbel))
      clear HO hbel
      go_wp2_with fail
      refine q.mono ?_
      rintro e w2 ⟨g, rfl, hmx, hb2, hlw⟩
      have H2 := hide (And.intro hb2 hlw)
      clear q hmx hb2 hlw
      go_wp2_with ((with_reducible change wpList _ _ _ (⟨none, .store _ (.tmp 13) _, _, _, _, _⟩ :: _) _ _); go_loud (refine wpList_store_row (o := ⟨none, .store _ (.tmp 13) _, _, _, _, _⟩) (Blk.new w2 _ _) #[.pointer none, .pointer (some ⟨g, 0, none⟩)] rfl (by simp [Value.oneCell']) rfl 32 _ _ rfl (by kernel_rfl) rfl rfl ?_; intro w3 hb3 hg3))
      have HB3 := hide (show Below w2.heap.size w2 w3 from ((Below.refl _ w2).alloc (Nat.le_refl _) _).grown hg3 (by simp) (fun k hk => by cases hk; exact Nat.le_refl _))
      have hbl8 : Blk w3 w.heap.size 32 #[.pointer none, .pointer none] := ((HB0.out.2.1.below' HR.out.1).below' H2.out.1).below' HB3.out
      have HNE := hide (show w2.heap.size ≠ w.heap.size by have := HB0.out.2.2; have := HR.out.1.size; have := H2.out.1.size; omega)
      have H23 := hide (Below.step HR.out.2 (Below.step H2.out.1 HB3.out))
      obtain ⟨G, hG⟩ : ∃ G, G = w2.heap.size := ⟨_, rfl⟩
      rw [← hG] at hb3 HNE ⊢
      have HS : Hid (∀ W, Below w3.heap.size w3 W → W.cell? ⟨G, 0, none⟩ = some (.pointer none) ∧ W.cell? ⟨G, 1, none⟩ = some (.pointer (some ⟨g, 0, none⟩)) ∧ W.there w.heap.size 0 2) := fun W hW => ⟨by rw [(hb3.below' hW).cell]; rfl, by rw [(hb3.below' hW).cell]; rfl, there_blk (hbl8.below' hW) rfl⟩
      have hS := HS.out w3 (Below.refl _ _)
      have Q5 := hide (fun W => there_c g W)
      clear hb3 hbl8 hg3 hG
      refine wp_region_noPanic ?_
      refine wp_region_held_drew (S := fun w' => w'.cell? ⟨G, 0, none⟩ = some (.pointer none) ∧ w'.cell? ⟨G, 1, none⟩ = some (.pointer (some ⟨g, 0, none⟩)) ∧ w'.there w.heap.size 0 2) (by kernel_rfl) (HS.out _ (Below.refl _ _).drew) (fun hHeld => ?_)
      refine wpAnyH_take (i := 0) (v := ?_) rfl (by kernel_rfl) (by kernel_rfl) (by kernel_rfl) (fun _ _ _ h => h) (Or.inl ⟨by rfl, ?_⟩) (by assumption) ?_
      rotate_left
      · (intro w9 hSw; (try dsimp only at hSw); go_simp; try with_reducible rfl)
      try simp only [Act.put, List.setIfInBounds_toArray, List.set_cons_zero, List.set_cons_succ, List.getElem_toArray, List.getElem_cons_succ, List.getElem_cons_zero]
      refine wpAnyH_take (i := 1) (v := ?_) rfl (by kernel_rfl) (by kernel_rfl) (by kernel_rfl) (fun _ _ _ h => h) (Or.inl ⟨by rfl, ?_⟩) (by assumption) ?_
      rotate_left
      · (intro w9 hSw; (try dsimp only at hSw); go_simp; try with_reducible rfl)
      try simp only [Act.put, List.setIfInBounds_toArray, List.set_cons_zero, List.set_cons_succ, List.getElem_toArray, List.getElem_cons_succ, List.getElem_cons_zero]
      refine wpAnyH_take (i := 2) (v := ?_) rfl (by kernel_rfl) (by kernel_rfl) (by kernel_rfl) (fun _ _ _ h => h) (Or.inl ⟨by rfl, ?_⟩) (by assumption) ?_
      rotate_left
      · (intro w9 hSw; (try dsimp only at hSw); go_simp; try with_reducible rfl)
      try simp only [Act.put, List.setIfInBounds_toArray, List.set_cons_zero, List.set_cons_succ, List.getElem_toArray, List.getElem_cons_succ, List.getElem_cons_zero]
      refine wpAnyH_take (i := 3) (v := ?_) rfl (by kernel_rfl) (by kernel_rfl) (by kernel_rfl) (fun _ _ _ h => h) (Or.inl ⟨by rfl, ?_⟩) (by assumption) ?_
      rotate_left
      · (intro w9 hSw; (try dsimp only at hSw); go_simp; try with_reducible rfl)
      try simp only [Act.put, List.setIfInBounds_toArray, List.set_cons_zero, List.set_cons_succ, List.getElem_toArray, List.getElem_cons_succ, List.getElem_cons_zero]
      refine wpAnyH_take (i := 4) (v := ?_) rfl (by kernel_rfl) (by kernel_rfl) (by kernel_rfl) (fun _ _ _ h => h) (Or.inl ⟨by rfl, ?_⟩) (by assumption) ?_
      rotate_left
      · (intro w9 hSw; (try dsimp only at hSw); go_simp; try with_reducible rfl)
      try simp only [Act.put, List.setIfInBounds_toArray, List.set_cons_zero, List.set_cons_succ, List.getElem_toArray, List.getElem_cons_succ, List.getElem_cons_zero]
      refine wpAnyH_take (i := 5) (v := ?_) rfl (by kernel_rfl) (by kernel_rfl) (by kernel_rfl) (fun _ _ _ h => h) (Or.inl ⟨by rfl, ?_⟩) (by assumption) ?_
      rotate_left
      · (intro w9 hSw; (try dsimp only at hSw); go_simp; try with_reducible rfl)
      try simp only [Act.put, List.setIfInBounds_toArray, List.set_cons_zero, List.set_cons_succ, List.getElem_toArray, List.getElem_cons_succ, List.getElem_cons_zero]
      refine wpAnyH_take (i := 6) (v := ?_) rfl (by kernel_rfl) (by kernel_rfl) (by kernel_rfl) (fun _ _ _ h => h) (Or.inl ⟨by rfl, ?_⟩) (by assumption) ?_
      rotate_left
      · (intro w9 hSw; (try dsimp only at hSw); go_simp; try with_reducible rfl)
      try simp only [Act.put, List.setIfInBounds_toArray, List.set_cons_zero, List.set_cons_succ, List.getElem_toArray, List.getElem_cons_succ, List.getElem_cons_zero]
      refine wpAnyH_take (i := 7) (v := ?_) rfl (by kernel_rfl) (by kernel_rfl) (by kernel_rfl) (fun _ _ _ h => h) (Or.inl ⟨by rfl, ?_⟩) (by assumption) ?_
      rotate_left
      · (intro w9 hSw; (try dsimp only at hSw); go_simp; try with_reducible rfl)
      try simp only [Act.put, List.setIfInBounds_toArray, List.set_cons_zero, List.set_cons_succ, List.getElem_toArray, List.getElem_cons_succ, List.getElem_cons_zero]
      refine wpAnyH_ready (rs := [8]) (by kernel_rfl) (by simp) ?_
      refine AllReadyH.cons rfl (fun K hK => ?_) AllReadyH.nil
      go_simp
      refine (Q5.out _).mono ?_
      rintro e w5 ⟨rfl, hb5⟩
      have hb5' : Below w3.heap.size w3 w5 := Below.step (Below.refl _ _).drew hb5
      refine hK.out _ _ (HS.out _ hb5') (fun hHeld => ?_)
      clear hK K
      try simp only [Act.put, List.setIfInBounds_toArray, List.set_cons_zero, List.set_cons_succ, List.getElem_toArray, List.getElem_cons_succ, List.getElem_cons_zero]
      refine wpAnyH_take (i := 9) (v := ?_) rfl (by kernel_rfl) (by kernel_rfl) (by kernel_rfl) (fun _ _ _ h => h) (Or.inl ⟨by rfl, ?_⟩) (by assumption) ?_
      rotate_left
      · (intro w9 hSw; (try dsimp only at hSw); go_simp; try with_reducible rfl)
      try simp only [Act.put, List.setIfInBounds_toArray, List.set_cons_zero, List.set_cons_succ, List.getElem_toArray, List.getElem_cons_succ, List.getElem_cons_zero]
      refine wpAnyH_ready (rs := [10]) (by kernel_rfl) (by simp) ?_
      refine AllReadyH.cons rfl (fun K hK => ?_) AllReadyH.nil
      rw [if_pos (by rfl)]
      refine wp_store_mid 32 _ _ rfl w.heap.size 0 #[.pointer none, .pointer (some ⟨g, 0, none⟩)] rfl rfl hHeld.2.2 (by kernel_rfl) (by simp [Value.oneCell']) ?_
      refine hK.out _ _ (keepM hHeld HNE.out) (fun hHeld2 => ?_)
      clear hK K
      try simp only [Act.put, List.setIfInBounds_toArray, List.set_cons_zero, List.set_cons_succ, List.getElem_toArray, List.getElem_cons_succ, List.getElem_cons_zero]
      refine wpAnyH_take (i := 11) (v := ?_) rfl (by kernel_rfl) (by kernel_rfl) (by kernel_rfl) (fun _ _ _ h => h) (Or.inl ⟨by rfl, ?_⟩) (by assumption) ?_
      rotate_left
      · (intro w9 hSw; (try dsimp only at hSw); go_simp; try with_reducible rfl)
      try simp only [Act.put, List.setIfInBounds_toArray, List.set_cons_zero, List.set_cons_succ, List.getElem_toArray, List.getElem_cons_succ, List.getElem_cons_zero]
      refine wpAnyH_done (by kernel_rfl) ?_ _
      refine noPanic_norm ?_
      have hgs : w5.grownBy (w5.setCells w.heap.size 0 [.pointer none, .pointer (some ⟨g, 0, none⟩)]) (some w.heap.size) := by
        have b := Lib.below_setCells_w (Nat.le_refl w.heap.size) [.pointer none, .pointer (some ⟨g, 0, none⟩)] 0 w5
        exact ⟨b.os, b.tape, b.output, b.size, fun k hk hne => World.heap_setCells_other _ _ _ _ hk (fun e => hne (by rw [e]))⟩
      have hmx := H2.out.2 _ (.step (.keep (.keep (.refl _) HB3.out) hb5') (by have := HB0.out.2.2; have := HR.out.1.size; omega) hgs)
      have hbb := (Below.step H23.out hb5').trans (Lib.below_setCells_w (Nat.le_refl w.heap.size) [.pointer none, .pointer (some ⟨g, 0, none⟩)] 0 w5)
      have hmx2 := hmx.congr (M' := fun i j => (own hp) (es.getD (i * n + j) 0)) (fun i j hi hj => by
        rw [padN_get]
        rw [HN.out]
        have : (i + 1) * n ≤ n * n := Nat.mul_le_mul_right _ hi
        rw [Nat.succ_mul] at this
        omega)
      have HF := hide (And.intro hmx2 (And.intro hbb hHeld.2.2))
      clear hmx hmx2 hbb hgs hb5 hb5' hHeld hHeld2
      go_wp2_with fail
      try simp only [Act.put, List.setIfInBounds_toArray, List.set_cons_zero, List.set_cons_succ, List.getElem_toArray, List.getElem_cons_succ, List.getElem_cons_zero]
      refine bodyPost_ret (v := .tuple #[.agg #[.pointer none, .pointer (some ⟨g, 0, none⟩)], .bool true]) ?_ ?_ ⟨g, rfl, HF.out.1, HF.out.2.1⟩
      · refine (res_mid_tmp rfl _ _ w.heap.size [.pointer none, .pointer (some ⟨g, 0, none⟩)] _ ?_ (World.rangeAt_setCells_same _ _ _ _ HF.out.2.2) Tryz.underlying32 rfl (by kernel_rfl)).trans ?_
        · kernel_rfl
        · kernel_rfl
      · rfl
end
end Go.Proofs.YtoaaplngdomdcaaGreat.MV

/- The statements' field and awake. -/
namespace Go.Proofs.YtoaaplngdomdcaaGreat
open Go.RowKit MV


theorem field_zero (w : World) : Calls Tryz.prog 7 #[.int .u32 0] w fun e w' => e = .returned (.tuple #[.pointer none, .bool true]) ∧ w = w' := by
  go_enter Tryz.func7, Tryz.ntmps7
  go_wp2
  go_ret2
  exact ⟨rfl, rfl⟩
theorem field_no (p : Nat) (w : World) (hp2 : (p : Int) ≤ 4294967295) (h0 : 1 ≤ p) (h : primeR p = false) : Calls Tryz.prog 7 #[.int .u32 (p : Int)] w fun e w' => e = .returned (.tuple #[.pointer none, .bool false]) ∧ w = w' := by
  have q := newmod_no p w hp2 h
  have i0 : ¬ (p : Int) = 0 := by omega
  clear h
  go_enter Tryz.func7, Tryz.ntmps7
  go_wp2_with fail
  refine q.mono ?_
  rintro e w' ⟨rfl, rfl⟩
  go_wp2
  go_ret2
  exact ⟨rfl, rfl⟩
theorem field_yes (p : Nat) (w : World) (h : primeR p = true) : Calls Tryz.prog 7 #[.int .u32 (p : Int)] w fun e w' => ∃ g, e = .returned (.tuple #[.pointer (some ⟨g, 0, none⟩), .bool true]) ∧ Fk p g w' ∧ Below w.heap.size w w' := by
  have q := newmod_yes p w h
  have hx : PrimeN p ∧ p ≤ 2147483648 := by
    unfold primeR at h
    simp at h
    exact ⟨primeB_iff.1 h.1, h.2⟩
  have i0 : ¬ (p : Int) = 0 := by have := hx.1.1; omega
  have HX := hide hx
  clear h hx
  go_enter Tryz.func7, Tryz.ntmps7
  go_wp2_with fail
  refine q.mono ?_
  rintro e w' ⟨g, rfl, hm, hb⟩
  have HM := hide (And.intro hm hb)
  clear hm hb q
  go_wp2
  go_ret2
  exact ⟨g, rfl, ⟨HX.out.1, HX.out.2, HM.out.1⟩, HM.out.2⟩
/-- The example's matrix. -/
abbrev ex7 : Nat → Nat → Fin 7 := fun i j => own (by decide) ([1, 2, 3, 4].getD (i * 2 + j) 0)
theorem ex7_rank : (Fp 7 (by decide)).rank 2 ex7 = 2 := by decide +kernel
theorem ex7_inv : (Fp 7 (by decide)).invM 2 ex7 0 0 = 5 ∧ (Fp 7 (by decide)).invM 2 ex7 0 1 = 1 ∧ (Fp 7 (by decide)).invM 2 ex7 1 0 = 5 ∧ (Fp 7 (by decide)).invM 2 ex7 1 1 = 3 := by decide +kernel

theorem seven : PrimeN 7 := by
  refine ⟨by omega, fun e h1 h2 => ?_⟩
  have h3 : e < 3 := by
    rcases Nat.lt_or_ge e 3 with h | h
    · exact h
    · have := Nat.mul_le_mul h h; omega
  have h4 : e = 2 := by omega
  subst h4
  decide
theorem Blk.ny {w : World} {g : Nat} {e : TypeId} {cs : Array Value} (h : Blk w g e cs) (l : List Nat) (hc : cs.toList = ncells .u32 l) (hl : l.length ≤ maxLen) : Ny w .u32 (.slice (some ⟨g, 0, none⟩) l.length l.length) l := by
  refine ⟨by simp, some ⟨g, 0, none⟩, l.length, rfl, Nat.le_refl _, hl, fun _ => ⟨g, 0, rfl, h.lt, fun j _ => ?_⟩⟩
  rw [Nat.zero_add, h.cell, ← Array.getElem?_toList, hc]
theorem at7 (x : Nat) (w : World) (i j : Nat) (v : Fin 7) {gm : Nat} {M : Nat → Nat → Fin 7} (h : Mtx gm w x 2 2 M) (hi : i < 2) (hj : j < 2) (hv : M i j = v) :
    Calls Tryz.prog 14 #[.agg #[.pointer none, .pointer (some ⟨x, 0, none⟩)], .int .i64 (i : Int), .int .i64 (j : Int)] w fun e w' => e = .returned (.tuple #[.int .u32 ((Fin.val v : Nat) : Int), .int .i64 0]) ∧ Below w.heap.size w w' := by
  have q := mat_at_c x i j h hi hj
  rw [hv] at q
  exact q
set_option maxRecDepth 100000 in
set_option maxHeartbeats 4000000 in
theorem awakem_any (w : World) : Calls Tryz.prog 6 #[] w fun e w' => e = .returned (.bool true) ∧ Below w.heap.size w w' := by
  have q : Calls Tryz.prog 7 #[.int .u32 7] w _ := field_yes 7 w (primeR_true seven (by omega))
  go_enter Tryz.func6, Tryz.ntmps6
  go_wp2_with fail
  refine q.mono ?_
  rintro e w1 ⟨gm, rfl, hk, b1⟩
  have B1 := hide b1
  have HK := hide hk
  clear q b1 hk
  go_wp2_with fail
  have n2 := Blk.new w1 22 #[.int .u32 1, .int .u32 2, .int .u32 3, .int .u32 4]
  have b2 := (Below.refl w1.heap.size w1).alloc (Nat.le_refl _) (.cells #[.int .u32 1, .int .u32 2, .int .u32 3, .int .u32 4] 22)
  have q2 : Calls Tryz.prog 9 #[.int .u32 7, .pointer (some ⟨gm, 0, none⟩), .int .i64 2, .slice (some ⟨w1.heap.size, 0, none⟩) 4 4] (w1.alloc (.cells #[.int .u32 1, .int .u32 2, .int .u32 3, .int .u32 4] 22)) _ := square_c (p := 7) (hp := by decide) 2 _ [1, 2, 3, 4] _ (HK.out.below b2) (by omega) (n2.ny [1, 2, 3, 4] rfl (by simp [maxLen])) (fun i x h => by have := List.mem_of_getElem? h; simp at this; omega) (by omega)
  have B2 := hide (Below.step B1.out b2)
  have HB2 := hide b2
  clear n2 b2
  refine q2.mono ?_
  rintro e w3 ⟨g, rfl, hmx, b3⟩
  have B3 := hide (Below.step B2.out b3)
  have B2' := hide (Below.step HB2.out b3)
  have HM := hide hmx
  clear q2 b3 hmx
  go_wp2_with ((with_reducible change wpList _ _ _ (⟨none, .store _ (.tmp 3) _, _, _, _, _⟩ :: _) _ _); go_loud (refine wpList_store_row (o := ⟨none, .store _ (.tmp 3) _, _, _, _, _⟩) (Blk.new w3 _ _) #[.pointer none, .pointer (some ⟨g, 0, none⟩)] rfl (by simp [Value.oneCell']) rfl 32 _ _ rfl (by kernel_rfl) rfl rfl ?_; intro w4 hw4 gw4; have c0 : w4.cell? ⟨w3.heap.size, 0, none⟩ = some (.pointer none) := (by rw [hw4.cell]; rfl); have c1 : w4.cell? ⟨w3.heap.size, 1, none⟩ = some (.pointer (some ⟨g, 0, none⟩)) := (by rw [hw4.cell]; rfl)))
  have B4 := hide (Below.step B3.out (((Below.refl _ w3).alloc (Nat.le_refl _) _).grown gw4 (by simp) (fun k hk => by cases hk; exact Nat.le_refl _)))
  have b34 : Below w3.heap.size w3 w4 := ((Below.refl _ w3).alloc (Nat.le_refl _) _).grown gw4 (by simp) (fun k hk => by cases hk; exact Nat.le_refl _)
  have q4 := minv_c (hp := by decide) (HM.out.below b34) ((HK.out.below (Below.step B2'.out b34))) (by omega)
  clear hw4 gw4 b34
  refine q4.mono ?_
  rintro e w5 ⟨b5, ⟨hr, x, rfl, hx⟩ | ⟨hr, rfl⟩⟩
  · have B5 := hide (Below.step B4.out b5)
    have HX := hide hx
    clear q4 hr b5 hx c0 c1
    go_wp2_with ((with_reducible change wpList _ _ _ (⟨none, .store _ (.tmp 4) _, _, _, _, _⟩ :: _) _ _); go_loud (refine wpList_store_row (o := ⟨none, .store _ (.tmp 4) _, _, _, _, _⟩) (Blk.new w5 _ _) #[.pointer none, .pointer (some ⟨x, 0, none⟩)] rfl (by simp [Value.oneCell']) rfl 32 _ _ rfl (by kernel_rfl) rfl rfl ?_; intro w6 hw6 gw6; have d0 : w6.cell? ⟨w5.heap.size, 0, none⟩ = some (.pointer none) := (by rw [hw6.cell]; rfl); have d1 : w6.cell? ⟨w5.heap.size, 1, none⟩ = some (.pointer (some ⟨x, 0, none⟩)) := (by rw [hw6.cell]; rfl)))
    have b56 : Below w5.heap.size w5 w6 := ((Below.refl _ w5).alloc (Nat.le_refl _) _).grown gw6 (by simp) (fun k hk => by cases hk; exact Nat.le_refl _)
    have B6 := hide (Below.step B5.out b56)
    have hx6 := HX.out.below b56
    have HY : Hid (∀ W, Below w6.heap.size w6 W → W.cell? ⟨w5.heap.size, 0, none⟩ = some (.pointer none) ∧ W.cell? ⟨w5.heap.size, 1, none⟩ = some (.pointer (some ⟨x, 0, none⟩)) ∧ Mtx gm W x 2 2 ((Fp 7 (by decide)).invM 2 ex7)) := fun W hW => ⟨by rw [(hw6.below' hW).cell]; rfl, by rw [(hw6.below' hW).cell]; rfl, hx6.below hW⟩
    obtain ⟨G, hG⟩ : ∃ G, G = w5.heap.size := ⟨_, rfl⟩
    rw [← hG] at d0 d1 HY ⊢
    clear hw6 gw6 b56 hx6 hG
    refine (there_c x w6).mono ?_
    rintro e w7 ⟨rfl, b7⟩
    have B7 := hide b7
    clear b7 d0 d1
    obtain ⟨d0, d1, _⟩ := HY.out w7 B7.out
    go_wp2_with fail
    refine (at7 x w7 0 0 5 (HY.out _ B7.out).2.2 (by omega) (by omega) ex7_inv.1).mono ?_
    rintro e w8 ⟨rfl, bw8⟩
    have B8 := hide (Below.step B7.out bw8)
    clear bw8 d0 d1
    obtain ⟨d0, d1, _⟩ := HY.out w8 B8.out
    go_wp2_with fail
    refine (at7 x w8 0 1 1 (HY.out _ B8.out).2.2 (by omega) (by omega) ex7_inv.2.1).mono ?_
    rintro e w9 ⟨rfl, bw9⟩
    have B9 := hide (Below.step B8.out bw9)
    clear bw9 d0 d1
    obtain ⟨d0, d1, _⟩ := HY.out w9 B9.out
    go_wp2_with fail
    refine (at7 x w9 1 0 5 (HY.out _ B9.out).2.2 (by omega) (by omega) ex7_inv.2.2.1).mono ?_
    rintro e w10 ⟨rfl, bw10⟩
    have B10 := hide (Below.step B9.out bw10)
    clear bw10 d0 d1
    obtain ⟨d0, d1, _⟩ := HY.out w10 B10.out
    go_wp2_with fail
    refine (at7 x w10 1 1 3 (HY.out _ B10.out).2.2 (by omega) (by omega) ex7_inv.2.2.2).mono ?_
    rintro e w11 ⟨rfl, bw11⟩
    have B11 := hide (Below.step B10.out bw11)
    clear bw11 d0 d1
    obtain ⟨d0, d1, _⟩ := HY.out w11 B11.out
    go_wp2
    go_ret
    exact ⟨rfl, Below.step B6.out B11.out⟩
  · exact absurd ex7_rank hr
end Go.Proofs.YtoaaplngdomdcaaGreat

/- Matrices of words: Rank. -/
namespace Go.Proofs.YtoaaplngdomdcaaGreat.MV
open Go.RowKit
section
variable {p gm : Nat} {hp : 0 < p}
variable {w : World} {base g n m : Nat} {M : Nat → Nat → (Fin p)}

theorem rank1_c (i : Nat) (w : World) (N : Nat → Nat → (Fin p)) : Calls Tryz.prog 98 #[.int .i64 (i : Int)] w fun x w' => ∃ v, x = .returned v ∧ Sl w' 1 v 0 (rcells en (N i) 0) ∧ Below w.heap.size w w' := by
  go_enter Tryz.func98, Tryz.ntmps98
  go_wp2
  go_ret
  exact ⟨_, rfl, Sl.nil _ _, Below.refl _ _⟩
set_option maxRecDepth 100000 in
set_option maxHeartbeats 4000000 in
theorem rank_c (h : Mtx gm w g n m M) (hk : (Fk p gm) w) (hn : 1 ≤ n ∧ n ≤ 256) (hm : 1 ≤ m ∧ m ≤ 256) :
    Calls Tryz.prog 41 #[.pointer (some ⟨g, 0, none⟩)] w fun e w' => e = .returned (.int .i64 (((Fp p hp).red n (Fd.beside m M fun _ _ => (Fp p hp).zero) m).2 : Int)) ∧ Below w.heap.size w w' := by
  have q1 := made_c h
  obtain ⟨_, _, c0, _⟩ := Mt.form h
  have HH := hide (And.intro h (And.intro hk (And.intro hn hm)))
  have Q5 : Hid (∀ W, Dr w W → Calls Tryz.prog 93 #[.pointer (some ⟨g, 0, none⟩), .func (.func 98) #[] #[]] W fun x w' => ∃ gr cap, x = .returned (.slice (some ⟨gr, 0, none⟩) n cap) ∧ (Gr w' w.heap.size gr n m (Fd.beside m M fun _ _ => (Fp p hp).zero) ∧ n ≤ cap ∧ cap ≤ maxLen) ∧ Below w.heap.size w w') := hide (fun W hW => by
    obtain ⟨k, rfl⟩ := hW
    refine (beside_c (HH.out.1.below (below_drewN (Below.refl _ _) k)) HH.out.2.2.1.2 (by have := HH.out.2.2.2; omega) 0 (by omega) (fun _ _ => (Fp p hp).zero) 98 #[] (enters_of Tryz.func98 (by kernel_rfl) rfl) (fun i w' _ _ => rank1_c i w' (fun _ _ => (Fp p hp).zero))).mono ?_
    rintro x w' ⟨v, rfl, hgo, hb⟩
    obtain ⟨gr, cap, rfl, hnc, hcm, hgr⟩ := hgo.grid (by have := HH.out.2.2.1; omega)
    exact ⟨gr, cap, rfl, ⟨hgr, hnc, hcm⟩, (below_drewN (Below.refl _ _) k).trans hb⟩)
  have Q4 : Hid (∀ W, Below w.heap.size w W → Calls Tryz.prog 40 #[.pointer (some ⟨g, 0, none⟩)] W fun e w' => e = .returned (.int .i64 (m : Int)) ∧ W = w') := fun W hb => cols_c (HH.out.1.below hb) (by have := HH.out.2.2.1; omega)
  have HS : Hid (∀ W, Below w.heap.size w W → W.cell? ⟨g, 0, none⟩ = some (modF gm)) := fun W hb => (hb.cell (World.block_lt_of_cell? _ _ c0)).trans c0
  have Q6 : Hid (∀ w2 W gr cap, Below w.heap.size w w2 → Dr w2 W → (Gr w2 w.heap.size gr n m (Fd.beside m M fun _ _ => (Fp p hp).zero) ∧ n ≤ cap ∧ cap ≤ maxLen) → Calls Tryz.prog 95 #[(modF gm), .slice (some ⟨gr, 0, none⟩) n cap, .int .i64 (m : Int)] W fun e w' => e = .returned (.int .i64 (((Fp p hp).red n (Fd.beside m M fun _ _ => (Fp p hp).zero) m).2 : Int)) ∧ Below w.heap.size w w') := hide (fun w2 W gr cap h2 hW hgr => by
    have hb := h2.trans (hW.below.mono h2.size)
    refine (reduced_c (hp := hp) cap m (hgr.1.below hW.below) (HH.out.2.1.below hb) (lo_of HH.out.2.1 (Nat.le_refl _)) (Nat.le_refl _) HH.out.2.2.1.2 (by have := HH.out.2.2.2; omega) hb.size hgr.2).mono fun e w' ⟨a, _, c, _⟩ => ⟨a, hb.trans c⟩)
  generalize ((Fp p hp).red n (Fd.beside m M fun _ _ => (Fp p hp).zero) m).2 = z at *
  clear h hk hn hm
  go_enter Tryz.func41, Tryz.ntmps41
  go_wp2_with fail
  refine q1.mono ?_
  rintro e w' ⟨rfl, rfl⟩
  clear q1
  go_wp2_with fail
  go_region_held3 (fun w' => w'.cell? ⟨g, 0, none⟩ = some (modF gm)) (first | go_keep | exact HS.out _ (by assumption) | exact HS.out _ (Below.drew (by assumption)) | exact HS.out _ (Below.drew (Below.refl _ _)))
    (first
      | (go_at_call 40; (with_reducible refine (Q4.out _ ?bb).mono ?_); (case bb => (first | assumption | (repeat (first | with_reducible exact Below.refl _ _ | with_reducible assumption | with_reducible refine Below.drew ?_)))); rintro e w2 ⟨rfl, rfl⟩)
      | (go_at_call 93; (with_reducible refine (Q5.out _ ?bb).mono ?_); (case bb => first | exact ⟨0, rfl⟩ | exact ⟨1, rfl⟩ | exact ⟨2, rfl⟩); rintro e w3 ⟨gr, cap, rfl, hgr, hb3⟩; have HGR := hide hgr; clear hgr)
      | (go_at_call 95; (with_reducible refine (Q6.out w3 _ _ _ hb3 ?bb HGR.out).mono ?_); (case bb => first | exact ⟨0, rfl⟩ | exact ⟨1, rfl⟩ | exact ⟨2, rfl⟩); rintro e w4 ⟨rfl, hb4⟩))
  all_goals go_wp2
  all_goals go_ret
  all_goals exact ⟨rfl, hb4⟩
end
end Go.Proofs.YtoaaplngdomdcaaGreat.MV

/- What the statements call a matrix, over words: sizes. -/
namespace Go.Proofs.YtoaaplngdomdcaaGreat.MV
open Go.RowKit
section
variable {p gm : Nat} {hp : 0 < p}
variable {w : World} {base g n m : Nat} {M : Nat → Nat → (Fin p)}

set_option maxRecDepth 100000 in
set_option maxHeartbeats 4000000 in
theorem sizes_c (x : Nat) (h : Mtx gm w x n n M) (hk : (Fk p gm) w) (hn : 1 ≤ n ∧ n ≤ 256) :
    Calls Tryz.prog 13 #[.agg #[.pointer none, .pointer (some ⟨x, 0, none⟩)]] w fun e w' => e = .returned (.tuple #[.int .i64 (n : Int), .int .i64 (n : Int), .int .i64 ((Fp p hp).rank n M : Int)]) ∧ Below w.heap.size w w' := by
  have b1 := (Below.refl w.heap.size w).alloc (Nat.le_refl _) (.cells #[.pointer none, .pointer (some ⟨x, 0, none⟩)] 32)
  have n1 := Blk.new w 32 #[.pointer none, .pointer (some ⟨x, 0, none⟩)]
  have HH := hide (And.intro (h.below b1) (And.intro (hk.below b1) hn))
  generalize hW : w.alloc (.cells #[.pointer none, .pointer (some ⟨x, 0, none⟩)] 32) = W1 at n1 b1 HH
  have HS : Hid (∀ W, Below W1.heap.size W1 W → W.cell? ⟨w.heap.size, 0, none⟩ = some (.pointer none) ∧ W.cell? ⟨w.heap.size, 1, none⟩ = some (.pointer (some ⟨x, 0, none⟩))) := fun W hb => ⟨by rw [(n1.below' hb).cell]; rfl, by rw [(n1.below' hb).cell]; rfl⟩
  have Q1 : Hid (∀ W, Below W1.heap.size W1 W → Calls Tryz.prog 39 #[.pointer (some ⟨x, 0, none⟩)] W fun e w' => e = .returned (.int .i64 (n : Int)) ∧ W = w') := fun W hb => rows_c (HH.out.1.below hb)
  have Q2 : Hid (∀ W, Below W1.heap.size W1 W → Calls Tryz.prog 40 #[.pointer (some ⟨x, 0, none⟩)] W fun e w' => e = .returned (.int .i64 (n : Int)) ∧ W = w') := fun W hb => cols_c (HH.out.1.below hb) (by have := HH.out.2.2; omega)
  have Q3 : Hid (∀ W, Below W1.heap.size W1 W → Calls Tryz.prog 41 #[.pointer (some ⟨x, 0, none⟩)] W fun e w' => e = .returned (.int .i64 ((Fp p hp).rank n M : Int)) ∧ Below W1.heap.size W1 w') := hide (fun W hb => by
    have q := rank_c (hp := hp) (HH.out.1.below hb) (HH.out.2.1.below hb) HH.out.2.2 HH.out.2.2
    rw [Fd.rank_beside] at q
    exact q.mono fun e w' ⟨a, b⟩ => ⟨a, Below.step hb b⟩)
  generalize (Fp p hp).rank n M = z at *
  have HB := hide b1
  obtain ⟨c0, c1⟩ := HS.out W1 (Below.refl _ _)
  clear h hk hn b1 n1
  go_enter Tryz.func13, Tryz.ntmps13
  go_wp2_with fail
  go_region_held3 (fun w' => w'.cell? ⟨w.heap.size, 0, none⟩ = some (.pointer none) ∧ w'.cell? ⟨w.heap.size, 1, none⟩ = some (.pointer (some ⟨x, 0, none⟩))) (first | go_keep | exact HS.out _ (by assumption) | exact HS.out _ (Below.drew (by assumption)) | exact HS.out _ (Below.drew (Below.refl _ _)))
    (first
      | (go_at_call 39; (with_reducible refine (Q1.out _ ?bb).mono ?_); (case bb => (first | assumption | (repeat (first | with_reducible exact Below.refl _ _ | with_reducible assumption | with_reducible refine Below.drew ?_)))); rintro e w2 ⟨rfl, rfl⟩)
      | (go_at_call 40; (with_reducible refine (Q2.out _ ?bb).mono ?_); (case bb => (first | assumption | (repeat (first | with_reducible exact Below.refl _ _ | with_reducible assumption | with_reducible refine Below.drew ?_)))); rintro e w3 ⟨rfl, rfl⟩)
      | (go_at_call 41; (with_reducible refine (Q3.out _ ?bb).mono ?_); (case bb => (first | assumption | (repeat (first | with_reducible exact Below.refl _ _ | with_reducible assumption | with_reducible refine Below.drew ?_)))); rintro e w4 ⟨rfl, hb4⟩))
  all_goals go_wp2
  all_goals refine bodyPost_ret (v := .tuple #[.int .i64 (n : Int), .int .i64 (n : Int), .int .i64 (z : Int)]) (by simp [results, Tryz.results13, go_sem]) rfl ⟨rfl, Below.step HB.out hb4⟩
end
end Go.Proofs.YtoaaplngdomdcaaGreat.MV

/- Matrices of words: Times. -/
namespace Go.Proofs.YtoaaplngdomdcaaGreat.MV
open Go.RowKit
section
variable {p gm : Nat} {hp : 0 < p}
variable {w : World} {base g n m : Nat} {M : Nat → Nat → (Fin p)}

theorem row_mono {w : World} {b b' : Nat} {e : TypeId} {sz : Nat} {v : Value} {n : Nat} {xs : List Value} (h : w.ownsRow b e sz v n xs) (hb : b' ≤ b) : w.ownsRow b' e sz v n xs := by
  obtain ⟨h1, h2 | ⟨g, cap, cur, hv, hg, hr⟩⟩ := h
  · exact ⟨h1, .inl h2⟩
  · exact ⟨h1, .inr ⟨g, cap, cur, hv, Nat.le_trans hb hg, hr⟩⟩
theorem rcells_snoc (r : Nat → (Fin p)) (k : Nat) : rcells en r (k + 1) = rcells en r k ++ [en (r k)] := by simp [rcells, List.range_succ]
set_option maxHeartbeats 800000 in
theorem times1_c (b k : Nat) (v : Value) (y : Nat → (Fin p)) (hv : Sl w 1 v m (rcells en y m)) (hk : k < m) (hm : m ≤ 4096) (c1 : w.cell? ⟨b, 0, none⟩ = some v) :
    Calls Tryz.prog 113 #[.int .i64 (k : Int), .pointer (some ⟨b, 0, none⟩)] w fun e w' => e = .returned (.int .u32 ((Fin.val (y k) : Nat) : Int)) ∧ Below w.heap.size w w' := by
  obtain ⟨A, c, rfl, h1, h2, h3⟩ := hv.form
  obtain ⟨bb, o, rfl, hlt, hc⟩ := h3 (by omega)
  have hcx : w.cell? ⟨bb, o + k, none⟩ = some (.int .u32 ((Fin.val (y k) : Nat) : Int)) := by rw [hc k (by omega), rcells_get hk]; rfl
  generalize y k = z at *
  have i1 : (k : Int) < (m : Int) := by omega
  have i2 : (0 : Int) ≤ (k : Int) := by omega
  clear hv h3 hc
  go_enter Tryz.func113, Tryz.ntmps113
  go_wp2
  go_ret
  exact ⟨rfl, Below.refl _ _⟩
set_option maxRecDepth 100000 in
set_option maxHeartbeats 4000000 in
theorem times_c (h : Mtx gm w g n m M) (hk : (Fk p gm) w) (hn : 1 ≤ n ∧ n ≤ 256) (hm : m ≤ 4096) (v : Value) (y : Nat → (Fin p)) (hv : Sl w 1 v m (rcells en y m)) :
    Calls Tryz.prog 60 #[.pointer (some ⟨g, 0, none⟩), v] w fun e w' => ∃ u, e = .returned (.tuple #[u, .int .i64 0]) ∧ w'.ownsRow w.heap.size 22 1 u n (rcells en (fun i => (Fp p hp).dot m (M i) y) n) ∧ Below w.heap.size w w' := by
  obtain ⟨A, c, rfl, hlc, hcm, _⟩ := hv.form
  have HH := hide (And.intro h (And.intro hk (And.intro hn (And.intro hm hv))))
  have n1 := Blk.new w 23 #[.slice A m c]
  have b1 := (Below.refl w.heap.size w).alloc (Nat.le_refl _) (.cells #[.slice A m c] 23)
  generalize hW : w.alloc (.cells #[.slice A m c] 23) = W1 at n1 b1
  have q1 := made_c (h.below b1)
  have HX : Hid (∀ W, Below W1.heap.size W1 W → Mtx gm W g n m M ∧ (Fk p gm) W ∧ Sl W 1 (.slice A m c) m (rcells en y m) ∧ W.cell? ⟨w.heap.size, 0, none⟩ = some (.slice A m c)) := fun W hb => ⟨(HH.out.1.below b1).below hb, (HH.out.2.1.below b1).below hb, (HH.out.2.2.2.2.below b1).below hb, by rw [(n1.below' hb).cell]; rfl⟩
  have HB := hide b1
  obtain ⟨R, c3, _, r1, r2, r3, _⟩ := Mt.form (h.below b1)
  have hne : ((m : Int) != (m : Int)) = false := by simp
  have ct := (HX.out W1 (Below.refl _ _)).2.2.2
  have Q4 : Hid (∀ W, Below W1.heap.size W1 W → Calls Tryz.prog 40 #[.pointer (some ⟨g, 0, none⟩)] W fun e w' => e = .returned (.int .i64 (m : Int)) ∧ W = w') := fun W hb => cols_c (HX.out W hb).1 (by have := HH.out.2.2.1; omega)
  clear h hk hn hm hv n1 b1
  go_enter Tryz.func60, Tryz.ntmps60
  go_wp2_with fail
  refine q1.mono ?_
  rintro e w' ⟨rfl, rfl⟩
  clear q1
  go_wp2_with fail
  go_region_held3 (fun w' => w'.cell? ⟨w.heap.size, 0, none⟩ = some (.slice A m c)) (go_keep)
    (first | (go_at_call 40; (with_reducible refine (Q4.out _ ?bb).mono ?_); (case bb => (repeat (first | with_reducible exact Below.refl _ _ | with_reducible refine Below.drew ?_))); rintro e w2 ⟨rfl, rfl⟩))
  have r1d : W1.drew.cell? ⟨g, 1, none⟩ = some (.slice R n c3) := r1
  go_wp2_with fail
  go_loopw [6, 7, 21] (fun u6 _ u21 wr => ∃ k : Nat, k ≤ n ∧ u21 = .int .i64 (k : Int) ∧ wr.ownsRow W1.heap.size 22 1 u6 k (rcells en (fun i => (Fp p hp).dot m (M i) y) k) ∧ Below W1.heap.size W1 wr) (fun _ _ u21 _ => n - (intOf u21).toNat)
  case atStart => exact ⟨0, by omega, rfl, World.ownsRow_nil _ _ _ _, (Below.refl _ _).drew⟩
  case round =>
    obtain ⟨k, hk, rfl, hown, hbel⟩ := hrel
    have HO := hide hown
    clear hown
    by_cases hlt : k < n
    · have i1 : (k : Int) < (n : Int) := by omega
      have i2 : (0 : Int) ≤ (k : Int) := by omega
      have q := dot_c (hp := hp) (HX.out wr hbel).1 (HX.out wr hbel).2.1 hlt HH.out.2.2.2.1 113 #[.pointer (some ⟨w.heap.size, 0, none⟩)] y (enters_of Tryz.func113 (by kernel_rfl) rfl)
        (fun t w' ht hb => times1_c w.heap.size t _ y ((HX.out wr hbel).2.2.1.below hb) ht HH.out.2.2.2.1 (HX.out w' (Below.step hbel hb)).2.2.2)
      have HS : Hid (rcells en (fun i => (Fp p hp).dot m (M i) y) (k + 1) = rcells en (fun i => (Fp p hp).dot m (M i) y) k ++ [en ((Fp p hp).dot m (M k) y)]) := hide (rcells_snoc _ k)
      have ho := HO.out
      generalize hz : (Fp p hp).dot m (M k) y = z at q HS
      clear hz
      go_wp2_with fail
      refine q.mono ?_
      rintro e w2 ⟨rfl, hb2⟩
      have HO2 := hide (own_below' ho hb2)
      have hbel2 := Below.step hbel hb2
      have hn256 := HH.out.2.2.1.2
      clear q ho HO hb2 hbel
      go_wp2_with (at_builtin; go_loud (refine wpList_push1 elemW HO2.out hbel2 hbel2.size (by unfold maxLen; omega) (by omega) (.int .u32 ((Fin.val z : Nat) : Int)) rfl rfl _ _ rfl rfl rfl ?_); intro v5 w5 ho5 hb5 _ _ _)
      go_roundw
      case rel => exact ⟨k + 1, by omega, by go_num, by rw [HS.out]; exact ho5, hb5⟩
      case measure => simp [intOf]; omega
    · have hkn : k = n := by omega
      subst hkn
      have HF := hide (Below.step HB.out hbel)
      go_wp2
      go_ret2
      exact ⟨_, rfl, row_mono HO.out HB.out.size, HF.out⟩
end
end Go.Proofs.YtoaaplngdomdcaaGreat.MV

/- Matrices of words: Solve. -/
namespace Go.Proofs.YtoaaplngdomdcaaGreat.MV
open Go.RowKit
section
variable {p gm : Nat} {hp : 0 < p}
variable {w : World} {base g n m : Nat} {M : Nat → Nat → (Fin p)}

set_option maxRecDepth 100000 in
set_option maxHeartbeats 4000000 in
theorem solve1_c (b1 b2 i : Nat) (v : Value) (y : Nat → (Fin p)) (h : Mtx gm w g n m M) (hk : (Fk p gm) w) (hv : Sl w 1 v n (rcells en y n)) (hi : i < n) (hn : n ≤ 256) (c1 : w.cell? ⟨b1, 0, none⟩ = some (.pointer (some ⟨g, 0, none⟩))) (c2 : w.cell? ⟨b2, 0, none⟩ = some v) :
    Calls Tryz.prog 101 #[.int .i64 (i : Int), .pointer (some ⟨b1, 0, none⟩), .pointer (some ⟨b2, 0, none⟩)] w fun x w' => ∃ u, x = .returned u ∧ Sl w' 1 u 1 (rcells en (fun _ => (Fp p hp).add (y i) (Fp p hp).zero) 1) ∧ Below w.heap.size w w' := by
  obtain ⟨A, c, rfl, h1, h2, h3⟩ := hv.form
  obtain ⟨bb, o, rfl, hlt, hc⟩ := h3 (by omega)
  have hcx : w.cell? ⟨bb, o + i, none⟩ = some (.int .u32 ((Fin.val (y i) : Nat) : Int)) := by rw [hc i (by omega), rcells_get hi]; rfl
  generalize y i = z at *
  have i1 : (i : Int) < (n : Int) := by omega
  have i2 : (0 : Int) ≤ (i : Int) := by omega
  obtain ⟨_, _, c0, _⟩ := Mt.form h
  have m1 := meth_zero (gm := gm)
  have m2 := meth_add (gm := gm)
  have m3 := ahead_add (gm := gm)
  have HK := hide hk
  have HS : Hid (∀ W, Below w.heap.size w W → W.cell? ⟨b1, 0, none⟩ = some (.pointer (some ⟨g, 0, none⟩)) ∧ W.cell? ⟨b2, 0, none⟩ = some (.slice (some ⟨bb, o, none⟩) n c) ∧ W.cell? ⟨g, 0, none⟩ = some (modF gm) ∧ W.cell? ⟨bb, o + i, none⟩ = some (.int .u32 ((Fin.val z : Nat) : Int))) := fun W hW => ⟨(hW.cell (World.block_lt_of_cell? _ _ c1)).trans c1, (hW.cell (World.block_lt_of_cell? _ _ c2)).trans c2, (hW.cell (World.block_lt_of_cell? _ _ c0)).trans c0, (hW.cell (World.block_lt_of_cell? _ _ hcx)).trans hcx⟩
  have Q1 : Hid (∀ W, Below w.heap.size w W → Calls Tryz.prog 165 #[(.pointer (some ⟨gm, 0, none⟩))] W fun e w'' => e = .returned (.int .u32 ((Fin.val ((Fp p hp).zero) : Nat) : Int)) ∧ Below w.heap.size w w'') := fun W hW =>
    (fzero_c (hp := hp) W (HK.out.below hW)).mono fun e w'' ⟨a, b⟩ => ⟨a, by subst b; first | exact hW | exact hW.alloc hW.size _⟩
  have Q2 : Hid (∀ W, Below w.heap.size w W → Calls Tryz.prog 22 #[(.pointer (some ⟨gm, 0, none⟩)), .int .u32 ((Fin.val z : Nat) : Int), .int .u32 ((Fin.val (Fp p hp).zero : Nat) : Int)] W fun e w'' => e = .returned (.int .u32 ((Fin.val ((Fp p hp).add z (Fp p hp).zero) : Nat) : Int)) ∧ Below w.heap.size w w'') := fun W hW =>
    (fadd_c (hp := hp) z _ W (HK.out.below hW)).mono fun e w'' ⟨a, b⟩ => ⟨a, by subst b; first | exact hW | exact hW.alloc hW.size _⟩
  have HR : Hid (∀ W (s : (Fin p)), Below w.heap.size w W → Sl (W.alloc (.cells #[.int .u32 ((Fin.val s : Nat) : Int)] 22)) 1 (.slice (some ⟨W.heap.size, 0, none⟩) 1 1) 1 (rcells en (fun _ => s) 1) ∧ Below w.heap.size w (W.alloc (.cells #[.int .u32 ((Fin.val s : Nat) : Int)] 22))) := fun W s hW => by
    have nb := Blk.new W 22 #[.int .u32 ((Fin.val s : Nat) : Int)]
    refine ⟨⟨by simp, some ⟨W.heap.size, 0, none⟩, 1, rfl, Nat.le_refl _, by simp [maxLen], fun _ => ⟨W.heap.size, 0, rfl, nb.lt, fun j hj => ?_⟩⟩, hW.alloc hW.size _⟩
    obtain rfl : j = 0 := by omega
    rw [Nat.zero_add, nb.cell, rcells_get (by omega)]
    rfl
  generalize (Fp p hp).add z (Fp p hp).zero = s at *
  generalize hz0 : ((Fp p hp).zero : (Fin p)) = z0 at *
  clear hz0 h hk hv h3 hc
  go_enter Tryz.func101, Tryz.ntmps101
  go_wp2_with fail
  go_region_held3 (fun w' => w'.cell? ⟨b1, 0, none⟩ = some (.pointer (some ⟨g, 0, none⟩)) ∧ w'.cell? ⟨b2, 0, none⟩ = some (.slice (some ⟨bb, o, none⟩) n c) ∧ w'.cell? ⟨g, 0, none⟩ = some (modF gm) ∧ w'.cell? ⟨bb, o + i, none⟩ = some (.int .u32 ((Fin.val z : Nat) : Int))) (first | go_keep | exact HS.out _ (by assumption) | exact HS.out _ (Below.drew (by assumption)) | exact HS.out _ (Below.drew (Below.refl _ _)) | exact HS.out _ (HR.out _ _ (by assumption)).2)
    (first
      | (go_at_call 165; (with_reducible refine (Q1.out _ ?bb).mono ?_); (case bb => (repeat (first | with_reducible exact Below.refl _ _ | with_reducible assumption | with_reducible refine Below.drew ?_))); rintro e w2 ⟨rfl, q2⟩)
      | (go_at_call 22; (with_reducible refine (Q2.out _ ?bb).mono ?_); (case bb => (repeat (first | with_reducible exact Below.refl _ _ | with_reducible assumption | with_reducible refine Below.drew ?_))); rintro e w3 ⟨rfl, q3⟩))
  all_goals go_wp2
  all_goals go_ret
  all_goals exact ⟨_, rfl, (HR.out _ s q3).1, (HR.out _ s q3).2⟩
set_option maxRecDepth 100000 in
set_option maxHeartbeats 4000000 in
theorem solve_c (h : Mtx gm w g n n M) (hk : (Fk p gm) w) (hn : 1 ≤ n ∧ n ≤ 256) (v : Value) (y : Nat → (Fin p)) (hv : Sl w 1 v n (rcells en y n)) :
    Calls Tryz.prog 52 #[.pointer (some ⟨g, 0, none⟩), v] w fun e w' => Below w.heap.size w w' ∧
      (((Fp p hp).rank n M = n ∧ ∃ u, e = .returned (.tuple #[u, .int .i64 0]) ∧ w'.ownsRow w.heap.size 22 1 u n (rcells en ((Fp p hp).sol n M y) n)) ∨ ((Fp p hp).rank n M ≠ n ∧ e = .returned (.tuple #[.slice none 0 0, .int .i64 71]))) := by
  obtain ⟨A, c, rfl, hlc, hcm, _⟩ := hv.form
  have HH := hide (And.intro h (And.intro hk (And.intro hn hv)))
  have n1 := (Blk.new w 30 #[.pointer (some ⟨g, 0, none⟩)]).alloc (.cells #[.slice A n c] 23)
  have n2 := Blk.new (w.alloc (.cells #[.pointer (some ⟨g, 0, none⟩)] 30)) 23 #[.slice A n c]
  have b1 := ((Below.refl w.heap.size w).alloc (Nat.le_refl _) (.cells #[.pointer (some ⟨g, 0, none⟩)] 30)).alloc (by simp) (.cells #[.slice A n c] 23)
  simp only [World.size_alloc] at n2
  generalize hW : (w.alloc (.cells #[.pointer (some ⟨g, 0, none⟩)] 30)).alloc (.cells #[.slice A n c] 23) = W1 at n1 n2 b1
  have HX : Hid (∀ W, Below W1.heap.size W1 W → Mtx gm W g n n M ∧ (Fk p gm) W ∧ Sl W 1 (.slice A n c) n (rcells en y n) ∧ W.cell? ⟨w.heap.size, 0, none⟩ = some (.pointer (some ⟨g, 0, none⟩)) ∧ W.cell? ⟨w.heap.size + 1, 0, none⟩ = some (.slice A n c) ∧ W.cell? ⟨g, 0, none⟩ = some (modF gm)) := fun W hb => by
    have e1 := (HH.out.1.below b1).below hb
    obtain ⟨_, _, c0, _⟩ := Mt.form e1
    exact ⟨e1, (HH.out.2.1.below b1).below hb, (HH.out.2.2.2.below b1).below hb, by rw [(n1.below' hb).cell]; rfl, by rw [(n2.below' hb).cell]; rfl, c0⟩
  have HB := hide b1
  have hne : ((n : Int) != (n : Int)) = false := by simp
  obtain ⟨x1, _, _, d1, d2, d3⟩ := HX.out W1 (Below.refl _ _)
  have q1 := made_c x1
  have q2 := rows_c x1
  have q3 := cols_c x1 (by omega)
  have q4 := beside_c x1 hn.2 (by omega) 1 (by omega) (fun i _ => (Fp p hp).add (y i) (Fp p hp).zero) 101 #[.pointer (some ⟨w.heap.size, 0, none⟩), .pointer (some ⟨w.heap.size + 1, 0, none⟩)] (enters_of Tryz.func101 (by kernel_rfl) rfl)
    (fun i w' hi hb => solve1_c w.heap.size (w.heap.size + 1) i (.slice A n c) y (HX.out w' hb).1 (HX.out w' hb).2.1 (HX.out w' hb).2.2.1 hi hn.2 (HX.out w' hb).2.2.2.1 (HX.out w' hb).2.2.2.2.1)
  have Q4 := hide q4
  clear h hk hn hv n1 n2 b1 x1 q4
  go_enter Tryz.func52, Tryz.ntmps52
  go_wp2_with fail
  refine q1.mono ?_
  rintro e w' ⟨rfl, rfl⟩
  go_wp2_with fail
  refine q2.mono ?_
  rintro e w' ⟨rfl, rfl⟩
  go_wp2_with fail
  refine q3.mono ?_
  rintro e w' ⟨rfl, rfl⟩
  clear q1 q2 q3
  go_wp2_with fail
  refine Q4.out.mono ?_
  rintro e w3 ⟨u, rfl, hgo, hb3⟩
  obtain ⟨gr, cap, rfl, hnc, hncm, hgr⟩ := hgo.grid (by have := HH.out.2.2.1; omega)
  obtain ⟨_, x2, _, f1, f2, f3⟩ := HX.out w3 hb3
  have q5 := reduced_c (hp := hp) cap n hgr x2 (lo_of (HX.out W1 (Below.refl _ _)).2.1 (Nat.le_refl _)) (by omega) HH.out.2.2.1.2 (by have := HH.out.2.2.1; omega) hb3.size ⟨hnc, hncm⟩
  rw [Fd.rank_beside] at q5
  have hrl : (Fp p hp).rank n M ≤ n := Fd.rank_le _ _
  obtain ⟨rk, hrk⟩ : ∃ rk, rk = (Fp p hp).rank n M := ⟨_, rfl⟩
  have HR := hide hrk
  rw [← hrk] at q5 hrl
  have H3 := hide (And.intro hb3 (And.intro hnc hncm))
  clear hgo hgr x2 Q4 hb3 hrk d1 d2 d3 hncm
  go_wp2_with fail
  refine q5.mono ?_
  rintro e w4 ⟨rfl, hg4, hb4, _⟩
  have HE := hide (Below.step HB.out (H3.out.1.trans hb4))
  have hcap4 := H3.out.2
  have HG := hide (Grid.rd hg4 hcap4.1 hcap4.2)
  clear q5 hg4 hcap4 f1 f2 f3
  by_cases hf : rk = n
  · subst hf
    have j0 : ¬ (rk : Int) < (rk : Int) := by omega
    have hn256 := HH.out.2.2.1.2
    have hsol : ∀ i, i < rk → ((Fp p hp).red rk (Fd.beside rk M fun i _ => (Fp p hp).add (y i) (Fp p hp).zero) rk).1 i rk = (Fp p hp).sol rk M y i := fun _ _ => rfl
    have HSO := hide hsol
    clear hsol hrl
    go_wp2_with fail
    go_loopw [8, 10, 40] (fun u8 _ u40 wr => ∃ k : Nat, k ≤ rk ∧ u40 = .int .i64 (k : Int) ∧ wr.ownsRow w4.heap.size 22 1 u8 k (rcells en ((Fp p hp).sol rk M y) k) ∧ Below w4.heap.size w4 wr) (fun _ _ u40 _ => rk - (intOf u40).toNat)
    case atStart => exact ⟨0, by omega, rfl, World.ownsRow_nil _ _ _ _, Below.refl _ _⟩
    case round =>
      obtain ⟨k, hk, rfl, hown, hbel⟩ := hrel
      have HO := hide hown
      clear hown
      by_cases hlt : k < rk
      · have i1 : (k : Int) < (rk : Int) := by omega
        have i2 : (0 : Int) ≤ (k : Int) := by omega
        obtain ⟨RA, rc, hrv, _, _, hrow⟩ := HG.out.below hbel
        injection hrv with e1 e2 e3
        subst e1 e3
        obtain ⟨b, o, B, d, hA, _, hcx, hmd, hdm, hel⟩ := hrow k hlt
        injection hA with hA
        injection hA with hA1 hA2
        subst hA1 hA2
        obtain ⟨bb, oo, rfl, _, hc2⟩ := hel rk (by omega)
        rw [HSO.out k hlt] at hc2
        rw [Nat.zero_add] at hcx
        have hc3 : wr.cell? ⟨bb, oo + rk, none⟩ = some (.int .u32 ((Fin.val ((Fp p hp).sol rk M y k) : Nat) : Int)) := hc2
        have HS : Hid (rcells en ((Fp p hp).sol rk M y) (k + 1) = rcells en ((Fp p hp).sol rk M y) k ++ [en ((Fp p hp).sol rk M y k)]) := hide (rcells_snoc _ k)
        have i3 : (rk : Int) < ((rk + 1 : Nat) : Int) := by omega
        have i4 : (0 : Int) ≤ (rk : Int) := by omega
        generalize hz : (Fp p hp).sol rk M y k = z at hc3 HS
        clear hz hc2 hel hrow
        go_wp2_with (at_builtin; go_loud (refine wpList_push1 elemW HO.out hbel hbel.size (by unfold maxLen; omega) (by omega) (.int .u32 ((Fin.val z : Nat) : Int)) rfl rfl _ _ rfl rfl rfl ?_); intro v5 w5 ho5 hb5 _ _ _)
        go_roundw
        case rel => exact ⟨k + 1, by omega, by go_num, by rw [HS.out]; exact ho5, hb5⟩
        case measure => simp [intOf]; omega
      · have hkn : k = rk := by omega
        subst hkn
        have HF := hide (Below.step HE.out hbel)
        go_wp2
        go_ret2
        exact ⟨HF.out, .inl ⟨HR.out.symm, _, rfl, row_mono HO.out HE.out.size⟩⟩
  · have i8 : (rk : Int) < (n : Int) := by omega
    go_wp2
    go_ret2
    exact ⟨HE.out, .inr ⟨fun e => hf (HR.out.trans e), rfl⟩⟩
end
end Go.Proofs.YtoaaplngdomdcaaGreat.MV

/- What the statements call a matrix, over words: times, solve. Printed by wip/zb.py. -/
namespace Go.Proofs.YtoaaplngdomdcaaGreat.MV
open Go.RowKit
section
variable {p gm : Nat} {hp : 0 < p} {w : World} {n : Nat} {M : Nat → Nat → Fin p}

set_option maxRecDepth 100000 in
set_option maxHeartbeats 4000000 in
theorem mtimes_c (x : Nat) (ve : Value) (y : Nat → Fin p) (h : Mtx gm w x n n M) (hk : (Fk p gm) w) (hn : 1 ≤ n ∧ n ≤ 256) (hv : Sl w 1 ve n (rcells en y n)) :
    Calls Tryz.prog 18 #[.agg #[.pointer none, .pointer (some ⟨x, 0, none⟩)], ve] w fun e w' => ∃ (u : Value) (er : Int) (k : Nat) (xs : List Value), e = .returned (.tuple #[u, .int .i64 er, .bool true]) ∧ w'.ownsRow w.heap.size 22 1 u k xs ∧ Below w.heap.size w w' ∧ (er = 0 ∧ k = n ∧ xs = rcells en (fun i => (Fp p hp).dot n (M i) y) n) := by
  have b0 := (Below.refl w.heap.size w).alloc (Nat.le_refl _) (.cells #[.pointer none, .pointer (some ⟨x, 0, none⟩)] 32)
  have n0 := Blk.new w 32 #[.pointer none, .pointer (some ⟨x, 0, none⟩)]
  generalize hW0 : w.alloc (.cells #[.pointer none, .pointer (some ⟨x, 0, none⟩)] 32) = W0 at b0 n0
  obtain ⟨l, hl, hc⟩ : ∃ l : List Nat, l.length = n ∧ ncells .u32 l = rcells en y n := ⟨(List.range n).map fun i => (y i).val, by simp, by simp [ncells, rcells, en]⟩
  have hny : Ny w .u32 ve l := by unfold Ny; rw [hl, hc]; exact hv
  obtain ⟨A, c, rfl, hlc, hcm, _⟩ := hv.form
  have Q1 := hide (lentw_any _ l W0 (hny.below b0) (by omega))
  have HH := hide (And.intro h (And.intro hk (And.intro hn (And.intro hl (And.intro hc hny)))))
  have HB0 := hide (And.intro b0 n0)
  have d0 : W0.cell? ⟨w.heap.size, 0, none⟩ = some (.pointer none) := by rw [n0.cell]; rfl
  have d1 : W0.cell? ⟨w.heap.size, 1, none⟩ = some (.pointer (some ⟨x, 0, none⟩)) := by rw [n0.cell]; rfl
  clear h hk hn hl hc hny hv b0 n0
  go_enter Tryz.func18, Tryz.ntmps18
  go_wp2_with fail
  refine Q1.out.mono ?_
  rintro e w2 ⟨v, rfl, o2, b2⟩
  obtain ⟨g, cap, rfl, hg, hglt⟩ := o2.form (by simp)
  have hby := o2.front
  have hs : Sl w2 1 (.slice (some ⟨g, 0, none⟩) n cap) n (rcells en y n) := by
    have h5 := hby
    unfold Ny at h5
    rw [HH.out.2.2.2.1, HH.out.2.2.2.2.1] at h5
    exact h5
  have k1 : n ≤ cap := by obtain ⟨A', c', hv, hc', _⟩ := hs.form; injection hv; omega
  have k2 : (n : Int) ≤ (cap : Int) := by omega
  have k3 : (0 : Int) ≤ (n : Int) := by omega
  have hbw : Below w.heap.size w w2 := Below.step HB0.out.1 b2
  have Q3 : Hid (∀ W, Below w2.heap.size w2 W → Calls Tryz.prog 60 #[.pointer (some ⟨x, 0, none⟩), .slice (some ⟨g, 0, none⟩) n cap] W fun e w' => ∃ (u : Value) (er : Int) (k : Nat) (xs : List Value), e = .returned (.tuple #[u, .int .i64 er]) ∧ w'.ownsRow w2.heap.size 22 1 u k xs ∧ Below w2.heap.size w2 w' ∧ (er = 0 ∧ k = n ∧ xs = rcells en (fun i => (Fp p hp).dot n (M i) y) n)) := hide (fun W hW => by
    refine (times_c (hp := hp) ((HH.out.1.below hbw).below hW) ((HH.out.2.1.below hbw).below hW) HH.out.2.2.1 (by have := HH.out.2.2.1; omega) _ y (hs.below hW)).mono ?_
    rintro e w' ⟨u, rfl, ho, hb⟩
    exact ⟨u, 0, n, _, rfl, row_mono ho hW.size, Below.step hW hb, rfl, rfl, rfl⟩)
  have HS : Hid (∀ W, Below w2.heap.size w2 W → W.cell? ⟨w.heap.size, 0, none⟩ = some (.pointer none) ∧ W.cell? ⟨w.heap.size, 1, none⟩ = some (.pointer (some ⟨x, 0, none⟩))) := fun W hb => ⟨by rw [((HB0.out.2.below' b2).below' hb).cell]; rfl, by rw [((HB0.out.2.below' b2).below' hb).cell]; rfl⟩
  obtain ⟨c0, c1⟩ := HS.out w2 (Below.refl _ _)
  have O2 := hide (And.intro o2 (And.intro b2 (And.intro hglt hbw)))
  generalize hN : (l ++ marksw 0 l.length 70).length = NN at *
  clear Q1 b2 o2 hby hs hg hglt hbw
  go_wp2_with fail
  go_region_held3 (fun w' => w'.cell? ⟨w.heap.size, 0, none⟩ = some (.pointer none) ∧ w'.cell? ⟨w.heap.size, 1, none⟩ = some (.pointer (some ⟨x, 0, none⟩))) (first | go_keep | exact HS.out _ (by assumption) | exact HS.out _ (Below.drew (by assumption)) | exact HS.out _ (Below.drew (Below.refl _ _)))
    (first | (go_at_call 60; (with_reducible refine (Q3.out _ ?bb).mono ?_); (case bb => (repeat (first | with_reducible exact Below.refl _ _ | with_reducible assumption | with_reducible refine Below.drew ?_))); rintro e w3 ⟨u, er, k, xs, rfl, ho3, hb3, hcd⟩; have HCD := hide hcd; clear hcd))
  have B3 := hide (And.intro ho3 (And.intro hb3 HCD.out))
  have Q4 := hide (keptw_any _ _ _ l w3 (O2.out.1.below hb3).ny (HH.out.2.2.2.2.2.below (Below.step O2.out.2.2.2 hb3)) (by have := HH.out.2.2; omega))
  rw [decide_eq_true rfl] at Q4
  clear ho3 hb3 HCD Q3
  go_wp2_with fail
  refine Q4.out.mono ?_
  rintro e w4 ⟨rfl, b4⟩
  have O4 := (O2.out.1.below B3.out.2.1).below b4
  have Q5 := hide (overw_any _ _ _ w4 O4 (by have := HH.out.2.2; rw [hN, ← hN]; simp; omega))
  have B4 := hide b4
  clear O4 b4 Q4
  go_wp2_with fail
  refine Q5.out.mono ?_
  rintro e w5 ⟨rfl, hb5, hg5, _⟩
  have ho5 := (own_below' B3.out.1 B4.out).kept hg5 (by
    rcases hb : u.ownBlock with _ | b
    · exact .inl rfl
    · refine .inr fun e => ?_
      have := (B3.out.1.lt b hb).1
      have := O2.out.2.2.1
      have e2 : some b = some g := e
      injection e2 with e2
      omega)
  have HF := hide (And.intro (row_mono ho5 O2.out.2.2.2.size) ((Below.step (Below.step O2.out.2.2.2 B3.out.2.1) B4.out).trans (hb5.mono HB0.out.1.size)))
  clear Q5 hb5 hg5 ho5
  go_wp2
  go_ret3
  exact ⟨u, er, k, xs, rfl, HF.out.1, HF.out.2, B3.out.2.2⟩

set_option maxRecDepth 100000 in
set_option maxHeartbeats 4000000 in
theorem msolve_c (x : Nat) (ve : Value) (y : Nat → Fin p) (h : Mtx gm w x n n M) (hk : (Fk p gm) w) (hn : 1 ≤ n ∧ n ≤ 256) (hv : Sl w 1 ve n (rcells en y n)) :
    Calls Tryz.prog 15 #[.agg #[.pointer none, .pointer (some ⟨x, 0, none⟩)], ve] w fun e w' => ∃ (u : Value) (er : Int) (k : Nat) (xs : List Value), e = .returned (.tuple #[u, .int .i64 er, .bool true]) ∧ w'.ownsRow w.heap.size 22 1 u k xs ∧ Below w.heap.size w w' ∧ ((Fp p hp).rank n M = n ∧ er = 0 ∧ k = n ∧ xs = rcells en ((Fp p hp).sol n M y) n ∨ (Fp p hp).rank n M ≠ n ∧ er = 71) := by
  have b0 := (Below.refl w.heap.size w).alloc (Nat.le_refl _) (.cells #[.pointer none, .pointer (some ⟨x, 0, none⟩)] 32)
  have n0 := Blk.new w 32 #[.pointer none, .pointer (some ⟨x, 0, none⟩)]
  generalize hW0 : w.alloc (.cells #[.pointer none, .pointer (some ⟨x, 0, none⟩)] 32) = W0 at b0 n0
  obtain ⟨l, hl, hc⟩ : ∃ l : List Nat, l.length = n ∧ ncells .u32 l = rcells en y n := ⟨(List.range n).map fun i => (y i).val, by simp, by simp [ncells, rcells, en]⟩
  have hny : Ny w .u32 ve l := by unfold Ny; rw [hl, hc]; exact hv
  obtain ⟨A, c, rfl, hlc, hcm, _⟩ := hv.form
  have Q1 := hide (lentw_any _ l W0 (hny.below b0) (by omega))
  have HH := hide (And.intro h (And.intro hk (And.intro hn (And.intro hl (And.intro hc hny)))))
  have HB0 := hide (And.intro b0 n0)
  have d0 : W0.cell? ⟨w.heap.size, 0, none⟩ = some (.pointer none) := by rw [n0.cell]; rfl
  have d1 : W0.cell? ⟨w.heap.size, 1, none⟩ = some (.pointer (some ⟨x, 0, none⟩)) := by rw [n0.cell]; rfl
  clear h hk hn hl hc hny hv b0 n0
  go_enter Tryz.func15, Tryz.ntmps15
  go_wp2_with fail
  refine Q1.out.mono ?_
  rintro e w2 ⟨v, rfl, o2, b2⟩
  obtain ⟨g, cap, rfl, hg, hglt⟩ := o2.form (by simp)
  have hby := o2.front
  have hs : Sl w2 1 (.slice (some ⟨g, 0, none⟩) n cap) n (rcells en y n) := by
    have h5 := hby
    unfold Ny at h5
    rw [HH.out.2.2.2.1, HH.out.2.2.2.2.1] at h5
    exact h5
  have k1 : n ≤ cap := by obtain ⟨A', c', hv, hc', _⟩ := hs.form; injection hv; omega
  have k2 : (n : Int) ≤ (cap : Int) := by omega
  have k3 : (0 : Int) ≤ (n : Int) := by omega
  have hbw : Below w.heap.size w w2 := Below.step HB0.out.1 b2
  have Q3 : Hid (∀ W, Below w2.heap.size w2 W → Calls Tryz.prog 52 #[.pointer (some ⟨x, 0, none⟩), .slice (some ⟨g, 0, none⟩) n cap] W fun e w' => ∃ (u : Value) (er : Int) (k : Nat) (xs : List Value), e = .returned (.tuple #[u, .int .i64 er]) ∧ w'.ownsRow w2.heap.size 22 1 u k xs ∧ Below w2.heap.size w2 w' ∧ ((Fp p hp).rank n M = n ∧ er = 0 ∧ k = n ∧ xs = rcells en ((Fp p hp).sol n M y) n ∨ (Fp p hp).rank n M ≠ n ∧ er = 71)) := hide (fun W hW => by
    refine (solve_c (hp := hp) ((HH.out.1.below hbw).below hW) ((HH.out.2.1.below hbw).below hW) HH.out.2.2.1 _ y (hs.below hW)).mono ?_
    rintro e w' ⟨hb, ⟨hr, u, rfl, ho⟩ | ⟨hr, rfl⟩⟩
    · exact ⟨u, 0, n, _, rfl, row_mono ho hW.size, Below.step hW hb, .inl ⟨hr, rfl, rfl, rfl⟩⟩
    · exact ⟨_, 71, 0, [], rfl, World.ownsRow_nil _ _ _ _, Below.step hW hb, .inr ⟨hr, rfl⟩⟩)
  have HS : Hid (∀ W, Below w2.heap.size w2 W → W.cell? ⟨w.heap.size, 0, none⟩ = some (.pointer none) ∧ W.cell? ⟨w.heap.size, 1, none⟩ = some (.pointer (some ⟨x, 0, none⟩))) := fun W hb => ⟨by rw [((HB0.out.2.below' b2).below' hb).cell]; rfl, by rw [((HB0.out.2.below' b2).below' hb).cell]; rfl⟩
  obtain ⟨c0, c1⟩ := HS.out w2 (Below.refl _ _)
  have O2 := hide (And.intro o2 (And.intro b2 (And.intro hglt hbw)))
  generalize hN : (l ++ marksw 0 l.length 70).length = NN at *
  clear Q1 b2 o2 hby hs hg hglt hbw
  go_wp2_with fail
  go_region_held3 (fun w' => w'.cell? ⟨w.heap.size, 0, none⟩ = some (.pointer none) ∧ w'.cell? ⟨w.heap.size, 1, none⟩ = some (.pointer (some ⟨x, 0, none⟩))) (first | go_keep | exact HS.out _ (by assumption) | exact HS.out _ (Below.drew (by assumption)) | exact HS.out _ (Below.drew (Below.refl _ _)))
    (first | (go_at_call 52; (with_reducible refine (Q3.out _ ?bb).mono ?_); (case bb => (repeat (first | with_reducible exact Below.refl _ _ | with_reducible assumption | with_reducible refine Below.drew ?_))); rintro e w3 ⟨u, er, k, xs, rfl, ho3, hb3, hcd⟩; have HCD := hide hcd; clear hcd))
  have B3 := hide (And.intro ho3 (And.intro hb3 HCD.out))
  have Q4 := hide (keptw_any _ _ _ l w3 (O2.out.1.below hb3).ny (HH.out.2.2.2.2.2.below (Below.step O2.out.2.2.2 hb3)) (by have := HH.out.2.2; omega))
  rw [decide_eq_true rfl] at Q4
  clear ho3 hb3 HCD Q3
  go_wp2_with fail
  refine Q4.out.mono ?_
  rintro e w4 ⟨rfl, b4⟩
  have O4 := (O2.out.1.below B3.out.2.1).below b4
  have Q5 := hide (overw_any _ _ _ w4 O4 (by have := HH.out.2.2; rw [hN, ← hN]; simp; omega))
  have B4 := hide b4
  clear O4 b4 Q4
  go_wp2_with fail
  refine Q5.out.mono ?_
  rintro e w5 ⟨rfl, hb5, hg5, _⟩
  have ho5 := (own_below' B3.out.1 B4.out).kept hg5 (by
    rcases hb : u.ownBlock with _ | b
    · exact .inl rfl
    · refine .inr fun e => ?_
      have := (B3.out.1.lt b hb).1
      have := O2.out.2.2.1
      have e2 : some b = some g := e
      injection e2 with e2
      omega)
  have HF := hide (And.intro (row_mono ho5 O2.out.2.2.2.size) ((Below.step (Below.step O2.out.2.2.2 B3.out.2.1) B4.out).trans (hb5.mono HB0.out.1.size)))
  clear Q5 hb5 hg5 ho5
  go_wp2
  go_ret3
  exact ⟨u, er, k, xs, rfl, HF.out.1, HF.out.2, B3.out.2.2⟩
end
end Go.Proofs.YtoaaplngdomdcaaGreat.MV

/- Steps of the statements' walks over words, each as it is asked for there. -/
namespace Go.Proofs.YtoaaplngdomdcaaGreat.MV
open Go.RowKit
section
variable {p gm : Nat} {hp : 0 < p}
def MC (gm : Nat) {p : Nat} (W : World) (G g n : Nat) (M : Nat → Nat → Fin p) : Prop := W.cell? ⟨G, 0, none⟩ = some (.pointer none) ∧ W.cell? ⟨G, 1, none⟩ = some (.pointer (some ⟨g, 0, none⟩)) ∧ Mtx gm W g n n M
theorem MC.below {W W' : World} {G g n : Nat} {M : Nat → Nat → (Fin p)} (h : MC gm W G g n M) (hb : Below W.heap.size W W') : MC gm W' G g n M :=
  ⟨(hb.cell (World.block_lt_of_cell? _ _ h.1)).trans h.1, (hb.cell (World.block_lt_of_cell? _ _ h.2.1)).trans h.2.1, h.2.2.below hb⟩
theorem MC.new {W : World} {G g n : Nat} {M : Nat → Nat → (Fin p)} (h : Blk W G 32 #[.pointer none, .pointer (some ⟨g, 0, none⟩)]) (hm : Mtx gm W g n n M) : MC gm W G g n M :=
  ⟨by rw [h.cell]; rfl, by rw [h.cell]; rfl, hm⟩
theorem sq_e (n : Nat) (ve : Value) (es : List Nat) (w : World) (hk : (Fk p gm) w) (hn : 1 ≤ n ∧ n ≤ 256) (he : Ny w .u32 ve es) (hbd : ∀ (i x : Nat), es[i]? = some x → (x : Int) ≤ 4294967295) (hp0 : 2 ≤ p) :
    Calls Tryz.prog 9 #[.int .u32 (p : Int), .pointer (some ⟨gm, 0, none⟩), .int .i64 (n : Int), ve] w fun e w' => ∃ (g : Nat) (M : Nat → Nat → (Fin p)), e = .returned (.tuple #[.agg #[.pointer none, .pointer (some ⟨g, 0, none⟩)], .bool true]) ∧ Mtx gm w' g n n M ∧ Below w.heap.size w w' :=
  (square_c (hp := Nat.lt_of_lt_of_le (by decide) hp0) n ve es w hk hn he hbd hp0).mono fun _ _ ⟨g, a, b, c⟩ => ⟨g, _, a, b, c⟩
theorem minv_ok (x n : Nat) {M : Nat → Nat → (Fin p)} {w : World} (h : Mtx gm w x n n M) (hk : (Fk p gm) w) (hn : 1 ≤ n ∧ n ≤ 256) (hr : (Fp p hp).rank n M = n) :
    Calls Tryz.prog 12 #[.agg #[.pointer none, .pointer (some ⟨x, 0, none⟩)]] w fun e w' => ∃ z, e = .returned (.tuple #[.agg #[.pointer none, .pointer (some ⟨z, 0, none⟩)], .int .i64 0]) ∧ Mtx gm w' z n n ((Fp p hp).invM n M) ∧ Below w.heap.size w w' := by
  refine (minv_c (hp := hp) h hk hn).mono ?_
  rintro e w' ⟨hb, ⟨_, z, rfl, hz⟩ | ⟨h2, _⟩⟩
  · exact ⟨z, rfl, hz, hb⟩
  · exact absurd hr h2
theorem minv_bad (x n : Nat) {M : Nat → Nat → (Fin p)} {w : World} (h : Mtx gm w x n n M) (hk : (Fk p gm) w) (hn : 1 ≤ n ∧ n ≤ 256) (hr : (Fp p hp).rank n M ≠ n) :
    Calls Tryz.prog 12 #[.agg #[.pointer none, .pointer (some ⟨x, 0, none⟩)]] w fun e w' => e = .returned (.tuple #[.agg #[.pointer none, .pointer none], .int .i64 71]) ∧ Below w.heap.size w w' := by
  refine (minv_c (hp := hp) h hk hn).mono ?_
  rintro e w' ⟨hb, ⟨h2, _⟩ | ⟨_, rfl⟩⟩
  · exact absurd h2 hr
  · exact ⟨rfl, hb⟩
theorem msame_yes (x y n : Nat) {M N : Nat → Nat → (Fin p)} {w : World} (h1 : Mtx gm w x n n M) (h2 : Mtx gm w y n n N) (hn : n ≤ 4096) (he : ∀ i j, i < n → j < n → M i j = N i j) :
    Calls Tryz.prog 17 #[.agg #[.pointer none, .pointer (some ⟨x, 0, none⟩)], .agg #[.pointer none, .pointer (some ⟨y, 0, none⟩)]] w fun e w' => e = .returned (.bool true) ∧ Below w.heap.size w w' := by
  have q := msame_c x y h1 h2 hn hn
  rw [soB_true he] at q
  exact q
end

def NC (W : World) (G : Nat) : Prop := W.cell? ⟨G, 0, none⟩ = some (.pointer none) ∧ W.cell? ⟨G, 1, none⟩ = some (.pointer none)
theorem NC.below {W W' : World} {G : Nat} (h : NC W G) (hb : Below W.heap.size W W') : NC W' G :=
  ⟨(hb.cell (World.block_lt_of_cell? _ _ h.1)).trans h.1, (hb.cell (World.block_lt_of_cell? _ _ h.2)).trans h.2⟩
theorem NC.new {W : World} {G : Nat} (h : Blk W G 32 #[.pointer none, .pointer none]) : NC W G := ⟨by rw [h.cell]; rfl, by rw [h.cell]; rfl⟩
theorem nyat {w : World} {A : Option Addr} {c : Nat} {l : List Nat} {k x : Nat} (h : Ny w .u32 (.slice A l.length c) l) (hx : l[k]? = some x) : ∃ b o, A = some ⟨b, o, none⟩ ∧ w.cell? ⟨b, o + k, none⟩ = some (.int .u32 (x : Int)) := by
  obtain ⟨A', c', hv, _, _, hca⟩ := h.form
  obtain ⟨b, o, hA, _, hcx⟩ := hca k x hx
  injection hv with hv1 _ _
  exact ⟨b, o, hv1.trans hA, hcx⟩
section
variable {p gm : Nat} {hp : 0 < p}
theorem one_e (x : Nat) (z : Int) (hz : z = (x : Int)) (w : World) (hk : (Fk p gm) w) (hx : (x : Int) ≤ 4294967295) (hp0 : 2 ≤ p) :
    Calls Tryz.prog 9 #[.int .u32 (p : Int), .pointer (some ⟨gm, 0, none⟩), .int .i64 1, .slice (some ⟨w.heap.size, 0, none⟩) 1 1] (w.alloc (.cells #[.int .u32 z] 22)) fun e w' =>
      ∃ (g : Nat) (M : Nat → Nat → (Fin p)), e = .returned (.tuple #[.agg #[.pointer none, .pointer (some ⟨g, 0, none⟩)], .bool true]) ∧ Mtx gm w' g 1 1 M ∧ M 0 0 = (own hp) x ∧ Below w.heap.size w w' := by
  subst hz
  have n2 := Blk.new w 22 #[.int .u32 (x : Int)]
  have b2 := (Below.refl w.heap.size w).alloc (Nat.le_refl _) (.cells #[.int .u32 (x : Int)] 22)
  have hny : Ny (w.alloc (.cells #[.int .u32 (x : Int)] 22)) .u32 (.slice (some ⟨w.heap.size, 0, none⟩) 1 1) [x] := n2.ny [x] rfl (by simp [maxLen])
  refine (square_c (hp := Nat.lt_of_lt_of_le (by decide) hp0) 1 _ [x] _ (hk.below b2) (by omega) hny (fun i y h => by have := List.mem_of_getElem? h; simp at this; omega) hp0).mono ?_
  rintro e w' ⟨g, rfl, hm, hb⟩
  exact ⟨g, _, rfl, hm, rfl, Below.step b2 hb⟩
theorem at00 (x : Nat) {M : Nat → Nat → (Fin p)} {z : (Fin p)} {w : World} (h : Mtx gm w x 1 1 M) (hz : M 0 0 = z) :
    Calls Tryz.prog 14 #[.agg #[.pointer none, .pointer (some ⟨x, 0, none⟩)], .int .i64 0, .int .i64 0] w fun e w' => e = .returned (.tuple #[.int .u32 ((Fin.val z : Nat) : Int), .int .i64 0]) ∧ Below w.heap.size w w' := by
  subst hz
  exact mat_at_c x 0 0 h (by omega) (by omega)
theorem sizes_ok (x n : Nat) {M : Nat → Nat → (Fin p)} {w : World} (h : Mtx gm w x n n M) (hk : (Fk p gm) w) (hn : 1 ≤ n ∧ n ≤ 256) (hr : (Fp p hp).rank n M = n) :
    Calls Tryz.prog 13 #[.agg #[.pointer none, .pointer (some ⟨x, 0, none⟩)]] w fun e w' => e = .returned (.tuple #[.int .i64 (n : Int), .int .i64 (n : Int), .int .i64 (n : Int)]) ∧ Below w.heap.size w w' := by
  have q := sizes_c (hp := hp) x h hk hn
  rw [hr] at q
  exact q
theorem sizes_bad (x n : Nat) {M : Nat → Nat → (Fin p)} {w : World} (h : Mtx gm w x n n M) (hk : (Fk p gm) w) (hn : 1 ≤ n ∧ n ≤ 256) (hr : (Fp p hp).rank n M ≠ n) :
    Calls Tryz.prog 13 #[.agg #[.pointer none, .pointer (some ⟨x, 0, none⟩)]] w fun e w' => ∃ r : Nat, (r : Int) ≠ (n : Int) ∧ e = .returned (.tuple #[.int .i64 (n : Int), .int .i64 (n : Int), .int .i64 (r : Int)]) ∧ Below w.heap.size w w' :=
  (sizes_c (hp := hp) x h hk hn).mono fun e w' ⟨he, hb⟩ => ⟨_, fun h2 => hr (by omega), he, hb⟩
theorem times_g (x n : Nat) (ve : Value) (y : Nat → (Fin p)) {M : Nat → Nat → (Fin p)} {w : World} (h : Mtx gm w x n n M) (hk : (Fk p gm) w) (hn : 1 ≤ n ∧ n ≤ 256) (hv : Ny w .u32 ve ((List.range n).map fun i => Fin.val (y i))) :
    Calls Tryz.prog 18 #[.agg #[.pointer none, .pointer (some ⟨x, 0, none⟩)], ve] w fun e w' => ∃ (u : Value) (b : Bool), e = .returned (.tuple #[u, .int .i64 0, .bool b]) ∧ OwnN w' w.heap.size 22 .u32 u ((List.range n).map fun i => Fin.val ((Fp p hp).dot n (M i) y)) ∧ Below w.heap.size w w' := by
  have hv2 : Sl w 1 ve n (rcells en y n) := by
    unfold Ny at hv
    rw [List.length_map, List.length_range] at hv
    have he : ncells .u32 ((List.range n).map fun i => Fin.val (y i)) = rcells en y n := by simp [ncells, rcells, en]
    rwa [he] at hv
  refine (mtimes_c (hp := hp) x ve y h hk hn hv2).mono ?_
  rintro e w' ⟨u, _, k, xs, rfl, ho, hb, rfl, rfl, rfl⟩
  refine ⟨u, true, rfl, ?_, hb⟩
  unfold OwnN
  have he : ncells .u32 ((List.range k).map fun i => Fin.val ((Fp p hp).dot k (M i) y)) = rcells en (fun i => (Fp p hp).dot k (M i) y) k := by simp [ncells, rcells, en]
  rw [List.length_map, List.length_range, he]
  exact ho
theorem solve_ok (x n : Nat) (ve : Value) (y : Nat → (Fin p)) {M : Nat → Nat → (Fin p)} {w : World} (h : Mtx gm w x n n M) (hk : (Fk p gm) w) (hn : 1 ≤ n ∧ n ≤ 256) (hv : Ny w .u32 ve ((List.range n).map fun i => Fin.val (y i))) (hr : (Fp p hp).rank n M = n) :
    Calls Tryz.prog 15 #[.agg #[.pointer none, .pointer (some ⟨x, 0, none⟩)], ve] w fun e w' => ∃ (u : Value) (b : Bool), e = .returned (.tuple #[u, .int .i64 0, .bool b]) ∧ OwnN w' w.heap.size 22 .u32 u ((List.range n).map fun i => Fin.val ((Fp p hp).sol n M y i)) ∧ Below w.heap.size w w' := by
  have hv2 : Sl w 1 ve n (rcells en y n) := by
    unfold Ny at hv
    rw [List.length_map, List.length_range] at hv
    have he : ncells .u32 ((List.range n).map fun i => Fin.val (y i)) = rcells en y n := by simp [ncells, rcells, en]
    rwa [he] at hv
  refine (msolve_c (hp := hp) x ve y h hk hn hv2).mono ?_
  rintro e w' ⟨u, _, k, xs, rfl, ho, hb, ⟨_, rfl, rfl, rfl⟩ | ⟨h2, _⟩⟩
  · refine ⟨u, true, rfl, ?_, hb⟩
    unfold OwnN
    have he : ncells .u32 ((List.range k).map fun i => Fin.val ((Fp p hp).sol k M y i)) = rcells en ((Fp p hp).sol k M y) k := by simp [ncells, rcells, en]
    rw [List.length_map, List.length_range, he]
    exact ho
  · exact absurd hr h2
theorem solve_bad (x n : Nat) (ve : Value) (y : Nat → (Fin p)) {M : Nat → Nat → (Fin p)} {w : World} (h : Mtx gm w x n n M) (hk : (Fk p gm) w) (hn : 1 ≤ n ∧ n ≤ 256) (hv : Ny w .u32 ve ((List.range n).map fun i => Fin.val (y i))) (hr : (Fp p hp).rank n M ≠ n) :
    Calls Tryz.prog 15 #[.agg #[.pointer none, .pointer (some ⟨x, 0, none⟩)], ve] w fun e w' => ∃ (u : Value) (b : Bool), e = .returned (.tuple #[u, .int .i64 71, .bool b]) ∧ Below w.heap.size w w' := by
  have hv2 : Sl w 1 ve n (rcells en y n) := by
    unfold Ny at hv
    rw [List.length_map, List.length_range] at hv
    have he : ncells .u32 ((List.range n).map fun i => Fin.val (y i)) = rcells en y n := by simp [ncells, rcells, en]
    rwa [he] at hv
  refine (msolve_c (hp := hp) x ve y h hk hn hv2).mono ?_
  rintro e w' ⟨u, _, k, xs, rfl, ho, hb, ⟨h2, _⟩ | ⟨_, rfl⟩⟩
  · exact absurd h2 hr
  · exact ⟨u, true, rfl, hb⟩
end
end Go.Proofs.YtoaaplngdomdcaaGreat.MV

/- Steps of MatrixKnown: errors of Pick and At, noughts and lists over the field of 7. -/
namespace Go.Proofs.YtoaaplngdomdcaaGreat.MV
open Go.RowKit
section
variable {gm : Nat} {w : World} {g : Nat} {M : Nat → Nat → Fin 7}
set_option maxHeartbeats 800000 in
theorem at_row2 (h : Mtx gm w g 2 2 M) : Calls Tryz.prog 43 #[.pointer (some ⟨g, 0, none⟩), .int .i64 0, .int .i64 2] w fun e w' => e = .returned (.tuple #[.int .u32 0, .int .i64 72]) ∧ w = w' := by
  have q1 := made_c h
  have q2 : Calls Tryz.prog 39 #[.pointer (some ⟨g, 0, none⟩)] w fun e w' => e = .returned (.int .i64 2) ∧ w = w' := rows_c h
  have q3 : Calls Tryz.prog 40 #[.pointer (some ⟨g, 0, none⟩)] w fun e w' => e = .returned (.int .i64 2) ∧ w = w' := cols_c h (by omega)
  clear h
  go_enter Tryz.func43, Tryz.ntmps43
  go_wp2_with fail
  refine q1.mono ?_
  rintro e w' ⟨rfl, rfl⟩
  go_wp2_with fail
  refine q2.mono ?_
  rintro e w' ⟨rfl, rfl⟩
  go_wp2_with fail
  refine q3.mono ?_
  rintro e w' ⟨rfl, rfl⟩
  go_wp2
  go_ret2
  exact ⟨rfl, rfl⟩
set_option maxHeartbeats 800000 in
theorem mat_at_row2 (x : Nat) (h : Mtx gm w x 2 2 M) :
    Calls Tryz.prog 14 #[.agg #[.pointer none, .pointer (some ⟨x, 0, none⟩)], .int .i64 0, .int .i64 2] w fun e w' => e = .returned (.tuple #[.int .u32 0, .int .i64 72]) ∧ Below w.heap.size w w' := by
  have b1 := (Below.refl w.heap.size w).alloc (Nat.le_refl _) (.cells #[.pointer none, .pointer (some ⟨x, 0, none⟩)] 32)
  have q := at_row2 (h.below b1)
  have HB := hide b1
  clear b1 h
  go_enter Tryz.func14, Tryz.ntmps14
  go_wp2_with fail
  refine q.mono ?_
  rintro e w2 ⟨rfl, rfl⟩
  clear q
  go_wp2
  go_ret2
  exact ⟨rfl, HB.out⟩
set_option maxHeartbeats 1600000 in
theorem pick_none (x : Nat) (h : Mtx gm w x 2 2 M) :
    Calls Tryz.prog 64 #[.pointer (some ⟨x, 0, none⟩), .slice none 0 0] w fun e w' => e = .returned (.tuple #[.pointer none, .int .i64 70]) ∧ Below w.heap.size w w' := by
  have n1 := (Blk.new w 30 #[.pointer (some ⟨x, 0, none⟩)]).alloc (.cells #[.slice none 0 0] 55)
  have n2 := Blk.new (w.alloc (.cells #[.pointer (some ⟨x, 0, none⟩)] 30)) 55 #[.slice none 0 0]
  have b1 := ((Below.refl w.heap.size w).alloc (Nat.le_refl _) (.cells #[.pointer (some ⟨x, 0, none⟩)] 30)).alloc (by simp) (.cells #[.slice none 0 0] 55)
  simp only [World.size_alloc] at n2
  go_enter Tryz.func64, Tryz.ntmps64
  go_wp2_with fail
  generalize (w.alloc (.cells #[.pointer (some ⟨x, 0, none⟩)] 30)).alloc (.cells #[.slice none 0 0] 55) = W at n1 n2 b1 ⊢
  obtain ⟨B, hB⟩ : ∃ B, B = w.heap.size := ⟨_, rfl⟩
  rw [← hB] at n1 n2 ⊢
  have c1 : W.cell? ⟨B, 0, none⟩ = some (.pointer (some ⟨x, 0, none⟩)) := by rw [n1.cell]; rfl
  have c2 : W.cell? ⟨B + 1, 0, none⟩ = some (.slice none 0 0) := by rw [n2.cell]; rfl
  have q1 := made_c (h.below b1)
  have HB := hide b1
  clear n1 n2 b1 h hB
  refine q1.mono ?_
  rintro e w' ⟨rfl, rfl⟩
  clear q1
  go_wp2
  go_ret2
  exact ⟨rfl, HB.out⟩
set_option maxHeartbeats 1600000 in
theorem pick_two (x s : Nat) (h : Mtx gm w x 2 2 M) (hs : Blk w s 3 #[.int .i64 2]) :
    Calls Tryz.prog 64 #[.pointer (some ⟨x, 0, none⟩), .slice (some ⟨s, 0, none⟩) 1 1] w fun e w' => e = .returned (.tuple #[.pointer none, .int .i64 72]) ∧ Below w.heap.size w w' := by
  have n1 := (Blk.new w 30 #[.pointer (some ⟨x, 0, none⟩)]).alloc (.cells #[.slice (some ⟨s, 0, none⟩) 1 1] 55)
  have n2 := Blk.new (w.alloc (.cells #[.pointer (some ⟨x, 0, none⟩)] 30)) 55 #[.slice (some ⟨s, 0, none⟩) 1 1]
  have b1 := ((Below.refl w.heap.size w).alloc (Nat.le_refl _) (.cells #[.pointer (some ⟨x, 0, none⟩)] 30)).alloc (by simp) (.cells #[.slice (some ⟨s, 0, none⟩) 1 1] 55)
  simp only [World.size_alloc] at n2
  go_enter Tryz.func64, Tryz.ntmps64
  go_wp2_with fail
  generalize (w.alloc (.cells #[.pointer (some ⟨x, 0, none⟩)] 30)).alloc (.cells #[.slice (some ⟨s, 0, none⟩) 1 1] 55) = W at n1 n2 b1 ⊢
  obtain ⟨B, hB⟩ : ∃ B, B = w.heap.size := ⟨_, rfl⟩
  rw [← hB] at n1 n2 ⊢
  have c1 : W.cell? ⟨B, 0, none⟩ = some (.pointer (some ⟨x, 0, none⟩)) := by rw [n1.cell]; rfl
  have c2 : W.cell? ⟨B + 1, 0, none⟩ = some (.slice (some ⟨s, 0, none⟩) 1 1) := by rw [n2.cell]; rfl
  have c3 : W.cell? ⟨s, 0, none⟩ = some (.int .i64 2) := by rw [(hs.below' b1).cell]; rfl
  have q1 := made_c (h.below b1)
  have q2 : Calls Tryz.prog 39 #[.pointer (some ⟨x, 0, none⟩)] W fun e w' => e = .returned (.int .i64 2) ∧ W = w' := rows_c (h.below b1)
  have HB := hide b1
  clear n1 n2 b1 h hB
  refine q1.mono ?_
  rintro e w' ⟨rfl, rfl⟩
  clear q1
  go_wp2_with fail
  go_loopw [7, 21] (fun _ u21 wr => u21 = .int .i64 0 ∧ W = wr) (fun _ _ _ => 0)
  case atStart => exact ⟨rfl, rfl⟩
  case round =>
    obtain ⟨rfl, rfl⟩ := hrel
    go_wp2_with fail
    refine q2.mono ?_
    rintro e w' ⟨rfl, rfl⟩
    clear q2
    go_wp2
    go_ret2
    exact ⟨rfl, HB.out⟩
set_option maxHeartbeats 1600000 in
theorem mpick_bad (er : Int) (v : Value) (x : Nat) (w : World) (hv : v.oneCell' = true) (hq : ∀ W, Below w.heap.size w W → Calls Tryz.prog 64 #[.pointer (some ⟨x, 0, none⟩), v] W fun e w' => e = .returned (.tuple #[.pointer none, .int .i64 er]) ∧ Below W.heap.size W w') :
    Calls Tryz.prog 25 #[.agg #[.pointer none, .pointer (some ⟨x, 0, none⟩)], v] w fun e w' => e = .returned (.tuple #[.agg #[.pointer none, .pointer none], .int .i64 er]) ∧ Below w.heap.size w w' := by
  have b1 := ((Below.refl w.heap.size w).alloc (Nat.le_refl _) (.cells #[.pointer none, .pointer (some ⟨x, 0, none⟩)] 32)).alloc (by simp) (.cells #[.pointer none, .pointer none] 32)
  have n2 := Blk.new (w.alloc (.cells #[.pointer none, .pointer (some ⟨x, 0, none⟩)] 32)) 32 #[.pointer none, .pointer none]
  have q := hq _ b1
  simp only [World.size_alloc] at n2
  have HB := hide (And.intro b1 n2)
  clear b1 n2 hq
  go_enter Tryz.func25, Tryz.ntmps25
  go_wp2_with fail
  refine q.mono ?_
  rintro e w2 ⟨rfl, hb2⟩
  have hblk := HB.out.2.below' hb2
  have H2 := hide (HB.out.1.trans (hb2.mono HB.out.1.size))
  clear q hb2
  go_wp2_with ((with_reducible change wpList _ _ _ (⟨none, .store _ (.tmp 4) _, _, _, _, _⟩ :: _) _ _); go_loud (refine wpList_store_row (o := ⟨none, .store _ (.tmp 4) _, _, _, _, _⟩) hblk #[.pointer none, .pointer none] rfl (by simp [Value.oneCell']) rfl 32 _ _ rfl (by kernel_rfl) rfl rfl ?_; intro w7 hb7 hg7))
  exact bodyPost_ret (results_row_tmp rfl _ _ (w.heap.size + 1) 32 #[.pointer none, .pointer none] (0, 0) _ rfl hb7 Tryz.underlying32 rfl (by kernel_rfl)) rfl ⟨rfl, H2.out.grown hg7 H2.out.size fun k hk => (by injection hk with hk; omega)⟩
end
section
variable {gm : Nat}
/-- A matrix of four numbers. -/
abbrev mx7 (a b c d : Nat) : Nat → Nat → Fin 7 := fun i j => own (by decide) ([a, b, c, d].getD (i * 2 + j) 0)
theorem sq7 (a b c d : Nat) (A B C D : Int) (w : World) (hk : Fk 7 gm w) (hA : A = (a : Int)) (hB : B = (b : Int)) (hC : C = (c : Int)) (hD : D = (d : Int)) (hb : a ≤ 9 ∧ b ≤ 9 ∧ c ≤ 9 ∧ d ≤ 9) :
    Calls Tryz.prog 9 #[.int .u32 7, .pointer (some ⟨gm, 0, none⟩), .int .i64 2, .slice (some ⟨w.heap.size, 0, none⟩) 4 4] (w.alloc (.cells #[.int .u32 A, .int .u32 B, .int .u32 C, .int .u32 D] 22)) fun e w' =>
      ∃ g, e = .returned (.tuple #[.agg #[.pointer none, .pointer (some ⟨g, 0, none⟩)], .bool true]) ∧ Mtx gm w' g 2 2 (mx7 a b c d) ∧ Below w.heap.size w w' := by
  subst hA hB hC hD
  have n2 := Blk.new w 22 #[.int .u32 (a : Int), .int .u32 (b : Int), .int .u32 (c : Int), .int .u32 (d : Int)]
  have b2 := (Below.refl w.heap.size w).alloc (Nat.le_refl _) (.cells #[.int .u32 (a : Int), .int .u32 (b : Int), .int .u32 (c : Int), .int .u32 (d : Int)] 22)
  have q : Calls Tryz.prog 9 #[.int .u32 7, .pointer (some ⟨gm, 0, none⟩), .int .i64 2, .slice (some ⟨w.heap.size, 0, none⟩) 4 4] _ _ :=
    square_c (p := 7) (hp := by decide) 2 _ [a, b, c, d] _ (hk.below b2) (by omega) (n2.ny [a, b, c, d] rfl (by simp [maxLen])) (fun i x h => by have := List.mem_of_getElem? h; simp at this; omega) (by omega)
  refine q.mono ?_
  rintro e w' ⟨g, rfl, hm, hb'⟩
  exact ⟨g, rfl, hm, Below.step b2 hb'⟩
theorem two7 (a b : Nat) (A B : Int) (w : World) (hA : A = (a : Int)) (hB : B = (b : Int)) : Ny (w.alloc (.cells #[.int .u32 A, .int .u32 B] 22)) .u32 (.slice (some ⟨w.heap.size, 0, none⟩) 2 2) [a, b] := by
  subst hA hB
  exact (Blk.new w 22 #[.int .u32 (a : Int), .int .u32 (b : Int)]).ny [a, b] rfl (by simp [maxLen])
/-- The vectors of the example. -/
abbrev v11 : Nat → Fin 7 := fun _ => 1
abbrev v30 : Nat → Fin 7 := fun i => if i = 0 then 3 else 0
theorem facts7 : (∀ i, i < 2 → ∀ j, j < 2 → (Fp 7 (by decide)).mulm 2 (mx7 1 2 3 4) (mx7 1 2 3 4) i j = mx7 0 3 1 1 i j) ∧
    (List.range 2).map (fun i => Fin.val ((Fp 7 (by decide)).dot 2 (mx7 1 2 3 4 i) v11)) = [3, 0] ∧
    (Fp 7 (by decide)).rank 2 (mx7 1 2 3 4) = 2 ∧
    (List.range 2).map (fun i => Fin.val ((Fp 7 (by decide)).sol 2 (mx7 1 2 3 4) v30 i)) = [1, 1] ∧
    (Fp 7 (by decide)).rank 2 (mx7 1 2 2 4) = 1 := by
  refine ⟨by decide +kernel, by decide +kernel, by decide +kernel, by decide +kernel, by decide +kernel⟩
theorem fin7 : finv 7 3 = 5 := by decide +kernel
theorem prime_no : primeR 1 = false ∧ primeR 9 = false ∧ primeR 2147483648 = false ∧ primeR 0 = false := by
  refine ⟨primeR_false fun h => ?_, primeR_false fun h => ?_, primeR_false fun h => ?_, primeR_false fun h => ?_⟩
  · have := h.1; omega
  · exact h.2 3 (by omega) (by omega) (by decide)
  · exact h.2 2 (by omega) (by omega) (by decide)
  · have := h.1; omega
end
end Go.Proofs.YtoaaplngdomdcaaGreat.MV

/- MatrixKnown: the statement's function returns true. Printed by wip/known.py. -/
namespace Go.Proofs.YtoaaplngdomdcaaGreat
open Go.RowKit MV
theorem samew_yes7 (va vb : Value) (l m : List Nat) (w : World) (ha : Ny w .u32 va l) (hb : Ny w .u32 vb m) (he : l = m) :
    Calls Tryz.prog 19 #[va, vb] w fun e w' => e = .returned (.bool true) ∧ Below w.heap.size w w' := by
  have q := samew_any va vb l m w ha hb
  rw [decide_eq_true he] at q
  exact q
set_option maxRecDepth 100000 in
set_option maxHeartbeats 16000000 in
theorem law_known (w : World) : Calls Tryz.prog 4 #[] w fun e w' => e = .returned (.bool true) ∧ Below w.heap.size w w' := by
  have qf : ∀ w, Calls Tryz.prog 7 #[.int .u32 7] w fun e w' => ∃ g, e = .returned (.tuple #[.pointer (some ⟨g, 0, none⟩), .bool true]) ∧ Fk 7 g w' ∧ Below w.heap.size w w' := fun w => field_yes 7 w (primeR_true seven (by omega))
  go_enter Tryz.func4, Tryz.ntmps4
  go_wp2_with fail
  refine (awakem_any w).mono ?_
  rintro e w1 ⟨rfl, b⟩
  have BW := hide b
  clear b
  go_wp2_with fail
  refine (qf w1).mono ?_
  rintro e w2 ⟨gm, rfl, hk, b⟩
  clear qf
  have HK0 := hide hk
  replace BW := hide (Below.step BW.out b)
  clear hk b
  go_wp2_with fail
  have n3 := Blk.new w2 22 #[.int .u32 1, .int .u32 9, .int .u32 2147483648, .int .u32 0]
  have b3 := (Below.refl w2.heap.size w2).alloc (Nat.le_refl _) (.cells #[.int .u32 1, .int .u32 9, .int .u32 2147483648, .int .u32 0] 22)
  have HK := hide (HK0.out.below b3)
  replace BW := hide (Below.step BW.out b3)
  clear HK0 b3
  obtain ⟨G, hG⟩ : ∃ G, G = w2.heap.size := ⟨_, rfl⟩
  rw [← hG] at n3 ⊢
  clear hG
  generalize w2.alloc (.cells #[.int .u32 1, .int .u32 9, .int .u32 2147483648, .int .u32 0] 22) = w3 at *
  have c0 : w3.cell? ⟨G, 0, none⟩ = some (.int .u32 1) := by rw [n3.cell]; rfl
  have c1 : w3.cell? ⟨G, 1, none⟩ = some (.int .u32 9) := by rw [n3.cell]; rfl
  have c2 : w3.cell? ⟨G, 2, none⟩ = some (.int .u32 2147483648) := by rw [n3.cell]; rfl
  have c3 : w3.cell? ⟨G, 3, none⟩ = some (.int .u32 0) := by rw [n3.cell]; rfl
  have q0 : Calls Tryz.prog 20 #[.int .u32 1] w3 fun e w' => e = .returned (.tuple #[.pointer none, .int .i64 73]) ∧ w3 = w' := newmod_no 1 w3 (by omega) prime_no.1
  have q1 : Calls Tryz.prog 20 #[.int .u32 9] w3 fun e w' => e = .returned (.tuple #[.pointer none, .int .i64 73]) ∧ w3 = w' := newmod_no 9 w3 (by omega) prime_no.2.1
  have q2 : Calls Tryz.prog 20 #[.int .u32 2147483648] w3 fun e w' => e = .returned (.tuple #[.pointer none, .int .i64 73]) ∧ w3 = w' := newmod_no 2147483648 w3 (by omega) prime_no.2.2.1
  have q3 : Calls Tryz.prog 20 #[.int .u32 0] w3 fun e w' => e = .returned (.tuple #[.pointer none, .int .i64 73]) ∧ w3 = w' := newmod_no 0 w3 (by omega) prime_no.2.2.2
  clear n3
  go_loopw [4, 5, 6, 39] (fun _ _ _ u39 wr => ∃ k : Nat, k ≤ 4 ∧ u39 = .int .i64 (k : Int) ∧ w3 = wr) (fun _ _ _ u39 _ => 4 - (intOf u39).toNat)
  case atStart => exact ⟨0, by omega, rfl, rfl⟩
  case round =>
    obtain ⟨k, hk, rfl, rfl⟩ := hrel
    obtain rfl | rfl | rfl | rfl | rfl : k = 0 ∨ k = 1 ∨ k = 2 ∨ k = 3 ∨ k = 4 := by omega
    · go_wp2_with fail
      refine q0.mono ?_
      rintro e w' ⟨rfl, rfl⟩
      go_wp2
      go_roundw
      case rel => exact ⟨1, by omega, by go_num, trivial⟩
      case measure => simp [intOf]
    · go_wp2_with fail
      refine q1.mono ?_
      rintro e w' ⟨rfl, rfl⟩
      go_wp2
      go_roundw
      case rel => exact ⟨2, by omega, by go_num, trivial⟩
      case measure => simp [intOf]
    · go_wp2_with fail
      refine q2.mono ?_
      rintro e w' ⟨rfl, rfl⟩
      go_wp2
      go_roundw
      case rel => exact ⟨3, by omega, by go_num, trivial⟩
      case measure => simp [intOf]
    · go_wp2_with fail
      refine q3.mono ?_
      rintro e w' ⟨rfl, rfl⟩
      go_wp2
      go_roundw
      case rel => exact ⟨4, by omega, by go_num, trivial⟩
      case measure => simp [intOf]
    · clear q0 q1 q2 q3 c0 c1 c2 c3
      have i3 : Calls Tryz.prog 21 #[.pointer (some ⟨gm, 0, none⟩), .int .u32 3] w3 fun e w' => e = .returned (.tuple #[.int .u32 5, .bool true]) ∧ w3 = w' := by
        have q := minverse_any _ 7 3 w3 HK.out.2.2 (by omega) (by omega) (by omega)
        rw [if_neg (by decide), fin7] at q
        exact q
      have i14 : Calls Tryz.prog 21 #[.pointer (some ⟨gm, 0, none⟩), .int .u32 14] w3 fun e w' => e = .returned (.tuple #[.int .u32 0, .bool false]) ∧ w3 = w' := by
        have q := minverse_any _ 7 14 w3 HK.out.2.2 (by omega) (by omega) (by omega)
        rw [if_pos (by decide)] at q
        exact q
      have ia : Calls Tryz.prog 22 #[.pointer (some ⟨gm, 0, none⟩), .int .u32 5, .int .u32 4] w3 fun e w' => e = .returned (.int .u32 2) ∧ w3 = w' := madd_any _ 7 5 4 w3 HK.out.2.2 (by omega) (by omega) (by omega) (by omega)
      have is : Calls Tryz.prog 23 #[.pointer (some ⟨gm, 0, none⟩), .int .u32 2, .int .u32 5] w3 fun e w' => e = .returned (.int .u32 4) ∧ ∃ q, w' = w3.drewN q := msub_any _ 7 2 5 w3 HK.out.2.2 (by omega) (by omega) (by omega) (by omega)
      have im : ∀ w, Below w3.heap.size w3 w → Calls Tryz.prog 24 #[.pointer (some ⟨gm, 0, none⟩), .int .u32 10, .int .u32 3] w fun e w' => e = .returned (.int .u32 2) ∧ w = w' := fun w hb => mmul_any _ 7 10 3 w (HK.out.below hb).2.2 (by omega) (by omega) (by omega) (by omega)
      go_wp2_with fail
      refine i3.mono ?_
      rintro e w' ⟨rfl, rfl⟩
      clear i3
      go_wp2_with fail
      refine i14.mono ?_
      rintro e w' ⟨rfl, rfl⟩
      clear i14
      go_wp2_with fail
      refine ia.mono ?_
      rintro e w' ⟨rfl, rfl⟩
      clear ia
      go_wp2_with fail
      refine is.mono ?_
      rintro e w4 ⟨rfl, q, hq⟩
      have b : Below w3.heap.size w3 w4 := hq ▸ below_drewN (Below.refl _ _) q
      replace im := im w4 b
      clear is hq
      replace HK := hide (HK.out.below b)
      replace BW := hide (Below.step BW.out b)
      clear b
      go_wp2_with fail
      refine im.mono ?_
      rintro e w' ⟨rfl, rfl⟩
      clear im
      go_wp2_with fail
      refine (sq7 1 2 3 4 1 2 3 4 w4 HK.out rfl rfl rfl rfl (by omega)).mono ?_
      rintro e w5 ⟨g11, rfl, hm, b⟩
      replace HK := hide (HK.out.below b)
      replace BW := hide (Below.step BW.out b)
      clear b
      go_wp2_with ((with_reducible change wpList _ _ _ (⟨none, .store _ (.tmp 11) _, _, _, _, _⟩ :: _) _ _); go_loud (refine wpList_store_row (o := ⟨none, .store _ (.tmp 11) _, _, _, _, _⟩) (Blk.new w5 _ _) #[.pointer none, .pointer (some ⟨g11, 0, none⟩)] rfl (by simp [Value.oneCell']) rfl 32 _ _ rfl (by kernel_rfl) rfl rfl ?_; intro w6 hw gw; have b : Below w5.heap.size w5 w6 := ((Below.refl _ w5).alloc (Nat.le_refl _) _).grown gw (by simp) (fun k hk => by cases hk; exact Nat.le_refl _); have K11 := hide (MC.new hw (hm.below b)); replace HK := hide (HK.out.below b); replace BW := hide (Below.step BW.out b); clear b hw gw hm; obtain ⟨c110, c111, _⟩ := K11.out))
      refine (mmul_c (hp := (by decide : 0 < 7)) g11 g11 2 K11.out.2.2 K11.out.2.2 HK.out (by omega) (by omega) (by omega)).mono ?_
      rintro e w7 ⟨g13, rfl, hm, b⟩
      clear c110 c111
      replace K11 := hide (K11.out.below b)
      replace HK := hide (HK.out.below b)
      replace BW := hide (Below.step BW.out b)
      clear b
      go_wp2_with ((with_reducible change wpList _ _ _ (⟨none, .store _ (.tmp 13) _, _, _, _, _⟩ :: _) _ _); go_loud (refine wpList_store_row (o := ⟨none, .store _ (.tmp 13) _, _, _, _, _⟩) (Blk.new w7 _ _) #[.pointer none, .pointer (some ⟨g13, 0, none⟩)] rfl (by simp [Value.oneCell']) rfl 32 _ _ rfl (by kernel_rfl) rfl rfl ?_; intro w8 hw gw; have b : Below w7.heap.size w7 w8 := ((Below.refl _ w7).alloc (Nat.le_refl _) _).grown gw (by simp) (fun k hk => by cases hk; exact Nat.le_refl _); have K13 := hide (MC.new hw (hm.below b)); replace K11 := hide (K11.out.below b); replace HK := hide (HK.out.below b); replace BW := hide (Below.step BW.out b); clear b hw gw hm; obtain ⟨c130, c131, _⟩ := K13.out))
      refine (there_c g13 w8).mono ?_
      rintro e w9 ⟨rfl, b⟩
      clear c130 c131
      replace K11 := hide (K11.out.below b)
      replace K13 := hide (K13.out.below b)
      replace HK := hide (HK.out.below b)
      replace BW := hide (Below.step BW.out b)
      clear b
      go_wp2_with fail
      refine (sq7 0 3 1 1 0 3 1 1 w9 HK.out rfl rfl rfl rfl (by omega)).mono ?_
      rintro e w10 ⟨g15, rfl, hm, b⟩
      replace K11 := hide (K11.out.below b)
      replace K13 := hide (K13.out.below b)
      replace HK := hide (HK.out.below b)
      replace BW := hide (Below.step BW.out b)
      clear b
      go_wp2_with ((with_reducible change wpList _ _ _ (⟨none, .store _ (.tmp 15) _, _, _, _, _⟩ :: _) _ _); go_loud (refine wpList_store_row (o := ⟨none, .store _ (.tmp 15) _, _, _, _, _⟩) (Blk.new w10 _ _) #[.pointer none, .pointer (some ⟨g15, 0, none⟩)] rfl (by simp [Value.oneCell']) rfl 32 _ _ rfl (by kernel_rfl) rfl rfl ?_; intro w11 hw gw; have b : Below w10.heap.size w10 w11 := ((Below.refl _ w10).alloc (Nat.le_refl _) _).grown gw (by simp) (fun k hk => by cases hk; exact Nat.le_refl _); have K15 := hide (MC.new hw (hm.below b)); replace K11 := hide (K11.out.below b); replace K13 := hide (K13.out.below b); replace HK := hide (HK.out.below b); replace BW := hide (Below.step BW.out b); clear b hw gw hm; obtain ⟨c110, c111, _⟩ := K11.out))
      have ny := hide (two7 1 1 1 1 w11 rfl rfl)
      have b : Below w11.heap.size w11 (w11.alloc (.cells #[.int .u32 1, .int .u32 1] 22)) := (Below.refl _ _).alloc (Nat.le_refl _) _
      replace K11 := hide (K11.out.below b)
      replace K13 := hide (K13.out.below b)
      replace K15 := hide (K15.out.below b)
      replace HK := hide (HK.out.below b)
      replace BW := hide (Below.step BW.out b)
      clear b
      obtain ⟨Aw12, hAw12⟩ : ∃ A, A = w11.heap.size := ⟨_, rfl⟩
      rw [← hAw12] at ny ⊢
      clear hAw12
      generalize w11.alloc (.cells #[.int .u32 1, .int .u32 1] 22) = w12 at *
      refine (times_g (hp := (by decide : 0 < 7)) g11 2 _ v11 K11.out.2.2 HK.out (by omega) ny.out).mono ?_
      rintro e w13 ⟨ut, bt, rfl, ho, b⟩
      clear c110 c111
      replace K11 := hide (K11.out.below b)
      replace K13 := hide (K13.out.below b)
      replace K15 := hide (K15.out.below b)
      replace HK := hide (HK.out.below b)
      replace BW := hide (Below.step BW.out b)
      clear b
      rw [facts7.2.1] at ho
      have HT := hide ho
      clear ho ny
      obtain ⟨c110, c111, _⟩ := K11.out
      go_wp2_with fail
      have ny := hide (two7 3 0 3 0 w13 rfl rfl)
      have b : Below w13.heap.size w13 (w13.alloc (.cells #[.int .u32 3, .int .u32 0] 22)) := (Below.refl _ _).alloc (Nat.le_refl _) _
      replace K11 := hide (K11.out.below b)
      replace K13 := hide (K13.out.below b)
      replace K15 := hide (K15.out.below b)
      replace HT := hide (HT.out.below b)
      replace HK := hide (HK.out.below b)
      replace BW := hide (Below.step BW.out b)
      clear b
      obtain ⟨Aw14, hAw14⟩ : ∃ A, A = w13.heap.size := ⟨_, rfl⟩
      rw [← hAw14] at ny ⊢
      clear hAw14
      generalize w13.alloc (.cells #[.int .u32 3, .int .u32 0] 22) = w14 at *
      refine (solve_ok (hp := (by decide : 0 < 7)) g11 2 _ v30 K11.out.2.2 HK.out (by omega) ny.out facts7.2.2.1).mono ?_
      rintro e w15 ⟨us, bs, rfl, ho, b⟩
      clear c110 c111
      replace K11 := hide (K11.out.below b)
      replace K13 := hide (K13.out.below b)
      replace K15 := hide (K15.out.below b)
      replace HT := hide (HT.out.below b)
      replace HK := hide (HK.out.below b)
      replace BW := hide (Below.step BW.out b)
      clear b
      rw [facts7.2.2.2.1] at ho
      have HS := hide ho
      clear ho ny
      obtain ⟨c130, c131, _⟩ := K13.out
      obtain ⟨c150, c151, _⟩ := K15.out
      go_wp2_with fail
      refine (msame_yes g13 g15 2 K13.out.2.2 K15.out.2.2 (by omega) (fun i j hi hj => facts7.1 i hi j hj)).mono ?_
      rintro e w16 ⟨rfl, b⟩
      clear c130 c131 c150 c151
      replace K11 := hide (K11.out.below b)
      replace K13 := hide (K13.out.below b)
      replace K15 := hide (K15.out.below b)
      replace HT := hide (HT.out.below b)
      replace HS := hide (HS.out.below b)
      replace HK := hide (HK.out.below b)
      replace BW := hide (Below.step BW.out b)
      clear b
      go_wp2_with fail
      have ny := hide (two7 3 0 3 0 w16 rfl rfl)
      have b : Below w16.heap.size w16 (w16.alloc (.cells #[.int .u32 3, .int .u32 0] 22)) := (Below.refl _ _).alloc (Nat.le_refl _) _
      replace K11 := hide (K11.out.below b)
      replace K13 := hide (K13.out.below b)
      replace K15 := hide (K15.out.below b)
      replace HT := hide (HT.out.below b)
      replace HS := hide (HS.out.below b)
      replace HK := hide (HK.out.below b)
      replace BW := hide (Below.step BW.out b)
      clear b
      obtain ⟨Aw17, hAw17⟩ : ∃ A, A = w16.heap.size := ⟨_, rfl⟩
      rw [← hAw17] at ny ⊢
      clear hAw17
      generalize w16.alloc (.cells #[.int .u32 3, .int .u32 0] 22) = w17 at *
      refine (samew_yes7 ut _ _ _ w17 HT.out.ny ny.out rfl).mono ?_
      rintro e w18 ⟨rfl, b⟩
      replace K11 := hide (K11.out.below b)
      replace K13 := hide (K13.out.below b)
      replace K15 := hide (K15.out.below b)
      replace HT := hide (HT.out.below b)
      replace HS := hide (HS.out.below b)
      replace HK := hide (HK.out.below b)
      replace BW := hide (Below.step BW.out b)
      clear b
      clear ny
      go_wp2_with fail
      have ny := hide (two7 1 1 1 1 w18 rfl rfl)
      have b : Below w18.heap.size w18 (w18.alloc (.cells #[.int .u32 1, .int .u32 1] 22)) := (Below.refl _ _).alloc (Nat.le_refl _) _
      replace K11 := hide (K11.out.below b)
      replace K13 := hide (K13.out.below b)
      replace K15 := hide (K15.out.below b)
      replace HT := hide (HT.out.below b)
      replace HS := hide (HS.out.below b)
      replace HK := hide (HK.out.below b)
      replace BW := hide (Below.step BW.out b)
      clear b
      obtain ⟨Aw19, hAw19⟩ : ∃ A, A = w18.heap.size := ⟨_, rfl⟩
      rw [← hAw19] at ny ⊢
      clear hAw19
      generalize w18.alloc (.cells #[.int .u32 1, .int .u32 1] 22) = w19 at *
      refine (samew_yes7 us _ _ _ w19 HS.out.ny ny.out rfl).mono ?_
      rintro e w20 ⟨rfl, b⟩
      replace K11 := hide (K11.out.below b)
      replace K13 := hide (K13.out.below b)
      replace K15 := hide (K15.out.below b)
      replace HT := hide (HT.out.below b)
      replace HS := hide (HS.out.below b)
      replace HK := hide (HK.out.below b)
      replace BW := hide (Below.step BW.out b)
      clear b
      clear ny
      go_wp2_with fail
      refine (sq7 1 2 2 4 1 2 2 4 w20 HK.out rfl rfl rfl rfl (by omega)).mono ?_
      rintro e w21 ⟨g22, rfl, hm, b⟩
      replace K11 := hide (K11.out.below b)
      replace K13 := hide (K13.out.below b)
      replace K15 := hide (K15.out.below b)
      replace HT := hide (HT.out.below b)
      replace HS := hide (HS.out.below b)
      replace HK := hide (HK.out.below b)
      replace BW := hide (Below.step BW.out b)
      clear b
      go_wp2_with ((with_reducible change wpList _ _ _ (⟨none, .store _ (.tmp 22) _, _, _, _, _⟩ :: _) _ _); go_loud (refine wpList_store_row (o := ⟨none, .store _ (.tmp 22) _, _, _, _, _⟩) (Blk.new w21 _ _) #[.pointer none, .pointer (some ⟨g22, 0, none⟩)] rfl (by simp [Value.oneCell']) rfl 32 _ _ rfl (by kernel_rfl) rfl rfl ?_; intro w22 hw gw; have b : Below w21.heap.size w21 w22 := ((Below.refl _ w21).alloc (Nat.le_refl _) _).grown gw (by simp) (fun k hk => by cases hk; exact Nat.le_refl _); have K22 := hide (MC.new hw (hm.below b)); replace K11 := hide (K11.out.below b); replace K13 := hide (K13.out.below b); replace K15 := hide (K15.out.below b); replace HT := hide (HT.out.below b); replace HS := hide (HS.out.below b); replace HK := hide (HK.out.below b); replace BW := hide (Below.step BW.out b); clear b hw gw hm; obtain ⟨c220, c221, _⟩ := K22.out))
      have qz := sizes_c (hp := (by decide : 0 < 7)) g22 K22.out.2.2 HK.out (by omega)
      rw [facts7.2.2.2.2] at qz
      refine (qz).mono ?_
      rintro e w23 ⟨rfl, b⟩
      clear c220 c221
      replace K11 := hide (K11.out.below b)
      replace K13 := hide (K13.out.below b)
      replace K15 := hide (K15.out.below b)
      replace K22 := hide (K22.out.below b)
      replace HT := hide (HT.out.below b)
      replace HS := hide (HS.out.below b)
      replace HK := hide (HK.out.below b)
      replace BW := hide (Below.step BW.out b)
      clear b
      clear qz
      obtain ⟨c220, c221, _⟩ := K22.out
      go_wp2_with fail
      refine (minv_bad g22 2 (hp := (by decide : 0 < 7)) K22.out.2.2 HK.out (by omega) (by rw [facts7.2.2.2.2]; omega)).mono ?_
      rintro e w24 ⟨rfl, b⟩
      clear c220 c221
      replace K11 := hide (K11.out.below b)
      replace K13 := hide (K13.out.below b)
      replace K15 := hide (K15.out.below b)
      replace K22 := hide (K22.out.below b)
      replace HT := hide (HT.out.below b)
      replace HS := hide (HS.out.below b)
      replace HK := hide (HK.out.below b)
      replace BW := hide (Below.step BW.out b)
      clear b
      obtain ⟨c110, c111, _⟩ := K11.out
      go_wp2_with fail
      have n := Blk.new w24 3 #[.int .i64 2]
      have b : Below w24.heap.size w24 (w24.alloc (.cells #[.int .i64 2] 3)) := (Below.refl _ _).alloc (Nat.le_refl _) _
      replace K11 := hide (K11.out.below b)
      replace K13 := hide (K13.out.below b)
      replace K15 := hide (K15.out.below b)
      replace K22 := hide (K22.out.below b)
      replace HT := hide (HT.out.below b)
      replace HS := hide (HS.out.below b)
      replace HK := hide (HK.out.below b)
      replace BW := hide (Below.step BW.out b)
      clear b
      obtain ⟨S, hS⟩ : ∃ S, S = w24.heap.size := ⟨_, rfl⟩
      rw [← hS] at n ⊢
      clear hS
      generalize w24.alloc (.cells #[.int .i64 2] 3) = w25 at *
      refine (mpick_bad 72 _ g11 w25 rfl (fun W hW => pick_two g11 S (K11.out.below hW).2.2 (n.below' hW))).mono ?_
      rintro e w26 ⟨rfl, b⟩
      clear c110 c111
      replace K11 := hide (K11.out.below b)
      replace K13 := hide (K13.out.below b)
      replace K15 := hide (K15.out.below b)
      replace K22 := hide (K22.out.below b)
      replace HT := hide (HT.out.below b)
      replace HS := hide (HS.out.below b)
      replace HK := hide (HK.out.below b)
      replace BW := hide (Below.step BW.out b)
      clear b
      clear n
      obtain ⟨c110, c111, _⟩ := K11.out
      go_wp2_with fail
      refine (mpick_bad 70 _ g11 w26 rfl (fun W hW => pick_none g11 (K11.out.below hW).2.2)).mono ?_
      rintro e w27 ⟨rfl, b⟩
      clear c110 c111
      replace K11 := hide (K11.out.below b)
      replace K13 := hide (K13.out.below b)
      replace K15 := hide (K15.out.below b)
      replace K22 := hide (K22.out.below b)
      replace HT := hide (HT.out.below b)
      replace HS := hide (HS.out.below b)
      replace HK := hide (HK.out.below b)
      replace BW := hide (Below.step BW.out b)
      clear b
      go_wp2_with ((with_reducible change wpList _ _ _ (⟨none, .store _ (.tmp 27) _, _, _, _, _⟩ :: _) _ _); go_loud (refine wpList_store_row (o := ⟨none, .store _ (.tmp 27) _, _, _, _, _⟩) (Blk.new w27 _ _) #[.pointer none, .pointer none] rfl (by simp [Value.oneCell']) rfl 32 _ _ rfl (by kernel_rfl) rfl rfl ?_; intro w28 hw gw; have b : Below w27.heap.size w27 w28 := ((Below.refl _ w27).alloc (Nat.le_refl _) _).grown gw (by simp) (fun k hk => by cases hk; exact Nat.le_refl _); replace K11 := hide (K11.out.below b); replace K13 := hide (K13.out.below b); replace K15 := hide (K15.out.below b); replace K22 := hide (K22.out.below b); replace HT := hide (HT.out.below b); replace HS := hide (HS.out.below b); replace HK := hide (HK.out.below b); replace BW := hide (Below.step BW.out b); clear b hw gw; obtain ⟨c110, c111, _⟩ := K11.out))
      refine (mat_at_row2 g11 K11.out.2.2).mono ?_
      rintro e w29 ⟨rfl, b⟩
      clear c110 c111
      replace K11 := hide (K11.out.below b)
      replace K13 := hide (K13.out.below b)
      replace K15 := hide (K15.out.below b)
      replace K22 := hide (K22.out.below b)
      replace HT := hide (HT.out.below b)
      replace HS := hide (HS.out.below b)
      replace HK := hide (HK.out.below b)
      replace BW := hide (Below.step BW.out b)
      clear b
      go_wp2
      go_ret
      exact ⟨rfl, BW.out⟩
end Go.Proofs.YtoaaplngdomdcaaGreat

/- From the reading of an argument to what the walks are told of it. -/
namespace Go.Proofs.YtoaaplngdomdcaaGreat
open Go.RowKit

theorem cell_lt {w : World} {a : Addr} {v : Value} (h : w.cell? a = some v) : a.block < w.heap.size := by
  rcases Nat.lt_or_ge a.block w.heap.size with h1 | h1
  · exact h1
  · simp [World.cell?, Array.getElem?_eq_none h1] at h

/-- A slice of bytes that came in. -/
theorem by_of_row {w : World} {a : Addr} {len cap : Nat} {zs : List Int} (hl : len ≤ cap) (hm : cap ≤ maxLen) (hz : zs.length = cap)
    (hcell : ∀ i, i < zs.length → w.cell? (a.add i) = some (.int .u8 (zs.getD i 0))) (hwz : ∀ n ∈ zs, (Lit.int .u8 n).wf = true) :
    ∃ l : List UInt8, l.length = len ∧ By w (.slice (some a) len cap) l := by
  refine ⟨(zs.take len).map fun z => UInt8.ofNat z.toNat, by simp; omega, ?_, some a, cap, by simp; omega, by simp; omega, hm, fun h0 => ?_⟩
  · simp
  · obtain ⟨b, o, sp⟩ := a
    simp only [List.length_map, List.length_take] at h0
    have h1 := hcell 0 (by omega)
    have hsp : sp = none := by simpa [Addr.add] using World.cell?_spot h1
    subst hsp
    refine ⟨b, o, rfl, cell_lt (a := ⟨b, o, none⟩) (by simpa [Addr.add] using h1), fun j hj => ?_⟩
    simp only [List.length_map, List.length_take, Nat.mul_one] at hj
    have hc := hcell j (by omega)
    rw [Addr.add_mid] at hc
    rw [hc, bcells_get, List.getElem?_map, List.getElem?_take_of_lt (by omega), List.getElem?_eq_getElem (by omega)]
    have hw := hwz zs[j] (List.getElem_mem (by omega))
    have hb : 0 ≤ zs[j] ∧ zs[j] ≤ 255 := by simpa [Lit.wf, IntKind.min, IntKind.max, IntKind.bits, IntKind.signed] using hw
    simp only [Option.map_some, Option.some.injEq, Value.int.injEq, true_and]
    rw [List.getD_eq_getElem?_getD, List.getElem?_eq_getElem (by omega), Option.getD_some, UInt8.toNat_ofNat']
    omega

end Go.Proofs.YtoaaplngdomdcaaGreat
