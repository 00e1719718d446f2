/- Joined texts: MbS, MbT, MatS, MbU, MatE, MwG, MvF, MvA, MvC, MvD, MvE. -/
import Derived.Test.YtoaaplngdomdcaaGreatJ6
import Derived.Test.YtoaaplngdomdcaaGreatJ1
import Derived.Laws.Cover3
import Derived.Lib.EndianMore
import Derived.Deep.Upon
import Derived.Deep.RegionHeld3
import Derived.Test.YtoaaplngdomdcaaGreatJ2
import Derived.Shelf.Abstract

/- Matrices of bytes: New of a list of numbers, with what stands when an older block is written. -/
namespace Go.Proofs.YtoaaplngdomdcaaGreat.MB
open Go.RowKit
section

theorem mx_wr {w w7 : World} {base g B : Nat} {L : List (List UInt8)} (h : Mx w base g L) (hw : Wr B w w7) (hB : B ≤ base) : Mx w7 base g L := by
  induction hw with
  | refl => exact h
  | step _ hG hg ih => exact mx_low ih (Nat.lt_of_lt_of_le hG hB) hg
  | keep _ hb ih => exact ih.below hb
/-- What lays a matrix, with what stands when older blocks are written, one behind the other. -/
theorem laid_s2 (rows cols : Nat) (K : FuncId) (cap : Array Value) (M : Nat → Nat → UInt8) (w : World) (hr : rows ≤ 256) (hc : cols ≤ 256)
    (hent : ∀ (args : Array Value) (w : World), (callFunc K args).run Tryz.prog w = .ok (.enter K args) w)
    (hcl : ∀ (i j : Nat) (w' : World), i < rows → j < cols → Below w.heap.size w w' → Calls Tryz.prog K (#[.int .i64 (i : Int), .int .i64 (j : Int)] ++ cap) w' fun e w'' => e = .returned (.int .u8 ((UInt8.toNat (M i j) : Nat) : Int)) ∧ Below w'.heap.size w' w'') :
    Calls Tryz.prog 83 #[gfF, .int .i64 (rows : Int), .int .i64 (cols : Int), .func (.func K) #[] cap] w fun e w' => ∃ g, e = .returned (.pointer (some ⟨g, 0, none⟩)) ∧ Mtx w' g rows cols M ∧ Below w.heap.size w w' ∧ ∀ w7, Wr w.heap.size w' w7 → Mtx w7 g rows cols M := by
  refine (laid_any rows cols K cap M w hr hc hent hcl).mono ?_
  rintro e w' ⟨g, rfl, hmx, hb⟩
  exact ⟨g, rfl, mt_of hmx, hb, fun w7 hw => mt_of (mx_wr hmx hw (Nat.le_refl _))⟩
set_option maxRecDepth 100000 in
set_option maxHeartbeats 1600000 in
theorem newl_c (rows cols : Nat) (ve : Value) (l : List Nat) (w : World) (hk : Fk w) (hr : 1 ≤ rows ∧ rows ≤ 256) (hc : 1 ≤ cols ∧ cols ≤ 256)
    (hl : By w ve (l.map UInt8.ofNat))
    (hlen : l.length = rows * cols) :
    Calls Tryz.prog 79 #[gfF, .int .i64 (rows : Int), .int .i64 (cols : Int), ve] w fun e w' =>
      ∃ g, e = .returned (.tuple #[.pointer (some ⟨g, 0, none⟩), .int .i64 0]) ∧ Mtx w' g rows cols (fun i j => UInt8.ofNat (l.getD (i * cols + j) 0)) ∧ Below w.heap.size w w' ∧ ∀ w7, Wr w.heap.size w' w7 → Mtx w7 g rows cols (fun i j => UInt8.ofNat (l.getD (i * cols + j) 0)) := by
  have q1 := fun w => dims_c rows cols w hr hc
  have hE : ∀ i j, i < rows → j < cols → l[i * cols + j]? = some (l.getD (i * cols + j) 0) := fun i j hi hj => by
    have h1 : i * cols + j < l.length := by
      rw [hlen]
      have : (i + 1) * cols ≤ rows * cols := Nat.mul_le_mul_right _ hi
      rw [Nat.succ_mul] at this
      omega
    rw [List.getD_eq_getElem?_getD, List.getElem?_eq_getElem h1]
    rfl
  obtain ⟨A, c, rfl, hlc, hcm, hcell⟩ := hl.form
  clear hcell
  have hln : (l.map UInt8.ofNat).length = l.length := List.length_map ..
  rw [hln] at hlc hl ⊢
  have hm : rows * cols ≤ 65536 := Nat.le_trans (Nat.mul_le_mul hr.2 hc.2) (by omega)
  have hw1 : IntKind.i64.wrap ((rows : Int) * (cols : Int)) = (l.length : Int) := by
    rw [hlen, ← Int.natCast_mul]
    simp [IntKind.wrap, IntKind.bits, IntKind.signed]
    omega
  have HH := hide (And.intro hlen (And.intro hr (And.intro hc (And.intro hl (And.intro hE (And.intro hlc (And.intro hcm (And.intro hk True.intro))))))))
  clear hlen hr hc hl hE hlc hcm hm hk
  go_enter Tryz.func79, Tryz.ntmps79
  go_wp2_with fail
  refine (q1 _).mono ?_
  rintro e w' ⟨rfl, rfl⟩
  go_wp2_with fail
  have n1 := ((Blk.new w 126 #[gfF]).alloc (.cells #[.int .i64 (cols : Int)] 3)).alloc (.cells #[.slice A l.length c] 85)
  have n2 := (Blk.new (w.alloc (.cells #[gfF] 126)) 3 #[.int .i64 (cols : Int)]).alloc (.cells #[.slice A l.length c] 85)
  have n3 := Blk.new ((w.alloc (.cells #[gfF] 126)).alloc (.cells #[.int .i64 (cols : Int)] 3)) 85 #[.slice A l.length c]
  have n4 := (((Below.refl w.heap.size w).alloc (Nat.le_refl _) (.cells #[gfF] 126)).alloc (by simp) (.cells #[.int .i64 (cols : Int)] 3)).alloc (by simp; omega) (.cells #[.slice A l.length c] 85)
  simp only [World.size_alloc] at n2 n3
  generalize ((w.alloc (.cells #[gfF] 126)).alloc (.cells #[.int .i64 (cols : Int)] 3)).alloc (.cells #[.slice A l.length c] 85) = W at *
  refine (laid_s2 rows cols 128 #[.pointer (some ⟨w.heap.size, 0, none⟩), .pointer (some ⟨w.heap.size + 1 + 1, 0, none⟩), .pointer (some ⟨w.heap.size + 1, 0, none⟩)] (fun i j => UInt8.ofNat (l.getD (i * cols + j) 0)) W HH.out.2.1.2 HH.out.2.2.1.2
    (enters_of Tryz.func128 (by kernel_rfl) rfl) ?_).mono ?_
  · intro i j w' hi hj hb
    obtain ⟨hlen, hr, hc, hl, hE, hlc, hcm, hk, hbb⟩ := HH.out
    refine newc_any i j cols (l.map UInt8.ofNat) (UInt8.ofNat (l.getD (i * cols + j) 0)) (.slice A l.length c) w.heap.size (w.heap.size + 1 + 1) (w.heap.size + 1) w' (by omega) (by omega) hc.2 ((hl.below n4).below hb) (by rw [List.getElem?_map, hE i j hi hj]; rfl) ?_ ?_ ?_
    · rw [(n1.below' hb).cell]; rfl
    · rw [(n3.below' hb).cell]; rfl
    · rw [(n2.below' hb).cell]; rfl
  · rintro e w' ⟨g, rfl, hmx, hb, hlw⟩
    have H4 := hide (And.intro n4 (And.intro hmx (And.intro hb hlw)))
    clear n1 n2 n3 n4 hmx hb q1 hw1 hlw
    go_wp2
    go_ret2
    exact ⟨g, rfl, H4.out.2.1, H4.out.1.trans (H4.out.2.2.1.mono H4.out.1.size), fun w7 hw => H4.out.2.2.2 w7 (hw.mono H4.out.1.size)⟩
end
end Go.Proofs.YtoaaplngdomdcaaGreat.MB

/- The statements' fresh over bytes: New of what is lent, which is written over behind the call. -/
namespace Go.Proofs.YtoaaplngdomdcaaGreat.MB
open Go.RowKit
theorem row_tmp2 {P : Program} {fn : Func} {p u v : Tmp} {ty : TypeId} (h : fn.results = #[.cell p ty, .tmp u, .tmp v]) (tmps : Array Value) (w : World) (g : Nat) (t : TypeId) (cs : Array Value) (fr : Nat × Nat) (d : TypeDesc)
    (hp : tmps.getD p undef = .pointer (some ⟨g, 0, none⟩)) (hg : w.heap[g]? = some (.cells cs t fr))
    (hu : P.underlying ty = some d) (hd : (match d with | .struct _ | .array _ _ => true | _ => false) = true) (hi : (P.info? ty).map (·.size) = some cs.size) :
    (results fn tmps).run P w = .ok (.tuple #[.agg cs, tmps.getD u undef, tmps.getD v undef]) w := by
  have hp' : tmps[p]?.getD undef = .pointer (some ⟨g, 0, none⟩) := by simpa using hp
  simp only [results, h]
  simp [Sem.run_bind, Result.andThen, hp', asAddr, run_loadVar_row w g t ty cs fr d hg hu hd hi]
section

set_option maxRecDepth 100000 in
set_option maxHeartbeats 4000000 in
theorem fresh_c (rows cols : Nat) (ve : Value) (l : List Nat) (w : World) (hk : Fk w) (hr : 1 ≤ rows ∧ rows ≤ 256) (hc : 1 ≤ cols ∧ cols ≤ 256)
    (hl : Ny w .u32 ve l) (hbd : ∀ (i x : Nat), l[i]? = some x → (x : Int) ≤ 4294967295) (hlen : l.length = rows * cols) :
    Calls Tryz.prog 31 #[.int .u32 0, .pointer none, .int .i64 (rows : Int), .int .i64 (cols : Int), ve] w fun e w' =>
      ∃ g, e = .returned (.tuple #[.agg #[.pointer (some ⟨g, 0, none⟩), .pointer none], .int .i64 0, .bool true]) ∧ Mtx w' g rows cols (fun i j => UInt8.ofNat (l.getD (i * cols + j) 0)) ∧ Below w.heap.size w w' ∧ ∀ w7, Wr w.heap.size w' w7 → Mtx w7 g rows cols (fun i j => UInt8.ofNat (l.getD (i * cols + j) 0)) := by
  have hm : l.length ≤ 65536 := by rw [hlen]; exact Nat.le_trans (Nat.mul_le_mul hr.2 hc.2) (by omega)
  have b0 := (Below.refl w.heap.size w).alloc (Nat.le_refl _) (.cells #[.pointer none, .pointer none] 32)
  have n0 := Blk.new w 32 #[.pointer none, .pointer none]
  have z0 : (w.alloc (.cells #[.pointer none, .pointer none] 32)).heap.size = w.heap.size + 1 := by simp
  have HH := hide (And.intro hr (And.intro hc (And.intro hbd (And.intro hlen (And.intro hk hl)))))
  obtain ⟨A, c, rfl, hlc, hcm, _⟩ := hl.form
  generalize hW0 : w.alloc (.cells #[.pointer none, .pointer none] 32) = W0 at b0 n0 z0
  have hl0 := HH.out.2.2.2.2.2.below b0
  have hk0 := HH.out.2.2.2.2.1.below b0
  have Q1 := hide (bytes_any _ l W0 hl0 (by omega))
  have HB0 := hide (And.intro b0 n0)
  have Z0 := hide z0
  clear hr hc hbd hlen hk hl b0 n0 hl0 z0
  go_enter Tryz.func31, Tryz.ntmps31
  go_wp2_with fail
  refine Q1.out.mono ?_
  rintro e w1 ⟨vb, rfl, o1, b1⟩
  obtain ⟨bl, hbl⟩ : ∃ bl, bl = l.map UInt8.ofNat := ⟨_, rfl⟩
  rw [← hbl] at o1
  have HBLL := hide (show bl.length = l.length by rw [hbl]; exact List.length_map ..)
  have HBL := hide hbl
  obtain ⟨A2, c2, rfl, _⟩ := o1.by_.form
  have Q2 := hide (lent_any _ bl w1 o1.by_ (by have := HBLL.out; omega))
  have O1 := hide (And.intro o1 b1)
  clear o1 b1 Q1 hbl
  go_wp2_with fail
  refine Q2.out.mono ?_
  rintro e w2 ⟨v, rfl, o2, b2⟩
  have HK := hide (hk0.below (O1.out.2.trans (b2.mono O1.out.2.size)))
  have B2 := hide (And.intro b2 (O1.out.2.trans (b2.mono O1.out.2.size)))
  have by2 := hide (O1.out.1.by_.below b2)
  obtain ⟨g, cap, rfl, hg, hglt⟩ := o2.form (by simp)
  have hby := o2.front
  have k1 : bl.length ≤ cap := by obtain ⟨A', c', hv, hc', _⟩ := hby.form; injection hv; omega
  have Q3 := hide (newl_c rows cols _ l w2 HK.out HH.out.1 HH.out.2.1 (by rw [← HBL.out]; exact hby) HH.out.2.2.2.1)
  have O2 := hide o2
  generalize hN : (bl ++ marks 0 bl.length 70).length = N at *
  clear Q2 b2 o2 hby
  have k2 : (bl.length : Int) ≤ (cap : Int) := by omega
  have k3 : (0 : Int) ≤ (bl.length : Int) := by omega
  clear hk0
  have G1 := hide hglt
  clear hglt hg
  go_wp2_with fail
  refine Q3.out.mono ?_
  rintro e w3 ⟨x, rfl, _, b3, hlow⟩
  have B3 := hide (And.intro b3 hlow)
  have Q4 := hide (kept_any _ _ _ bl w3 (O2.out.below b3).by_ (by2.out.below b3) (by have := HBLL.out; omega))
  rw [decide_eq_true rfl] at Q4
  clear b3 hlow Q3
  go_wp2_with fail
  refine Q4.out.mono ?_
  rintro e w4 ⟨rfl, b4⟩
  have O4 := (O2.out.below B3.out.1).below b4
  have Q5 := hide (over_any _ _ _ w4 O4 (by have := HBLL.out; rw [hN, ← hN]; simp; omega))
  have B4 := hide b4
  clear O4 b4 Q4
  go_wp2_with fail
  refine Q5.out.mono ?_
  rintro e w5 ⟨rfl, hb5, hg5, _⟩
  have hg5' : Wr w2.heap.size w3 w5 := .step (.keep (.refl _) B4.out) G1.out hg5
  have hlo : w.heap.size < w1.heap.size := by have := Z0.out; have := O1.out.2.size; omega
  have h5 := hide ((Below.step (Below.step (Below.step HB0.out.1 B2.out.2) B3.out.1) B4.out).trans (hb5.mono (Nat.le_of_lt hlo)))
  have hblk : Blk w5 w.heap.size 32 #[.pointer none, .pointer none] :=
    (((HB0.out.2.below' B2.out.2).below' B3.out.1).below' B4.out).below hb5 hlo
  have HX := hide hg5'
  clear Q5 hb5 hg5 hg5' hlo
  go_wp2_with ((with_reducible change wpList _ _ _ (⟨none, .store _ (.tmp 10) _, _, _, _, _⟩ :: _) _ _); go_loud (refine wpList_store_row (o := ⟨none, .store _ (.tmp 10) _, _, _, _, _⟩) hblk #[.pointer (some ⟨x, 0, none⟩), .pointer none] rfl (by simp [Value.oneCell']) rfl 32 _ _ rfl (by kernel_rfl) rfl rfl ?_; intro w7 hb7 hg7))
  have hx7 : Wr w2.heap.size w3 w7 := .step HX.out (by have := Z0.out; have := B2.out.2.size; omega) hg7
  have hle : w.heap.size ≤ w2.heap.size := by have := Z0.out; have := B2.out.2.size; omega
  refine bodyPost_ret (row_tmp2 rfl _ _ w.heap.size 32 #[.pointer (some ⟨x, 0, none⟩), .pointer none] (0, 0) _ rfl hb7 Tryz.underlying32 rfl (by kernel_rfl)) rfl ⟨x, rfl, B3.out.2 w7 hx7, h5.out.grown hg7 h5.out.size fun k hk => (by injection hk with hk; omega), fun w8 h8 => B3.out.2 w8 (hx7.trans (h8.mono hle))⟩
end
end Go.Proofs.YtoaaplngdomdcaaGreat.MB

/- What a drawn region with a matrix' load and store needs. -/
namespace Go.Proofs.YtoaaplngdomdcaaGreat
open Go.RowKit

theorem noPanic_norm {Q : Exit → Act → World → Prop} {a : Act} {w : World} (h : Q .normal a w) : NoPanic Q .normal a w := h
theorem there_blk {w : World} {g n : Nat} {t : TypeId} {cs : Array Value} (h : Blk w g t cs) (hn : cs.size = n) : w.there g 0 n := fun j hj => ⟨by rw [Nat.zero_add, h.cell j, Array.getElem?_eq_getElem (by omega)]; rfl, by rw [Nat.zero_add]; exact h.frozen j⟩
theorem res_mid_tmp {P : Program} {fn : Func} {p u : Tmp} {ty : TypeId} (h : fn.results = #[.cell p ty, .tmp u]) (tmps : Array Value) (w : World) (g : Nat) (cs : List Value) (d : TypeDesc)
    (hp : tmps.getD p undef = .pointer (some ⟨g, 0, none⟩)) (hr : w.rangeAt g 0 cs) (hu : P.underlying ty = some d) (hd : d.isRow = true) (hi : (P.info? ty).map (·.size) = some cs.length) :
    (results fn tmps).run P w = .ok (.tuple #[.agg cs.toArray, tmps.getD u undef]) w := by
  rw [results_cell_tmp h, hp]
  simp [asAddr, run_loadVar_mid w g 0 ty cs d hr hu hd hi, Result.andThen]
theorem mat_store {W : World} {g : Nat} {a b : Option Addr} (h : W.there g 0 2) : (Instr.storeAt 32 (.pointer (some ⟨g, 0, none⟩)) (.agg #[.pointer a, .pointer b])).run Tryz.prog W = .ok () (W.setCells g 0 [.pointer a, .pointer b]) :=
  run_storeAt_mid (P := Tryz.prog) W g 0 32 #[.pointer a, .pointer b] (by exact h) (by kernel_rfl) (by simp [Value.oneCell'])
theorem mat_storeC {W : World} {g : Nat} {a b : Option Addr} (h : W.there g 0 2) : (storeCells ⟨g, 0, none⟩ [.pointer a, .pointer b]).run Tryz.prog W = .ok () (W.setCells g 0 [.pointer a, .pointer b]) := by
  have := run_storeCells_cells (P := Tryz.prog) g 0 [.pointer a, .pointer b] 0 W (fun j hj => by simpa using (h j hj).1) (fun j hj => by simpa using (h j hj).2) (by simp [Value.oneCell'])
  simpa using this
theorem keepM {w : World} {g2 g n : Nat} {u v : Value} {vs : List Value} (h : w.cell? ⟨g2, 0, none⟩ = some u ∧ w.cell? ⟨g2, 1, none⟩ = some v ∧ w.there g 0 n) (hne : g2 ≠ g) : (w.setCells g 0 vs).cell? ⟨g2, 0, none⟩ = some u ∧ (w.setCells g 0 vs).cell? ⟨g2, 1, none⟩ = some v ∧ (w.setCells g 0 vs).there g 0 n :=
  ⟨(World.cell?_of_block (w := w) (World.heap_setCells_other w g 0 vs (World.block_lt_of_cell? _ _ h.1) hne)).trans h.1, (World.cell?_of_block (w := w) (World.heap_setCells_other w g 0 vs (World.block_lt_of_cell? _ _ h.2.1) hne)).trans h.2.1, World.there_setCells h.2.2 _ _ _⟩
/-- The first k elements, noughts where they are too few. -/
def padN (es : List Nat) (k : Nat) : List Nat := (List.range k).map fun i => es.getD i 0
@[simp] theorem padN_length (es : List Nat) (k : Nat) : (padN es k).length = k := by simp [padN]
theorem padN_succ (es : List Nat) (k : Nat) : padN es (k + 1) = padN es k ++ [es.getD k 0] := by simp [padN, List.range_succ]
theorem padN_get (es : List Nat) (k i : Nat) (h : i < k) : (padN es k).getD i 0 = es.getD i 0 := by
  unfold padN
  rw [List.getD_eq_getElem?_getD, List.getElem?_map, List.getElem?_range h]
  rfl
theorem padN_bound (es : List Nat) (k : Nat) (hbd : ∀ (i x : Nat), es[i]? = some x → (x : Int) ≤ 4294967295) (i x : Nat) (h : (padN es k)[i]? = some x) : (x : Int) ≤ 4294967295 := by
  unfold padN at h
  rw [List.getElem?_map] at h
  rcases hr : (List.range k)[i]? with _ | j
  · rw [hr] at h; cases h
  · rw [hr] at h
    injection h with h
    rw [← h]
    show ((es.getD j 0 : Nat) : Int) ≤ 4294967295
    rw [List.getD_eq_getElem?_getD]
    rcases he : es[j]? with _ | y
    · simp
    · exact hbd j y he
end Go.Proofs.YtoaaplngdomdcaaGreat

/- The statements' square over bytes. -/
namespace Go.Proofs.YtoaaplngdomdcaaGreat.MB
open Go.RowKit
attribute [local go_sem high] mat_store
attribute [local go_sem high] mat_storeC
section

set_option maxRecDepth 100000 in
set_option maxHeartbeats 4000000 in
theorem square_c (n : Nat) (ve : Value) (es : List Nat) (w : World) (hk : Fk w) (hn : 1 ≤ n ∧ n ≤ 256)
    (he : Ny w .u32 ve es) (hbd : ∀ (i x : Nat), es[i]? = some x → (x : Int) ≤ 4294967295) :
    Calls Tryz.prog 9 #[.int .u32 0, .pointer none, .int .i64 (n : Int), ve] w fun e w' =>
      ∃ g, e = .returned (.tuple #[.agg #[.pointer (some ⟨g, 0, none⟩), .pointer none], .bool true]) ∧ Mtx w' g n n (fun i j => UInt8.ofNat (es.getD (i * n + j) 0)) ∧ Below w.heap.size w w' := by
  have hN0 : n * n ≤ 65536 := Nat.le_trans (Nat.mul_le_mul hn.2 hn.2) (by omega)
  obtain ⟨N, hN⟩ : ∃ N, N = n * n := ⟨_, rfl⟩
  rw [← hN] at hN0
  have hw1 : IntKind.i64.wrap ((n : Int) * (n : Int)) = (N : Int) := by
    rw [show (n : Int) * (n : Int) = (N : Int) by rw [hN, Int.natCast_mul]]
    simp [IntKind.wrap, IntKind.bits, IntKind.signed]
    omega
  have HN := hide hN
  obtain ⟨A, c, rfl, hlc, hcm, hca⟩ := he.form
  unfold maxLen at hcm
  have b0 := (Below.refl w.heap.size w).alloc (Nat.le_refl _) (.cells #[.pointer none, .pointer none] 32)
  have n0 := Blk.new w 32 #[.pointer none, .pointer none]
  have z0 : (w.alloc (.cells #[.pointer none, .pointer none] 32)).heap.size = w.heap.size + 1 := by simp
  have HH := hide (And.intro hn (And.intro hbd (And.intro hk he)))
  have HC := hide hca
  generalize hW0 : w.alloc (.cells #[.pointer none, .pointer none] 32) = W0 at b0 n0 z0
  have HB0 := hide (And.intro b0 (And.intro n0 z0))
  clear hN hn hbd hk he hca b0 n0 z0
  go_enter Tryz.func9, Tryz.ntmps9
  go_wp2_with fail
  go_loopw [10, 11, 12] (fun v i x wr => ∃ k : Nat, k ≤ N ∧ i = .int .i64 k ∧ OwnN wr W0.heap.size 22 .u32 v (padN es k) ∧ Below W0.heap.size W0 wr) (fun _ i _ _ => N - (intOf i).toNat)
  case atStart => exact ⟨0, by omega, rfl, OwnN.nil _ _ _ _, Below.refl _ _⟩
  case round =>
    obtain ⟨k, hk, rfl, hown, hbel⟩ := hrel
    have HO := hide hown
    clear hown
    by_cases hlt : k < N
    · by_cases hin : k < es.length
      · obtain ⟨x, hx⟩ : ∃ x, es[k]? = some x := ⟨_, List.getElem?_eq_getElem hin⟩
        obtain ⟨b, o, rfl, hbl, hcell⟩ := HC.out k x hx
        have hcx : wr.cell? ⟨b, o + k, none⟩ = some (.int .u32 (x : Int)) := (hbel.cell (p := ⟨b, o + k, none⟩) (Nat.lt_of_lt_of_le hbl HB0.out.1.size)).trans ((HB0.out.1.cell (p := ⟨b, o + k, none⟩) hbl).trans hcell)
        have HX := hide (show es.getD k 0 = x by rw [List.getD_eq_getElem?_getD, hx]; rfl)
        clear hx hcell
        have j1 : (k : Int) < (es.length : Int) := by omega
        have j2 : (k : Int) < (N : Int) := by omega
        go_wp2_with (at_builtin; go_loud (refine wpList_push1 elemW HO.out hbel hbel.size (by rw [padN_length]; unfold maxLen; omega) (by rw [padN_length]; omega) (.int .u32 (x : Int)) rfl rfl _ _ rfl rfl rfl ?_); intro v1 w1 ho1 hbel1 _ _ _; have hown1 := OwnN.push ho1; clear ho1)
        go_roundw
        case rel => exact ⟨k + 1, by omega, by go_num, by rw [padN_succ, HX.out]; exact hown1, hbel1⟩
        case measure => simp [intOf]; omega
      · have HX := hide (show es.getD k 0 = 0 by rw [List.getD_eq_getElem?_getD, List.getElem?_eq_none (by omega)]; rfl)
        have j1 : ¬ (k : Int) < (es.length : Int) := by omega
        have j2 : (k : Int) < (N : Int) := by omega
        go_wp2_with (at_builtin; go_loud (refine wpList_push1 elemW HO.out hbel hbel.size (by rw [padN_length]; unfold maxLen; omega) (by rw [padN_length]; omega) (.int .u32 0) rfl rfl _ _ rfl rfl rfl ?_); intro v1 w1 ho1 hbel1 _ _ _; have hown1 := OwnN.push (x := 0) ho1; clear ho1)
        go_roundw
        case rel => exact ⟨k + 1, by omega, by go_num, by rw [padN_succ, HX.out]; exact hown1, hbel1⟩
        case measure => simp [intOf]; omega
    · have hkl : k = N := by omega
      subst hkl
      have j2 : ¬ (k : Int) < (k : Int) := by omega
      have q := fresh_c n n u10 (padN es k) wr ((HH.out.2.2.1.below HB0.out.1).below hbel) HH.out.1 HH.out.1 HO.out.ny (padN_bound es k HH.out.2.1) (by rw [padN_length]; exact HN.out)
      have HR := hide (And.intro hbel (Below.step HB0.out.1 hbel))
      clear HO hbel
      go_wp2_with fail
      refine q.mono ?_
      rintro e w2 ⟨g, rfl, hmx, hb2, hlw⟩
      have H2 := hide (And.intro hb2 hlw)
      clear q hmx hb2 hlw
      go_wp2_with ((with_reducible change wpList _ _ _ (⟨none, .store _ (.tmp 13) _, _, _, _, _⟩ :: _) _ _); go_loud (refine wpList_store_row (o := ⟨none, .store _ (.tmp 13) _, _, _, _, _⟩) (Blk.new w2 _ _) #[.pointer (some ⟨g, 0, none⟩), .pointer none] rfl (by simp [Value.oneCell']) rfl 32 _ _ rfl (by kernel_rfl) rfl rfl ?_; intro w3 hb3 hg3))
      have HB3 := hide (show Below w2.heap.size w2 w3 from ((Below.refl _ w2).alloc (Nat.le_refl _) _).grown hg3 (by simp) (fun k hk => by cases hk; exact Nat.le_refl _))
      have hbl8 : Blk w3 w.heap.size 32 #[.pointer none, .pointer none] := ((HB0.out.2.1.below' HR.out.1).below' H2.out.1).below' HB3.out
      have HNE := hide (show w2.heap.size ≠ w.heap.size by have := HB0.out.2.2; have := HR.out.1.size; have := H2.out.1.size; omega)
      have H23 := hide (Below.step HR.out.2 (Below.step H2.out.1 HB3.out))
      obtain ⟨G, hG⟩ : ∃ G, G = w2.heap.size := ⟨_, rfl⟩
      rw [← hG] at hb3 HNE ⊢
      have HS : Hid (∀ W, Below w3.heap.size w3 W → W.cell? ⟨G, 0, none⟩ = some (.pointer (some ⟨g, 0, none⟩)) ∧ W.cell? ⟨G, 1, none⟩ = some (.pointer none) ∧ W.there w.heap.size 0 2) := fun W hW => ⟨by rw [(hb3.below' hW).cell]; rfl, by rw [(hb3.below' hW).cell]; rfl, there_blk (hbl8.below' hW) rfl⟩
      have hS := HS.out w3 (Below.refl _ _)
      have Q5 := hide (fun W => there_c g W)
      clear hb3 hbl8 hg3 hG
      refine wp_region_noPanic ?_
      refine wp_region_held_drew (S := fun w' => w'.cell? ⟨G, 0, none⟩ = some (.pointer (some ⟨g, 0, none⟩)) ∧ w'.cell? ⟨G, 1, none⟩ = some (.pointer none) ∧ w'.there w.heap.size 0 2) (by kernel_rfl) (HS.out _ (Below.refl _ _).drew) (fun hHeld => ?_)
      refine wpAnyH_take (i := 0) (v := ?_) rfl (by kernel_rfl) (by kernel_rfl) (by kernel_rfl) (fun _ _ _ h => h) (Or.inl ⟨by rfl, ?_⟩) (by assumption) ?_
      rotate_left
      · (intro w9 hSw; (try dsimp only at hSw); go_simp; try with_reducible rfl)
      try simp only [Act.put, List.setIfInBounds_toArray, List.set_cons_zero, List.set_cons_succ, List.getElem_toArray, List.getElem_cons_succ, List.getElem_cons_zero]
      refine wpAnyH_take (i := 1) (v := ?_) rfl (by kernel_rfl) (by kernel_rfl) (by kernel_rfl) (fun _ _ _ h => h) (Or.inl ⟨by rfl, ?_⟩) (by assumption) ?_
      rotate_left
      · (intro w9 hSw; (try dsimp only at hSw); go_simp; try with_reducible rfl)
      try simp only [Act.put, List.setIfInBounds_toArray, List.set_cons_zero, List.set_cons_succ, List.getElem_toArray, List.getElem_cons_succ, List.getElem_cons_zero]
      refine wpAnyH_take (i := 2) (v := ?_) rfl (by kernel_rfl) (by kernel_rfl) (by kernel_rfl) (fun _ _ _ h => h) (Or.inl ⟨by rfl, ?_⟩) (by assumption) ?_
      rotate_left
      · (intro w9 hSw; (try dsimp only at hSw); go_simp; try with_reducible rfl)
      try simp only [Act.put, List.setIfInBounds_toArray, List.set_cons_zero, List.set_cons_succ, List.getElem_toArray, List.getElem_cons_succ, List.getElem_cons_zero]
      refine wpAnyH_take (i := 3) (v := ?_) rfl (by kernel_rfl) (by kernel_rfl) (by kernel_rfl) (fun _ _ _ h => h) (Or.inl ⟨by rfl, ?_⟩) (by assumption) ?_
      rotate_left
      · (intro w9 hSw; (try dsimp only at hSw); go_simp; try with_reducible rfl)
      try simp only [Act.put, List.setIfInBounds_toArray, List.set_cons_zero, List.set_cons_succ, List.getElem_toArray, List.getElem_cons_succ, List.getElem_cons_zero]
      refine wpAnyH_take (i := 4) (v := ?_) rfl (by kernel_rfl) (by kernel_rfl) (by kernel_rfl) (fun _ _ _ h => h) (Or.inl ⟨by rfl, ?_⟩) (by assumption) ?_
      rotate_left
      · (intro w9 hSw; (try dsimp only at hSw); go_simp; try with_reducible rfl)
      try simp only [Act.put, List.setIfInBounds_toArray, List.set_cons_zero, List.set_cons_succ, List.getElem_toArray, List.getElem_cons_succ, List.getElem_cons_zero]
      refine wpAnyH_take (i := 5) (v := ?_) rfl (by kernel_rfl) (by kernel_rfl) (by kernel_rfl) (fun _ _ _ h => h) (Or.inl ⟨by rfl, ?_⟩) (by assumption) ?_
      rotate_left
      · (intro w9 hSw; (try dsimp only at hSw); go_simp; try with_reducible rfl)
      try simp only [Act.put, List.setIfInBounds_toArray, List.set_cons_zero, List.set_cons_succ, List.getElem_toArray, List.getElem_cons_succ, List.getElem_cons_zero]
      refine wpAnyH_take (i := 6) (v := ?_) rfl (by kernel_rfl) (by kernel_rfl) (by kernel_rfl) (fun _ _ _ h => h) (Or.inl ⟨by rfl, ?_⟩) (by assumption) ?_
      rotate_left
      · (intro w9 hSw; (try dsimp only at hSw); go_simp; try with_reducible rfl)
      try simp only [Act.put, List.setIfInBounds_toArray, List.set_cons_zero, List.set_cons_succ, List.getElem_toArray, List.getElem_cons_succ, List.getElem_cons_zero]
      refine wpAnyH_take (i := 7) (v := ?_) rfl (by kernel_rfl) (by kernel_rfl) (by kernel_rfl) (fun _ _ _ h => h) (Or.inl ⟨by rfl, ?_⟩) (by assumption) ?_
      rotate_left
      · (intro w9 hSw; (try dsimp only at hSw); go_simp; try with_reducible rfl)
      try simp only [Act.put, List.setIfInBounds_toArray, List.set_cons_zero, List.set_cons_succ, List.getElem_toArray, List.getElem_cons_succ, List.getElem_cons_zero]
      refine wpAnyH_ready (rs := [8]) (by kernel_rfl) (by simp) ?_
      refine AllReadyH.cons rfl (fun K hK => ?_) AllReadyH.nil
      go_simp
      refine (Q5.out _).mono ?_
      rintro e w5 ⟨rfl, hb5⟩
      have hb5' : Below w3.heap.size w3 w5 := Below.step (Below.refl _ _).drew hb5
      refine hK.out _ _ (HS.out _ hb5') (fun hHeld => ?_)
      clear hK K
      try simp only [Act.put, List.setIfInBounds_toArray, List.set_cons_zero, List.set_cons_succ, List.getElem_toArray, List.getElem_cons_succ, List.getElem_cons_zero]
      refine wpAnyH_take (i := 9) (v := ?_) rfl (by kernel_rfl) (by kernel_rfl) (by kernel_rfl) (fun _ _ _ h => h) (Or.inl ⟨by rfl, ?_⟩) (by assumption) ?_
      rotate_left
      · (intro w9 hSw; (try dsimp only at hSw); go_simp; try with_reducible rfl)
      try simp only [Act.put, List.setIfInBounds_toArray, List.set_cons_zero, List.set_cons_succ, List.getElem_toArray, List.getElem_cons_succ, List.getElem_cons_zero]
      refine wpAnyH_ready (rs := [10]) (by kernel_rfl) (by simp) ?_
      refine AllReadyH.cons rfl (fun K hK => ?_) AllReadyH.nil
      rw [if_pos (by rfl)]
      refine wp_store_mid 32 _ _ rfl w.heap.size 0 #[.pointer (some ⟨g, 0, none⟩), .pointer none] rfl rfl hHeld.2.2 (by kernel_rfl) (by simp [Value.oneCell']) ?_
      refine hK.out _ _ (keepM hHeld HNE.out) (fun hHeld2 => ?_)
      clear hK K
      try simp only [Act.put, List.setIfInBounds_toArray, List.set_cons_zero, List.set_cons_succ, List.getElem_toArray, List.getElem_cons_succ, List.getElem_cons_zero]
      refine wpAnyH_take (i := 11) (v := ?_) rfl (by kernel_rfl) (by kernel_rfl) (by kernel_rfl) (fun _ _ _ h => h) (Or.inl ⟨by rfl, ?_⟩) (by assumption) ?_
      rotate_left
      · (intro w9 hSw; (try dsimp only at hSw); go_simp; try with_reducible rfl)
      try simp only [Act.put, List.setIfInBounds_toArray, List.set_cons_zero, List.set_cons_succ, List.getElem_toArray, List.getElem_cons_succ, List.getElem_cons_zero]
      refine wpAnyH_done (by kernel_rfl) ?_ _
      refine noPanic_norm ?_
      have hgs : w5.grownBy (w5.setCells w.heap.size 0 [.pointer (some ⟨g, 0, none⟩), .pointer none]) (some w.heap.size) := by
        have b := Lib.below_setCells_w (Nat.le_refl w.heap.size) [.pointer (some ⟨g, 0, none⟩), .pointer none] 0 w5
        exact ⟨b.os, b.tape, b.output, b.size, fun k hk hne => World.heap_setCells_other _ _ _ _ hk (fun e => hne (by rw [e]))⟩
      have hmx := H2.out.2 _ (.step (.keep (.keep (.refl _) HB3.out) hb5') (by have := HB0.out.2.2; have := HR.out.1.size; omega) hgs)
      have hbb := (Below.step H23.out hb5').trans (Lib.below_setCells_w (Nat.le_refl w.heap.size) [.pointer (some ⟨g, 0, none⟩), .pointer none] 0 w5)
      have hmx2 := hmx.congr (M' := fun i j => UInt8.ofNat (es.getD (i * n + j) 0)) (fun i j hi hj => by
        rw [padN_get]
        rw [HN.out]
        have : (i + 1) * n ≤ n * n := Nat.mul_le_mul_right _ hi
        rw [Nat.succ_mul] at this
        omega)
      have HF := hide (And.intro hmx2 (And.intro hbb hHeld.2.2))
      clear hmx hmx2 hbb hgs hb5 hb5' hHeld hHeld2
      go_wp2_with fail
      try simp only [Act.put, List.setIfInBounds_toArray, List.set_cons_zero, List.set_cons_succ, List.getElem_toArray, List.getElem_cons_succ, List.getElem_cons_zero]
      refine bodyPost_ret (v := .tuple #[.agg #[.pointer (some ⟨g, 0, none⟩), .pointer none], .bool true]) ?_ ?_ ⟨g, rfl, HF.out.1, HF.out.2.1⟩
      · refine (res_mid_tmp rfl _ _ w.heap.size [.pointer (some ⟨g, 0, none⟩), .pointer none] _ ?_ (World.rangeAt_setCells_same _ _ _ _ HF.out.2.2) Tryz.underlying32 rfl (by kernel_rfl)).trans ?_
        · kernel_rfl
        · kernel_rfl
      · rfl
end
end Go.Proofs.YtoaaplngdomdcaaGreat.MB

/- NewMod. -/
namespace Go.Proofs.YtoaaplngdomdcaaGreat
open Go.RowKit

set_option maxHeartbeats 800000 in
theorem newmod_no (p : Nat) (w : World) (hp2 : (p : Int) ≤ 4294967295) (h : primeR p = false) :
    Calls Tryz.prog 20 #[.int .u32 (p : Int)] w fun e w' => e = .returned (.tuple #[.pointer none, .int .i64 73]) ∧ w = w' := by
  have h1 := prime_any p w hp2
  have hx : 2147483648 < p ∨ (p ≤ 2147483648 ∧ primeB p = false) := by
    unfold primeR at h
    simp at h
    by_cases h2 : p ≤ 2147483648
    · right
      refine ⟨h2, ?_⟩
      cases hb : primeB p
      · rfl
      · have := h hb; omega
    · left; omega
  clear h
  rcases hx with hx | ⟨hx, hb⟩
  · go_enter Tryz.func20, Tryz.ntmps20
    go_wp2
    go_ret2
    exact ⟨rfl, rfl⟩
  · rw [hb] at h1
    clear hb
    go_enter Tryz.func20, Tryz.ntmps20
    go_wp2_with fail
    refine h1.mono ?_
    rintro e w' ⟨rfl, rfl⟩
    go_wp2
    go_ret2
    exact ⟨rfl, rfl⟩

set_option maxHeartbeats 800000 in
theorem newmod_yes (p : Nat) (w : World) (h : primeR p = true) :
    Calls Tryz.prog 20 #[.int .u32 (p : Int)] w fun e w' => ∃ g, e = .returned (.tuple #[.pointer (some ⟨g, 0, none⟩), .int .i64 0]) ∧ MP w' (.pointer (some ⟨g, 0, none⟩)) p ∧ Below w.heap.size w w' := by
  have hx : primeB p = true ∧ p ≤ 2147483648 := by
    unfold primeR at h
    simpa using h
  obtain ⟨hb, hp⟩ := hx
  have h1 := prime_any p w (by omega)
  rw [hb] at h1
  clear hb h
  go_enter Tryz.func20, Tryz.ntmps20
  go_wp2_with fail
  refine h1.mono ?_
  rintro e w' ⟨rfl, rfl⟩
  go_wp2
  go_ret2
  refine ⟨_, rfl, ⟨_, rfl, ?_, ?_⟩, (Below.refl _ w).alloc (Nat.le_refl _) _⟩
  · simp
  · exact (Blk.new w _ _).cell 0
end Go.Proofs.YtoaaplngdomdcaaGreat

/- Contracts of the matrices of words over a Mod: Identity. -/
namespace Go.Proofs.YtoaaplngdomdcaaGreat
open Go.RowKit

/-- A Mod, as matrices hold it. -/
abbrev modF (g : Nat) : Value := .iface 25 (.pointer (some ⟨g, 0, none⟩))
theorem methw_one (n : Nat) (A : Option Addr) (w : World) : (method (n + 1) 25 (.pointer A) "One").run Tryz.prog w = .ok (164, .pointer A) w := by kernel_rfl
theorem methw_zero (n : Nat) (A : Option Addr) (w : World) : (method (n + 1) 25 (.pointer A) "Zero").run Tryz.prog w = .ok (165, .pointer A) w := by kernel_rfl
theorem methw_add (n : Nat) (A : Option Addr) (w : World) : (method (n + 1) 25 (.pointer A) "Add").run Tryz.prog w = .ok (22, .pointer A) w := by kernel_rfl
theorem methw_sub (n : Nat) (A : Option Addr) (w : World) : (method (n + 1) 25 (.pointer A) "Sub").run Tryz.prog w = .ok (23, .pointer A) w := by kernel_rfl
theorem methw_mul (n : Nat) (A : Option Addr) (w : World) : (method (n + 1) 25 (.pointer A) "Mul").run Tryz.prog w = .ok (24, .pointer A) w := by kernel_rfl
theorem methw_inv (n : Nat) (A : Option Addr) (w : World) : (method (n + 1) 25 (.pointer A) "Inverse").run Tryz.prog w = .ok (21, .pointer A) w := by kernel_rfl
def ahead? (nm : String) : Prop := ∀ (n : Nat) (A : Option Addr) (w : World), (nilAhead (n + 1) 25 (.pointer A) nm).run Tryz.prog w = .ok (some false) w
theorem aheadw_add : ahead? "Add" := fun n A w => by kernel_rfl
theorem aheadw_one : ahead? "One" := fun n A w => by kernel_rfl

/-- The identity's elements. -/
def idE (i j : Nat) : Nat := if i = j then 1 else 0

set_option maxRecDepth 100000 in
set_option maxHeartbeats 1600000 in
theorem identc_any (i j g p b : Nat) (w : World) (hi : i ≤ 256) (hj : j ≤ 256) (hm : MP w (.pointer (some ⟨g, 0, none⟩)) p) (hp : 1 < p) (hp2 : p ≤ 2147483648) (c1 : w.cell? ⟨b, 0, none⟩ = some (modF g)) :
    Calls Tryz.prog 86 #[.int .i64 (i : Int), .int .i64 (j : Int), .pointer (some ⟨b, 0, none⟩)] w fun e w' => e = .returned (.int .u32 ((idE i j : Nat) : Int)) ∧ Below w.heap.size w w' := by
  have m1 := methw_one
  have m2 := methw_zero
  have Q1 := hide (mone_any (.pointer (some ⟨g, 0, none⟩)) p w hm hp hp2)
  have Q2 := hide (mzero_any (.pointer (some ⟨g, 0, none⟩)) w)
  clear hm
  unfold idE
  by_cases h : i = j
  · subst h
    rw [if_pos rfl]
    go_enter Tryz.func86, Tryz.ntmps86
    go_wp2_with fail
    refine Q1.out.mono ?_
    rintro e w' ⟨rfl, rfl⟩
    go_wp2
    go_ret
    exact ⟨rfl, Below.refl _ _⟩
  · rw [if_neg h]
    have i1 : ¬ (i : Int) = (j : Int) := by omega
    clear h
    go_enter Tryz.func86, Tryz.ntmps86
    go_wp2_with fail
    refine Q2.out.mono ?_
    rintro e w' ⟨rfl, rfl⟩
    go_wp2
    go_ret
    exact ⟨rfl, Below.refl _ _⟩

theorem dimsw_any (r c : Nat) (w : World) (hr : 1 ≤ r ∧ r ≤ 256) (hc : 1 ≤ c ∧ c ≤ 256) :
    Calls Tryz.prog 82 #[.int .i64 (r : Int), .int .i64 (c : Int)] w fun e w' => e = .returned (.bool true) ∧ w = w' := by
  have i1 : (r : Int) ≥ 1 := by omega
  have i2 : (r : Int) ≤ 256 := by omega
  have i3 : (c : Int) ≥ 1 := by omega
  have i4 : (c : Int) ≤ 256 := by omega
  go_enter Tryz.func82, Tryz.ntmps82
  go_wp2
  go_ret
  exact ⟨rfl, rfl⟩

set_option maxRecDepth 100000 in
set_option maxHeartbeats 1600000 in
theorem identw_any (n g p : Nat) (w : World) (hn : 1 ≤ n ∧ n ≤ 256) (hm : MP w (.pointer (some ⟨g, 0, none⟩)) p) (hp : 1 < p) (hp2 : p ≤ 2147483648) :
    Calls Tryz.prog 33 #[modF g, .int .i64 (n : Int)] w fun e w' =>
      ∃ x base, e = .returned (.tuple #[.pointer (some ⟨x, 0, none⟩), .int .i64 0]) ∧ w.heap.size ≤ base ∧ Mw (modF g) w' base x (rowsN n idE n) ∧ Below w.heap.size w w' := by
  have q1 := fun w => dimsw_any n n w hn hn
  have HM := hide hm
  have HN := hide hn
  clear hm hn
  go_enter Tryz.func33, Tryz.ntmps33
  go_wp2_with fail
  refine (q1 _).mono ?_
  rintro e w' ⟨rfl, rfl⟩
  go_wp2_with fail
  have n1 := Blk.new w 132 #[modF g]
  have n4 := (Below.refl w.heap.size w).alloc (Nat.le_refl _) (.cells #[modF g] 132)
  generalize w.alloc (.cells #[modF g] 132) = W at *
  refine (laidw_any 25 (.pointer (some ⟨g, 0, none⟩)) n n 86 #[.pointer (some ⟨w.heap.size, 0, none⟩)] idE W HN.out.2 HN.out.2
    (enters_of Tryz.func86 (by kernel_rfl) rfl) ?_).mono ?_
  · intro i j w' hi hj hb
    have hn := HN.out
    refine identc_any i j g p w.heap.size w' (by omega) (by omega) ((HM.out.below n4).below hb) hp hp2 ?_
    rw [(n1.below' hb).cell]; rfl
  · rintro e w' ⟨x, rfl, hmx, hb⟩
    have H4 := hide (And.intro n4 (And.intro hmx hb))
    clear n1 n4 hmx hb q1
    go_wp2
    go_ret2
    exact ⟨x, W.heap.size, rfl, H4.out.1.size, H4.out.2.1, H4.out.1.trans (H4.out.2.2.mono H4.out.1.size)⟩
end Go.Proofs.YtoaaplngdomdcaaGreat

/- The field of the numbers below a prime as matrices of words call it: its methods' contracts. -/
namespace Go.Proofs.YtoaaplngdomdcaaGreat.MV
open Go.RowKit

/-- The Mod of the prime p lies in block gm. -/
def Fk (p gm : Nat) (w : World) : Prop := PrimeN p ∧ p ≤ 2147483648 ∧ MP w (.pointer (some ⟨gm, 0, none⟩)) p
section
variable {p gm : Nat} {hp : 0 < p}
theorem Fk.below {w w' : World} (h : Fk p gm w) (hb : Below w.heap.size w w') : Fk p gm w' := ⟨h.1, h.2.1, h.2.2.below hb⟩
theorem Fk.keep {w w' : World} {base : Nat} (h : Fk p gm w) (hl : gm < base) (hb : Below base w w') : Fk p gm w' := by
  obtain ⟨h1, h2, g, e, h3, h4⟩ := h
  injection e with e
  injection e with e
  injection e with e _ _
  subst e
  have := hb.size
  refine ⟨h1, h2, gm, rfl, by omega, ?_⟩
  rw [World.cell?_of_block (hb.block gm hl)]
  exact h4
def en (x : Fin p) : Value := .int .u32 ((Fin.val x : Nat) : Int)
theorem en_inj {x y : Fin p} : ((Fin.val x : Nat) : Int) = ((Fin.val y : Nat) : Int) ↔ x = y := ⟨fun h => Fin.ext (by omega), fun h => by rw [h]⟩
theorem le32 {p : Nat} (h : p ≤ 2147483648) (x : Fin p) : ((Fin.val x : Nat) : Int) ≤ 4294967295 := by have := x.2; omega

theorem fzero_c (w : World) (_ : Fk p gm w) : Calls Tryz.prog 165 #[.pointer (some ⟨gm, 0, none⟩)] w fun e w' => e = .returned (.int .u32 ((Fin.val (Fp p hp).zero : Nat) : Int)) ∧ w = w' := by
  refine (mzero_any _ w).mono ?_
  rintro e w' ⟨rfl, rfl⟩
  exact ⟨rfl, rfl⟩
theorem fone_c (w : World) (h : Fk p gm w) : Calls Tryz.prog 164 #[.pointer (some ⟨gm, 0, none⟩)] w fun e w' => e = .returned (.int .u32 ((Fin.val (Fp p hp).one : Nat) : Int)) ∧ w = w' := by
  have h1 := h.1.1
  refine (mone_any _ p w h.2.2 h1 h.2.1).mono ?_
  rintro e w' ⟨rfl, rfl⟩
  refine ⟨?_, rfl⟩
  show _ = Ending.returned (.int .u32 ((1 % p : Nat) : Int))
  rw [Nat.mod_eq_of_lt h1]
  rfl
theorem fadd_c (x y : Fin p) (w : World) (h : Fk p gm w) : Calls Tryz.prog 22 #[.pointer (some ⟨gm, 0, none⟩), .int .u32 ((Fin.val x : Nat) : Int), .int .u32 ((Fin.val y : Nat) : Int)] w fun e w' => e = .returned (.int .u32 ((Fin.val ((Fp p hp).add x y) : Nat) : Int)) ∧ w = w' := by
  refine (madd_any _ p x.1 y.1 w h.2.2 hp h.2.1 (le32 h.2.1 x) (le32 h.2.1 y)).mono ?_
  rintro e w' ⟨rfl, rfl⟩
  exact ⟨rfl, rfl⟩
theorem fsub_c (x y : Fin p) (w : World) (h : Fk p gm w) : Calls Tryz.prog 23 #[.pointer (some ⟨gm, 0, none⟩), .int .u32 ((Fin.val x : Nat) : Int), .int .u32 ((Fin.val y : Nat) : Int)] w fun e w' => e = .returned (.int .u32 ((Fin.val ((Fp p hp).sub x y) : Nat) : Int)) ∧ ∃ q, w' = w.drewN q := by
  refine (msub_any _ p x.1 y.1 w h.2.2 hp h.2.1 (le32 h.2.1 x) (le32 h.2.1 y)).mono ?_
  rintro e w' ⟨rfl, q, rfl⟩
  exact ⟨rfl, q, rfl⟩
theorem fmul_c (x y : Fin p) (w : World) (h : Fk p gm w) : Calls Tryz.prog 24 #[.pointer (some ⟨gm, 0, none⟩), .int .u32 ((Fin.val x : Nat) : Int), .int .u32 ((Fin.val y : Nat) : Int)] w fun e w' => e = .returned (.int .u32 ((Fin.val ((Fp p hp).mul x y) : Nat) : Int)) ∧ w = w' := by
  refine (mmul_any _ p x.1 y.1 w h.2.2 hp h.2.1 (le32 h.2.1 x) (le32 h.2.1 y)).mono ?_
  rintro e w' ⟨rfl, rfl⟩
  refine ⟨?_, rfl⟩
  show _ = Ending.returned (.int .u32 ((fmul p x.1 y.1 : Nat) : Int))
  rw [fmul_mod]
theorem finv_some {x y : Fin p} (e0 : (Fp p hp).inv x = some y) (w : World) (h : Fk p gm w) : Calls Tryz.prog 21 #[.pointer (some ⟨gm, 0, none⟩), .int .u32 ((Fin.val x : Nat) : Int)] w fun e w' => e = .returned (.tuple #[.int .u32 ((Fin.val y : Nat) : Int), .bool true]) ∧ w = w' := by
  have e1 : (if x.1 % p = 0 then none else some (⟨finv p x.1, Nat.mod_lt _ hp⟩ : Fin p)) = some y := e0
  split at e1
  · cases e1
  · rename_i h0
    injection e1 with e1
    subst e1
    refine (minverse_any _ p x.1 w h.2.2 h.1.1 h.2.1 (le32 h.2.1 x)).mono ?_
    rintro e w' ⟨rfl, rfl⟩
    rw [if_neg h0]
    exact ⟨rfl, rfl⟩
theorem finv_none {x : Fin p} (e0 : (Fp p hp).inv x = none) (w : World) (h : Fk p gm w) : Calls Tryz.prog 21 #[.pointer (some ⟨gm, 0, none⟩), .int .u32 ((Fin.val x : Nat) : Int)] w fun e w' => e = .returned (.tuple #[.int .u32 0, .bool false]) ∧ w = w' := by
  have h0 : x.1 % p = 0 := by
    have := ((Fp_ok hp h.1).inv_none x).1 e0
    rw [this]
    exact Nat.zero_mod p
  refine (minverse_any _ p x.1 w h.2.2 h.1.1 h.2.1 (le32 h.2.1 x)).mono ?_
  rintro e w' ⟨rfl, rfl⟩
  rw [if_pos h0]
  exact ⟨rfl, rfl⟩
theorem mt_of {w : World} {base g rows cols : Nat} {E : Nat → Nat → Fin p} (h : Mw (modF gm) w base g (rowsN cols (fun i j => (E i j).val) rows)) : Mt 141 (modF gm) en w g rows cols E := by
  obtain ⟨_, v, hb, ho⟩ := h
  obtain ⟨A, c, rfl, hc, hm, hcell⟩ := ho.ls.form
  rw [rowsN_length] at hc hb
  refine ⟨_, hb, A, c, rfl, hc, hm, fun i hi => ?_⟩
  obtain ⟨b, o, x, hA, hlt, hcx, hby⟩ := hcell i ((List.range cols).map fun j => (E i j).val) (by rw [rowsN, List.getElem?_map, List.getElem?_range hi]; rfl)
  obtain ⟨B, d, rfl, hd, hdm, h2⟩ := hby.form
  rw [List.length_map, List.length_range] at hd hcx
  exact ⟨b, o, B, d, hA, hlt, hcx, hd, hdm, fun j hj => h2 j _ (by rw [List.getElem?_map, List.getElem?_range hj]; rfl)⟩
/-- What lays a matrix out of a function of places. -/
theorem laid_c (rows cols : Nat) (K : FuncId) (cap : Array Value) (M : Nat → Nat → Fin p) (w : World) (hr : rows ≤ 256) (hc : cols ≤ 256)
    (hent : ∀ (args : Array Value) (w : World), (callFunc K args).run Tryz.prog w = .ok (.enter K args) w)
    (hcl : ∀ (i j : Nat) (w' : World), i < rows → j < cols → Below w.heap.size w w' → Calls Tryz.prog K (#[.int .i64 (i : Int), .int .i64 (j : Int)] ++ cap) w' fun e w'' => e = .returned (.int .u32 ((Fin.val (M i j) : Nat) : Int)) ∧ Below w'.heap.size w' w'') :
    Calls Tryz.prog 85 #[modF gm, .int .i64 (rows : Int), .int .i64 (cols : Int), .func (.func K) #[] cap] w fun e w' => ∃ g, e = .returned (.pointer (some ⟨g, 0, none⟩)) ∧ Mt 141 (modF gm) en w' g rows cols M ∧ Below w.heap.size w w' := by
  refine (laidw_any 25 (.pointer (some ⟨gm, 0, none⟩)) rows cols K cap (fun i j => (M i j).val) w hr hc hent hcl).mono ?_
  rintro e w' ⟨g, rfl, hmx, hb⟩
  exact ⟨g, rfl, mt_of hmx, hb⟩
end
end Go.Proofs.YtoaaplngdomdcaaGreat.MV

/- Matrices of words: made, Rows, Cols, At, dot. -/
namespace Go.Proofs.YtoaaplngdomdcaaGreat.MV
open Go.RowKit
section
variable {p gm : Nat} {hp : 0 < p}

theorem meth_zero (n : Nat) (w : World) : (method (n + 1) 25 (.pointer (some ⟨gm, 0, none⟩)) "Zero").run Tryz.prog w = .ok (165, (.pointer (some ⟨gm, 0, none⟩))) w := by kernel_rfl
theorem meth_one (n : Nat) (w : World) : (method (n + 1) 25 (.pointer (some ⟨gm, 0, none⟩)) "One").run Tryz.prog w = .ok (164, (.pointer (some ⟨gm, 0, none⟩))) w := by kernel_rfl
theorem meth_add (n : Nat) (w : World) : (method (n + 1) 25 (.pointer (some ⟨gm, 0, none⟩)) "Add").run Tryz.prog w = .ok (22, (.pointer (some ⟨gm, 0, none⟩))) w := by kernel_rfl
theorem meth_sub (n : Nat) (w : World) : (method (n + 1) 25 (.pointer (some ⟨gm, 0, none⟩)) "Sub").run Tryz.prog w = .ok (23, (.pointer (some ⟨gm, 0, none⟩))) w := by kernel_rfl
theorem meth_mul (n : Nat) (w : World) : (method (n + 1) 25 (.pointer (some ⟨gm, 0, none⟩)) "Mul").run Tryz.prog w = .ok (24, (.pointer (some ⟨gm, 0, none⟩))) w := by kernel_rfl
theorem meth_inv (n : Nat) (w : World) : (method (n + 1) 25 (.pointer (some ⟨gm, 0, none⟩)) "Inverse").run Tryz.prog w = .ok (21, (.pointer (some ⟨gm, 0, none⟩))) w := by kernel_rfl
theorem ahead_zero (n : Nat) (w : World) : (nilAhead (n + 1) 25 (.pointer (some ⟨gm, 0, none⟩)) "Zero").run Tryz.prog w = .ok (some false) w := by kernel_rfl
theorem ahead_one (n : Nat) (w : World) : (nilAhead (n + 1) 25 (.pointer (some ⟨gm, 0, none⟩)) "One").run Tryz.prog w = .ok (some false) w := by kernel_rfl
theorem ahead_add (n : Nat) (w : World) : (nilAhead (n + 1) 25 (.pointer (some ⟨gm, 0, none⟩)) "Add").run Tryz.prog w = .ok (some false) w := by kernel_rfl
theorem ahead_sub (n : Nat) (w : World) : (nilAhead (n + 1) 25 (.pointer (some ⟨gm, 0, none⟩)) "Sub").run Tryz.prog w = .ok (some false) w := by kernel_rfl
theorem ahead_mul (n : Nat) (w : World) : (nilAhead (n + 1) 25 (.pointer (some ⟨gm, 0, none⟩)) "Mul").run Tryz.prog w = .ok (some false) w := by kernel_rfl
theorem ahead_inv (n : Nat) (w : World) : (nilAhead (n + 1) 25 (.pointer (some ⟨gm, 0, none⟩)) "Inverse").run Tryz.prog w = .ok (some false) w := by kernel_rfl

/-- A matrix of words. -/
abbrev Mtx (gm : Nat) {p : Nat} (w : World) (g n m : Nat) (M : Nat → Nat → Fin p) : Prop := Mt 141 (modF gm) en w g n m M
variable {w : World} {g n m : Nat} {M : Nat → Nat → (Fin p)}
theorem Mt.form (h : Mtx gm w g n m M) : ∃ A c, w.cell? ⟨g, 0, none⟩ = some (modF gm) ∧ w.cell? ⟨g, 1, none⟩ = some (.slice A n c) ∧ n ≤ c ∧ c ≤ maxLen ∧ ∀ i, i < n → ∃ b o B d, A = some ⟨b, o, none⟩ ∧ b < w.heap.size ∧ w.cell? ⟨b, o + i, none⟩ = some (.slice B m d) ∧ m ≤ d ∧ d ≤ maxLen ∧
    ∀ j, j < m → ∃ b2 o2, B = some ⟨b2, o2, none⟩ ∧ b2 < w.heap.size ∧ w.cell? ⟨b2, o2 + j, none⟩ = some (.int .u32 ((Fin.val (M i j) : Nat) : Int)) := by
  obtain ⟨v, hb, A, c, rfl, h1, h2, h3⟩ := h
  exact ⟨A, c, by rw [hb.cell]; rfl, by rw [hb.cell]; rfl, h1, h2, h3⟩

theorem made_c (h : Mtx gm w g n m M) : Calls Tryz.prog 92 #[.pointer (some ⟨g, 0, none⟩)] w fun e w' => e = .returned (.bool true) ∧ w = w' := by
  obtain ⟨A, c, h0, _⟩ := Mt.form h
  clear h
  go_enter Tryz.func92, Tryz.ntmps92
  go_wp2
  go_ret
  exact ⟨rfl, rfl⟩
theorem rows_c (h : Mtx gm w g n m M) : Calls Tryz.prog 39 #[.pointer (some ⟨g, 0, none⟩)] w fun e w' => e = .returned (.int .i64 (n : Int)) ∧ w = w' := by
  have q := made_c h
  obtain ⟨A, c, _, h1, _⟩ := Mt.form h
  clear h
  go_enter Tryz.func39, Tryz.ntmps39
  go_wp2_with fail
  refine q.mono ?_
  rintro e w' ⟨rfl, rfl⟩
  go_wp2
  go_ret
  exact ⟨rfl, rfl⟩
theorem cols_c (h : Mtx gm w g n m M) (hn : 0 < n) : Calls Tryz.prog 40 #[.pointer (some ⟨g, 0, none⟩)] w fun e w' => e = .returned (.int .i64 (m : Int)) ∧ w = w' := by
  have q := made_c h
  obtain ⟨A, c, _, h1, _, _, h2⟩ := Mt.form h
  obtain ⟨b, o, B, d, rfl, _, h3, _⟩ := h2 0 hn
  rw [Nat.add_zero] at h3
  have i0 : (0 : Int) < (n : Int) := by omega
  clear h h2
  go_enter Tryz.func40, Tryz.ntmps40
  go_wp2_with fail
  refine q.mono ?_
  rintro e w' ⟨rfl, rfl⟩
  go_wp2
  go_ret
  exact ⟨rfl, rfl⟩
set_option maxHeartbeats 800000 in
theorem at_c (h : Mtx gm w g n m M) {i j : Nat} (hi : i < n) (hj : j < m) : Calls Tryz.prog 43 #[.pointer (some ⟨g, 0, none⟩), .int .i64 (i : Int), .int .i64 (j : Int)] w fun e w' => e = .returned (.tuple #[.int .u32 ((Fin.val (M i j) : Nat) : Int), .int .i64 0]) ∧ w = w' := by
  have q1 := made_c h
  have q2 := rows_c h
  have q3 := cols_c h (by omega)
  obtain ⟨A, c, _, h1, _, _, h2⟩ := Mt.form h
  obtain ⟨b, o, B, d, rfl, _, h3, _, _, h4⟩ := h2 i hi
  obtain ⟨b2, o2, rfl, _, h5⟩ := h4 j hj
  have i1 : (i : Int) < (n : Int) := by omega
  have i2 : (j : Int) < (m : Int) := by omega
  have i3 : (0 : Int) ≤ (i : Int) := by omega
  have i4 : (0 : Int) ≤ (j : Int) := by omega
  generalize M i j = x at *
  clear h h2 h4
  go_enter Tryz.func43, Tryz.ntmps43
  go_wp2_with fail
  refine q1.mono ?_
  rintro e w' ⟨rfl, rfl⟩
  go_wp2_with fail
  refine q2.mono ?_
  rintro e w' ⟨rfl, rfl⟩
  go_wp2_with fail
  refine q3.mono ?_
  rintro e w' ⟨rfl, rfl⟩
  go_wp2
  go_ret2
  exact ⟨rfl, rfl⟩
end
end Go.Proofs.YtoaaplngdomdcaaGreat.MV

/- The library's Grow and Concat at lists of words: two lists laid behind one another. -/
namespace Go.Proofs.YtoaaplngdomdcaaGreat.MV
open Go.RowKit

theorem elemI : Elem1 Tryz.prog 23 22 (.int .u32 0) 4 := ⟨Tryz.underlying23, by kernel_rfl, rfl⟩
theorem elemO : Elem1 Tryz.prog 61 23 (.slice none 0 0) 24 := ⟨Tryz.underlying61, by kernel_rfl, rfl⟩
theorem own_new (w : World) (n c : Nat) (h1 : n ≤ c) (h2 : c ≤ maxLen) :
    (w.alloc (.cells (Builtin.zeroCells #[.int .u32 0] n ++ Builtin.zeroCells #[.int .u32 0] (c - n)) 22)).drew.ownsRow w.heap.size 22 1 (.slice (some ⟨w.heap.size, 0, none⟩) 0 c) 0 [] := by
  have := (Blk.new w 22 (Builtin.zeroCells #[.int .u32 0] n ++ Builtin.zeroCells #[.int .u32 0] (c - n))).drew.own (base := w.heap.size) (e := 22) (n := 0) (cap := c) (sz := 1) rfl (Nat.le_refl _) (by simp [size_zeroCells]; omega) (Nat.zero_le _) h2
  simpa using this
set_option maxRecDepth 100000 in
set_option maxHeartbeats 1000000 in
theorem grow_c (n : Nat) (w : World) (hn : n ≤ 1048576) :
    Calls Tryz.prog 144 #[.slice none 0 0, .int .i64 (n : Int)] w fun e w' => ∃ v, e = .returned v ∧ w'.ownsRow w.heap.size 22 1 v 0 [] ∧ Below w.heap.size w w' := by
  by_cases h0 : n = 0
  · have g1 : (n : Int) = 0 := by omega
    rw [g1]
    go_enter Tryz.func144, Tryz.ntmps144
    go_wp2
    go_ret
    exact ⟨_, rfl, World.ownsRow_nil _ _ _ _, Below.refl _ _⟩
  · have g1 : ¬ (n : Int) < 0 := by omega
    have g2 : (0 : Int) < (n : Int) := by omega
    have g3 : ¬ (281474976710656 : Int) < (n : Int) * ((Tryz.t22).bytes : Int) := by
      have : ((Tryz.t22).bytes : Int) = 4 := by kernel_rfl
      rw [this]; omega
    have g4 : ¬ 281474976710656 < Builtin.nextslicecap n 0 * (Tryz.t22).bytes := by
      have h1 : (Tryz.t22).bytes = 4 := by kernel_rfl
      have h2 : Builtin.nextslicecap n 0 = n := by unfold Builtin.nextslicecap; simp; omega
      rw [h1, h2]; omega
    go_enter Tryz.func144, Tryz.ntmps144
    go_wp2
    go_ret
    refine ⟨_, rfl, ?_, ?_⟩
    · exact own_new w n _ (grownCap_ge w n 0 22) (grownCap_le_maxLen w n 0 22 (by unfold maxLen; omega))
    · exact ((Below.refl _ w).alloc (Nat.le_refl _) _).drew
set_option maxRecDepth 100000 in
set_option maxHeartbeats 2000000 in
/-- Two lists laid behind one another. -/
theorem concat_c (g a b : Nat) (u v : Value) (xs ys : List Value) (w : World) (h0 : w.cell? ⟨g, 0, none⟩ = some u) (h1 : w.cell? ⟨g, 1, none⟩ = some v) (hg : g < w.heap.size) (hu : Sl w 1 u a xs) (hv : Sl w 1 v b ys) (ha : a ≤ 4096) (hb : b ≤ 4096) (hx : ∀ x ∈ xs, x.oneCell' = true) (hy : ∀ y ∈ ys, y.oneCell' = true) :
    Calls Tryz.prog 132 #[.slice (some ⟨g, 0, none⟩) 2 2] w fun e w' => ∃ r, e = .returned r ∧ w'.ownsRow w.heap.size 22 1 r (a + b) (xs ++ ys) ∧ Below w.heap.size w w' := by
  obtain ⟨Au, cu, rfl, -, -, -⟩ := hu.form
  obtain ⟨Av, cv, rfl, -, -, -⟩ := hv.form
  have HG := hide (grow_c (a + b))
  have HU := hide (And.intro hu (And.intro hv (And.intro hx hy)))
  have HB := hide (And.intro ha hb)
  have e1 : (a : Int) + (b : Int) = ((a + b : Nat) : Int) := by omega
  obtain ⟨s, hs⟩ : ∃ s, s = a + b := ⟨_, rfl⟩
  rw [← hs] at HG e1
  have HS := hide hs
  have l1 : (s : Int) ≤ 8192 := by omega
  have l2 : (a : Int) ≤ 4096 := by omega
  clear hu hv hx hy hs
  go_enter Tryz.func132, Tryz.ntmps132
  go_wp2
  go_loopw [3, 11] (fun u3 u11 wr => ((u11 = .int .i64 0 ∧ u3 = .int .i64 0) ∨ (u11 = .int .i64 1 ∧ u3 = .int .i64 (a : Int)) ∨ (u11 = .int .i64 2 ∧ u3 = .int .i64 (s : Int))) ∧ w = wr) (fun _ i _ => 2 - (intOf i).toNat)
  case atStart => exact ⟨.inl ⟨rfl, rfl⟩, rfl⟩
  case round =>
    obtain ⟨⟨rfl, rfl⟩ | ⟨rfl, rfl⟩ | ⟨rfl, rfl⟩, rfl⟩ := hrel
    · go_wp2
      go_roundw
      case rel => simp
      case measure => simp [intOf]
    · go_wp2
      go_roundw
      case rel => simp [e1]
      case measure => simp [intOf]
    · have HG2 := hide (show Calls Tryz.prog 144 #[.slice none 0 0, .int .i64 (s : Int)] w _ from HG.out w (by omega))
      go_wp2_with (go_at_call 144; refine HG2.out.mono ?_; rintro e w1 ⟨v0, rfl, o1, b1⟩)
      have HI := hide (And.intro o1 b1)
      clear o1 b1
      go_loopw [6, 27] (fun u6 u27 wr => ((u27 = .int .i64 0 ∧ wr.ownsRow w.heap.size 22 1 u6 0 []) ∨ (u27 = .int .i64 1 ∧ wr.ownsRow w.heap.size 22 1 u6 a xs) ∨ (u27 = .int .i64 2 ∧ wr.ownsRow w.heap.size 22 1 u6 (a + b) (xs ++ ys))) ∧ Below w.heap.size w wr) (fun _ i _ => 2 - (intOf i).toNat)
      case atStart => exact ⟨.inl ⟨rfl, HI.out.1⟩, HI.out.2⟩
      case round =>
        clear HI
        obtain ⟨⟨rfl, ho⟩ | ⟨rfl, ho⟩ | ⟨rfl, ho⟩, hb⟩ := hrel
        · have HO := hide ho
          have c0 : wr.cell? ⟨g, 0, none⟩ = some (.slice Au a cu) := (hb.cell (p := ⟨g, 0, none⟩) hg).trans h0
          clear ho
          go_wp2_with (at_builtin; go_loud (refine wpList_pushQ elemI HO.out hb hb.size (HU.out.1.below hb) (by have := HB.out; unfold maxLen; omega) (by have := HB.out; omega) HU.out.2.2.1 rfl _ _ rfl rfl rfl ?_); intro v2 w2 o2 b2)
          go_roundw
          case rel => exact ⟨.inr (.inl ⟨rfl, by simpa using o2⟩), b2⟩
          case measure => simp [intOf]
        · have HO := hide ho
          have c0 : wr.cell? ⟨g, 1, none⟩ = some (.slice Av b cv) := (hb.cell (p := ⟨g, 1, none⟩) hg).trans h1
          clear ho
          go_wp2_with (at_builtin; go_loud (refine wpList_pushQ elemI HO.out hb hb.size (HU.out.2.1.below hb) (by have := HB.out; unfold maxLen; omega) (by have := HB.out; omega) HU.out.2.2.2 rfl _ _ rfl rfl rfl ?_); intro v2 w2 o2 b2)
          go_roundw
          case rel => exact ⟨.inr (.inr ⟨rfl, o2⟩), b2⟩
          case measure => simp [intOf]
        · go_wp2
          go_ret
          exact ⟨_, rfl, ho, hb⟩
end Go.Proofs.YtoaaplngdomdcaaGreat.MV

/- Matrices of words: a row times a column; a row taken from the others; rows with more behind them. -/
namespace Go.Proofs.YtoaaplngdomdcaaGreat.MV
open Go.RowKit
section
variable {p gm : Nat} {hp : 0 < p}
variable {w : World} {g n m : Nat} {M : Nat → Nat → (Fin p)}

set_option maxRecDepth 100000 in
set_option maxHeartbeats 4000000 in
theorem dot_c (h : Mtx gm w g n m M) (hk : (Fk p gm) w) {r : Nat} (hr : r < n) (hm : m ≤ 4096) (K : FuncId) (cap : Array Value) (y : Nat → (Fin p))
    (hent : ∀ (args : Array Value) (w : World), (callFunc K args).run Tryz.prog w = .ok (.enter K args) w)
    (hcl : ∀ (k : Nat) (w' : World), k < m → Below w.heap.size w w' → Calls Tryz.prog K (#[.int .i64 (k : Int)] ++ cap) w' fun e w'' => e = .returned (.int .u32 ((Fin.val (y k) : Nat) : Int)) ∧ Below w'.heap.size w' w'') :
    Calls Tryz.prog 106 #[.pointer (some ⟨g, 0, none⟩), .int .i64 (r : Int), .func (.func K) #[] cap] w fun e w' => e = .returned (.int .u32 ((Fin.val ((Fp p hp).dot m (M r) y) : Nat) : Int)) ∧ Below w.heap.size w w' := by
  have m1 := meth_zero (gm := gm)
  have m2 := meth_add (gm := gm)
  have m3 := ahead_add (gm := gm)
  have m4 := meth_mul (gm := gm)
  have m5 := ahead_mul (gm := gm)
  have HK := hide hk
  have hgl := Mt.lt h
  have HS : Hid (∀ W, Below w.heap.size w W → W.cell? ⟨g, 0, none⟩ = some (modF gm)) := fun W hW => by
    obtain ⟨_, _, c0, _⟩ := Mt.form (h.below hW)
    exact c0
  have s0 := HS.out w (Below.refl _ _)
  obtain ⟨A, c, _, h1, hnc, hcm, h2⟩ := Mt.form h
  obtain ⟨b, o, B, d, rfl, hbl, h3, hmd, hdm, h4⟩ := h2 r hr
  have H4 := hide h4
  have i1 : (r : Int) < (n : Int) := by omega
  have i2 : (0 : Int) ≤ (r : Int) := by omega
  have HCL := hide hcl
  have HZ := hide (show ∀ k, k ≤ m → ∃ Z, (Fp p hp).sum k (fun t => (Fp p hp).mul (M r t) (y t)) = Z from fun k _ => ⟨_, rfl⟩)
  unfold Fd.dot
  clear h hk h2 h4 hcl hnc hcm hdm
  have q0 := fzero_c (hp := hp) w HK.out
  go_enter Tryz.func106, Tryz.ntmps106
  go_wp2_with fail
  refine q0.mono ?_
  rintro e w1 ⟨rfl, rfl⟩
  clear q0
  have hb1 : Below w.heap.size w w := Below.refl _ _
  go_wp2_with fail
  go_loopw [7, 8, 9, 23] (fun u7 _ _ u23 wr => ∃ k : Nat, k ≤ m ∧ u23 = .int .i64 (k : Int) ∧ u7 = .int .u32 ((Fin.val ((Fp p hp).sum k fun t => (Fp p hp).mul (M r t) (y t)) : Nat) : Int) ∧ Below w.heap.size w wr) (fun _ _ _ u23 _ => m - (intOf u23).toNat)
  case atStart => exact ⟨0, by omega, rfl, rfl, hb1⟩
  case round =>
    clear hb1
    obtain ⟨k, hk, rfl, rfl, hbel⟩ := hrel
    by_cases hlt : k < m
    · have j1 : (k : Int) < (m : Int) := by omega
      have j2 : (0 : Int) ≤ (k : Int) := by omega
      obtain ⟨b2, o2, rfl, hl2, hc2⟩ := H4.out k hlt
      have hc3 := (hbel.cell (p := ⟨b2, o2 + k, none⟩) hl2).trans hc2
      have hg0 := HS.out wr hbel
      obtain ⟨x, hx⟩ : ∃ x, x = M r k := ⟨_, rfl⟩
      obtain ⟨s, hs⟩ : ∃ s, s = (Fp p hp).sum k fun t => (Fp p hp).mul (M r t) (y t) := ⟨_, rfl⟩
      obtain ⟨Y, hY⟩ : ∃ Y, Y = y k := ⟨_, rfl⟩
      have HE := hide (show ((Fp p hp).sum (k + 1) fun t => (Fp p hp).mul (M r t) (y t)) = (Fp p hp).add s ((Fp p hp).mul x Y) by rw [hs, hx, hY]; rfl)
      have Q1 : Hid (∀ W, Below wr.heap.size wr W → Calls Tryz.prog K (#[.int .i64 (k : Int)] ++ cap) W fun e w'' => e = .returned (.int .u32 ((Fin.val Y : Nat) : Int)) ∧ Below wr.heap.size wr w'') := fun W hW => by
        rw [hY]
        exact (HCL.out k W hlt (hbel.trans (hW.mono hbel.size))).mono fun e w'' ⟨a, b⟩ => ⟨a, hW.trans (b.mono hW.size)⟩
      have Q2 : Hid (∀ W, Below wr.heap.size wr W → Calls Tryz.prog 24 #[(.pointer (some ⟨gm, 0, none⟩)), .int .u32 ((Fin.val x : Nat) : Int), .int .u32 ((Fin.val Y : Nat) : Int)] W fun e w'' => e = .returned (.int .u32 ((Fin.val ((Fp p hp).mul x Y) : Nat) : Int)) ∧ Below wr.heap.size wr w'') := fun W hW =>
        (fmul_c (hp := hp) x Y W ((HK.out.below hbel).below hW)).mono fun e w'' ⟨a, b⟩ => ⟨a, by subst b; first | exact hW | exact hW.alloc hW.size _⟩
      have Q3 : Hid (∀ z W, Below wr.heap.size wr W → Calls Tryz.prog 22 #[(.pointer (some ⟨gm, 0, none⟩)), .int .u32 ((Fin.val s : Nat) : Int), .int .u32 ((Fin.val z : Nat) : Int)] W fun e w'' => e = .returned (.int .u32 ((Fin.val ((Fp p hp).add s z) : Nat) : Int)) ∧ Below wr.heap.size wr w'') := fun z W hW =>
        (fadd_c (hp := hp) s z W ((HK.out.below hbel).below hW)).mono fun e w'' ⟨a, b⟩ => ⟨a, by subst b; first | exact hW | exact hW.alloc hW.size _⟩
      have HS2 : Hid (∀ W, Below wr.heap.size wr W → W.cell? ⟨g, 0, none⟩ = some (modF gm)) := fun W hW => HS.out W (hbel.trans (hW.mono hbel.size))
      have hE := hent #[.int .i64 (k : Int)]
      rw [← hx] at hc3
      rw [← hs]
      clear hx hs hY hc2 HCL
      go_wp2_with fail
      go_region_held3 (fun w' => w'.cell? ⟨g, 0, none⟩ = some (modF gm)) (first | go_keep | exact HS2.out _ (by assumption) | exact HS2.out _ (Below.drew (by assumption)))
        (first
          | (go_at_call 24; (with_reducible refine (Q2.out _ ?bb).mono ?_); (case bb => (repeat (first | with_reducible exact Below.refl _ _ | with_reducible assumption | with_reducible refine Below.drew ?_))); rintro e w2 ⟨rfl, q2⟩)
          | (go_at_call 22; (with_reducible refine (Q3.out _ _ ?bb).mono ?_); (case bb => (repeat (first | with_reducible exact Below.refl _ _ | with_reducible assumption | with_reducible refine Below.drew ?_))); rintro e w3 ⟨rfl, q3⟩)
          | ((with_reducible refine (Q1.out _ ?bb).mono ?_); (case bb => (repeat (first | with_reducible exact Below.refl _ _ | with_reducible assumption | with_reducible refine Below.drew ?_))); rintro e w1 ⟨rfl, q1⟩))
      all_goals
        go_wp2
        go_roundw
        case rel => exact ⟨k + 1, by omega, by go_num, by rw [HE.out], hbel.trans (Below.mono (by repeat (first | with_reducible exact q3 | with_reducible refine Below.drew ?_)) hbel.size)⟩
        case measure => simp [intOf]; omega
    · have hkm : k = m := by omega
      subst hkm
      go_wp2
      go_ret
      exact ⟨rfl, hbel⟩
end
end Go.Proofs.YtoaaplngdomdcaaGreat.MV

/- Matrices of words: rows with more behind them. -/
namespace Go.Proofs.YtoaaplngdomdcaaGreat.MV
open Go.RowKit
section
variable {p gm : Nat} {hp : 0 < p}
variable {w : World} {g n m : Nat} {M : Nat → Nat → (Fin p)}

abbrev Gr {p : Nat} (w : World) (base g n m : Nat) (M : Nat → Nat → Fin p) : Prop := Grid 23 22 en w base g n m M
abbrev GrO {p : Nat} (w : World) (base : Nat) (v : Value) (n m : Nat) (M : Nat → Nat → Fin p) : Prop := GridO 23 22 en w base v n m M
theorem rcells_one (r : Nat → (Fin p)) (e : Nat) : ∀ x ∈ rcells en r e, x.oneCell' = true := fun x hx => by
  obtain ⟨_, _, rfl⟩ := List.mem_map.1 hx
  rfl

set_option maxRecDepth 100000 in
set_option maxHeartbeats 4000000 in
theorem beside_c (h : Mtx gm w g n m M) (hn : n ≤ 256) (hm : 0 < m ∧ m ≤ 1024) (e : Nat) (he : e ≤ 1024) (N : Nat → Nat → (Fin p)) (K : FuncId) (cap : Array Value)
    (hent : ∀ (args : Array Value) (w : World), (callFunc K args).run Tryz.prog w = .ok (.enter K args) w)
    (hcl : ∀ (i : Nat) (w' : World), i < n → Below w.heap.size w w' → Calls Tryz.prog K (#[.int .i64 (i : Int)] ++ cap) w' fun x w'' => ∃ v, x = .returned v ∧ Sl w'' 1 v e (rcells en (N i) e) ∧ Below w'.heap.size w' w'') :
    Calls Tryz.prog 93 #[.pointer (some ⟨g, 0, none⟩), .func (.func K) #[] cap] w fun x w' => ∃ v, x = .returned v ∧ GrO w' w.heap.size v n (m + e) (Fd.beside m M N) ∧ Below w.heap.size w w' := by
  obtain ⟨_, hblk, hrd⟩ := h
  obtain ⟨A, c, rfl, hnc, hcm, hcell⟩ := hrd.sl
  have h1 : w.cell? ⟨g, 1, none⟩ = some (.slice A n c) := by rw [hblk.cell]; rfl
  have HC := hide hcell
  have HCL := hide hcl
  have HN := hide (And.intro hn (And.intro hm he))
  clear hcell hcl hblk hrd hnc hcm hm he
  go_enter Tryz.func93, Tryz.ntmps93
  go_wp2_with fail
  go_loopw [5, 6, 7, 13] (fun u5 _ _ u13 wr => ∃ k : Nat, k ≤ n ∧ u13 = .int .i64 (k : Int) ∧ GrO wr w.heap.size u5 k (m + e) (Fd.beside m M N) ∧ Below w.heap.size w wr) (fun _ _ _ u13 _ => n - (intOf u13).toNat)
  case atStart => exact ⟨0, by omega, rfl, GridO.nil _ _ _ _ _ _ _, Below.refl _ _⟩
  case round =>
    obtain ⟨k, hk, rfl, hg, hbel⟩ := hrel
    have HG := hide hg
    clear hg
    by_cases hlt : k < n
    · have i1 : (k : Int) < (n : Int) := by omega
      have i2 : (0 : Int) ≤ (k : Int) := by omega
      obtain ⟨b, o, B, d, rfl, hbl, hcx, hsl⟩ := HC.out k hlt
      have hcx2 := (hbel.cell (p := ⟨b, o + k, none⟩) hbl).trans hcx
      have q := HCL.out k wr hlt hbel
      have hE := hent #[.int .i64 (k : Int)]
      have HSL := hide hsl
      clear hsl hcx
      go_wp2_with fail
      refine q.mono ?_
      rintro x w2 ⟨v, rfl, hs2, hb2⟩
      obtain ⟨A2, c2, rfl, -, -, -⟩ := hs2.form
      have hbel2 := hbel.trans (hb2.mono hbel.size)
      have n3 := Blk.new w2 23 #[.slice B m d, .slice A2 e c2]
      have b3 := (Below.refl w2.heap.size w2).alloc (Nat.le_refl _) (.cells #[.slice B m d, .slice A2 e c2] 23)
      have s1 := (HSL.out.below hbel2).below b3
      have s2 := hs2.below b3
      have H2 := hide (And.intro hbel2 (And.intro b3 hb2))
      clear q hE hs2 hb2 hbel2 b3
      go_wp2_with fail
      generalize hW3 : w2.alloc (.cells #[.slice B m d, .slice A2 e c2] 23) = W3 at *
      have q4 := concat_c w2.heap.size m e (.slice B m d) (.slice A2 e c2) _ _ W3 (by rw [n3.cell]; rfl) (by rw [n3.cell]; rfl) n3.lt s1 s2 (by have := HN.out; omega) (by have := HN.out; omega) (rcells_one _ _) (rcells_one _ _)
      clear hW3
      refine q4.mono ?_
      rintro x w4 ⟨r, rfl, ho4, hb4⟩
      obtain ⟨b4, cap4, cur, rfl, hbb, hblk4, hmc, hcm, hcur⟩ := own_blk ho4 (by have := HN.out; omega)
      have hbel4 := (H2.out.1.trans (H2.out.2.1.mono H2.out.1.size)).trans (hb4.mono (Nat.le_trans H2.out.1.size H2.out.2.1.size))
      have hbw := (H2.out.2.2.trans (H2.out.2.1.mono H2.out.2.2.size)).trans (hb4.mono (Nat.le_trans H2.out.2.2.size H2.out.2.1.size))
      have hle : wr.heap.size ≤ b4 := Nat.le_trans (Nat.le_trans H2.out.2.2.size H2.out.2.1.size) hbb
      obtain ⟨xs, hxs, hnext⟩ := GridO.form (w := w4) HG.out (by decide) hbw
      have HX := hide (hnext b4 cap4 cur)
      have HY := hide (show wr.heap.size ≤ b4 ∧ w.heap.size ≤ b4 ∧ Blk w4 b4 22 cur ∧ m + e ≤ cap4 ∧ cap4 ≤ maxLen ∧ ∀ j, j < m + e → cur[j]? = some (en (Fd.beside m M N k j)) from
        ⟨hle, Nat.le_trans hbel.size hle, hblk4, hmc, hcm, fun j hj => by rw [hcur j hj, rcells_beside hj]; rfl⟩)
      have HXS := hide hxs
      have HB4 := hide hbel4
      have hk2 : k + 1 ≤ 257 := by omega
      clear q4 s1 s2 n3 ho4 hb4 hblk4 hcur hbb hmc hcm hnext hxs hbw hle H2 hbel4 HG
      go_wp2_with (at_builtin; go_loud (refine wpList_push1 elemO HXS.out HB4.out HB4.out.size (by unfold maxLen; omega) (by omega) (.slice (some ⟨b4, 0, none⟩) (m + e) cap4) rfl rfl _ _ rfl rfl rfl ?_); intro v5 w5 ho5 hb5 _ hg5 _; have HG5 := hide (HX.out v5 w5 HY.out.1 HY.out.2.1 HY.out.2.2.1 HY.out.2.2.2.1 HY.out.2.2.2.2.1 HY.out.2.2.2.2.2 ho5 hg5); clear ho5 hg5)
      go_roundw
      case rel => exact ⟨k + 1, by omega, by go_num, HG5.out, hb5⟩
      case measure => simp [intOf]; omega
    · have hkn : k = n := by omega
      subst hkn
      go_wp2
      go_ret
      exact ⟨_, rfl, HG.out, hbel⟩
end
end Go.Proofs.YtoaaplngdomdcaaGreat.MV
