/- Joined texts: PsD. -/
import Derived.Test.YtcpceaflnnkhnaaGreatDoorJ6
import Derived.Test.YtcpceaflnnkhnaaGreatDoorJ7
import Derived.Laws.Cover3
import Derived.Lib.EndianMore
import Derived.Deep.Upon
import Derived.Deep.RegionHeld3

/- The contract of the program's parse, of a capability to read or to verify whose letters are right. Printed by wip/psd.py. -/
namespace Go.Proofs.YtcpceaflnnkhnaaGreatDoor
open Go.RowKit
attribute [local go_sem ↓] Go.wp_at_zero Go.wp_at_succ

theorem keepS {w : World} {g2 k g n : Nat} {v : Value} {vs : List Value} (h : w.cell? ⟨g2, k, none⟩ = some v ∧ w.there g 0 n) (hne : g2 ≠ g) : (w.setCells g 0 vs).cell? ⟨g2, k, none⟩ = some v ∧ (w.setCells g 0 vs).there g 0 n :=
  ⟨(World.cell?_of_block (w := w) (World.heap_setCells_other w g 0 vs (World.block_lt_of_cell? _ _ h.1) hne)).trans h.1, World.there_setCells h.2 _ _ _⟩
theorem there_of_blk {w : World} {g n : Nat} {t : TypeId} {cs : Array Value} (h : Blk w g t cs) (hn : cs.size = n) : w.there g 0 n := fun j hj => ⟨by rw [Nat.zero_add, h.cell j, Array.getElem?_eq_getElem (by omega)]; rfl, by rw [Nat.zero_add]; exact h.frozen j⟩
theorem results_mid_tmp {P : Program} {fn : Func} {p u : Tmp} {ty : TypeId} (h : fn.results = #[.cell p ty, .tmp u]) (tmps : Array Value) (w : World) (g : Nat) (cs : List Value) (d : TypeDesc)
    (hp : tmps.getD p undef = .pointer (some ⟨g, 0, none⟩)) (hr : w.rangeAt g 0 cs) (hu : P.underlying ty = some d) (hd : d.isRow = true) (hi : (P.info? ty).map (·.size) = some cs.length) :
    (results fn tmps).run P w = .ok (.tuple #[.agg cs.toArray, tmps.getD u undef]) w := by
  rw [results_cell_tmp h, hp]
  simp [asAddr, run_loadVar_mid w g 0 ty cs d hr hu hd hi, Result.andThen]
theorem capZ_eq : (Tryz.zeroCells34 : Array Value) = CP.cells CP.zero (.slice none 0 0) := by kernel_rfl
theorem capZ_len : Tryz.zeroCells34.toList.length = 107 := by kernel_rfl
theorem capZ_one : ∀ v ∈ Tryz.zeroCells34.toList, v.oneCell' = true := fun v hv => by
  have h1 := CP.zero_one
  rw [← capZ_eq, Array.all_eq_true_iff_forall_mem] at h1
  exact h1 v (by simpa using hv)
theorem capZ_store {W : World} {g : Nat} (h : W.there g 0 107) : (Instr.storeAt 34 (.pointer (some ⟨g, 0, none⟩)) (.agg Tryz.zeroCells34)).run Tryz.prog W = .ok () (W.setCells g 0 Tryz.zeroCells34.toList) :=
  run_storeAt_mid (P := Tryz.prog) W g 0 34 Tryz.zeroCells34 (by rw [show Tryz.zeroCells34.size = 107 by kernel_rfl]; exact h) (by kernel_rfl) (by rw [capZ_eq]; exact CP.zero_one)
theorem capZ_storeC {W : World} {g : Nat} (h : W.there g 0 107) : (storeCells ⟨g, 0, none⟩ Tryz.zeroCells34.toList).run Tryz.prog W = .ok () (W.setCells g 0 Tryz.zeroCells34.toList) := by
  have := run_storeCells_cells (P := Tryz.prog) g 0 Tryz.zeroCells34.toList 0 W (fun j hj => by rw [capZ_len] at hj; simpa using (h j hj).1) (fun j hj => by rw [capZ_len] at hj; simpa using (h j hj).2) capZ_one
  simpa using this
attribute [local go_sem ↓] capZ_store
attribute [local go_sem] capZ_storeC
theorem mosts_0 (w : World) : (Instr.index 153 (.agg #[.int .i64 255, .int .i64 255, .int .i64 65791, .int .i64 16777216]) (.int .i64 0)).run Tryz.prog w = .ok (.int .i64 255) w := by kernel_rfl
theorem mosts_1 (w : World) : (Instr.index 153 (.agg #[.int .i64 255, .int .i64 255, .int .i64 65791, .int .i64 16777216]) (.int .i64 1)).run Tryz.prog w = .ok (.int .i64 255) w := by kernel_rfl
theorem mosts_2 (w : World) : (Instr.index 153 (.agg #[.int .i64 255, .int .i64 255, .int .i64 65791, .int .i64 16777216]) (.int .i64 2)).run Tryz.prog w = .ok (.int .i64 65791) w := by kernel_rfl
theorem mosts_3 (w : World) : (Instr.index 153 (.agg #[.int .i64 255, .int .i64 255, .int .i64 65791, .int .i64 16777216]) (.int .i64 3)).run Tryz.prog w = .ok (.int .i64 16777216) w := by kernel_rfl
attribute [local go_sem] mosts_0 mosts_1 mosts_2 mosts_3
theorem build_read_any (key ueb : List UInt8) (h1 : key.length = 16) (h2 : ueb.length = 32) (k n s z : Int) (W : World) : (Instr.build 28 #[(0, .agg (bcells key).toArray), (1, .agg (bcells ueb).toArray), (2, .int .i64 k), (3, .int .i64 n), (4, .int .i64 s), (5, .int .i64 z)]).run Tryz.prog W = .ok (.agg (RV.cells ⟨key, ueb, k, n, s, z⟩).toArray) W := by
  obtain ⟨a0, a1, a2, a3, a4, a5, a6, a7, a8, a9, a10, a11, a12, a13, a14, a15, rfl⟩ := list16 h1
  obtain ⟨u, v, rfl, hu, hv⟩ := list32 h2
  obtain ⟨b0, b1, b2, b3, b4, b5, b6, b7, b8, b9, b10, b11, b12, b13, b14, b15, rfl⟩ := list16 hu
  obtain ⟨c0, c1, c2, c3, c4, c5, c6, c7, c8, c9, c10, c11, c12, c13, c14, c15, rfl⟩ := list16 hv
  kernel_rfl
theorem build_verify_any (key ueb : List UInt8) (h1 : key.length = 16) (h2 : ueb.length = 32) (k n s z : Int) (W : World) : (Instr.build 31 #[(0, .agg (bcells key).toArray), (1, .agg (bcells ueb).toArray), (2, .int .i64 k), (3, .int .i64 n), (4, .int .i64 s), (5, .int .i64 z)]).run Tryz.prog W = .ok (.agg (RV.cells ⟨key, ueb, k, n, s, z⟩).toArray) W := by
  obtain ⟨a0, a1, a2, a3, a4, a5, a6, a7, a8, a9, a10, a11, a12, a13, a14, a15, rfl⟩ := list16 h1
  obtain ⟨u, v, rfl, hu, hv⟩ := list32 h2
  obtain ⟨b0, b1, b2, b3, b4, b5, b6, b7, b8, b9, b10, b11, b12, b13, b14, b15, rfl⟩ := list16 hu
  obtain ⟨c0, c1, c2, c3, c4, c5, c6, c7, c8, c9, c10, c11, c12, c13, c14, c15, rfl⟩ := list16 hv
  kernel_rfl
theorem build_cap1 (r : RV) (h : r.wf) (l : List UInt8) (W : World) : (Instr.build 34 #[(0, .int .u8 1), (2, .agg r.cells.toArray)]).run Tryz.prog W = .ok (.agg (CP.cells ⟨1, false, r, RV.zero, l⟩ (.slice none 0 0))) W := by
  have hl := RV.cells_length h
  show (Instr.build 34 #[(0, .int .u8 1), (2, .agg r.cells.toArray)]).run Tryz.prog W = .ok (.agg ((.int .u8 1 :: .bool false :: (r.cells ++ (RV.zero.cells ++ [.slice none 0 0]))).toArray)) W
  generalize r.cells = C at *
  obtain ⟨a, b, c, d, rfl, ha, hb, hc, hd⟩ := list52 hl
  obtain ⟨a0, a1, a2, a3, a4, a5, a6, a7, a8, a9, a10, a11, a12, a13, a14, a15, rfl⟩ := list16 ha
  obtain ⟨b0, b1, b2, b3, b4, b5, b6, b7, b8, b9, b10, b11, b12, b13, b14, b15, rfl⟩ := list16 hb
  obtain ⟨c0, c1, c2, c3, c4, c5, c6, c7, c8, c9, c10, c11, c12, c13, c14, c15, rfl⟩ := list16 hc
  obtain ⟨d0, d1, d2, d3, rfl⟩ := list4 hd
  kernel_rfl
theorem build_cap2 (r : RV) (h : r.wf) (l : List UInt8) (W : World) : (Instr.build 34 #[(0, .int .u8 2), (3, .agg r.cells.toArray)]).run Tryz.prog W = .ok (.agg (CP.cells ⟨2, false, RV.zero, r, l⟩ (.slice none 0 0))) W := by
  have hl := RV.cells_length h
  show (Instr.build 34 #[(0, .int .u8 2), (3, .agg r.cells.toArray)]).run Tryz.prog W = .ok (.agg ((.int .u8 2 :: .bool false :: (RV.zero.cells ++ (r.cells ++ [.slice none 0 0]))).toArray)) W
  generalize r.cells = C at *
  obtain ⟨a, b, c, d, rfl, ha, hb, hc, hd⟩ := list52 hl
  obtain ⟨a0, a1, a2, a3, a4, a5, a6, a7, a8, a9, a10, a11, a12, a13, a14, a15, rfl⟩ := list16 ha
  obtain ⟨b0, b1, b2, b3, b4, b5, b6, b7, b8, b9, b10, b11, b12, b13, b14, b15, rfl⟩ := list16 hb
  obtain ⟨c0, c1, c2, c3, c4, c5, c6, c7, c8, c9, c10, c11, c12, c13, c14, c15, rfl⟩ := list16 hc
  obtain ⟨d0, d1, d2, d3, rfl⟩ := list4 hd
  kernel_rfl
/-- How far the numbers are read. -/
def NumRel (N0 N1 N2 N3 : Prop) (v0 v1 v2 v3 : Int) (w2 : World) (u : Value) (wr : World) : Prop :=
  ((u = .int .i64 0 ∧ Blk wr w2.heap.size 153 #[.int .i64 0, .int .i64 0, .int .i64 0, .int .i64 0]) ∨ (u = .int .i64 1 ∧ ¬ N0 ∧ Blk wr w2.heap.size 153 #[.int .i64 v0, .int .i64 0, .int .i64 0, .int .i64 0]) ∨
   (u = .int .i64 2 ∧ (¬ N0 ∧ ¬ N1) ∧ Blk wr w2.heap.size 153 #[.int .i64 v0, .int .i64 v1, .int .i64 0, .int .i64 0]) ∨ (u = .int .i64 3 ∧ (¬ N0 ∧ ¬ N1 ∧ ¬ N2) ∧ Blk wr w2.heap.size 153 #[.int .i64 v0, .int .i64 v1, .int .i64 v2, .int .i64 0]) ∨
   (u = .int .i64 4 ∧ (¬ N0 ∧ ¬ N1 ∧ ¬ N2 ∧ ¬ N3) ∧ Blk wr w2.heap.size 153 #[.int .i64 v0, .int .i64 v1, .int .i64 v2, .int .i64 v3])) ∧ Below w2.heap.size w2 wr
/-- How the numbers of a capability are read: the first that is none, or all. -/
def NumPost (N0 N1 N2 N3 : Prop) (p0 p1 p2 p3 : Int) (F C : Array Value) (e : Ending) : Prop :=
  (N0 → e = .returned (.tuple #[.agg F, faultV 102 p0])) ∧ (¬ N0 → N1 → e = .returned (.tuple #[.agg F, faultV 102 p1])) ∧ (¬ N0 → ¬ N1 → N2 → e = .returned (.tuple #[.agg F, faultV 102 p2])) ∧
  (¬ N0 → ¬ N1 → ¬ N2 → N3 → e = .returned (.tuple #[.agg F, faultV 102 p3])) ∧ (¬ N0 → ¬ N1 → ¬ N2 → ¬ N3 → e = .returned (.tuple #[.agg C, .nilIface]))
section
variable {N0 N1 N2 N3 : Prop} {p0 p1 p2 p3 : Int} {F C : Array Value}
theorem np0 (h : N0) : NumPost N0 N1 N2 N3 p0 p1 p2 p3 F C (.returned (.tuple #[.agg F, faultV 102 p0])) := ⟨fun _ => rfl, fun x => absurd h x, fun x => absurd h x, fun x => absurd h x, fun x => absurd h x⟩
theorem np1 (h0 : ¬ N0) (h : N1) : NumPost N0 N1 N2 N3 p0 p1 p2 p3 F C (.returned (.tuple #[.agg F, faultV 102 p1])) := ⟨fun x => absurd x h0, fun _ _ => rfl, fun _ x => absurd h x, fun _ x => absurd h x, fun _ x => absurd h x⟩
theorem np2 (h0 : ¬ N0 ∧ ¬ N1) (h : N2) : NumPost N0 N1 N2 N3 p0 p1 p2 p3 F C (.returned (.tuple #[.agg F, faultV 102 p2])) := ⟨fun x => absurd x h0.1, fun _ x => absurd x h0.2, fun _ _ _ => rfl, fun _ _ x => absurd h x, fun _ _ x => absurd h x⟩
theorem np3 (h0 : ¬ N0 ∧ ¬ N1 ∧ ¬ N2) (h : N3) : NumPost N0 N1 N2 N3 p0 p1 p2 p3 F C (.returned (.tuple #[.agg F, faultV 102 p3])) := ⟨fun x => absurd x h0.1, fun _ x => absurd x h0.2.1, fun _ _ x => absurd x h0.2.2, fun _ _ _ _ => rfl, fun _ _ _ x => absurd h x⟩
theorem np4 (h0 : ¬ N0 ∧ ¬ N1 ∧ ¬ N2 ∧ ¬ N3) : NumPost N0 N1 N2 N3 p0 p1 p2 p3 F C (.returned (.tuple #[.agg C, .nilIface])) := ⟨fun x => absurd x h0.1, fun _ x => absurd x h0.2.1, fun _ _ x => absurd x h0.2.2.1, fun _ _ _ x => absurd x h0.2.2.2, fun _ _ _ _ => rfl⟩
end
theorem ltrE_len {p : List UInt8} {k : Nat} (h : ltrE p k k = 0) : (decode p).1.length = k := by
  unfold ltrE at h
  split at h
  · omega
  split at h
  · omega
  · omega
theorem by_range {w : World} {c : Nat} {A : Option Addr} {l : List UInt8} (h : By w (.slice A l.length c) l) (h0 : 0 < l.length) : ∃ g o, A = some ⟨g, o, none⟩ ∧ w.rangeAt g o (bcells l) := by
  obtain ⟨A', c', hv, hc, hm, hcell⟩ := Sl.form h
  injection hv with hA _ _
  subst hA
  obtain ⟨b, o, hb, hlt, hcs⟩ := hcell h0
  refine ⟨b, o, hb, fun j v hj => ?_⟩
  have hjl : j < (bcells l).length := (List.getElem?_eq_some_iff.1 hj).1
  rw [bcells_length] at hjl
  rw [hcs j (by omega), hj]
set_option maxRecDepth 100000 in
set_option maxHeartbeats 4000000 in
theorem parse_read_nums (g o g2 o2 n c n2 c2 : Nat) (x : Nat → ByteArray) (a : Nat → Nat) (w : World) (hs : ∀ i, i < 6 → (x i).size ≤ 1000000 ∧ a i ≤ 1000000) (hn : 6 ≤ n ∧ 6 ≤ n2) (hp : Six w g o g2 o2 x a) (hE0 : ltrE (lst (x 0)) 16 16 = 0) (hE1 : ltrE (lst (x 1)) 32 32 = 0) (ht : Tab w) (he : Err w) :
    Calls Tryz.prog 61 #[.string ⟨#[114, 101, 97, 100]⟩, .slice (some ⟨g, o, none⟩) n c, .slice (some ⟨g2, o2, none⟩) n2 c2] w fun e w' => Below w.heap.size w w' ∧
      NumPost (rd (lst (x 2)) 255 = none) (rd (lst (x 3)) 255 = none) (rd (lst (x 4)) 65791 = none) (rd (lst (x 5)) 16777216 = none) (a 2 : Nat) (a 3 : Nat) (a 4 : Nat) (a 5 : Nat) (CP.cells CP.zero (.slice none 0 0)) (CP.cells ⟨1, false, ⟨(decode (lst (x 0))).1, (decode (lst (x 1))).1, rdN (lst (x 2)) 255, rdN (lst (x 3)) 255, rdN (lst (x 4)) 65791, rdN (lst (x 5)) 16777216⟩, RV.zero, []⟩ (.slice none 0 0)) e := by
  have Q0 := hide (fun W => letters_any (x 0) (a 0) 16 16 W (hs 0 (by omega)).1 (hs 0 (by omega)).2 (by omega) (by omega))
  have Q1 := hide (fun W => letters_any (x 1) (a 1) 32 32 W (hs 1 (by omega)).1 (hs 1 (by omega)).2 (by omega) (by omega))
  have HE := hide (And.intro hE0 hE1)
  rw [show ((32 : Nat) : Int) = 32 from rfl] at Q1
  rw [show ((16 : Nat) : Int) = 16 from rfl] at Q0
  have R0 := hide (fun W (hW : Below w.heap.size w W) => bread_any (x 2) 255 W (by have := (hs 2 (by omega)).1; omega) (by omega) (ht.below hW) (he.below hW))
  have R1 := hide (fun W (hW : Below w.heap.size w W) => bread_any (x 3) 255 W (by have := (hs 3 (by omega)).1; omega) (by omega) (ht.below hW) (he.below hW))
  have R2 := hide (fun W (hW : Below w.heap.size w W) => bread_any (x 4) 65791 W (by have := (hs 4 (by omega)).1; omega) (by omega) (ht.below hW) (he.below hW))
  have R3 := hide (fun W (hW : Below w.heap.size w W) => bread_any (x 5) 16777216 W (by have := (hs 5 (by omega)).1; omega) (by omega) (ht.below hW) (he.below hW))
  have hg2w : g2 ≠ w.heap.size := Nat.ne_of_lt (World.block_lt_of_cell? _ _ (hp.p 0 (by omega)).2)
  have hk16 : (decode (lst (x 0))).1.length = 16 := ltrE_len hE0
  have hu32 : (decode (lst (x 1))).1.length = 32 := ltrE_len hE1
  obtain ⟨F, hF⟩ : ∃ F, F = CP.cells CP.zero (.slice none 0 0) := ⟨_, rfl⟩
  have HG := hide (show F.size = 107 ∧ F.all (·.oneCell') = true ∧ (∀ W, (Instr.build 34 #[]).run Tryz.prog W = .ok (.agg F) W) from ⟨by rw [hF]; exact CP.cells_size CP.zero_wf _, by rw [hF]; exact CP.zero_one, fun W => by rw [hF]; exact build_cap0 W⟩)
  rw [← hF]
  have hFF : F = Tryz.zeroCells34 := hF.trans capZ_eq.symm
  have HGL := hide hg2w
  clear hg2w
  have HFF := hide hFF
  clear hFF
  obtain ⟨C, hC⟩ : ∃ C, C = CP.cells ⟨1, false, ⟨(decode (lst (x 0))).1, (decode (lst (x 1))).1, rdN (lst (x 2)) 255, rdN (lst (x 3)) 255, rdN (lst (x 4)) 65791, rdN (lst (x 5)) 16777216⟩, RV.zero, []⟩ (.slice none 0 0) := ⟨_, rfl⟩
  rw [← hC]
  obtain ⟨key, hkey⟩ : ∃ l, l = (decode (lst (x 0))).1 := ⟨_, rfl⟩
  obtain ⟨ueb, hueb⟩ : ∃ l, l = (decode (lst (x 1))).1 := ⟨_, rfl⟩
  rw [← hkey] at hk16 hC Q0
  rw [← hueb] at hu32 hC Q1
  rw [hk16] at Q0
  rw [hu32] at Q1
  obtain ⟨v0, hv0⟩ : ∃ v, v = rdN (lst (x 2)) 255 := ⟨_, rfl⟩
  obtain ⟨N0, hN0⟩ : ∃ v : Prop, v = (rd (lst (x 2)) 255 = none) := ⟨_, rfl⟩
  have T0 : Hid (∀ W, Below w.heap.size w W → ¬ N0 → Calls Tryz.prog 80 #[.string (x 2), .int .i64 255] W fun e w' => e = .returned (.tuple #[.int .i64 v0, .int .i64 0]) ∧ Below W.heap.size W w') := fun W hW hn => by
    have := R0.out W hW
    rwa [← hv0, show rdE (lst (x 2)) 255 = 0 from by unfold rdE; cases hr : rd (lst (x 2)) 255 with | none => exact absurd hr (by rw [← hN0]; exact hn) | some y => rfl] at this
  have U0 : Hid (∀ W, Below w.heap.size w W → N0 → Calls Tryz.prog 80 #[.string (x 2), .int .i64 255] W fun e w' => e = .returned (.tuple #[.int .i64 v0, .int .i64 102]) ∧ Below W.heap.size W w') := fun W hW hn => by
    have := R0.out W hW
    rwa [← hv0, show rdE (lst (x 2)) 255 = 102 from by unfold rdE; rw [show rd (lst (x 2)) 255 = none from by rw [← hN0]; exact hn]] at this
  obtain ⟨v1, hv1⟩ : ∃ v, v = rdN (lst (x 3)) 255 := ⟨_, rfl⟩
  obtain ⟨N1, hN1⟩ : ∃ v : Prop, v = (rd (lst (x 3)) 255 = none) := ⟨_, rfl⟩
  have T1 : Hid (∀ W, Below w.heap.size w W → ¬ N1 → Calls Tryz.prog 80 #[.string (x 3), .int .i64 255] W fun e w' => e = .returned (.tuple #[.int .i64 v1, .int .i64 0]) ∧ Below W.heap.size W w') := fun W hW hn => by
    have := R1.out W hW
    rwa [← hv1, show rdE (lst (x 3)) 255 = 0 from by unfold rdE; cases hr : rd (lst (x 3)) 255 with | none => exact absurd hr (by rw [← hN1]; exact hn) | some y => rfl] at this
  have U1 : Hid (∀ W, Below w.heap.size w W → N1 → Calls Tryz.prog 80 #[.string (x 3), .int .i64 255] W fun e w' => e = .returned (.tuple #[.int .i64 v1, .int .i64 102]) ∧ Below W.heap.size W w') := fun W hW hn => by
    have := R1.out W hW
    rwa [← hv1, show rdE (lst (x 3)) 255 = 102 from by unfold rdE; rw [show rd (lst (x 3)) 255 = none from by rw [← hN1]; exact hn]] at this
  obtain ⟨v2, hv2⟩ : ∃ v, v = rdN (lst (x 4)) 65791 := ⟨_, rfl⟩
  obtain ⟨N2, hN2⟩ : ∃ v : Prop, v = (rd (lst (x 4)) 65791 = none) := ⟨_, rfl⟩
  have T2 : Hid (∀ W, Below w.heap.size w W → ¬ N2 → Calls Tryz.prog 80 #[.string (x 4), .int .i64 65791] W fun e w' => e = .returned (.tuple #[.int .i64 v2, .int .i64 0]) ∧ Below W.heap.size W w') := fun W hW hn => by
    have := R2.out W hW
    rwa [← hv2, show rdE (lst (x 4)) 65791 = 0 from by unfold rdE; cases hr : rd (lst (x 4)) 65791 with | none => exact absurd hr (by rw [← hN2]; exact hn) | some y => rfl] at this
  have U2 : Hid (∀ W, Below w.heap.size w W → N2 → Calls Tryz.prog 80 #[.string (x 4), .int .i64 65791] W fun e w' => e = .returned (.tuple #[.int .i64 v2, .int .i64 102]) ∧ Below W.heap.size W w') := fun W hW hn => by
    have := R2.out W hW
    rwa [← hv2, show rdE (lst (x 4)) 65791 = 102 from by unfold rdE; rw [show rd (lst (x 4)) 65791 = none from by rw [← hN2]; exact hn]] at this
  obtain ⟨v3, hv3⟩ : ∃ v, v = rdN (lst (x 5)) 16777216 := ⟨_, rfl⟩
  obtain ⟨N3, hN3⟩ : ∃ v : Prop, v = (rd (lst (x 5)) 16777216 = none) := ⟨_, rfl⟩
  have T3 : Hid (∀ W, Below w.heap.size w W → ¬ N3 → Calls Tryz.prog 80 #[.string (x 5), .int .i64 16777216] W fun e w' => e = .returned (.tuple #[.int .i64 v3, .int .i64 0]) ∧ Below W.heap.size W w') := fun W hW hn => by
    have := R3.out W hW
    rwa [← hv3, show rdE (lst (x 5)) 16777216 = 0 from by unfold rdE; cases hr : rd (lst (x 5)) 16777216 with | none => exact absurd hr (by rw [← hN3]; exact hn) | some y => rfl] at this
  have U3 : Hid (∀ W, Below w.heap.size w W → N3 → Calls Tryz.prog 80 #[.string (x 5), .int .i64 16777216] W fun e w' => e = .returned (.tuple #[.int .i64 v3, .int .i64 102]) ∧ Below W.heap.size W w') := fun W hW hn => by
    have := R3.out W hW
    rwa [← hv3, show rdE (lst (x 5)) 16777216 = 102 from by unfold rdE; rw [show rd (lst (x 5)) 16777216 = none from by rw [← hN3]; exact hn]] at this
  rw [← hN0, ← hN1, ← hN2, ← hN3]
  rw [← hv0, ← hv1, ← hv2, ← hv3] at hC
  have HC := hide (show C.size = 107 ∧ C.all (·.oneCell') = true ∧ (∀ W, (Instr.build 28 #[(0, .agg (bcells key).toArray), (1, .agg (bcells ueb).toArray), (2, .int .i64 v0), (3, .int .i64 v1), (4, .int .i64 v2), (5, .int .i64 v3)]).run Tryz.prog W = .ok (.agg (RV.cells ⟨key, ueb, v0, v1, v2, v3⟩).toArray) W) ∧ (∀ W, (Instr.build 34 #[(0, .int .u8 1), (2, .agg (RV.cells ⟨key, ueb, v0, v1, v2, v3⟩).toArray)]).run Tryz.prog W = .ok (.agg C) W) from
    ⟨by rw [hC]; exact CP.cells_size ⟨⟨hk16, hu32⟩, RV.zero_wf, by show (1 : Nat) < 256; omega⟩ _, by rw [hC]; exact CP.cells_one _ _ _ _, fun W => build_read_any key ueb hk16 hu32 v0 v1 v2 v3 W, fun W => by rw [hC]; exact build_cap1 ⟨key, ueb, v0, v1, v2, v3⟩ ⟨hk16, hu32⟩ [] W⟩)
  obtain ⟨RV0, hRV⟩ : ∃ r, r = (RV.cells ⟨key, ueb, v0, v1, v2, v3⟩).toArray := ⟨_, rfl⟩
  rw [← hRV] at HC
  have mm2 : (2 : Int) < (n : Int) := by omega
  have nn2 : (2 : Int) < (n2 : Int) := by omega
  have kk2 : 2 < n := by omega
  have ll2 : 2 < n2 := by omega
  have mm3 : (3 : Int) < (n : Int) := by omega
  have nn3 : (3 : Int) < (n2 : Int) := by omega
  have kk3 : 3 < n := by omega
  have ll3 : 3 < n2 := by omega
  have mm4 : (4 : Int) < (n : Int) := by omega
  have nn4 : (4 : Int) < (n2 : Int) := by omega
  have kk4 : 4 < n := by omega
  have ll4 : 4 < n2 := by omega
  have mm5 : (5 : Int) < (n : Int) := by omega
  have nn5 : (5 : Int) < (n2 : Int) := by omega
  have kk5 : 5 < n := by omega
  have ll5 : 5 < n2 := by omega
  have i0 : (0 : Int) < (n : Int) := by omega
  have i1 : (0 : Int) < (n2 : Int) := by omega
  have i2 : (1 : Int) < (n : Int) := by omega
  have i3 : (1 : Int) < (n2 : Int) := by omega
  have j0 : 0 < n := by omega
  have j1 : 0 < n2 := by omega
  have j2 : 1 < n := by omega
  have j3 : 1 < n2 := by omega
  obtain ⟨w0, hw0⟩ : ∃ w0, w0 = w.alloc (.cells Tryz.zeroCells34 34) := ⟨_, rfl⟩
  have H0 := hide (show Blk w0 w.heap.size 34 Tryz.zeroCells34 ∧ Below w.heap.size w w0 from ⟨by rw [hw0]; exact Blk.new w _ _, by rw [hw0]; exact (Below.refl _ w).alloc (Nat.le_refl _) _⟩)
  have HS : Hid (∀ W, Below w0.heap.size w0 W → W.cell? ⟨g, o, none⟩ = some (.string (x 0)) ∧ W.cell? ⟨g2, o2, none⟩ = some (.int .i64 (a 0 : Int)) ∧ W.cell? ⟨g, o + 1, none⟩ = some (.string (x 1)) ∧ W.cell? ⟨g2, o2 + 1, none⟩ = some (.int .i64 (a 1 : Int)) ∧ W.cell? ⟨g, o + 2, none⟩ = some (.string (x 2)) ∧ W.cell? ⟨g2, o2 + 2, none⟩ = some (.int .i64 (a 2 : Int)) ∧ W.cell? ⟨g, o + 3, none⟩ = some (.string (x 3)) ∧ W.cell? ⟨g2, o2 + 3, none⟩ = some (.int .i64 (a 3 : Int)) ∧ W.cell? ⟨g, o + 4, none⟩ = some (.string (x 4)) ∧ W.cell? ⟨g2, o2 + 4, none⟩ = some (.int .i64 (a 4 : Int)) ∧ W.cell? ⟨g, o + 5, none⟩ = some (.string (x 5)) ∧ W.cell? ⟨g2, o2 + 5, none⟩ = some (.int .i64 (a 5 : Int))) := fun W hW => by
    have hx := hp.below (H0.out.2.trans (hW.mono H0.out.2.size))
    exact ⟨(hx.p 0 (by omega)).1, (hx.p 0 (by omega)).2, (hx.p 1 (by omega)).1, (hx.p 1 (by omega)).2, (hx.p 2 (by omega)).1, (hx.p 2 (by omega)).2, (hx.p 3 (by omega)).1, (hx.p 3 (by omega)).2, (hx.p 4 (by omega)).1, (hx.p 4 (by omega)).2, (hx.p 5 (by omega)).1, (hx.p 5 (by omega)).2⟩
  have HW := hide hw0
  have HS2 := hide (fun W hW => (⟨(HS.out W hW).1, (HS.out W hW).2.1, (HS.out W hW).2.2.1, (HS.out W hW).2.2.2.1⟩ : W.cell? ⟨g, o, none⟩ = some (.string (x 0)) ∧ W.cell? ⟨g2, o2, none⟩ = some (.int .i64 (a 0 : Int)) ∧ W.cell? ⟨g, o + 1, none⟩ = some (.string (x 1)) ∧ W.cell? ⟨g2, o2 + 1, none⟩ = some (.int .i64 (a 1 : Int))))
  obtain ⟨s0, s1, s2, s3, s4, s5, s6, s7, s8, s9, s10, s11⟩ := HS.out w0 (Below.refl _ _)
  clear hE0 hE1 hs hn hp hw0 hF hC hkey hueb hv0 hv1 hv2 hv3 hN0 hN1 hN2 hN3 R0 R1 R2 R3 ht he hRV
  have HL := hide (And.intro hk16 hu32)
  clear hk16 hu32
  go_enter Tryz.func61, Tryz.ntmps61
  go_wp2_with fail
  rw [← HW.out]
  go_region_held3 (fun w' => w'.cell? ⟨g, o, none⟩ = some (.string (x 0)) ∧ w'.cell? ⟨g2, o2, none⟩ = some (.int .i64 (a 0 : Int)) ∧ w'.cell? ⟨g, o + 1, none⟩ = some (.string (x 1)) ∧ w'.cell? ⟨g2, o2 + 1, none⟩ = some (.int .i64 (a 1 : Int))) (first | go_keep | exact HS2.out _ (by (repeat (first | with_reducible exact Below.refl _ _ | with_reducible refine Below.drew ?_ | with_reducible refine Below.al0 ?_ _ | with_reducible refine Below.step ?_ q1))))
    ((go_at_call 79; refine (Q0.out _).mono ?_; rintro e w1 ⟨q1, h1, -⟩; obtain ⟨A1, cc1, rfl, o1⟩ := h1 HE.out.1))
  have hb1 : Below w0.heap.size w0 w1 := by (repeat (first | with_reducible exact Below.refl _ _ | with_reducible refine Below.drew ?_ | with_reducible refine Below.al0 ?_ _ | with_reducible refine Below.step ?_ q1))
  have H1 := hide (And.intro hb1 o1.by_)
  obtain ⟨t0, t1, t2, t3, -⟩ := HS.out w1 hb1
  clear q1 h1 hb1 o1 s0 s1 s2 s3 s4 s5 s6 s7 s8 s9 s10 s11
  go_wp2_with fail
  go_region_held3 (fun w' => w'.cell? ⟨g, o, none⟩ = some (.string (x 0)) ∧ w'.cell? ⟨g2, o2, none⟩ = some (.int .i64 (a 0 : Int)) ∧ w'.cell? ⟨g, o + 1, none⟩ = some (.string (x 1)) ∧ w'.cell? ⟨g2, o2 + 1, none⟩ = some (.int .i64 (a 1 : Int))) (first | go_keep | exact HS2.out _ (H1.out.1.trans (Below.mono (by (repeat (first | with_reducible exact Below.refl _ _ | with_reducible refine Below.drew ?_ | with_reducible refine Below.al0 ?_ _ | with_reducible refine Below.step ?_ q2))) H1.out.1.size)))
    ((go_at_call 79; refine (Q1.out _).mono ?_; rintro e w2 ⟨q2, h2, -⟩; obtain ⟨A2, cc2, rfl, ow2⟩ := h2 HE.out.2))
  have hb12 : Below w1.heap.size w1 w2 := by (repeat (first | with_reducible exact Below.refl _ _ | with_reducible refine Below.drew ?_ | with_reducible refine Below.al0 ?_ _ | with_reducible refine Below.step ?_ q2))
  have hb2 : Below w0.heap.size w0 w2 := H1.out.1.trans (hb12.mono H1.out.1.size)
  have H2 := hide (And.intro (H0.out.1.below' hb2) (And.intro hb2 (And.intro (H1.out.2.below hb12) ow2.by_)))
  clear q2 h2 hb2 hb12 ow2 t0 t1 t2 t3
  go_wp2_with fail
  have hr0 : NumRel N0 N1 N2 N3 v0 v1 v2 v3 w2 (.int .i64 0) (w2.alloc (.cells #[.int .i64 0, .int .i64 0, .int .i64 0, .int .i64 0] 153)) := ⟨.inl ⟨rfl, Blk.new w2 _ _⟩, (Below.refl _ w2).alloc (Nat.le_refl _) _⟩
  have HR0 := hide hr0
  clear hr0
  go_loopw [62] (fun u62 wr => NumRel N0 N1 N2 N3 v0 v1 v2 v3 w2 u62 wr) (fun u62 _ => 4 - (intOf u62).toNat)
  case atStart => exact HR0.out
  case round =>
    clear HR0
    obtain ⟨⟨rfl, hb⟩ | ⟨rfl, hn, hb⟩ | ⟨rfl, hn, hb⟩ | ⟨rfl, hn, hb⟩ | ⟨rfl, hn, hb⟩, hbel⟩ := hrel
    · have hbw : Below w.heap.size w wr := (H0.out.2.trans (H2.out.2.1.mono H0.out.2.size)).trans (hbel.mono (H0.out.2.trans (H2.out.2.1.mono H0.out.2.size)).size)
      have hx := HS.out wr (H2.out.2.1.trans (hbel.mono H2.out.2.1.size))
      have x1 := hx.2.2.2.2.1
      have x2 := hx.2.2.2.2.2.1
      have HK := hide (And.intro hb (And.intro hbel (And.intro hbw x2)))
      skip
      by_cases hc : N0
      · have QR := hide (U0.out wr hbw hc)
        have HC2 := hide hc
        clear hc hb hbel hbw hx x2 
        go_wp2_with fail
        refine QR.out.mono ?_
        rintro e w4 ⟨rfl, b4⟩
        have x3 : w4.cell? ⟨g2, o2 + 2, none⟩ = some (.int .i64 (a 2 : Int)) := (b4.cell (World.block_lt_of_cell? _ _ HK.out.2.2.2)).trans HK.out.2.2.2
        have H4 := hide (And.intro ((H2.out.1.below HK.out.2.1 H2.out.1.lt).below' b4) (HK.out.2.2.1.trans (b4.mono HK.out.2.2.1.size)))
        clear b4 x1
        go_wp2_with fail
        have wk : IntKind.i64.wrap 2 = 2 := by decide
        have hS4 : w4.cell? ⟨g2, o2 + 2, none⟩ = some (.int .i64 (a 2 : Int)) ∧ w4.there w.heap.size 0 107 := ⟨x3, there_of_blk H4.out.1 (by kernel_rfl)⟩
        go_region_held3 (fun w' => w'.cell? ⟨g2, o2 + 2, none⟩ = some (.int .i64 (a 2 : Int)) ∧ w'.there w.heap.size 0 107) (first | with_reducible assumption | (with_reducible refine keepS ?_ HGL.out; with_reducible assumption) | (simp only [World.cell?_drew, World.there_drew]; with_reducible assumption)) (fail)
        all_goals
          go_wp2_with fail
          refine bodyPost_ret (results_mid_tmp rfl _ _ w.heap.size Tryz.zeroCells34.toList _ rfl (World.rangeAt_setCells_same _ _ _ _ (there_of_blk H4.out.1.drew (by kernel_rfl))) Tryz.underlying34 rfl (by kernel_rfl)) rfl ⟨H4.out.2.drew.trans (Lib.below_setCells_w (Nat.le_refl _) _ _ _), ?_⟩
          rw [HFF.out, Array.toArray_toList]
          exact np0 HC2.out
      · have QR := hide (T0.out wr hbw hc)
        have HC2 := hide hc
        clear hc hb hbel hbw hx x2 
        go_wp2_with fail
        refine QR.out.mono ?_
        rintro e w4 ⟨rfl, b4⟩
        have hb4 : Blk w4 w2.heap.size 153 #[.int .i64 0, .int .i64 0, .int .i64 0, .int .i64 0] := HK.out.1.below' b4
        have y1 : w4.cell? ⟨w2.heap.size, 0, none⟩ = some (.int .i64 0) := (hb4.cell 0).trans rfl
        have y2 : w4.frozen? ⟨w2.heap.size, 0, none⟩ = false := hb4.frozen 0
        have H4 := hide (And.intro hb4 (HK.out.2.1.trans (b4.mono HK.out.2.1.size)))
        clear b4 hb4 x1
        go_wp2
        go_roundw
        case rel => exact ⟨.inr (.inl ⟨rfl, HC2.out, (H4.out.1.set_ 0 (.int .i64 v0))⟩), H4.out.2.setCell (Nat.le_refl _) _⟩
        case measure => simp [intOf]
    · have hbw : Below w.heap.size w wr := (H0.out.2.trans (H2.out.2.1.mono H0.out.2.size)).trans (hbel.mono (H0.out.2.trans (H2.out.2.1.mono H0.out.2.size)).size)
      have hx := HS.out wr (H2.out.2.1.trans (hbel.mono H2.out.2.1.size))
      have x1 := hx.2.2.2.2.2.2.1
      have x2 := hx.2.2.2.2.2.2.2.1
      have HK := hide (And.intro hb (And.intro hbel (And.intro hbw x2)))
      have HN := hide hn
      by_cases hc : N1
      · have QR := hide (U1.out wr hbw hc)
        have HC2 := hide hc
        clear hc hb hbel hbw hx x2 hn
        go_wp2_with fail
        refine QR.out.mono ?_
        rintro e w4 ⟨rfl, b4⟩
        have x3 : w4.cell? ⟨g2, o2 + 3, none⟩ = some (.int .i64 (a 3 : Int)) := (b4.cell (World.block_lt_of_cell? _ _ HK.out.2.2.2)).trans HK.out.2.2.2
        have H4 := hide (And.intro ((H2.out.1.below HK.out.2.1 H2.out.1.lt).below' b4) (HK.out.2.2.1.trans (b4.mono HK.out.2.2.1.size)))
        clear b4 x1
        go_wp2_with fail
        have wk : IntKind.i64.wrap 3 = 3 := by decide
        have hS4 : w4.cell? ⟨g2, o2 + 3, none⟩ = some (.int .i64 (a 3 : Int)) ∧ w4.there w.heap.size 0 107 := ⟨x3, there_of_blk H4.out.1 (by kernel_rfl)⟩
        go_region_held3 (fun w' => w'.cell? ⟨g2, o2 + 3, none⟩ = some (.int .i64 (a 3 : Int)) ∧ w'.there w.heap.size 0 107) (first | with_reducible assumption | (with_reducible refine keepS ?_ HGL.out; with_reducible assumption) | (simp only [World.cell?_drew, World.there_drew]; with_reducible assumption)) (fail)
        all_goals
          go_wp2_with fail
          refine bodyPost_ret (results_mid_tmp rfl _ _ w.heap.size Tryz.zeroCells34.toList _ rfl (World.rangeAt_setCells_same _ _ _ _ (there_of_blk H4.out.1.drew (by kernel_rfl))) Tryz.underlying34 rfl (by kernel_rfl)) rfl ⟨H4.out.2.drew.trans (Lib.below_setCells_w (Nat.le_refl _) _ _ _), ?_⟩
          rw [HFF.out, Array.toArray_toList]
          exact np1 HN.out HC2.out
      · have QR := hide (T1.out wr hbw hc)
        have HC2 := hide hc
        clear hc hb hbel hbw hx x2 hn
        go_wp2_with fail
        refine QR.out.mono ?_
        rintro e w4 ⟨rfl, b4⟩
        have hb4 : Blk w4 w2.heap.size 153 #[.int .i64 v0, .int .i64 0, .int .i64 0, .int .i64 0] := HK.out.1.below' b4
        have y1 : w4.cell? ⟨w2.heap.size, 1, none⟩ = some (.int .i64 0) := (hb4.cell 1).trans rfl
        have y2 : w4.frozen? ⟨w2.heap.size, 1, none⟩ = false := hb4.frozen 1
        have H4 := hide (And.intro hb4 (HK.out.2.1.trans (b4.mono HK.out.2.1.size)))
        clear b4 hb4 x1
        go_wp2
        go_roundw
        case rel => exact ⟨.inr (.inr (.inl ⟨rfl, ⟨HN.out, HC2.out⟩, (H4.out.1.set_ 1 (.int .i64 v1))⟩)), H4.out.2.setCell (Nat.le_refl _) _⟩
        case measure => simp [intOf]
    · have hbw : Below w.heap.size w wr := (H0.out.2.trans (H2.out.2.1.mono H0.out.2.size)).trans (hbel.mono (H0.out.2.trans (H2.out.2.1.mono H0.out.2.size)).size)
      have hx := HS.out wr (H2.out.2.1.trans (hbel.mono H2.out.2.1.size))
      have x1 := hx.2.2.2.2.2.2.2.2.1
      have x2 := hx.2.2.2.2.2.2.2.2.2.1
      have HK := hide (And.intro hb (And.intro hbel (And.intro hbw x2)))
      have HN := hide hn
      by_cases hc : N2
      · have QR := hide (U2.out wr hbw hc)
        have HC2 := hide hc
        clear hc hb hbel hbw hx x2 hn
        go_wp2_with fail
        refine QR.out.mono ?_
        rintro e w4 ⟨rfl, b4⟩
        have x3 : w4.cell? ⟨g2, o2 + 4, none⟩ = some (.int .i64 (a 4 : Int)) := (b4.cell (World.block_lt_of_cell? _ _ HK.out.2.2.2)).trans HK.out.2.2.2
        have H4 := hide (And.intro ((H2.out.1.below HK.out.2.1 H2.out.1.lt).below' b4) (HK.out.2.2.1.trans (b4.mono HK.out.2.2.1.size)))
        clear b4 x1
        go_wp2_with fail
        have wk : IntKind.i64.wrap 4 = 4 := by decide
        have hS4 : w4.cell? ⟨g2, o2 + 4, none⟩ = some (.int .i64 (a 4 : Int)) ∧ w4.there w.heap.size 0 107 := ⟨x3, there_of_blk H4.out.1 (by kernel_rfl)⟩
        go_region_held3 (fun w' => w'.cell? ⟨g2, o2 + 4, none⟩ = some (.int .i64 (a 4 : Int)) ∧ w'.there w.heap.size 0 107) (first | with_reducible assumption | (with_reducible refine keepS ?_ HGL.out; with_reducible assumption) | (simp only [World.cell?_drew, World.there_drew]; with_reducible assumption)) (fail)
        all_goals
          go_wp2_with fail
          refine bodyPost_ret (results_mid_tmp rfl _ _ w.heap.size Tryz.zeroCells34.toList _ rfl (World.rangeAt_setCells_same _ _ _ _ (there_of_blk H4.out.1.drew (by kernel_rfl))) Tryz.underlying34 rfl (by kernel_rfl)) rfl ⟨H4.out.2.drew.trans (Lib.below_setCells_w (Nat.le_refl _) _ _ _), ?_⟩
          rw [HFF.out, Array.toArray_toList]
          exact np2 HN.out HC2.out
      · have QR := hide (T2.out wr hbw hc)
        have HC2 := hide hc
        clear hc hb hbel hbw hx x2 hn
        go_wp2_with fail
        refine QR.out.mono ?_
        rintro e w4 ⟨rfl, b4⟩
        have hb4 : Blk w4 w2.heap.size 153 #[.int .i64 v0, .int .i64 v1, .int .i64 0, .int .i64 0] := HK.out.1.below' b4
        have y1 : w4.cell? ⟨w2.heap.size, 2, none⟩ = some (.int .i64 0) := (hb4.cell 2).trans rfl
        have y2 : w4.frozen? ⟨w2.heap.size, 2, none⟩ = false := hb4.frozen 2
        have H4 := hide (And.intro hb4 (HK.out.2.1.trans (b4.mono HK.out.2.1.size)))
        clear b4 hb4 x1
        go_wp2
        go_roundw
        case rel => exact ⟨.inr (.inr (.inr (.inl ⟨rfl, ⟨HN.out.1, HN.out.2, HC2.out⟩, (H4.out.1.set_ 2 (.int .i64 v2))⟩))), H4.out.2.setCell (Nat.le_refl _) _⟩
        case measure => simp [intOf]
    · have hbw : Below w.heap.size w wr := (H0.out.2.trans (H2.out.2.1.mono H0.out.2.size)).trans (hbel.mono (H0.out.2.trans (H2.out.2.1.mono H0.out.2.size)).size)
      have hx := HS.out wr (H2.out.2.1.trans (hbel.mono H2.out.2.1.size))
      have x1 := hx.2.2.2.2.2.2.2.2.2.2.1
      have x2 := hx.2.2.2.2.2.2.2.2.2.2.2
      have HK := hide (And.intro hb (And.intro hbel (And.intro hbw x2)))
      have HN := hide hn
      by_cases hc : N3
      · have QR := hide (U3.out wr hbw hc)
        have HC2 := hide hc
        clear hc hb hbel hbw hx x2 hn
        go_wp2_with fail
        refine QR.out.mono ?_
        rintro e w4 ⟨rfl, b4⟩
        have x3 : w4.cell? ⟨g2, o2 + 5, none⟩ = some (.int .i64 (a 5 : Int)) := (b4.cell (World.block_lt_of_cell? _ _ HK.out.2.2.2)).trans HK.out.2.2.2
        have H4 := hide (And.intro ((H2.out.1.below HK.out.2.1 H2.out.1.lt).below' b4) (HK.out.2.2.1.trans (b4.mono HK.out.2.2.1.size)))
        clear b4 x1
        go_wp2_with fail
        have wk : IntKind.i64.wrap 5 = 5 := by decide
        have hS4 : w4.cell? ⟨g2, o2 + 5, none⟩ = some (.int .i64 (a 5 : Int)) ∧ w4.there w.heap.size 0 107 := ⟨x3, there_of_blk H4.out.1 (by kernel_rfl)⟩
        go_region_held3 (fun w' => w'.cell? ⟨g2, o2 + 5, none⟩ = some (.int .i64 (a 5 : Int)) ∧ w'.there w.heap.size 0 107) (first | with_reducible assumption | (with_reducible refine keepS ?_ HGL.out; with_reducible assumption) | (simp only [World.cell?_drew, World.there_drew]; with_reducible assumption)) (fail)
        all_goals
          go_wp2_with fail
          refine bodyPost_ret (results_mid_tmp rfl _ _ w.heap.size Tryz.zeroCells34.toList _ rfl (World.rangeAt_setCells_same _ _ _ _ (there_of_blk H4.out.1.drew (by kernel_rfl))) Tryz.underlying34 rfl (by kernel_rfl)) rfl ⟨H4.out.2.drew.trans (Lib.below_setCells_w (Nat.le_refl _) _ _ _), ?_⟩
          rw [HFF.out, Array.toArray_toList]
          exact np3 HN.out HC2.out
      · have QR := hide (T3.out wr hbw hc)
        have HC2 := hide hc
        clear hc hb hbel hbw hx x2 hn
        go_wp2_with fail
        refine QR.out.mono ?_
        rintro e w4 ⟨rfl, b4⟩
        have hb4 : Blk w4 w2.heap.size 153 #[.int .i64 v0, .int .i64 v1, .int .i64 v2, .int .i64 0] := HK.out.1.below' b4
        have y1 : w4.cell? ⟨w2.heap.size, 3, none⟩ = some (.int .i64 0) := (hb4.cell 3).trans rfl
        have y2 : w4.frozen? ⟨w2.heap.size, 3, none⟩ = false := hb4.frozen 3
        have H4 := hide (And.intro hb4 (HK.out.2.1.trans (b4.mono HK.out.2.1.size)))
        clear b4 hb4 x1
        go_wp2
        go_roundw
        case rel => exact ⟨.inr (.inr (.inr (.inr (⟨rfl, ⟨HN.out.1, HN.out.2.1, HN.out.2.2, HC2.out⟩, (H4.out.1.set_ 3 (.int .i64 v3))⟩)))), H4.out.2.setCell (Nat.le_refl _) _⟩
        case measure => simp [intOf]
    · have hbw : Below w.heap.size w wr := (H0.out.2.trans (H2.out.2.1.mono H0.out.2.size)).trans (hbel.mono (H0.out.2.trans (H2.out.2.1.mono H0.out.2.size)).size)
      have d0 := (hb.cell 0).trans (show _ = some (.int .i64 v0) from rfl)
      have d1 := (hb.cell 1).trans (show _ = some (.int .i64 v1) from rfl)
      have d2 := (hb.cell 2).trans (show _ = some (.int .i64 v2) from rfl)
      have d3 := (hb.cell 3).trans (show _ = some (.int .i64 v3) from rfl)
      have hy1 := H2.out.2.2.1.below hbel
      have hy2 := H2.out.2.2.2.below hbel
      rw [← HL.out.1] at hy1
      rw [← HL.out.2] at hy2
      obtain ⟨g8, o8, e8, r8⟩ := by_range hy1 (by rw [HL.out.1]; omega)
      obtain ⟨g9, o9, e9, r9⟩ := by_range hy2 (by rw [HL.out.2]; omega)
      subst e8 e9
      have HK := hide (And.intro hbw (And.intro (H2.out.1.below hbel H2.out.1.lt) (And.intro hn (And.intro r8 r9))))
      clear hbw hb hbel hn hy1 hy2 r8 r9
      go_wp2_with fail
      refine wp_region_still_tail 16 (by kernel_rfl) (by kernel_rfl) ?_
      simp only [List.take_succ_cons, List.take_zero, List.drop_succ_cons, List.drop_zero]
      repeat (first
        | ((with_reducible change wpStill _ _ _ _ (⟨some 94, _, _, _, _, _⟩ :: _) _); refine wpStill_yields (by kernel_rfl) (.pointer (some ⟨g8, o8, none⟩)) (ex_s2a 24 _ rfl (.slice (some ⟨g8, o8, none⟩) 16 cc1) _ (by kernel_rfl) (run_arrayAt _ 24 5 16 _ 16 cc1 Tryz.underlying24 (Nat.le_refl _))) ?_)
        | ((with_reducible change wpStill _ _ _ _ (⟨some 95, _, _, _, _, _⟩ :: _) _); refine wpStill_yields (by kernel_rfl) (.agg (bcells key).toArray) (ex_load 24 _ rfl g8 o8 (by kernel_rfl) _ _ HK.out.2.2.2.1 Tryz.underlying24 rfl (by rw [bcells_length, HL.out.1]; kernel_rfl)) ?_)
        | ((with_reducible change wpStill _ _ _ _ (⟨some 97, _, _, _, _, _⟩ :: _) _); refine wpStill_yields (by kernel_rfl) (.pointer (some ⟨g9, o9, none⟩)) (ex_s2a 26 _ rfl (.slice (some ⟨g9, o9, none⟩) 32 cc2) _ (by kernel_rfl) (run_arrayAt _ 26 5 32 _ 32 cc2 Tryz.underlying26 (Nat.le_refl _))) ?_)
        | ((with_reducible change wpStill _ _ _ _ (⟨some 98, _, _, _, _, _⟩ :: _) _); refine wpStill_yields (by kernel_rfl) (.agg (bcells ueb).toArray) (ex_load 26 _ rfl g9 o9 (by kernel_rfl) _ _ HK.out.2.2.2.2 Tryz.underlying26 rfl (by rw [bcells_length, HL.out.2]; kernel_rfl)) ?_)
        | ((with_reducible change wpStill _ _ _ _ (⟨some 107, _, _, _, _, _⟩ :: _) _); refine wpStill_yields (by kernel_rfl) (.agg RV0) (ex_build 28 _ rfl #[(0, .agg (bcells key).toArray), (1, .agg (bcells ueb).toArray), (2, .int .i64 v0), (3, .int .i64 v1), (4, .int .i64 v2), (5, .int .i64 v3)] (by kernel_rfl) _ (HC.out.2.2.1 _)) ?_)
        | ((with_reducible change wpStill _ _ _ _ (⟨some 108, _, _, _, _, _⟩ :: _) _); refine wpStill_yields (by kernel_rfl) (.agg C) (ex_build 34 _ rfl #[(0, .int .u8 1), (2, .agg RV0)] (by kernel_rfl) _ (HC.out.2.2.2 _)) ?_)
        | still_step)
      refine wpStill_nil ?_
      go_wp2_with ((with_reducible change wpList _ _ _ (⟨none, .store _ (.tmp 6) _, _, _, _, _⟩ :: _) _ _); go_loud (refine wpList_store_row (o := ⟨none, .store _ (.tmp 6) _, _, _, _, _⟩) HK.out.2.1.drew C (by rw [HC.out.1]; kernel_rfl) HC.out.2.1 rfl 34 _ _ rfl (by rw [HC.out.1]; kernel_rfl) rfl rfl ?_; intro w7 hb7 hg7))
      refine bodyPost_ret (results_row_tmp rfl _ _ w.heap.size 34 C (0, 0) _ rfl hb7 Tryz.underlying34 rfl (by rw [HC.out.1]; kernel_rfl)) rfl ⟨?_, np4 HK.out.2.2.1⟩
      exact (HK.out.1.drew).grown hg7 HK.out.1.size fun k hk => by injection hk with hk; omega
end Go.Proofs.YtcpceaflnnkhnaaGreatDoor
