/- Joined texts: PsL, SamA, AwdA, Open, OpnC, Bulk, OpnH. -/
import Derived.Test.YtcpceaflnnkhnaaGreatDoorJ13
import Derived.Test.YtcpceaflnnkhnaaGreatDoorJ14
import Derived.Test.YtcpceaflnnkhnaaGreatDoorJ7
import Derived.Test.YtcpceaflnnkhnaaGreatDoorJ1
import Derived.Test.YtcpceaflnnkhnaaGreatDoorShelf
import Derived.ProofKit
import Derived.OpenShut
import Derived.ShutString
import Derived.ChangeOld
import Derived.SizedLaws
import Derived.JoinedCond
import Derived.Deep.CondSized
import Derived.Test.YtcpceaflnnkhnaaGreatDoorJ2
import Derived.ChangeShapes
import Derived.WideShapes
import Derived.Test.YtcpceaflnnkhnaaGreatDoorRows
import Derived.LaidHandle
import Derived.Lay

/- The contract of the program's Parse of a text. -/
namespace Go.Proofs.YtcpceaflnnkhnaaGreatDoor
open Go.RowKit
attribute [local go_sem ↓] Go.wp_at_zero Go.wp_at_succ
attribute [local go_sem ↓] capZ_store
attribute [local go_sem] capZ_storeC

theorem res_row2 {P : Program} {fn : Func} {p u v : Tmp} {ty : TypeId} (h : fn.results = #[.cell p ty, .tmp u, .tmp v]) (tmps : Array Value) (w : World) (g : Nat) (t : TypeId) (cs : Array Value) (fr : Nat × Nat) (d : TypeDesc)
    (hp : tmps.getD p undef = .pointer (some ⟨g, 0, none⟩)) (hg : w.heap[g]? = some (.cells cs t fr))
    (hu : P.underlying ty = some d) (hd : (match d with | .struct _ | .array _ _ => true | _ => false) = true) (hi : (P.info? ty).map (·.size) = some cs.size) :
    (results fn tmps).run P w = .ok (.tuple #[.agg cs, tmps.getD u undef, tmps.getD v undef]) w := by
  have hp' : tmps[p]?.getD undef = .pointer (some ⟨g, 0, none⟩) := by simpa using hp
  simp only [results, h]
  simp [Sem.run_bind, Result.andThen, hp', asAddr, run_loadVar_row w g t ty cs fr d hg hu hd hi]
/-- The handle of the type 'error', as the library's errors hold it. -/
def Handle (w : World) : Prop := w.cell? ⟨0, 0, none⟩ = some (.iface 156 (.agg #[.pointer (some ⟨9, 63, none⟩)]))
theorem Handle.below {w w' : World} (h : Handle w) (hb : Below w.heap.size w w') : Handle w' := (hb.cell (World.block_lt_of_cell? _ _ h)).trans h
/-- What Parse answers. -/
def ParsedPost (s : List UInt8) (w : World) (e : Ending) (w' : World) : Prop :=
  Below w.heap.size w w' ∧
  (capF s = none → ∃ A n c, e = .returned (.tuple #[.agg ((capC s).cells (.slice A n c)), .int .i64 0, .int .i64 0]) ∧ Own w' w.heap.size 5 (.slice A n c) (capC s).lit) ∧
  ∀ a er, capF s = some (a, er) → e = .returned (.tuple #[.agg (CP.zero.cells (.slice none 0 0)), .int .i64 ((a : Nat) : Int), .int .i64 ((er : Nat) : Int)])
theorem keepS2 {w : World} {t g n : Nat} {v u : Value} {vs : List Value} (h : w.cell? ⟨t, 1, none⟩ = some v ∧ w.cell? ⟨t, 0, none⟩ = some u ∧ w.there g 0 n) (hne : t ≠ g) : (w.setCells g 0 vs).cell? ⟨t, 1, none⟩ = some v ∧ (w.setCells g 0 vs).cell? ⟨t, 0, none⟩ = some u ∧ (w.setCells g 0 vs).there g 0 n :=
  ⟨(World.cell?_of_block (w := w) (World.heap_setCells_other w g 0 vs (World.block_lt_of_cell? _ _ h.1) hne)).trans h.1, (World.cell?_of_block (w := w) (World.heap_setCells_other w g 0 vs (World.block_lt_of_cell? _ _ h.2.1) hne)).trans h.2.1, World.there_setCells h.2.2 _ _ _⟩
set_option maxRecDepth 100000 in
set_option maxHeartbeats 4000000 in
theorem parsed_bad (s : ByteArray) (a er : Int) (w : World) (hh : Handle w)
    (QR : Hid (∀ W, Below w.heap.size w W → Calls Tryz.prog 32 #[.string s] W fun e w' => Below W.heap.size W w' ∧ ∃ F : Array Value, F.size = 107 ∧ F.all (·.oneCell') = true ∧ e = .returned (.tuple #[.agg F, faultV er a]))) :
    Calls Tryz.prog 10 #[.string s] w fun e w' => Below w.heap.size w w' ∧ e = .returned (.tuple #[.agg (CP.zero.cells (.slice none 0 0)), .int .i64 a, .int .i64 er]) := by
  obtain ⟨w0, hw0⟩ : ∃ w0, w0 = w.alloc (.cells Tryz.zeroCells34 34) := ⟨_, rfl⟩
  have H0 := hide (show Blk w0 w.heap.size 34 Tryz.zeroCells34 ∧ Below w.heap.size w w0 from ⟨by rw [hw0]; exact Blk.new w _ _, by rw [hw0]; exact (Below.refl _ w).alloc (Nat.le_refl _) _⟩)
  have HW := hide hw0
  have HH := hide hh
  clear hw0 hh
  go_enter Tryz.func10, Tryz.ntmps10
  go_wp2_with fail
  rw [← HW.out]
  refine (QR.out _ H0.out.2).mono ?_
  rintro e w1 ⟨b1, F, hFs, hFo, rfl⟩
  have H1 := hide (show Blk w1 w.heap.size 34 Tryz.zeroCells34 ∧ Below w.heap.size w w1 from ⟨H0.out.1.below' b1, H0.out.2.trans (b1.mono H0.out.2.size)⟩)
  have HF := hide (And.intro hFs hFo)
  clear b1 hFs hFo
  unfold faultV
  go_wp2_with ((with_reducible change wpList _ _ _ (⟨none, .store _ (.tmp 5) _, _, _, _, _⟩ :: _) _ _); go_loud (refine wpList_store_row (o := ⟨none, .store _ (.tmp 5) _, _, _, _, _⟩) (Blk.new w1 34 Tryz.zeroCells34) F (by rw [HF.out.1]; kernel_rfl) HF.out.2 rfl 34 _ _ rfl (by rw [HF.out.1]; kernel_rfl) rfl rfl ?_; intro w7 hb7 hg7; have H7 := hide (show Blk w7 w.heap.size 34 Tryz.zeroCells34 ∧ Below w.heap.size w w7 from ⟨(H1.out.1.alloc _).grown hg7 (by have := H1.out.1.lt; intro h; injection h with h; omega), (H1.out.2.alloc H1.out.2.size _).grown hg7 (Nat.le_trans H1.out.2.size (by simp)) (fun k hk => by injection hk with hk; have := H1.out.2.size; omega)⟩); clear hb7 hg7))
  refine (as_hit er a w7.heap.size (w7.alloc (.cells #[.int .i64 0, .int .i64 0] 67)) ((HH.out.below (H7.out.2.alloc H7.out.2.size _))) (Blk.new _ _ _)).mono ?_
  rintro ev w8 ⟨rfl, h8⟩
  have H8 := hide (show Blk w8 w.heap.size 34 Tryz.zeroCells34 ∧ Blk w8 w7.heap.size 67 #[.int .i64 er, .int .i64 a] ∧ Below w.heap.size w w8 from by
    rw [h8]
    have k0 := H7.out.1.alloc (.cells #[.int .i64 0, .int .i64 0] 67)
    have k1 := Blk.new w7 67 #[.int .i64 0, .int .i64 0]
    have k2 := H7.out.2.alloc H7.out.2.size (.cells #[.int .i64 0, .int .i64 0] 67)
    generalize w7.alloc (.cells #[.int .i64 0, .int .i64 0] 67) = V at *
    refine ⟨?_, ?_, ?_⟩
    · exact ((((k0.alloc _).alloc _).alloc _).alloc _).grown (stores_grown _ _ _ _) (by have := H7.out.1.lt; intro h; injection h with h; omega)
    · exact blk_fill ((((k1.alloc _).alloc _).alloc _).alloc _) rfl
    · exact (Below.al0 (Below.al0 (Below.al0 (Below.al0 k2 _) _) _) _).trans (Lib.below_setCells_w (by have := H7.out.2.size; omega) _ _ _))
  have hS : w8.cell? ⟨w7.heap.size, 1, none⟩ = some (.int .i64 a) ∧ w8.cell? ⟨w7.heap.size, 0, none⟩ = some (.int .i64 er) ∧ w8.there w.heap.size 0 107 := ⟨by rw [H8.out.2.1.cell]; rfl, by rw [H8.out.2.1.cell]; rfl, there_of_blk H8.out.1 (by kernel_rfl)⟩
  have HGL := hide (show w7.heap.size ≠ w.heap.size from by have := H7.out.1.lt; omega)
  clear h8
  go_wp2_with fail
  go_region_held3 (fun w' => w'.cell? ⟨w7.heap.size, 1, none⟩ = some (.int .i64 a) ∧ w'.cell? ⟨w7.heap.size, 0, none⟩ = some (.int .i64 er) ∧ w'.there w.heap.size 0 107) (first | with_reducible assumption | (with_reducible refine keepS2 ?_ HGL.out; with_reducible assumption) | (simp only [World.cell?_drew, World.there_drew]; with_reducible assumption)) (fail)
  all_goals
    go_wp2_with fail
    refine bodyPost_ret (res_row2 rfl _ _ w.heap.size 34 Tryz.zeroCells34 (0, 0) _ rfl (blk_fill H8.out.1.drew rfl) Tryz.underlying34 rfl (by kernel_rfl)) rfl ⟨H8.out.2.2.drew.trans (Lib.below_setCells_w (Nat.le_refl _) _ _ _), by rw [← capZ_eq]; rfl⟩
set_option maxRecDepth 100000 in
set_option maxHeartbeats 4000000 in
theorem parsed_good (s : ByteArray) (c : CP) (hc : c.wf) (w : World)
    (QR : Hid (∀ W, Below w.heap.size w W → Calls Tryz.prog 32 #[.string s] W fun e w' => Below W.heap.size W w' ∧ ∃ A n k, e = .returned (.tuple #[.agg (c.cells (.slice A n k)), .nilIface]) ∧ Own w' W.heap.size 5 (.slice A n k) c.lit)) :
    Calls Tryz.prog 10 #[.string s] w fun e w' => Below w.heap.size w w' ∧ ∃ A n k, e = .returned (.tuple #[.agg (c.cells (.slice A n k)), .int .i64 0, .int .i64 0]) ∧ Own w' w.heap.size 5 (.slice A n k) c.lit := by
  obtain ⟨w0, hw0⟩ : ∃ w0, w0 = w.alloc (.cells Tryz.zeroCells34 34) := ⟨_, rfl⟩
  have H0 := hide (show Blk w0 w.heap.size 34 Tryz.zeroCells34 ∧ Below w.heap.size w w0 from ⟨by rw [hw0]; exact Blk.new w _ _, by rw [hw0]; exact (Below.refl _ w).alloc (Nat.le_refl _) _⟩)
  have HW := hide hw0
  clear hw0
  go_enter Tryz.func10, Tryz.ntmps10
  go_wp2_with fail
  rw [← HW.out]
  refine (QR.out _ H0.out.2).mono ?_
  rintro e w1 ⟨b1, A, n, k, rfl, o1⟩
  have H1 := hide (show Blk w1 w.heap.size 34 Tryz.zeroCells34 ∧ Below w.heap.size w w1 from ⟨H0.out.1.below' b1, H0.out.2.trans (b1.mono H0.out.2.size)⟩)
  have HO := hide (show Own w1 (w.heap.size + 1) 5 (.slice A n k) c.lit from o1.lower (by rw [HW.out]; simp))
  obtain ⟨F, hF⟩ : ∃ F, F = c.cells (.slice A n k) := ⟨_, rfl⟩
  have HF := hide (show F.size = 107 ∧ F.all (·.oneCell') = true ∧ F = c.cells (.slice A n k) from ⟨by rw [hF]; exact CP.cells_size hc _, by rw [hF]; exact CP.cells_one _ _ _ _, hF⟩)
  rw [← hF]
  clear b1 o1 hF
  go_wp2_with ((with_reducible change wpList _ _ _ (⟨none, .store _ (.tmp 5) _, _, _, _, _⟩ :: _) _ _); go_loud (refine wpList_store_row (o := ⟨none, .store _ (.tmp 5) _, _, _, _, _⟩) (Blk.new w1 34 Tryz.zeroCells34) F (by rw [HF.out.1]; kernel_rfl) HF.out.2.1 rfl 34 _ _ rfl (by rw [HF.out.1]; kernel_rfl) rfl rfl ?_; intro w7 hb7 hg7; have H7 := hide (show Blk w7 w.heap.size 34 Tryz.zeroCells34 ∧ Blk w7 w1.heap.size 34 F ∧ Below w1.heap.size w1 w7 from ⟨(H1.out.1.alloc _).grown hg7 (by have := H1.out.1.lt; intro h; injection h with h; omega), hb7, ((Below.refl w1.heap.size w1).alloc (Nat.le_refl _) _).grown hg7 (by simp) (fun k hk => by injection hk with hk; omega)⟩); clear hb7 hg7))
  refine (as_nil _ _).mono ?_
  rintro e w8 ⟨rfl, rfl⟩
  have HB := hide (show Blk (w7.alloc (.cells #[.int .i64 0, .int .i64 0] 67)) w.heap.size 34 Tryz.zeroCells34 ∧ Blk (w7.alloc (.cells #[.int .i64 0, .int .i64 0] 67)) w1.heap.size 34 F ∧ Below w1.heap.size w1 (w7.alloc (.cells #[.int .i64 0, .int .i64 0] 67)) from ⟨H7.out.1.alloc _, H7.out.2.1.alloc _, Below.al0 H7.out.2.2 _⟩)
  go_wp2_with first
    | ((with_reducible change wpList _ _ _ (⟨some 21, _, _, _, _, _⟩ :: _) _ _); refine wpList_load_row (o := ⟨some 21, .load _ _, _, _, _, _⟩) rfl 34 _ rfl w1.heap.size rfl 34 F (0, 0) _ HB.out.2.1 Tryz.underlying34 rfl (by rw [HF.out.1]; kernel_rfl) ?_)
    | ((with_reducible change wpList _ _ _ (⟨none, .store _ (.tmp 2) _, _, _, _, _⟩ :: _) _ _); go_loud (refine wpList_store_row (o := ⟨none, .store _ (.tmp 2) _, _, _, _, _⟩) HB.out.1 F (by rw [HF.out.1]; kernel_rfl) HF.out.2.1 rfl 34 _ _ rfl (by rw [HF.out.1]; kernel_rfl) rfl rfl ?_; intro w9 hb9 hg9))
  refine bodyPost_ret (res_row2 rfl _ _ w.heap.size 34 F (0, 0) _ rfl hb9 Tryz.underlying34 rfl (by rw [HF.out.1]; kernel_rfl)) rfl ⟨?_, A, n, k, ?_, ?_⟩
  · exact (H1.out.2.trans (HB.out.2.2.mono H1.out.2.size)).grown hg9 (Nat.le_trans H1.out.2.size HB.out.2.2.size) fun k hk => (by injection hk with hk; omega)
  · rw [← HF.out.2.2]; rfl
  · exact Own.lower (Own.apart (Own.below HO.out HB.out.2.2) HB.out.1 (by decide) hg9) (Nat.le_succ _)
theorem parsed_any (s : ByteArray) (mx : Int) (w : World) (hs : s.size ≤ 9223372036854775807) (hm : w.cell? ⟨1, 0, none⟩ = some (.int .i64 mx)) (ht : Tab w) (he : Err w) (hh : Handle w) :
    Calls Tryz.prog 10 #[.string s] w (ParsedPost (lst s) w) := by
  have QR : ∀ W, Below w.heap.size w W → Calls Tryz.prog 32 #[.string s] W fun e w' => Below W.heap.size W w' ∧ ReadPost s W e w' := fun W hW => by
    by_cases h : s.size ≤ 256
    · exact read_any s mx W h ((hW.cell (World.block_lt_of_cell? _ _ hm)).trans hm) (ht.below hW) (he.below hW)
    · refine (read_long s W (by omega) hs).mono ?_
      rintro e w' ⟨cs, rfl, ⟨h1, h2⟩, hb⟩
      have hF : capF (lst s) = some (256, 151) := by unfold capF; rw [lst_len, if_pos (by omega)]
      exact ⟨hb, rp_bad hF h1 h2⟩
  cases hF : capF (lst s) with
  | some q =>
    obtain ⟨a, er⟩ := q
    refine (parsed_bad s (a : Nat) (er : Nat) w hh (hide fun W hW => (QR W hW).mono ?_)).mono ?_
    · rintro e w' ⟨hb, -, h2⟩
      obtain ⟨cs, h3, h4, h5⟩ := h2 a er hF
      exact ⟨hb, cs, h3, h4, h5⟩
    · rintro e w' ⟨hb, he⟩
      exact ⟨hb, (fun h => by rw [hF] at h; cases h), fun a2 er2 h => by rw [hF] at h; injection h with h; injection h with e1 e2; subst e1 e2; exact he⟩
  | none =>
    refine (parsed_good s (capC (lst s)) (text_parse hF).2.1 w (hide fun W hW => (QR W hW).mono ?_)).mono ?_
    · rintro e w' ⟨hb, h1, -⟩
      exact ⟨hb, h1 hF⟩
    · rintro e w' ⟨hb, he⟩
      exact ⟨hb, fun _ => he, fun a2 er2 h => by rw [hF] at h; cases h⟩
end Go.Proofs.YtcpceaflnnkhnaaGreatDoor

/- The contract of the library's Equal at lists of bytes, and of the program's Same of two capabilities. -/
namespace Go.Proofs.YtcpceaflnnkhnaaGreatDoor
open Go.RowKit

theorem same_step2 (l m : List UInt8) (k : Nat) (x y : UInt8) (hx : l[k]? = some x) (hy : m[k]? = some y) (hq : l.take k = m.take k) : l.take (k + 1) = m.take (k + 1) ↔ x = y := by
  rw [List.take_add_one, List.take_add_one, hx, hy, hq]
  simp
set_option maxHeartbeats 800000 in
theorem bequal_any (va vb : Value) (l m : List UInt8) (w : World) (ha : By w va l) (hb : By w vb m) :
    Calls Tryz.prog 41 #[va, vb] w fun e w' => e = .returned (.bool (decide (l = m))) ∧ Below w.heap.size w w' := by
  obtain ⟨A, c, rfl, hc, hm, hca⟩ := ha.form
  obtain ⟨B, d, rfl, hd, hmd, hcb⟩ := hb.form
  unfold maxLen at hm hmd
  by_cases hl : l.length = m.length
  · have hne : ((l.length : Int) != (m.length : Int)) = false := by simp [hl]
    have HL := hide hl
    clear hl
    go_enter Tryz.func41, Tryz.ntmps41
    go_wp2
    go_loopw [13] (fun i wr => ∃ k : Nat, k ≤ l.length ∧ i = .int .i64 k ∧ l.take k = m.take k ∧ Below w.heap.size w wr) (fun i _ => l.length - (intOf i).toNat)
    case atStart => exact ⟨0, by omega, rfl, by simp, Below.refl _ _⟩
    case round =>
      obtain ⟨k, hk, rfl, hq, hbel⟩ := hrel
      have HQ := hide hq
      clear hq
      by_cases hlt : k < l.length
      · have hlt2 : k < m.length := by have := HL.out; omega
        obtain ⟨x, hx⟩ : ∃ x, l[k]? = some x := ⟨_, List.getElem?_eq_getElem hlt⟩
        obtain ⟨y, hy⟩ : ∃ y, m[k]? = some y := ⟨_, List.getElem?_eq_getElem hlt2⟩
        obtain ⟨b, o, rfl, hbl, hcell⟩ := hca k x hx
        obtain ⟨b2, o2, rfl, hbl2, hcell2⟩ := hcb k y hy
        have hcx : wr.cell? ⟨b, o + k, none⟩ = some (.int .u8 (x.toNat : Int)) := (hbel.cell (p := ⟨b, o + k, none⟩) hbl).trans hcell
        have hcy : wr.cell? ⟨b2, o2 + k, none⟩ = some (.int .u8 (y.toNat : Int)) := (hbel.cell (p := ⟨b2, o2 + k, none⟩) hbl2).trans hcell2
        have HX := hide hx
        have HY := hide hy
        clear hx hy hcell hcell2 hca hcb
        have i1 : (k : Int) < (l.length : Int) := by omega
        have i2 : (k : Int) < (m.length : Int) := by omega
        have i3 : (0 : Int) ≤ (k : Int) := by omega
        by_cases hxy : x = y
        · have hd : ((x.toNat : Int) != (y.toNat : Int)) = false := by simp [hxy]
          go_wp2
          go_quiet (fail)
          go_wp2
          go_roundw
          case rel => exact ⟨k + 1, by omega, by go_num, (same_step2 l m k x y HX.out HY.out HQ.out).2 hxy, below_drewN hbel _⟩
          case measure => simp [intOf]; omega
        · have hd : ((x.toNat : Int) != (y.toNat : Int)) = true := by
            rw [bne_iff_ne]; intro h; exact hxy (u8_int.1 h)
          go_wp2
          go_quiet (fail)
          go_wp2
          go_ret
          refine ⟨ret_bool ?_, below_drewN hbel _⟩
          refine (decide_eq_false fun h => hxy ((same_step2 l m k x y HX.out HY.out HQ.out).1 (by rw [h]))).symm
      · have hge : ¬ ((k : Int) < (l.length : Int)) := by omega
        go_wp2
        go_ret
        refine ⟨ret_bool ?_, hbel⟩
        refine (decide_eq_true ?_).symm
        have := HQ.out
        rwa [List.take_of_length_le (by omega), List.take_of_length_le (by have := HL.out; omega)] at this
  · have hne : ((l.length : Int) != (m.length : Int)) = true := by rw [bne_iff_ne]; omega
    go_enter Tryz.func41, Tryz.ntmps41
    go_wp2
    go_ret
    exact ⟨ret_bool (decide_eq_false fun h => hl (by rw [h])).symm, Below.refl _ _⟩

theorem cp_eq (c d : CP) : decide (c = d) = (decide (c.kind = d.kind) && (decide (c.dir = d.dir) && (decide (c.rd = d.rd) && (decide (c.vf = d.vf) && decide (c.lit = d.lit))))) := by
  rw [Bool.eq_iff_iff]
  cases c; cases d
  simp [CP.mk.injEq]
set_option maxRecDepth 100000 in
set_option maxHeartbeats 4000000 in
theorem same_cap (cs ds : Array Value) (c d : CP) (v u : Value) (w : World) (h : Capy w cs c v) (h2 : Capy w ds d u) :
    Calls Tryz.prog 16 #[.agg cs, .agg ds] w fun e w' => e = .returned (.bool (decide (c = d))) ∧ Below w.heap.size w w' := by
  have b1 := (Below.refl w.heap.size w).alloc (Nat.le_refl _) (.cells cs 34)
  have b2 := b1.alloc b1.size (.cells ds 34)
  have k1 := (Blk.new w 34 cs).alloc (.cells ds 34)
  have k2 := Blk.new (w.alloc (.cells cs 34)) 34 ds
  simp only [World.size_alloc] at k2
  have QE := bequal_any v u c.lit d.lit _ (h.by_.below b2) (h2.by_.below b2)
  have fk := h.c0
  have gk := h2.c0
  have fd := h.c1
  have gd := h2.c1
  have fl := h.lit
  have gl := h2.lit
  obtain ⟨A1, k1', rfl, -, -, -⟩ := h.by_.form
  obtain ⟨A2, k2', rfl, -, -, -⟩ := h2.by_.form
  obtain ⟨W, hW⟩ : ∃ W, W = (w.alloc (.cells cs 34)).alloc (.cells ds 34) := ⟨_, rfl⟩
  have hr1 : W.rangeAt w.heap.size 2 c.rd.cells := by rw [hW]; exact h.rdAt k1
  have hv1 : W.rangeAt w.heap.size 54 c.vf.cells := by rw [hW]; exact h.vfAt k1
  have hr2 : W.rangeAt (w.heap.size + 1) 2 d.rd.cells := by rw [hW]; exact h2.rdAt k2
  have hv2 : W.rangeAt (w.heap.size + 1) 54 d.vf.cells := by rw [hW]; exact h2.vfAt k2
  rw [← hW] at QE b2 k1 k2
  have c10 : W.cell? ⟨w.heap.size, 0, none⟩ = some (.int .u8 (c.kind : Int)) := by rw [k1.cell]; exact fk
  have c11 : W.cell? ⟨w.heap.size, 1, none⟩ = some (.bool c.dir) := by rw [k1.cell]; exact fd
  have c14 : W.cell? ⟨w.heap.size, 106, none⟩ = some (.slice A1 c.lit.length k1') := by rw [k1.cell]; exact fl
  have c20 : W.cell? ⟨w.heap.size + 1, 0, none⟩ = some (.int .u8 (d.kind : Int)) := by rw [k2.cell]; exact gk
  have c21 : W.cell? ⟨w.heap.size + 1, 1, none⟩ = some (.bool d.dir) := by rw [k2.cell]; exact gd
  have c24 : W.cell? ⟨w.heap.size + 1, 106, none⟩ = some (.slice A2 d.lit.length k2') := by rw [k2.cell]; exact gl
  have HE := hide (show ∀ W, (binOp .eql 28 (.agg c.rd.cells.toArray) (.agg d.rd.cells.toArray)).run Tryz.prog W = .ok (.bool (decide (c.rd = d.rd))) W from fun W => read_eql _ _ h.wf.1 h2.wf.1 W)
  have HG := hide (show ∀ W, (binOp .eql 31 (.agg c.vf.cells.toArray) (.agg d.vf.cells.toArray)).run Tryz.prog W = .ok (.bool (decide (c.vf = d.vf))) W from fun W => verify_eql _ _ h.wf.2.1 h2.wf.2.1 W)
  have HS := hide (show c.rd.cells.length = 52 ∧ c.vf.cells.length = 52 ∧ d.rd.cells.length = 52 ∧ d.vf.cells.length = 52 from ⟨RV.cells_length h.wf.1, RV.cells_length h.wf.2.1, RV.cells_length h2.wf.1, RV.cells_length h2.wf.2.1⟩)
  rw [cp_eq]
  have hkk : ((c.kind : Int) == (d.kind : Int)) = decide (c.kind = d.kind) := by rw [Bool.eq_iff_iff]; simp; omega
  obtain ⟨q0, hq0⟩ : ∃ q, q = decide (c.kind = d.kind) := ⟨_, rfl⟩
  obtain ⟨r0, hr0⟩ : ∃ r, r = decide (c.rd = d.rd) := ⟨_, rfl⟩
  obtain ⟨v0, hv0⟩ : ∃ r, r = decide (c.vf = d.vf) := ⟨_, rfl⟩
  obtain ⟨l0, hl0⟩ : ∃ r, r = decide (c.lit = d.lit) := ⟨_, rfl⟩
  rw [← hq0] at hkk ⊢
  rw [← hr0] at HE ⊢
  rw [← hv0] at HG ⊢
  rw [← hl0] at QE ⊢
  obtain ⟨R1, hR1⟩ : ∃ R, R = c.rd.cells := ⟨_, rfl⟩
  obtain ⟨F1, hF1⟩ : ∃ R, R = c.vf.cells := ⟨_, rfl⟩
  obtain ⟨R2, hR2⟩ : ∃ R, R = d.rd.cells := ⟨_, rfl⟩
  obtain ⟨F2, hF2⟩ : ∃ R, R = d.vf.cells := ⟨_, rfl⟩
  rw [← hR1] at HE HS hr1
  rw [← hR2] at HE HS hr2
  rw [← hF1] at HG HS hv1
  rw [← hF2] at HG HS hv2
  have HQ := hide QE
  have HR := hide (And.intro hr1 (And.intro hv1 (And.intro hr2 hv2)))
  have HW := hide hW
  have HB := hide b2
  generalize c.kind = K1 at *
  generalize d.kind = K2 at *
  generalize c.dir = D1 at *
  generalize d.dir = D2 at *
  generalize c.lit.length = n1 at *
  generalize d.lit.length = n2 at *
  clear QE hr1 hv1 hr2 hv2 hW b2 b1 k1 k2 hq0 hr0 hv0 hl0 hR1 hF1 hR2 hF2 fk gk fd gd fl gl h h2
  rcases q0
  · go_enter Tryz.func16, Tryz.ntmps16
    go_upto_region 1 with fail
    rw [← HW.out]
    go_wp2
    go_ret
    exact ⟨rfl, HB.out⟩
  by_cases hD : D1 = D2
  rotate_left
  · have hd : (D1 == D2) = false := by simpa using hD
    rw [decide_eq_false hD]
    clear hD
    go_enter Tryz.func16, Tryz.ntmps16
    go_upto_region 1 with fail
    rw [← HW.out]
    go_wp2
    go_ret
    exact ⟨rfl, HB.out⟩
  subst hD
  rw [decide_eq_true rfl]
  cases r0
  all_goals
    go_enter Tryz.func16, Tryz.ntmps16
    go_upto_region 1 with fail
    rw [← HW.out]
  · go_wp2_with first
      | ((with_reducible change wpList _ _ _ (⟨some 19, _, _, _, _, _⟩ :: _) _ _); refine wpList_yields (by kernel_rfl) (.agg R1.toArray) (ex_load 28 _ rfl w.heap.size 2 (by kernel_rfl) _ _ HR.out.1 Tryz.underlying28 rfl (by rw [HS.out.1]; kernel_rfl)) ?_)
      | ((with_reducible change wpList _ _ _ (⟨some 21, _, _, _, _, _⟩ :: _) _ _); refine wpList_yields (by kernel_rfl) (.agg R2.toArray) (ex_load 28 _ rfl (w.heap.size + 1) 2 (by kernel_rfl) _ _ HR.out.2.2.1 Tryz.underlying28 rfl (by rw [HS.out.2.2.1]; kernel_rfl)) ?_)
      | ((with_reducible change wpList _ _ _ (⟨some 22, _, _, _, _, _⟩ :: _) _ _); refine wpList_yields (by kernel_rfl) (.bool false) (ex_eql 28 _ _ rfl R1.toArray R2.toArray (by kernel_rfl) (by kernel_rfl) (by kernel_rfl) _ (HE.out _)) ?_)
    go_ret
    exact ⟨rfl, HB.out⟩
  cases v0
  all_goals
    go_wp2_with first
      | ((with_reducible change wpList _ _ _ (⟨some 19, _, _, _, _, _⟩ :: _) _ _); refine wpList_yields (by kernel_rfl) (.agg R1.toArray) (ex_load 28 _ rfl w.heap.size 2 (by kernel_rfl) _ _ HR.out.1 Tryz.underlying28 rfl (by rw [HS.out.1]; kernel_rfl)) ?_)
      | ((with_reducible change wpList _ _ _ (⟨some 21, _, _, _, _, _⟩ :: _) _ _); refine wpList_yields (by kernel_rfl) (.agg R2.toArray) (ex_load 28 _ rfl (w.heap.size + 1) 2 (by kernel_rfl) _ _ HR.out.2.2.1 Tryz.underlying28 rfl (by rw [HS.out.2.2.1]; kernel_rfl)) ?_)
      | ((with_reducible change wpList _ _ _ (⟨some 22, _, _, _, _, _⟩ :: _) _ _); refine wpList_yields (by kernel_rfl) (.bool true) (ex_eql 28 _ _ rfl R1.toArray R2.toArray (by kernel_rfl) (by kernel_rfl) (by kernel_rfl) _ (HE.out _)) ?_)
      | ((with_reducible change wpList _ _ _ (⟨some 26, _, _, _, _, _⟩ :: _) _ _); refine wpList_yields (by kernel_rfl) (.agg F1.toArray) (ex_load 31 _ rfl w.heap.size 54 (by kernel_rfl) _ _ HR.out.2.1 Tryz.underlying31 rfl (by rw [HS.out.2.1]; kernel_rfl)) ?_)
      | ((with_reducible change wpList _ _ _ (⟨some 28, _, _, _, _, _⟩ :: _) _ _); refine wpList_yields (by kernel_rfl) (.agg F2.toArray) (ex_load 31 _ rfl (w.heap.size + 1) 54 (by kernel_rfl) _ _ HR.out.2.2.2 Tryz.underlying31 rfl (by rw [HS.out.2.2.2]; kernel_rfl)) ?_)
      | ((with_reducible change wpList _ _ _ (⟨some 29, _, _, _, _, _⟩ :: _) _ _); refine wpList_yields (by kernel_rfl) (.bool _) (ex_eql 31 _ _ rfl F1.toArray F2.toArray (by kernel_rfl) (by kernel_rfl) (by kernel_rfl) _ (HG.out _)) ?_)
      | (go_at_call 41; refine HQ.out.mono ?_; rintro e w3 ⟨rfl, b3⟩; go_loud (have H3 := hide (HB.out.trans (b3.mono HB.out.size)); clear b3))
    go_ret
  · exact ⟨rfl, HB.out⟩
  · exact ⟨rfl, H3.out⟩
end Go.Proofs.YtcpceaflnnkhnaaGreatDoor

/- The law's awake of capabilities: a capability's text, and what a text is read as. -/
namespace Go.Proofs.YtcpceaflnnkhnaaGreatDoor
open Go.RowKit

theorem lst_inj {s t : ByteArray} (h : lst s = lst t) : s = t := by
  cases s; cases t
  unfold lst at h
  congr 1
  exact Array.toList_inj.1 h
theorem lst_mk (l : List UInt8) : lst ⟨l.toArray⟩ = l := by unfold lst; simp
def sampleR : RV := ⟨List.replicate 16 0, List.replicate 32 0, 3, 5, 12, 100⟩
/-- The capability of the chapter's first example. -/
def sampleC : CP := ⟨1, false, sampleR, RV.zero, []⟩
theorem sample_wf : sampleC.wf := ⟨by unfold sampleC sampleR RV.wf; simp, RV.zero_wf, by show (1 : Nat) < 256; omega⟩
theorem sample_in : sampleC.in64 := ⟨by unfold sampleC sampleR RV.in64; simp, RV.zero_in⟩
theorem sample_capy (w : World) : Capy w (sampleC.cells (.slice none 0 0)) sampleC (.slice none 0 0) := ⟨rfl, sample_wf, sample_in, By.nil w⟩
theorem sample_may : sampleC.may := by decide +kernel
theorem build_sample (w : World) : (Instr.build 28 #[(2, .int .i64 3), (3, .int .i64 5), (4, .int .i64 12), (5, .int .i64 100)]).run Tryz.prog w = .ok (.agg sampleR.cells.toArray) w := by kernel_rfl
set_option maxRecDepth 100000 in
set_option maxHeartbeats 1000000 in
theorem sample_any (w : World) : Calls Tryz.prog 31 #[] w fun e w' => e = .returned (.agg (sampleC.cells (.slice none 0 0))) ∧ Below w.heap.size w w' := by
  obtain ⟨w0, hw0⟩ : ∃ w0, w0 = w.alloc (.cells Tryz.zeroCells34 34) := ⟨_, rfl⟩
  have H0 := hide (show Blk w0 w.heap.size 34 Tryz.zeroCells34 ∧ Below w.heap.size w w0 from ⟨by rw [hw0]; exact Blk.new w _ _, by rw [hw0]; exact (Below.refl _ w).alloc (Nat.le_refl _) _⟩)
  have HW := hide hw0
  obtain ⟨R, hR⟩ : ∃ R, R = sampleR.cells.toArray := ⟨_, rfl⟩
  obtain ⟨F, hF⟩ : ∃ F, F = sampleC.cells (.slice none 0 0) := ⟨_, rfl⟩
  have HF := hide (show F.size = 107 ∧ F.all (·.oneCell') = true ∧ (∀ W, (Instr.build 28 #[(2, .int .i64 3), (3, .int .i64 5), (4, .int .i64 12), (5, .int .i64 100)]).run Tryz.prog W = .ok (.agg R) W) ∧ (∀ W, (Instr.build 34 #[(0, .int .u8 1), (2, .agg R)]).run Tryz.prog W = .ok (.agg F) W) from
    ⟨by rw [hF]; exact CP.cells_size sample_wf _, by rw [hF]; exact CP.cells_one _ _ _ _, fun W => by rw [hR]; exact build_sample W, fun W => by rw [hR, hF]; exact build_cap1 sampleR sample_wf.1 [] W⟩)
  rw [← hF]
  clear hw0 hR hF
  go_enter Tryz.func31, Tryz.ntmps31
  go_upto_region 1 with fail
  rw [← HW.out]
  go_wp2_with first
    | ((with_reducible change wpList _ _ _ (⟨some 1, _, _, _, _, _⟩ :: _) _ _); refine wpList_yields (by kernel_rfl) (.agg R) (ex_build 28 _ rfl #[(2, .int .i64 3), (3, .int .i64 5), (4, .int .i64 12), (5, .int .i64 100)] (by kernel_rfl) _ (HF.out.2.2.1 _)) ?_)
    | ((with_reducible change wpList _ _ _ (⟨some 2, _, _, _, _, _⟩ :: _) _ _); refine wpList_yields (by kernel_rfl) (.agg F) (ex_build 34 _ rfl #[(0, .int .u8 1), (2, .agg R)] (by kernel_rfl) _ (HF.out.2.2.2 _)) ?_)
    | ((with_reducible change wpList _ _ _ (⟨none, .store _ (.tmp 0) _, _, _, _, _⟩ :: _) _ _); go_loud (refine wpList_store_row (o := ⟨none, .store _ (.tmp 0) _, _, _, _, _⟩) H0.out.1 F (by rw [HF.out.1]; kernel_rfl) HF.out.2.1 rfl 34 _ _ rfl (by rw [HF.out.1]; kernel_rfl) rfl rfl ?_; intro w7 hb7 hg7))
  refine bodyPost_ret (results_cell_row rfl _ _ w.heap.size 34 F (0, 0) _ rfl hb7 Tryz.underlying34 rfl (by rw [HF.out.1]; kernel_rfl)) rfl ⟨rfl, H0.out.2.grown hg7 H0.out.2.size fun k hk => (by injection hk with hk; omega)⟩
/-- The text of the example, with a part in the place of 12. -/
def textL (seg : List UInt8) : List UInt8 := [115, 116, 114, 111, 110, 103, 114, 111, 111, 109, 58, 114, 101, 97, 100, 58] ++ (List.replicate 26 97 ++ (58 :: (List.replicate 52 97 ++ ([58, 51, 58, 53, 58] ++ (seg ++ [58, 49, 48, 48])))))
theorem rep97 (n : Nat) : Lib.repeatL [97] n = List.replicate n 97 := by
  induction n with
  | zero => rfl
  | succ n ih => simp only [Lib.repeatL, List.replicate_succ, List.cons_append, List.nil_append]; rw [ih]
set_option maxRecDepth 100000 in
set_option maxHeartbeats 1000000 in
theorem text_any (s : ByteArray) (hs : s.size ≤ 1000) (w : World) : Calls Tryz.prog 30 #[.string s] w fun e w' => ∃ t, e = .returned (.string t) ∧ lst t = textL (lst s) ∧ Below w.heap.size w w' := by
  have q1 := Tryz.strings_Repeat ⟨#[97]⟩ 26 w (by omega) (by show 1 * 26 ≤ _; omega)
  have q2 := fun W => Tryz.strings_Repeat ⟨#[97]⟩ 52 W (by omega) (by show 1 * 52 ≤ _; omega)
  obtain ⟨x, hx⟩ : ∃ x : ByteArray, x = ⟨(Lib.repeatL (⟨#[97]⟩ : ByteArray).data.toList 26).toArray⟩ := ⟨_, rfl⟩
  obtain ⟨y, hy⟩ : ∃ y : ByteArray, y = ⟨(Lib.repeatL (⟨#[97]⟩ : ByteArray).data.toList 52).toArray⟩ := ⟨_, rfl⟩
  rw [← hx] at q1
  rw [← hy] at q2
  have Q1 := hide q1
  have Q2 := hide q2
  have HX := hide (show lst x = List.replicate 26 97 ∧ lst y = List.replicate 52 97 from ⟨by rw [hx, lst_mk]; exact rep97 26, by rw [hy, lst_mk]; exact rep97 52⟩)
  have hxs : x.size = 26 := by have := congrArg List.length HX.out.1; rw [lst_len] at this; simpa using this
  have hys : y.size = 52 := by have := congrArg List.length HX.out.2; rw [lst_len] at this; simpa using this
  clear q1 q2 hx hy
  go_enter Tryz.func30, Tryz.ntmps30
  go_wp2_with fail
  refine Q1.out.mono ?_
  rintro e w1 ⟨rfl, b1⟩
  go_wp2_with fail
  refine (Q2.out _).mono ?_
  rintro e w2 ⟨rfl, b2⟩
  have HB := hide (b1.trans (b2.mono b1.size))
  clear b1 b2
  go_wp2
  go_ret
  refine ⟨_, rfl, ?_, HB.out⟩
  unfold textL
  simp only [lst_append, HX.out.1, HX.out.2, List.append_assoc]
  rfl
theorem sample_text : sampleC.text = textL [49, 50] := by decide +kernel
def foobar : CP := ⟨3, true, RV.zero, RV.zero, [102, 111, 111, 98, 97, 114]⟩
def fooT : ByteArray := ⟨#[115, 116, 114, 111, 110, 103, 114, 111, 111, 109, 58, 100, 105, 114, 45, 108, 105, 116, 58, 109, 122, 120, 119, 54, 121, 116, 98, 111, 105]⟩
theorem foo_parse : capF (lst fooT) = none ∧ capC (lst fooT) = foobar := by
  have h : parseC foobar.text = (foobar, 0, 0) := parse_text ⟨RV.zero_wf, RV.zero_wf, by show (3 : Nat) < 256; omega⟩ (by decide +kernel)
  have e : foobar.text = lst fooT := by decide +kernel
  rw [e] at h
  unfold parseC at h
  cases hF : capF (lst fooT) with
  | some q =>
    rw [hF] at h
    simp only [Prod.mk.injEq] at h
    have := congrArg CP.kind h.1
    cases this
  | none =>
    rw [hF] at h
    simp only [Prod.mk.injEq] at h
    exact ⟨rfl, h.1⟩
set_option maxRecDepth 100000 in
set_option maxHeartbeats 4000000 in
theorem awake_any (mx : Int) (w : World) (hm : w.cell? ⟨1, 0, none⟩ = some (.int .i64 mx)) (ht : Tab w) (he : Err w) (hh : Handle w) :
    Calls Tryz.prog 14 #[] w fun e w' => e = .returned (.bool true) ∧ Below w.heap.size w w' := by
  have Q1 := hide (sample_any w)
  obtain ⟨T, hT⟩ : ∃ T : ByteArray, T = ⟨(textL [49, 50]).toArray⟩ := ⟨_, rfl⟩
  have Q2 : Hid (∀ W, Below w.heap.size w W → Calls Tryz.prog 18 #[.agg (sampleC.cells (.slice none 0 0))] W fun e w' => e = .returned (.tuple #[.string T, .int .i64 0]) ∧ Below W.heap.size W w') := fun W hW =>
    (print_any _ sampleC (.slice none 0 0) W (sample_capy W) (ht.below hW)).mono (by
      rintro e w' ⟨s, rfl, h1, h2⟩
      rw [if_pos sample_may] at h1 ⊢
      refine ⟨?_, h2⟩
      rw [show s = T from lst_inj (by rw [h1, hT, lst_mk, sample_text])])
  have Q3 : Hid (∀ W, Below w.heap.size w W → Calls Tryz.prog 10 #[.string ⟨#[115, 116, 114, 111, 110, 103, 114, 111, 111, 109, 58, 100, 105, 114, 45, 108, 105, 116, 58, 109, 122, 120, 119, 54, 121, 116, 98, 111, 105]⟩] W fun e w' => ∃ A n k F, e = .returned (.tuple #[.agg F, .int .i64 0, .int .i64 0]) ∧ F = foobar.cells (.slice A n k) ∧ Own w' W.heap.size 5 (.slice A n k) foobar.lit ∧ Below W.heap.size W w') := fun W hW =>
    (parsed_any fooT mx W (by decide) ((hW.cell (World.block_lt_of_cell? _ _ hm)).trans hm) (ht.below hW) (he.below hW) (hh.below hW)).mono (by
      rintro e w' ⟨hb, h1, -⟩
      obtain ⟨A, n, k, rfl, ho⟩ := h1 foo_parse.1
      rw [foo_parse.2] at ho
      exact ⟨A, n, k, _, rfl, by rw [foo_parse.2], ho, hb⟩)
  have Q4 : Hid (∀ W, Calls Tryz.prog 30 #[.string ⟨#[49, 50]⟩] W fun e w' => e = .returned (.string T) ∧ Below W.heap.size W w') := fun W =>
    (text_any ⟨#[49, 50]⟩ (by decide) W).mono (by
      rintro e w' ⟨t, rfl, h1, h2⟩
      exact ⟨by rw [show t = T from lst_inj (by rw [h1, hT, lst_mk])], h2⟩)
  obtain ⟨S, hS⟩ : ∃ S, S = sampleC.cells (.slice none 0 0) := ⟨_, rfl⟩
  rw [← hS] at Q1 Q2
  clear hm ht he hh hT hS
  go_enter Tryz.func14, Tryz.ntmps14
  go_wp2_with fail
  refine Q1.out.mono ?_
  rintro e w1 ⟨rfl, b1⟩
  have B1 := hide b1
  clear b1
  go_wp2_with fail
  refine (Q2.out _ B1.out).mono ?_
  rintro e w2 ⟨rfl, b2⟩
  have B2 := hide (Below.step B1.out b2)
  clear b2
  go_wp2_with fail
  refine (Q3.out _ B2.out).mono ?_
  rintro e w3 ⟨A, n, k, F, rfl, hF, ho, b3⟩
  have H3 := hide (show F.size = 107 ∧ F.all (·.oneCell') = true ∧ F = foobar.cells (.slice A n k) ∧ Own w3 w2.heap.size 5 (.slice A n k) foobar.lit ∧ Below w.heap.size w w3 from ⟨by rw [hF]; exact CP.cells_size ⟨RV.zero_wf, RV.zero_wf, by show (3 : Nat) < 256; omega⟩ _, by rw [hF]; exact CP.cells_one _ _ _ _, hF, ho, Below.step B2.out b3⟩)
  clear hF ho b3
  go_wp2_with ((with_reducible change wpList _ _ _ (⟨none, .store _ (.tmp 3) _, _, _, _, _⟩ :: _) _ _); go_loud (refine wpList_store_row (o := ⟨none, .store _ (.tmp 3) _, _, _, _, _⟩) (Blk.new w3 34 Tryz.zeroCells34) F (by rw [H3.out.1]; kernel_rfl) H3.out.2.1 rfl 34 _ _ rfl (by rw [H3.out.1]; kernel_rfl) rfl rfl ?_; intro w4 hb4 hg4; have H4 := hide (show Blk w4 w3.heap.size 34 F ∧ Below w3.heap.size w3 w4 from ⟨hb4, ((Below.refl w3.heap.size w3).alloc (Nat.le_refl _) _).grown hg4 (by simp) (fun k hk => by injection hk with hk; omega)⟩); clear hb4 hg4))
  refine (Q4.out _).mono ?_
  rintro e w5 ⟨rfl, b5⟩
  have hB := H4.out.1.below' b5
  have c0 : w5.cell? ⟨w3.heap.size, 0, none⟩ = some (.int .u8 3) := by rw [hB.cell, H3.out.2.2.1]; rfl
  have c1 : w5.cell? ⟨w3.heap.size, 1, none⟩ = some (.bool true) := by rw [hB.cell, H3.out.2.2.1]; rfl
  have c4 : w5.cell? ⟨w3.heap.size, 106, none⟩ = some (.slice A n k) := by rw [hB.cell, H3.out.2.2.1]; rfl
  obtain ⟨sv, hs1, hs2⟩ := run_str (P := Tryz.prog) ((Own.below (Own.below H3.out.2.2.2.1 H4.out.2) b5).by_) 32 9 5 Tryz.underlying32 Tryz.underlying5 Tryz.underlying9
  obtain rfl : sv = ⟨#[102, 111, 111, 98, 97, 114]⟩ := lst_inj (by unfold lst; rw [hs1]; rfl)
  have H5 := hide (Below.step (Below.step H3.out.2.2.2.2 H4.out.2) b5)
  clear hB b5 hs1
  go_wp2
  go_ret
  exact ⟨rfl, H5.out⟩
end Go.Proofs.YtcpceaflnnkhnaaGreatDoor

/- From the reading of an argument to what the walks are told of it. -/
namespace Go.Proofs.YtcpceaflnnkhnaaGreatDoor
open Go.RowKit

theorem cell_lt {w : World} {a : Addr} {v : Value} (h : w.cell? a = some v) : a.block < w.heap.size := by
  rcases Nat.lt_or_ge a.block w.heap.size with h1 | h1
  · exact h1
  · simp [World.cell?, Array.getElem?_eq_none h1] at h

/-- A slice of bytes that came in. -/
theorem by_of_row {w : World} {a : Addr} {len cap : Nat} {zs : List Int} (hl : len ≤ cap) (hm : cap ≤ maxLen) (hz : zs.length = cap)
    (hcell : ∀ i, i < zs.length → w.cell? (a.add i) = some (.int .u8 (zs.getD i 0))) (hwz : ∀ n ∈ zs, (Lit.int .u8 n).wf = true) :
    ∃ l : List UInt8, l.length = len ∧ By w (.slice (some a) len cap) l := by
  refine ⟨(zs.take len).map fun z => UInt8.ofNat z.toNat, by simp; omega, ?_, some a, cap, by simp; omega, by simp; omega, hm, fun h0 => ?_⟩
  · simp
  · obtain ⟨b, o, sp⟩ := a
    simp only [List.length_map, List.length_take] at h0
    have h1 := hcell 0 (by omega)
    have hsp : sp = none := by simpa [Addr.add] using World.cell?_spot h1
    subst hsp
    refine ⟨b, o, rfl, cell_lt (a := ⟨b, o, none⟩) (by simpa [Addr.add] using h1), fun j hj => ?_⟩
    simp only [List.length_map, List.length_take, Nat.mul_one] at hj
    have hc := hcell j (by omega)
    rw [Addr.add_mid] at hc
    rw [hc, bcells_get, List.getElem?_map, List.getElem?_take_of_lt (by omega), List.getElem?_eq_getElem (by omega)]
    have hw := hwz zs[j] (List.getElem_mem (by omega))
    have hb : 0 ≤ zs[j] ∧ zs[j] ≤ 255 := by simpa [Lit.wf, IntKind.min, IntKind.max, IntKind.bits, IntKind.signed] using hw
    simp only [Option.map_some, Option.some.injEq, Value.int.injEq, true_and]
    rw [List.getD_eq_getElem?_getD, List.getElem?_eq_getElem (by omega), Option.getD_some, UInt8.toNat_ofNat']
    omega

end Go.Proofs.YtcpceaflnnkhnaaGreatDoor

/- A capability that came in, as the walks are told of it. -/
namespace Go.Proofs.YtcpceaflnnkhnaaGreatDoor
open Go.RowKit Go.ChangeShapes Go.WideShapes

set_option maxRecDepth 10000
section
variable {H : Type} {enc : TypeId × Value → H} {w : World} {base : Nat} {spare : Nat → Bool} {held : Bool}
theorem cut_list2 {α : Type} (l : List α) (i j : Nat) : l.drop i = (l.drop i).take j ++ l.drop (i + j) := by
  rw [← List.drop_drop, List.take_append_drop]
theorem bytes_of {T : TypeId} {N : Nat} (hu : Tryz.prog.underlying T = some (.array N 5)) (hN : Tryz.prog.cellsOf T = N) {cs : List Value} {fuel : Nat} {x : DataW H × List MemPlace} (h : DataW.trod enc Tryz.prog w base spare held fuel T cs = some x) : ∃ l : List UInt8, cs = bcells l ∧ l.length = N := by
  obtain ⟨xs, m, rfl, hx, hl, hxl, hf⟩ := DataW.trod_array hu h
  rw [hN] at hl
  have hc1 : Tryz.prog.cellsOf 5 = 1 := by kernel_rfl
  have key : ∀ i, i < N → ∃ b : UInt8, cs[i]? = some (.int .u8 (b.toNat : Int)) := by
    intro i hi
    have h1 := hf i hi
    rw [hc1, Nat.mul_one, List.getElem?_eq_getElem (show i < xs.length by omega)] at h1
    obtain ⟨n, h2, _, h3⟩ := DataW.trod_int Tryz.underlying5 h1
    have h4 : cs[i]? = some (.int .u8 n) := by
      have := congrArg (·[0]?) h2
      simpa using this
    have h5 : 0 ≤ n ∧ n < 256 := by
      have h6 : 0 ≤ n ∧ n ≤ 255 := by simpa [Lit.wf, IntKind.min, IntKind.max, IntKind.signed, IntKind.bits] using h3
      omega
    refine ⟨UInt8.ofNat n.toNat, ?_⟩
    have h7 : ((UInt8.ofNat n.toNat).toNat : Int) = n := by
      rw [UInt8.toNat_ofNat']
      omega
    rw [h4, h7]
  refine ⟨cs.map fun v => match v with | .int _ n => UInt8.ofNat n.toNat | _ => 0, ?_, by simp [hl]⟩
  refine List.ext_getElem? fun i => ?_
  by_cases hi : i < N
  · obtain ⟨b, hb⟩ := key i hi
    rw [bcells_get, List.getElem?_map, hb]
    simp
  · rw [List.getElem?_eq_none (by omega), List.getElem?_eq_none (by simp [hl]; omega)]
theorem read_of {cs : List Value} {fuel : Nat} {x : DataW H × List MemPlace} (h : DataW.trod enc Tryz.prog w base spare held fuel 28 cs = some x) : ∃ r : RV, cs = r.cells ∧ r.wf ∧ r.in64 := by
  obtain ⟨xs, m, rfl, hx, hl, hxl, hf⟩ := DataW.trod_struct Tryz.underlying28 h
  rw [show Tryz.prog.cellsOf 28 = 52 by kernel_rfl] at hl
  have c1 : Tryz.prog.cellsOf 3 = 1 := by kernel_rfl
  have c2 : Tryz.prog.cellsOf 26 = 32 := by kernel_rfl
  have c3 : Tryz.prog.cellsOf 24 = 16 := by kernel_rfl
  have hx6 : xs.length = 6 := hxl
  have get : ∀ i, i < 6 → ∃ y, xs[i]? = some y := fun i hi => ⟨_, List.getElem?_eq_getElem (by omega)⟩
  obtain ⟨y0, g0⟩ := get 0 (by omega)
  obtain ⟨y1, g1⟩ := get 1 (by omega)
  obtain ⟨y2, g2⟩ := get 2 (by omega)
  obtain ⟨y3, g3⟩ := get 3 (by omega)
  obtain ⟨y4, g4⟩ := get 4 (by omega)
  obtain ⟨y5, g5⟩ := get 5 (by omega)
  have f0 : DataW.trod enc Tryz.prog w base spare held m 24 ((cs.drop 0).take (Tryz.prog.cellsOf 24)) = some y0 := (hf 0 _ rfl).trans g0
  have f1 : DataW.trod enc Tryz.prog w base spare held m 26 ((cs.drop 16).take (Tryz.prog.cellsOf 26)) = some y1 := (hf 1 _ rfl).trans g1
  have f2 : DataW.trod enc Tryz.prog w base spare held m 3 ((cs.drop 48).take (Tryz.prog.cellsOf 3)) = some y2 := (hf 2 _ rfl).trans g2
  have f3 : DataW.trod enc Tryz.prog w base spare held m 3 ((cs.drop 49).take (Tryz.prog.cellsOf 3)) = some y3 := (hf 3 _ rfl).trans g3
  have f4 : DataW.trod enc Tryz.prog w base spare held m 3 ((cs.drop 50).take (Tryz.prog.cellsOf 3)) = some y4 := (hf 4 _ rfl).trans g4
  have f5 : DataW.trod enc Tryz.prog w base spare held m 3 ((cs.drop 51).take (Tryz.prog.cellsOf 3)) = some y5 := (hf 5 _ rfl).trans g5
  rw [c3] at f0
  rw [c2] at f1
  rw [c1] at f2 f3 f4 f5
  obtain ⟨key, e0, l0⟩ := bytes_of Tryz.underlying24 c3 f0
  obtain ⟨ueb, e1, l1⟩ := bytes_of Tryz.underlying26 c2 f1
  obtain ⟨k, e2, _, w0⟩ := DataW.trod_int Tryz.underlying3 f2
  obtain ⟨n, e3, _, w1⟩ := DataW.trod_int Tryz.underlying3 f3
  obtain ⟨seg, e4, _, w2⟩ := DataW.trod_int Tryz.underlying3 f4
  obtain ⟨size, e5, _, w3⟩ := DataW.trod_int Tryz.underlying3 f5
  refine ⟨⟨key, ueb, k, n, seg, size⟩, ?_, ⟨l0, l1⟩, wf64 w0, wf64 w1, wf64 w2, wf64 w3⟩
  have a0 := cut_list2 cs 0 16
  have a1 := cut_list2 cs 16 32
  have a2 := cut_list2 cs 48 1
  have a3 := cut_list2 cs 49 1
  have a4 := cut_list2 cs 50 1
  have a5 := cut_list2 cs 51 1
  rw [e0] at a0
  rw [e1] at a1
  rw [e2] at a2
  rw [e3] at a3
  rw [e4] at a4
  rw [e5, show 51 + 1 = 52 from rfl, List.drop_eq_nil_of_le (show cs.length ≤ 52 by omega), List.append_nil] at a5
  rw [show 50 + 1 = 51 from rfl, a5] at a4
  rw [show 49 + 1 = 50 from rfl, a4] at a3
  rw [show 48 + 1 = 49 from rfl, a3] at a2
  rw [show 16 + 32 = 48 from rfl, a2] at a1
  rw [show 0 + 16 = 16 from rfl, a1] at a0
  rw [List.drop_zero] at a0
  exact a0
theorem verify_of {cs : List Value} {fuel : Nat} {x : DataW H × List MemPlace} (h : DataW.trod enc Tryz.prog w base spare held fuel 31 cs = some x) : ∃ r : RV, cs = r.cells ∧ r.wf ∧ r.in64 := by
  obtain ⟨xs, m, rfl, hx, hl, hxl, hf⟩ := DataW.trod_struct Tryz.underlying31 h
  rw [show Tryz.prog.cellsOf 31 = 52 by kernel_rfl] at hl
  have c1 : Tryz.prog.cellsOf 3 = 1 := by kernel_rfl
  have c2 : Tryz.prog.cellsOf 26 = 32 := by kernel_rfl
  have c3 : Tryz.prog.cellsOf 29 = 16 := by kernel_rfl
  have hx6 : xs.length = 6 := hxl
  have get : ∀ i, i < 6 → ∃ y, xs[i]? = some y := fun i hi => ⟨_, List.getElem?_eq_getElem (by omega)⟩
  obtain ⟨y0, g0⟩ := get 0 (by omega)
  obtain ⟨y1, g1⟩ := get 1 (by omega)
  obtain ⟨y2, g2⟩ := get 2 (by omega)
  obtain ⟨y3, g3⟩ := get 3 (by omega)
  obtain ⟨y4, g4⟩ := get 4 (by omega)
  obtain ⟨y5, g5⟩ := get 5 (by omega)
  have f0 : DataW.trod enc Tryz.prog w base spare held m 29 ((cs.drop 0).take (Tryz.prog.cellsOf 29)) = some y0 := (hf 0 _ rfl).trans g0
  have f1 : DataW.trod enc Tryz.prog w base spare held m 26 ((cs.drop 16).take (Tryz.prog.cellsOf 26)) = some y1 := (hf 1 _ rfl).trans g1
  have f2 : DataW.trod enc Tryz.prog w base spare held m 3 ((cs.drop 48).take (Tryz.prog.cellsOf 3)) = some y2 := (hf 2 _ rfl).trans g2
  have f3 : DataW.trod enc Tryz.prog w base spare held m 3 ((cs.drop 49).take (Tryz.prog.cellsOf 3)) = some y3 := (hf 3 _ rfl).trans g3
  have f4 : DataW.trod enc Tryz.prog w base spare held m 3 ((cs.drop 50).take (Tryz.prog.cellsOf 3)) = some y4 := (hf 4 _ rfl).trans g4
  have f5 : DataW.trod enc Tryz.prog w base spare held m 3 ((cs.drop 51).take (Tryz.prog.cellsOf 3)) = some y5 := (hf 5 _ rfl).trans g5
  rw [c3] at f0
  rw [c2] at f1
  rw [c1] at f2 f3 f4 f5
  obtain ⟨key, e0, l0⟩ := bytes_of Tryz.underlying29 c3 f0
  obtain ⟨ueb, e1, l1⟩ := bytes_of Tryz.underlying26 c2 f1
  obtain ⟨k, e2, _, w0⟩ := DataW.trod_int Tryz.underlying3 f2
  obtain ⟨n, e3, _, w1⟩ := DataW.trod_int Tryz.underlying3 f3
  obtain ⟨seg, e4, _, w2⟩ := DataW.trod_int Tryz.underlying3 f4
  obtain ⟨size, e5, _, w3⟩ := DataW.trod_int Tryz.underlying3 f5
  refine ⟨⟨key, ueb, k, n, seg, size⟩, ?_, ⟨l0, l1⟩, wf64 w0, wf64 w1, wf64 w2, wf64 w3⟩
  have a0 := cut_list2 cs 0 16
  have a1 := cut_list2 cs 16 32
  have a2 := cut_list2 cs 48 1
  have a3 := cut_list2 cs 49 1
  have a4 := cut_list2 cs 50 1
  have a5 := cut_list2 cs 51 1
  rw [e0] at a0
  rw [e1] at a1
  rw [e2] at a2
  rw [e3] at a3
  rw [e4] at a4
  rw [e5, show 51 + 1 = 52 from rfl, List.drop_eq_nil_of_le (show cs.length ≤ 52 by omega), List.append_nil] at a5
  rw [show 50 + 1 = 51 from rfl, a5] at a4
  rw [show 49 + 1 = 50 from rfl, a4] at a3
  rw [show 48 + 1 = 49 from rfl, a3] at a2
  rw [show 16 + 32 = 48 from rfl, a2] at a1
  rw [show 0 + 16 = 16 from rfl, a1] at a0
  rw [List.drop_zero] at a0
  exact a0
theorem cap_of {cs : List Value} {fuel : Nat} {x : DataW H × List MemPlace} (h : DataW.trod enc Tryz.prog w base (fun _ => true) held fuel 34 cs = some x) : ∃ (c : CP) (v : Value), Capy w cs.toArray c v := by
  obtain ⟨xs, m, rfl, hx, hl, hxl, hf⟩ := DataW.trod_struct Tryz.underlying34 h
  rw [show Tryz.prog.cellsOf 34 = 107 by kernel_rfl] at hl
  have c0 : Tryz.prog.cellsOf 22 = 1 := by kernel_rfl
  have c1 : Tryz.prog.cellsOf 4 = 1 := by kernel_rfl
  have c2 : Tryz.prog.cellsOf 28 = 52 := by kernel_rfl
  have c3 : Tryz.prog.cellsOf 31 = 52 := by kernel_rfl
  have c4 : Tryz.prog.cellsOf 32 = 1 := by kernel_rfl
  have hx5 : xs.length = 5 := hxl
  have get : ∀ i, i < 5 → ∃ y, xs[i]? = some y := fun i hi => ⟨_, List.getElem?_eq_getElem (by omega)⟩
  obtain ⟨y0, g0⟩ := get 0 (by omega)
  obtain ⟨y1, g1⟩ := get 1 (by omega)
  obtain ⟨y2, g2⟩ := get 2 (by omega)
  obtain ⟨y3, g3⟩ := get 3 (by omega)
  obtain ⟨y4, g4⟩ := get 4 (by omega)
  have f0 : DataW.trod enc Tryz.prog w base (fun _ => true) held m 22 ((cs.drop 0).take (Tryz.prog.cellsOf 22)) = some y0 := (hf 0 _ rfl).trans g0
  have f1 : DataW.trod enc Tryz.prog w base (fun _ => true) held m 4 ((cs.drop 1).take (Tryz.prog.cellsOf 4)) = some y1 := (hf 1 _ rfl).trans g1
  have f2 : DataW.trod enc Tryz.prog w base (fun _ => true) held m 28 ((cs.drop 2).take (Tryz.prog.cellsOf 28)) = some y2 := (hf 2 _ rfl).trans g2
  have f3 : DataW.trod enc Tryz.prog w base (fun _ => true) held m 31 ((cs.drop 54).take (Tryz.prog.cellsOf 31)) = some y3 := (hf 3 _ rfl).trans g3
  have f4 : DataW.trod enc Tryz.prog w base (fun _ => true) held m 32 ((cs.drop 106).take (Tryz.prog.cellsOf 32)) = some y4 := (hf 4 _ rfl).trans g4
  rw [c0] at f0
  rw [c1] at f1
  rw [c2] at f2
  rw [c3] at f3
  rw [c4] at f4
  obtain ⟨k, e0, _, w0⟩ := DataW.trod_int Tryz.underlying22 f0
  obtain ⟨b, e1, _⟩ := DataW.trod_bool Tryz.underlying4 f1
  obtain ⟨r, e2, r2, r3⟩ := read_of f2
  obtain ⟨s, e3, s2, s3⟩ := verify_of f3
  have hk : 0 ≤ k ∧ k ≤ 255 := by simpa [Lit.wf, IntKind.min, IntKind.max, IntKind.signed, IntKind.bits] using w0
  obtain ⟨v, e4, lb, hby⟩ : ∃ v : Value, (cs.drop 106).take 1 = [v] ∧ ∃ lb, By w v lb := by
    rcases open_ints Tryz.underlying32 Tryz.underlying5 (by kernel_rfl) f4 with ⟨hcs, _⟩ | ⟨x, l, c, zs, hcs, _, hl, hm, hz, hx, hcell, hwz⟩
    · exact ⟨_, hcs, [], By.nil w⟩
    · obtain ⟨lb, _, hby⟩ := by_of_row hl hm (by simpa using hz) hcell hwz
      exact ⟨_, hcs, lb, hby⟩
  refine ⟨⟨k.toNat, b, r, s, lb⟩, v, ?_, ⟨r2, s2, by show k.toNat < 256; omega⟩, ⟨r3, s3⟩, hby⟩
  have hcs : cs = .int .u8 k :: .bool b :: (r.cells ++ (s.cells ++ [v])) := by
    have a0 := cut_list2 cs 0 1
    have a1 := cut_list2 cs 1 1
    have a2 := cut_list2 cs 2 52
    have a3 := cut_list2 cs 54 52
    have a4 := cut_list2 cs 106 1
    rw [e0] at a0
    rw [e1] at a1
    rw [e2] at a2
    rw [e3] at a3
    rw [e4, show 106 + 1 = 107 from rfl, List.drop_eq_nil_of_le (show cs.length ≤ 107 by omega), List.append_nil] at a4
    rw [show 54 + 52 = 106 from rfl, a4] at a3
    rw [show 2 + 52 = 54 from rfl, a3] at a2
    rw [show 1 + 1 = 2 from rfl, a2] at a1
    rw [show 0 + 1 = 1 from rfl, a1] at a0
    rw [List.drop_zero] at a0
    exact a0
  rw [hcs]
  unfold CP.cells CP.cellsL
  simp only []
  rw [Int.toNat_of_nonneg hk.1]
theorem open_cap {v : Value} {d : DataW H} {p : List MemPlace} {r : Reach} {b0 : Nat} {P' : World} (hv : Value.okWide Tryz.prog P' r b0 34 v) (h : DataW.Trod enc Tryz.prog w base (fun _ => true) held 34 v d p) : ∃ (cs : Array Value) (c : CP) (u : Value), v = .agg cs ∧ Capy w cs c u := by
  obtain ⟨cs, rfl, _⟩ := okWide_struct Tryz.underlying34 hv
  obtain ⟨fuel, hf⟩ := h
  obtain ⟨c, u, h1⟩ := cap_of hf
  exact ⟨cs, c, u, rfl, by rw [Array.toArray_toList] at h1; exact h1⟩
end
end Go.Proofs.YtcpceaflnnkhnaaGreatDoor

/- What the bound of an Upto statement gives: of each argument that it is small. -/
namespace Go.Proofs.YtcpceaflnnkhnaaGreatDoor.bulks

theorem one_le {H : Type} (d : DataW H) : 1 ≤ Rows.uptoBulk d := by
  cases d with
  | lit l => cases l <;> simp [Rows.uptoBulk]
  | nil => simp [Rows.uptoBulk]
  | ptr d => simp [Rows.uptoBulk]
  | slice a b => simp [Rows.uptoBulk]
  | agg a => simp [Rows.uptoBulk]
  | iface t d => simp [Rows.uptoBulk]
  | map a => simp [Rows.uptoBulk]
  | held h => simp [Rows.uptoBulk]
theorem in_all {H : Type} {d : DataW H} {l : List (DataW H)} (h : d ∈ l) : Rows.uptoBulk d ≤ Rows.uptoBulkAll l := by
  induction l with
  | nil => cases h
  | cons x r ih =>
    simp only [Rows.uptoBulkAll]
    rcases List.mem_cons.1 h with e | e
    · subst e; omega
    · have := ih e; omega
theorem count_le {H : Type} (l : List (DataW H)) : l.length ≤ Rows.uptoBulkAll l := by
  induction l with
  | nil => simp [Rows.uptoBulkAll]
  | cons x r ih => have := one_le x; simp only [Rows.uptoBulkAll, List.length_cons]; omega
theorem slice_le {H : Type} (a b : List (DataW H)) : a.length + b.length + 1 ≤ Rows.uptoBulk (.slice a b) := by
  have h1 := count_le a
  have h2 := count_le b
  simp only [Rows.uptoBulk]
  omega
theorem elems_le {H : Type} (a b : List (DataW H)) : Rows.uptoBulkAll a + 1 ≤ Rows.uptoBulk (.slice a b) := by
  simp only [Rows.uptoBulk]; omega
theorem string_eq {H : Type} (b : List UInt8) : Rows.uptoBulk (DataW.lit (H := H) (.string b)) = b.length + 1 := by simp [Rows.uptoBulk]
/-- Each part of what is read is within the bound. -/
theorem part {H : Type} {l : List (DataW H)} (hk : Rows.uptoSmall H l = true) {d : DataW H} (h : d ∈ l) : Rows.uptoBulk d ≤ 1048576 :=
  Nat.le_trans (in_all h) (of_decide_eq_true hk)
end Go.Proofs.YtcpceaflnnkhnaaGreatDoor.bulks

/- What the listed variables give where one of them holds a type's handle, and a world that holds them. -/
namespace Go.Proofs.YtcpceaflnnkhnaaGreatDoor
open Go.RowKit

theorem of_laid2 {W : World} {a : String × DataW Unit} {r : List (String × DataW Unit)}
    (h0 : laidMet Tryz.prog (("internal/strconv.uint64pow10", Rows.laid_internal_strconv_uint64pow10) :: a :: ("strconv.ErrRange", Rows.laid_strconv_ErrRange) :: ("strconv.ErrSyntax", Rows.laid_strconv_ErrSyntax) :: r) W) : Tab W ∧ Err W := by
  have e : (Rows.laid_internal_strconv_uint64pow10 : DataW Unit) = Lib.tabData .u64 Lib.pow10Tab := by kernel_rfl
  have h2 := h0.tail.tail
  have h3 := h2.tail
  rw [e] at h0
  obtain ⟨a0, s0, hv0, -, -, -⟩ := laid_sentinel h2 gER gERType Tryz.underlying63 rowES Tryz.underlying246 Tryz.underlying248 rfl rfl Tryz.underlying9 (by kernel_rfl) (by kernel_rfl)
  obtain ⟨a1, s1, hv1, -, -, -⟩ := laid_sentinel h3 gES gESType Tryz.underlying63 rowES Tryz.underlying246 Tryz.underlying248 rfl rfl Tryz.underlying9 (by kernel_rfl) (by kernel_rfl)
  exact ⟨Lib.tabIs_of_head gTab gTabType Tryz.underlying250 Tryz.underlying146 (by kernel_rfl) (by kernel_rfl) h0, ⟨_, _, hv1⟩, _, _, hv0⟩
theorem gET : Tryz.prog.globalNamed "errors.errorType" = some 0 := by kernel_rfl
theorem gRT : (Tryz.prog.cutTypes.find? (·.1 == "internal/reflectlite.rtype")).map (·.2) = some 156 := by kernel_rfl
theorem oneErr : ((List.range Tryz.prog.types.size).filter fun t => Tryz.prog.rowNamed t [101, 114, 114, 111, 114]) = [63] := by kernel_rfl
theorem handle_of {W : World} (h : handlesMet Tryz.prog [("errors.errorType", Rows.laid_errors_errorType)] W) : Handle W := by
  obtain ⟨name, u, ty, e1, e2, e3, e4, e5⟩ := h _ (List.mem_singleton.2 rfl)
  have en : name = [101, 114, 114, 111, 114] := (Option.some.inj e1).symm
  subst en
  obtain rfl := Option.some.inj (gRT.symm.trans e2)
  have hm : ty ∈ (List.range Tryz.prog.types.size).filter fun t => Tryz.prog.rowNamed t [101, 114, 114, 111, 114] := List.mem_filter.2 ⟨List.mem_range.2 e3, e4⟩
  rw [oneErr] at hm
  obtain rfl := List.mem_singleton.1 hm
  have hh : typeHandle Tryz.prog 63 = .pointer (some ⟨9, 63, none⟩) := by kernel_rfl
  rw [hh] at e5
  unfold Handle
  have := World.var?_cell gET e5 0
  simpa using this
/-- The world that all begins with, the handle's cell laid. -/
noncomputable def world0 (os : Os) : World :=
  let w0 := World.holding Tryz.prog os ⟨#[], #[], []⟩
  { w0 with heap := w0.heap.modify 0 fun
      | .cells _ t frozen => .cells #[.iface 156 (.agg #[.pointer (some ⟨9, 63, none⟩)])] t frozen
      | o => o }
/-- The listed data but the handles. -/
def plainL (l : List (String × DataW Unit)) : List (String × DataW Unit) := l.filter fun x => x.2.handleName?.isNone
noncomputable def worldH (os : Os) (l : List (String × DataW Unit)) : World := (world0 os).layVars Tryz.prog (plainL l)
theorem worldH_os (os : Os) (l : List (String × DataW Unit)) : (worldH os l).os = os := World.layVars_os _ _ _
theorem worldH_met (os : Os) (l : List (String × DataW Unit)) (args : Array Value)
    (hf : (world0 os).layFits Tryz.prog (plainL l) [] = true)
    (hi : (world0 os).layIfaces Tryz.prog (plainL l) (worldH os l) = true)
    (hh : (l.filter fun x => x.2.handleName?.isSome).all (handleAtB Tryz.prog ((worldH os l).forCall (fun _ _ => 0) ⟨#[], args, []⟩).memory) = true) :
    laidMetH Tryz.prog l ((worldH os l).forCall (fun _ _ => 0) ⟨#[], args, []⟩).memory := by
  refine laidMetH_of_parts ?_ hh
  show laidMet Tryz.prog (plainL l) _
  unfold worldH at *
  generalize plainL l = L at *
  have e1 : (L.filter fun x => (L.map (·.1)).contains x.1) = L := List.filter_eq_self.2 fun x hx => List.contains_iff_mem.2 (List.mem_map.2 ⟨x, hx, rfl⟩)
  have e2 : (L.filter fun x => !(L.map (·.1)).contains x.1) = [] := List.filter_eq_nil_iff.2 fun x hx => by rw [List.contains_iff_mem.2 (List.mem_map.2 ⟨x, hx, rfl⟩)]; simp
  have h : laidMet Tryz.prog L ((world0 os).layVars Tryz.prog L) := laidMet_layVars (w0 := world0 os) (L.map (·.1)) [] (by rw [e1]) (by rw [e1]; exact hf) (by rw [e1]; exact hi) (by rw [e2]; exact LaidIn.none)
  exact h.of_heap (by simp [World.memory, World.forCall, Input.heap])
end Go.Proofs.YtcpceaflnnkhnaaGreatDoor
