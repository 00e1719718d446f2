/- Joined texts: WkA. -/
import Derived.Test.YtcpceaflnnkhnaaGreatDoorJ17
import Derived.Test.YtcpceaflnnkhnaaGreatDoorJ18

/- The program's Size of a capability. (Printed by wip/wka.py.) -/
namespace Go.Proofs.YtcpceaflnnkhnaaGreatDoor
open Go.RowKit

def sizeN (c : CP) : Int := if c.may then (if c.kind = 1 then c.rd.size else if c.kind = 2 then c.vf.size else (c.lit.length : Int)) else 0
theorem rv_last (r : RV) (h : r.wf) : r.cells.toArray[51]? = some (.int .i64 r.size) := by
  have := cells_at r h 3
  rw [List.getElem?_toArray]
  exact this
theorem rv_one (r : RV) : r.cells.toArray.all (·.oneCell') = true := by
  rw [Array.all_eq_true_iff_forall_mem]
  intro x hx
  exact RV.one r x (by simpa using hx)
theorem rv_size (r : RV) (h : r.wf) : r.cells.toArray.size = 52 := by rw [List.size_toArray]; exact RV.cells_length h
theorem ta_rr (x : Value) (w : World) : (Instr.typeAssert (.iface 90 x) 84 90 true).run Tryz.prog w = .ok (.tuple #[x, .bool true]) w := by kernel_rfl
theorem ta_vv (x : Value) (w : World) : (Instr.typeAssert (.iface 93 x) 84 93 true).run Tryz.prog w = .ok (.tuple #[x, .bool true]) w := by kernel_rfl
theorem ta_vr (x : Value) (w : World) : (Instr.typeAssert (.iface 93 x) 84 90 true).run Tryz.prog w = .ok (.tuple #[.agg RV.zero.cells.toArray, .bool false]) w := by kernel_rfl
theorem ta_lr (x : Value) (w : World) : (Instr.typeAssert (.iface 135 x) 84 90 true).run Tryz.prog w = .ok (.tuple #[.agg RV.zero.cells.toArray, .bool false]) w := by kernel_rfl
theorem ta_lv (x : Value) (w : World) : (Instr.typeAssert (.iface 135 x) 84 93 true).run Tryz.prog w = .ok (.tuple #[.agg RV.zero.cells.toArray, .bool false]) w := by kernel_rfl
attribute [local go_sem] ta_rr ta_vv ta_vr ta_lr ta_lv
set_option maxRecDepth 100000 in
set_option maxHeartbeats 4000000 in
theorem size_cap (cs : Array Value) (c : CP) (v : Value) (w : World) (h : Capy w cs c v) :
    Calls Tryz.prog 22 #[.agg cs] w fun e w' => e = .returned (.tuple #[.int .i64 (sizeN c), .int .i64 (prE c)]) ∧ Below w.heap.size w w' := by
  obtain ⟨W, hW⟩ : ∃ W, W = w.alloc (.cells cs 34) := ⟨_, rfl⟩
  have HW := hide hW
  have HB := hide (show Blk W w.heap.size 34 cs ∧ Below w.heap.size w W from by rw [hW]; exact ⟨Blk.new w 34 cs, (Below.refl w.heap.size w).alloc (Nat.le_refl _) _⟩)
  have HZ := hide h.size
  have QC := hide (fun W (hW : Below w.heap.size w W) => check_cap cs c v W (h.below hW))
  have QO := hide (fun W (hW : Below w.heap.size w W) => of_any cs c v W (h.below hW))
  unfold sizeN prE
  by_cases hmay : c.may
  rotate_left
  · rw [if_neg hmay] at QC ⊢
    rw [if_neg hmay]
    clear h hW hmay QO
    go_enter Tryz.func22, Tryz.ntmps22
    go_upto_region 1 with fail
    rw [← HW.out]
    go_wp2_with ((with_reducible change wpList _ _ _ (⟨some 6, _, _, _, _, _⟩ :: _) _ _); refine wpList_load_row (o := ⟨some 6, .load _ _, _, _, _, _⟩) rfl 34 _ rfl w.heap.size rfl 34 cs (0, 0) _ HB.out.1 Tryz.underlying34 rfl (by rw [HZ.out]; kernel_rfl) ?_)
    refine (QC.out _ HB.out.2).mono ?_
    rintro e w1 ⟨rfl, b1⟩
    have H1 := hide (And.intro (HB.out.1.below' b1) (Below.step HB.out.2 b1))
    clear b1
    go_wp2
    go_ret2
    exact ⟨rfl, H1.out.2⟩
  rw [if_pos hmay] at QC ⊢
  rw [if_pos hmay]
  rcases oneK c v with ⟨h0, -, hk, -, -⟩ | ⟨h0, -, hk, -, -⟩ | ⟨h0, -, hk, -, -⟩ | ⟨h0, hm⟩
  · rw [h0] at QO
    rw [if_pos hk]
    obtain ⟨R, hR⟩ : ∃ R : Array Value, R = c.rd.cells.toArray := ⟨_, rfl⟩
    obtain ⟨sz, hsz⟩ : ∃ z, z = c.rd.size := ⟨_, rfl⟩
    have HR := hide (show R.size = 52 ∧ R.all (·.oneCell') = true ∧ R[51]? = some (.int .i64 sz) from ⟨by rw [hR]; exact rv_size _ h.wf.1, by rw [hR]; exact rv_one _, by rw [hR, hsz]; exact rv_last _ h.wf.1⟩)
    rw [← hR] at QO
    rw [← hsz]
    clear h hW hmay h0 hk hR hsz
    go_enter Tryz.func22, Tryz.ntmps22
    go_upto_region 1 with fail
    rw [← HW.out]
    go_wp2_with ((with_reducible change wpList _ _ _ (⟨some 6, _, _, _, _, _⟩ :: _) _ _); refine wpList_load_row (o := ⟨some 6, .load _ _, _, _, _, _⟩) rfl 34 _ rfl w.heap.size rfl 34 cs (0, 0) _ HB.out.1 Tryz.underlying34 rfl (by rw [HZ.out]; kernel_rfl) ?_)
    refine (QC.out _ HB.out.2).mono ?_
    rintro e w1 ⟨rfl, b1⟩
    have H1 := hide (And.intro (HB.out.1.below' b1) (Below.step HB.out.2 b1))
    clear b1
    go_wp2_with ((with_reducible change wpList _ _ _ (⟨some 9, _, _, _, _, _⟩ :: _) _ _); refine wpList_load_row (o := ⟨some 9, .load _ _, _, _, _, _⟩) rfl 34 _ rfl w.heap.size rfl 34 cs (0, 0) _ H1.out.1 Tryz.underlying34 rfl (by rw [HZ.out]; kernel_rfl) ?_)
    refine (QO.out _ H1.out.2).mono ?_
    rintro e w2 ⟨rfl, b2⟩
    have H2 := hide (And.intro (H1.out.1.below' b2) (Below.step H1.out.2 b2))
    clear b2
    go_wp2_with ((with_reducible change wpList _ _ _ (⟨none, .store _ (.tmp 4) _, _, _, _, _⟩ :: _) _ _); go_loud (refine wpList_store_row (o := ⟨none, .store _ (.tmp 4) _, _, _, _, _⟩) (g := w2.heap.size) (t := 90) (Blk.new w2 _ _) R (HR.out.1.trans (by kernel_rfl)) HR.out.2.1 rfl 90 _ _ rfl ((by kernel_rfl : (Tryz.prog.info? 90).map (·.size) = some 52).trans (by rw [HR.out.1])) rfl rfl ?_; intro w3 hb hg; have c51 : w3.cell? ⟨w2.heap.size, 51, none⟩ = some (.int .i64 sz) := (hb.cell 51).trans HR.out.2.2; have H3 := hide (show Below w2.heap.size w2 w3 from (Below.al0 (Below.refl w2.heap.size w2) _).grown hg (by simp) (fun k hk => by injection hk with hk; omega)); clear hb hg))
    go_ret2
    exact ⟨rfl, Below.step H2.out.2 H3.out⟩
  · rw [h0] at QO
    rw [if_neg (by omega), if_pos hk]
    obtain ⟨R, hR⟩ : ∃ R : Array Value, R = c.vf.cells.toArray := ⟨_, rfl⟩
    obtain ⟨sz, hsz⟩ : ∃ z, z = c.vf.size := ⟨_, rfl⟩
    have HR := hide (show R.size = 52 ∧ R.all (·.oneCell') = true ∧ R[51]? = some (.int .i64 sz) from ⟨by rw [hR]; exact rv_size _ h.wf.2.1, by rw [hR]; exact rv_one _, by rw [hR, hsz]; exact rv_last _ h.wf.2.1⟩)
    rw [← hR] at QO
    rw [← hsz]
    clear h hW hmay h0 hk hR hsz
    go_enter Tryz.func22, Tryz.ntmps22
    go_upto_region 1 with fail
    rw [← HW.out]
    go_wp2_with ((with_reducible change wpList _ _ _ (⟨some 6, _, _, _, _, _⟩ :: _) _ _); refine wpList_load_row (o := ⟨some 6, .load _ _, _, _, _, _⟩) rfl 34 _ rfl w.heap.size rfl 34 cs (0, 0) _ HB.out.1 Tryz.underlying34 rfl (by rw [HZ.out]; kernel_rfl) ?_)
    refine (QC.out _ HB.out.2).mono ?_
    rintro e w1 ⟨rfl, b1⟩
    have H1 := hide (And.intro (HB.out.1.below' b1) (Below.step HB.out.2 b1))
    clear b1
    go_wp2_with ((with_reducible change wpList _ _ _ (⟨some 9, _, _, _, _, _⟩ :: _) _ _); refine wpList_load_row (o := ⟨some 9, .load _ _, _, _, _, _⟩) rfl 34 _ rfl w.heap.size rfl 34 cs (0, 0) _ H1.out.1 Tryz.underlying34 rfl (by rw [HZ.out]; kernel_rfl) ?_)
    refine (QO.out _ H1.out.2).mono ?_
    rintro e w2 ⟨rfl, b2⟩
    have H2 := hide (And.intro (H1.out.1.below' b2) (Below.step H1.out.2 b2))
    clear b2
    go_wp2_with ((with_reducible change wpList _ _ _ (⟨none, .store _ (.tmp 5) _, _, _, _, _⟩ :: _) _ _); go_loud (refine wpList_store_row (o := ⟨none, .store _ (.tmp 5) _, _, _, _, _⟩) (g := w2.heap.size) (t := 93) (Blk.new w2 _ _) R (HR.out.1.trans (by kernel_rfl)) HR.out.2.1 rfl 93 _ _ rfl ((by kernel_rfl : (Tryz.prog.info? 93).map (·.size) = some 52).trans (by rw [HR.out.1])) rfl rfl ?_; intro w3 hb hg; have c51 : w3.cell? ⟨w2.heap.size, 51, none⟩ = some (.int .i64 sz) := (hb.cell 51).trans HR.out.2.2; have H3 := hide (show Below w2.heap.size w2 w3 from (Below.al0 (Below.refl w2.heap.size w2) _).grown hg (by simp) (fun k hk => by injection hk with hk; omega)); clear hb hg))
    go_ret2
    exact ⟨rfl, Below.step H2.out.2 H3.out⟩
  · rw [h0] at QO
    rw [if_neg (by omega), if_neg (by omega)]
    have hc := h.lit
    obtain ⟨A, k, rfl, hn, hm, -⟩ := h.by_.form
    have HC := hide hc
    generalize c.lit.length = n at *
    clear h hW hmay h0 hk hc
    go_enter Tryz.func22, Tryz.ntmps22
    go_upto_region 1 with fail
    rw [← HW.out]
    go_wp2_with ((with_reducible change wpList _ _ _ (⟨some 6, _, _, _, _, _⟩ :: _) _ _); refine wpList_load_row (o := ⟨some 6, .load _ _, _, _, _, _⟩) rfl 34 _ rfl w.heap.size rfl 34 cs (0, 0) _ HB.out.1 Tryz.underlying34 rfl (by rw [HZ.out]; kernel_rfl) ?_)
    refine (QC.out _ HB.out.2).mono ?_
    rintro e w1 ⟨rfl, b1⟩
    have H1 := hide (And.intro (HB.out.1.below' b1) (Below.step HB.out.2 b1))
    clear b1
    go_wp2_with ((with_reducible change wpList _ _ _ (⟨some 9, _, _, _, _, _⟩ :: _) _ _); refine wpList_load_row (o := ⟨some 9, .load _ _, _, _, _, _⟩) rfl 34 _ rfl w.heap.size rfl 34 cs (0, 0) _ H1.out.1 Tryz.underlying34 rfl (by rw [HZ.out]; kernel_rfl) ?_)
    refine (QO.out _ H1.out.2).mono ?_
    rintro e w2 ⟨rfl, b2⟩
    have H2 := hide (And.intro (H1.out.1.below' b2) (Below.step H1.out.2 b2))
    clear b2
    have c6 : w2.cell? ⟨w.heap.size, 106, none⟩ = some (.slice A n k) := by rw [H2.out.1.cell]; exact HC.out
    go_wp2
    go_ret2
    exact ⟨rfl, H2.out.2⟩
  · exact absurd hmay hm
end Go.Proofs.YtcpceaflnnkhnaaGreatDoor
