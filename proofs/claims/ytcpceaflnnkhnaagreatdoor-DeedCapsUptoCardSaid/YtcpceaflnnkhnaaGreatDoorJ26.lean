/- Joined texts: WkB. -/
import Derived.Test.YtcpceaflnnkhnaaGreatDoorJ19
import Derived.Test.YtcpceaflnnkhnaaGreatDoorJ25
import Derived.Deep.DeepCutAuto
import Derived.Deep.RegionHeld3

/- The program's Weaken and Verify of a capability. (Printed by wip/wkb.py.) -/
namespace Go.Proofs.YtcpceaflnnkhnaaGreatDoor
open Go.RowKit
attribute [local go_sem] ta_rr ta_vv ta_vr ta_lr ta_lv

/-- What a capability is weakened to. -/
def weakC (c : CP) : CP := if c.may then (if c.kind = 1 then ⟨2, c.dir, RV.zero, ⟨indexL c.rd.key, c.rd.ueb, c.rd.k, c.rd.n, c.rd.seg, c.rd.size⟩, []⟩ else if c.kind = 2 then ⟨2, c.dir, RV.zero, c.vf, []⟩ else CP.zero) else CP.zero
def weakE (c : CP) : Int := if c.may then (if c.kind = 1 then 0 else if c.kind = 2 then 0 else 5) else 5
theorem weak_wf {c : CP} (h : c.wf) : (weakC c).wf := by
  unfold weakC
  split
  · split
    · exact ⟨RV.zero_wf, ⟨by simp, h.1.2⟩, by show (2 : Nat) < 256; omega⟩
    · split
      · exact ⟨RV.zero_wf, h.2.1, by show (2 : Nat) < 256; omega⟩
      · exact CP.zero_wf
  · exact CP.zero_wf
theorem weak_in {c : CP} (h : c.in64) : (weakC c).in64 := by
  unfold weakC
  split
  · split
    · exact ⟨RV.zero_in, h.1⟩
    · split
      · exact ⟨RV.zero_in, h.2⟩
      · exact CP.zero_in
  · exact CP.zero_in
theorem weak_lit (c : CP) : (weakC c).lit = [] := by
  unfold weakC
  split
  · split
    · rfl
    · split <;> rfl
  · rfl
theorem build_cap2d (r : RV) (h : r.wf) (d : Bool) (W : World) : (Instr.build 34 #[(0, .int .u8 2), (1, .bool d), (3, .agg r.cells.toArray)]).run Tryz.prog W = .ok (.agg (CP.cells ⟨2, d, RV.zero, r, []⟩ (.slice none 0 0))) W := by
  have hl := RV.cells_length h
  show (Instr.build 34 #[(0, .int .u8 2), (1, .bool d), (3, .agg r.cells.toArray)]).run Tryz.prog W = .ok (.agg ((.int .u8 2 :: .bool d :: (RV.zero.cells ++ (r.cells ++ [.slice none 0 0]))).toArray)) W
  generalize r.cells = C at *
  obtain ⟨a, b, c, d, rfl, ha, hb, hc, hd⟩ := list52 hl
  obtain ⟨a0, a1, a2, a3, a4, a5, a6, a7, a8, a9, a10, a11, a12, a13, a14, a15, rfl⟩ := list16 ha
  obtain ⟨b0, b1, b2, b3, b4, b5, b6, b7, b8, b9, b10, b11, b12, b13, b14, b15, rfl⟩ := list16 hb
  obtain ⟨c0, c1, c2, c3, c4, c5, c6, c7, c8, c9, c10, c11, c12, c13, c14, c15, rfl⟩ := list16 hc
  obtain ⟨d0, d1, d2, d3, rfl⟩ := list4 hd
  kernel_rfl
theorem ex_load1 {P : Program} {o : Oper} {a : Act} {w : World} (ty : TypeId) (x : Operand) (ho : o.op = .load ty x) (p : Addr) (hx : a.eval x = .pointer (some p)) (v : Value) (k : IntKind) (hc : w.cell? p = some v) (hu : P.underlying ty = some (.int k)) : (execOp a.eval o).run P w = .ok (.value v) w := by
  unfold execOp
  simp only [ho, hx, Instr.loadAt, Instr.sureAddr, Sem.run_bind, Sem.run_pure, Result.andThen_ok]
  simp [loadVar, isAgg, underlying, hu, hc, Result.andThen]
theorem rng_vf {W : World} {g : Nat} {F V : Array Value} (hb : Blk W g 34 F) (h : ∀ j, j < 52 → F[54 + j]? = V.toList[j]?) (hs : V.size = 52) : W.rangeAt g 54 V.toList := fun j u hu => by
  have h9 := (List.getElem?_eq_some_iff.1 hu).1
  rw [Array.length_toList, hs] at h9
  rw [hb.cell, h j h9, hu]
theorem two_newC (w : World) (cs Z : Array Value) : Blk ((w.alloc (.cells cs 34)).alloc (.cells Z 31)) w.heap.size 34 cs ∧ Blk ((w.alloc (.cells cs 34)).alloc (.cells Z 31)) (w.heap.size + 1) 31 Z ∧ Below w.heap.size w ((w.alloc (.cells cs 34)).alloc (.cells Z 31)) := by
  refine ⟨(Blk.new _ _ _).alloc _, ?_, ((Below.refl _ w).alloc (Nat.le_refl _) _).alloc (by simp) _⟩
  have := Blk.new (w.alloc (.cells cs 34)) 31 Z
  simpa using this
theorem noPanic_normal {Q : Exit → Act → World → Prop} {a : Act} {w : World} (h : Q .normal a w) : NoPanic Q .normal a w := h
/-- As many cells as what is verified with has, each one. -/
def Fits52 (F : Array Value) : Prop := F.size = 52 ∧ F.all (·.oneCell') = true
theorem vf_storeG {W : World} {g : Nat} {F : Array Value} (hf : Fits52 F) (h : W.there g 0 52) : (Instr.storeAt 31 (.pointer (some ⟨g, 0, none⟩)) (.agg F)).run Tryz.prog W = .ok () (W.setCells g 0 F.toList) :=
  run_storeAt_mid (P := Tryz.prog) W g 0 31 F (by rw [hf.1]; exact h) (by rw [hf.1]; kernel_rfl) hf.2
theorem vf_storeF {W : World} {g : Nat} {F : Array Value} (hf : Fits52 F) (h : W.there g 0 52) : (storeCells ⟨g, 0, none⟩ F.toList).run Tryz.prog W = .ok () (W.setCells g 0 F.toList) := by
  have hl : F.toList.length = 52 := by simpa using hf.1
  have := run_storeCells_cells (P := Tryz.prog) g 0 F.toList 0 W (fun j hj => by rw [hl] at hj; simpa using (h j hj).1) (fun j hj => by rw [hl] at hj; simpa using (h j hj).2) (fun v hv => by
    have h1 := hf.2
    rw [Array.all_eq_true_iff_forall_mem] at h1
    exact h1 v (by simpa using hv))
  simpa using this
section
attribute [local go_sem ↓] Go.wp_at_zero Go.wp_at_succ
attribute [local go_sem ↓] vf_storeG
attribute [local go_sem] vf_storeF
set_option maxRecDepth 100000 in
set_option maxHeartbeats 8000000 in
theorem weak_rd (cs : Array Value) (c : CP) (v : Value) (w : World) (h : Capy w cs c v) (hmay : c.may) (hk : c.kind = 1) :
    Calls Tryz.prog 20 #[.agg cs] w fun e w' => e = .returned (.tuple #[.agg ((weakC c).cells (.slice none 0 0)), .int .i64 0]) ∧ Below w.heap.size w w' := by
  obtain ⟨W, hW⟩ : ∃ W, W = (w.alloc (.cells cs 34)).alloc (.cells Tryz.zeroCells34 34) := ⟨_, rfl⟩
  have HW := hide hW
  have HB := hide (show Blk W w.heap.size 34 cs ∧ Blk W (w.heap.size + 1) 34 Tryz.zeroCells34 ∧ Below w.heap.size w W from by
    have b1 := (Below.refl w.heap.size w).alloc (Nat.le_refl _) (.cells cs 34)
    have k2 := Blk.new (w.alloc (.cells cs 34)) 34 Tryz.zeroCells34
    simp only [World.size_alloc] at k2
    rw [hW]
    exact ⟨(Blk.new w 34 cs).alloc _, k2, b1.alloc b1.size _⟩)
  have HZ := hide h.size
  have QC := hide (fun W (hW : Below w.heap.size w W) => check_cap cs c v W (h.below hW))
  have QO := hide (fun W (hW : Below w.heap.size w W) => of_any cs c v W (h.below hW))
  rw [if_pos hmay] at QC
  rcases oneK c v with ⟨h0, -, -, -, -⟩ | ⟨-, -, hk2, -, -⟩ | ⟨-, -, hk2, -, -⟩ | ⟨-, hm⟩
  rotate_left
  · omega
  · omega
  · exact absurd hmay hm
  rw [h0] at QO
  obtain ⟨R, hR⟩ : ∃ R : Array Value, R = c.rd.cells.toArray := ⟨_, rfl⟩
  obtain ⟨Kl, hKl⟩ : ∃ K, K = bcells c.rd.key := ⟨_, rfl⟩
  obtain ⟨Ul, hUl⟩ : ∃ K, K = bcells c.rd.ueb := ⟨_, rfl⟩
  obtain ⟨I, hI⟩ : ∃ I : Array Value, I = (bcells (indexL c.rd.key)).toArray := ⟨_, rfl⟩
  obtain ⟨V, hV⟩ : ∃ V : Array Value, V = (RV.cells ⟨indexL c.rd.key, c.rd.ueb, c.rd.k, c.rd.n, c.rd.seg, c.rd.size⟩).toArray := ⟨_, rfl⟩
  obtain ⟨F, hF⟩ : ∃ F : Array Value, F = (weakC c).cells (.slice none 0 0) := ⟨_, rfl⟩
  have hwf2 : (⟨indexL c.rd.key, c.rd.ueb, c.rd.k, c.rd.n, c.rd.seg, c.rd.size⟩ : RV).wf := ⟨by simp, h.wf.1.2⟩
  have HR := hide (show R.size = 52 ∧ R.all (·.oneCell') = true ∧ R.toList = Kl ++ (Ul ++ [.int .i64 c.rd.k, .int .i64 c.rd.n, .int .i64 c.rd.seg, .int .i64 c.rd.size]) from ⟨by rw [hR]; exact rv_size _ h.wf.1, by rw [hR]; exact rv_one _, by rw [hR, hKl, hUl]; rfl⟩)
  have HF := hide (show F.size = 107 ∧ F.all (·.oneCell') = true ∧ V.size = 52 ∧ V.all (·.oneCell') = true from ⟨by rw [hF]; exact CP.cells_size (weak_wf h.wf) _, by rw [hF]; exact CP.cells_one _ _ _ _, by rw [hV]; exact rv_size _ hwf2, by rw [hV]; exact rv_one _⟩)
  have hbd : ∀ W, (Instr.build 31 #[(0, .agg I), (1, .agg Ul.toArray), (2, .int .i64 c.rd.k), (3, .int .i64 c.rd.n), (4, .int .i64 c.rd.seg), (5, .int .i64 c.rd.size)]).run Tryz.prog W = .ok (.agg V) W := fun W => by
    rw [hI, hUl, hV]
    exact build_verify_any _ _ (by simp) h.wf.1.2 _ _ _ _ W
  have HBD := hide (show ∀ W, (Instr.build 34 #[(0, .int .u8 2), (1, .bool c.dir), (3, .agg V)]).run Tryz.prog W = .ok (.agg F) W from fun W => by
    rw [hV, hF]
    unfold weakC
    rw [if_pos hmay, if_pos hk]
    exact build_cap2d _ hwf2 _ W)
  have QI := hide (fun W => index_any c.rd.key h.wf.1.1 W)
  rw [← hI, ← hKl] at QI
  have hK16 : Kl.length = 16 := by rw [hKl, bcells_length]; exact h.wf.1.1
  have hU32 : Ul.length = 32 := by rw [hUl, bcells_length]; exact h.wf.1.2
  have hcd := h.c1
  rw [← hR] at QO
  rw [← hF]
  have HL := hide (And.intro hK16 (And.intro hU32 (And.intro hcd (And.intro hKl hUl))))
  have HBD1 := hide hbd
  generalize c.dir = D at *
  generalize c.rd.k = x1 at *
  generalize c.rd.n = x2 at *
  generalize c.rd.seg = x3 at *
  generalize c.rd.size = x4 at *
  clear h hW hmay h0 hk hR hI hV hF hwf2 hK16 hU32 hcd hbd hKl hUl
  go_enter Tryz.func20, Tryz.ntmps20
  go_upto_region 1 with fail
  rw [← HW.out]
  go_wp2_with ((with_reducible change wpList _ _ _ (⟨some 7, _, _, _, _, _⟩ :: _) _ _); refine wpList_load_row (o := ⟨some 7, .load _ _, _, _, _, _⟩) rfl 34 _ rfl w.heap.size rfl 34 cs (0, 0) _ HB.out.1 Tryz.underlying34 rfl (by rw [HZ.out]; kernel_rfl) ?_)
  refine (QC.out _ HB.out.2.2).mono ?_
  rintro e w1 ⟨rfl, b1⟩
  have H1 := hide (And.intro (HB.out.1.below' b1) (And.intro (HB.out.2.1.below' b1) (Below.step HB.out.2.2 b1)))
  clear b1
  go_wp2_with ((with_reducible change wpList _ _ _ (⟨some 11, _, _, _, _, _⟩ :: _) _ _); refine wpList_load_row (o := ⟨some 11, .load _ _, _, _, _, _⟩) rfl 34 _ rfl w.heap.size rfl 34 cs (0, 0) _ H1.out.1 Tryz.underlying34 rfl (by rw [HZ.out]; kernel_rfl) ?_)
  refine (QO.out _ H1.out.2.2).mono ?_
  rintro e w2 ⟨rfl, b2⟩
  have H2 := hide (And.intro (H1.out.1.below' b2) (And.intro (H1.out.2.1.below' b2) (Below.step H1.out.2.2 b2)))
  clear b2
  go_wp2_with ((with_reducible change wpList _ _ _ (⟨none, .store _ (.tmp 4) _, _, _, _, _⟩ :: _) _ _); go_loud (refine wpList_store_row (o := ⟨none, .store _ (.tmp 4) _, _, _, _, _⟩) (g := w2.heap.size) (t := 90) (Blk.new w2 _ _) R (HR.out.1.trans (by kernel_rfl)) HR.out.2.1 rfl 90 _ _ rfl ((by kernel_rfl : (Tryz.prog.info? 90).map (·.size) = some 52).trans (by rw [HR.out.1])) rfl rfl ?_; intro w3 hb hg; have H3 := hide (show Blk w3 w2.heap.size 90 R ∧ Below w2.heap.size w2 w3 from ⟨hb, (Below.al0 (Below.refl w2.heap.size w2) _).grown hg (by simp) (fun k hk => by injection hk with hk; omega)⟩); clear hb hg))
  have hbd := HBD1.out
  have hu1 := Tryz.underlying24
  have hu2 := Tryz.underlying26
  have hi1 : (Tryz.prog.info? 24).map (·.size) = some Kl.length := by rw [HL.out.1]; kernel_rfl
  have hi2 : (Tryz.prog.info? 26).map (·.size) = some Ul.length := by rw [HL.out.2.1]; kernel_rfl
  have hl1 := HL.out.1
  have hl2 := HL.out.2.1
  have ho1 : ∀ v ∈ Kl, v.oneCell' = true := fun v hv => by
    rw [HL.out.2.2.2.1] at hv
    unfold bcells at hv
    obtain ⟨x, _, rfl⟩ := List.mem_map.1 hv
    rfl
  have ho2 : ∀ v ∈ Ul, v.oneCell' = true := fun v hv => by
    rw [HL.out.2.2.2.2] at hv
    unfold bcells at hv
    obtain ⟨x, _, rfl⟩ := List.mem_map.1 hv
    rfl
  have HS : Hid (∀ W', Below w3.heap.size w3 W' → W'.rangeAt w2.heap.size 0 Kl ∧ W'.rangeAt w2.heap.size 16 Ul ∧ W'.cell? ⟨w2.heap.size, 48, none⟩ = some (.int .i64 x1) ∧ W'.cell? ⟨w2.heap.size, 49, none⟩ = some (.int .i64 x2) ∧ W'.cell? ⟨w2.heap.size, 50, none⟩ = some (.int .i64 x3) ∧ W'.cell? ⟨w2.heap.size, 51, none⟩ = some (.int .i64 x4)) := hide fun W' hW' => by
    have hb := H3.out.1.below' hW'
    have hg : ∀ j, W'.cell? ⟨w2.heap.size, j, none⟩ = (Kl ++ (Ul ++ [.int .i64 x1, .int .i64 x2, .int .i64 x3, .int .i64 x4]))[j]? := fun j => by rw [hb.cell, ← Array.getElem?_toList, HR.out.2.2]
    refine ⟨fun j u hu => ?_, fun j u hu => ?_, ?_, ?_, ?_, ?_⟩
    · have hj : j < Kl.length := (List.getElem?_eq_some_iff.1 hu).1
      rw [Nat.zero_add, hg, List.getElem?_append_left hj, hu]
    · have hj : j < Ul.length := (List.getElem?_eq_some_iff.1 hu).1
      rw [hg, List.getElem?_append_right (by omega), show 16 + j - Kl.length = j by omega, List.getElem?_append_left hj, hu]
    · rw [hg, List.getElem?_append_right (by omega), hl1, List.getElem?_append_right (by omega), hl2]; rfl
    · rw [hg, List.getElem?_append_right (by omega), hl1, List.getElem?_append_right (by omega), hl2]; rfl
    · rw [hg, List.getElem?_append_right (by omega), hl1, List.getElem?_append_right (by omega), hl2]; rfl
    · rw [hg, List.getElem?_append_right (by omega), hl1, List.getElem?_append_right (by omega), hl2]; rfl
  obtain ⟨s0, s1, s2, s3, s4, s5⟩ := HS.out w3 (Below.refl _ _)
  have hVs : V.size = 52 := HF.out.2.2.1
  have hFit : Fits52 V := HF.out.2.2
  go_frame
  go_upto_region 6 with fail
  go_cut [5] (fun u5 wx => ∃ g : Nat, u5 = .pointer (some ⟨g, 0, none⟩) ∧ Blk wx g 31 V ∧ Below w3.heap.size w3 wx)
  case first =>
    refine wp_region_noPanic ?_
    refine wp_region_held_drew (S := fun W' => Below w3.heap.size w3 W') (by kernel_rfl) (Below.refl _ _).drew (fun hHeld => ?_)
    refine wpAnyH_take (i := 0) (v := ?v1) rfl (by kernel_rfl) (by kernel_rfl) (by kernel_rfl) (fun _ _ _ h => h) (Or.inl ⟨by rfl, ?hy1⟩) hHeld ?rest1
    case hy1 => (intro W hW; go_simp; try with_reducible rfl)
    simp only [Act.put, List.setIfInBounds_toArray, List.set_cons_zero, List.set_cons_succ]
    refine wpAnyH_take (i := 1) (v := ?v2) rfl (by kernel_rfl) (by kernel_rfl) (by kernel_rfl) (fun _ _ _ h => h) (Or.inl ⟨by rfl, ?hy2⟩) hHeld ?rest2
    case hy2 => (intro W hW; go_simp; try with_reducible rfl)
    simp only [Act.put, List.setIfInBounds_toArray, List.set_cons_zero, List.set_cons_succ]
    refine wpAnyH_take (i := 4) (v := ?v3) rfl (by kernel_rfl) (by kernel_rfl) (by kernel_rfl) (fun _ _ _ h => h) (Or.inl ⟨by rfl, ?hy3⟩) hHeld ?rest3
    case hy3 => (intro W hW; go_simp; try with_reducible rfl)
    simp only [Act.put, List.setIfInBounds_toArray, List.set_cons_zero, List.set_cons_succ]
    refine wpAnyH_take (i := 5) (v := ?v4) rfl (by kernel_rfl) (by kernel_rfl) (by kernel_rfl) (fun _ _ _ h => h) (Or.inl ⟨by rfl, ?hy4⟩) hHeld ?rest4
    case hy4 => (intro W hW; go_simp; try with_reducible rfl)
    simp only [Act.put, List.setIfInBounds_toArray, List.set_cons_zero, List.set_cons_succ]
    refine wpAnyH_take (i := 7) (v := ?v5) rfl (by kernel_rfl) (by kernel_rfl) (by kernel_rfl) (fun _ _ _ h => h) (Or.inl ⟨by rfl, ?hy5⟩) hHeld ?rest5
    case hy5 => (intro W hW; go_simp; try with_reducible rfl)
    simp only [Act.put, List.setIfInBounds_toArray, List.set_cons_zero, List.set_cons_succ]
    refine wpAnyH_take (i := 8) (v := ?v6) rfl (by kernel_rfl) (by kernel_rfl) (by kernel_rfl) (fun _ _ _ h => h) (Or.inl ⟨by rfl, ?hy6⟩) hHeld ?rest6
    case hy6 => (intro W hW; go_simp; try with_reducible rfl)
    simp only [Act.put, List.setIfInBounds_toArray, List.set_cons_zero, List.set_cons_succ]
    refine wpAnyH_take (i := 10) (v := ?v7) rfl (by kernel_rfl) (by kernel_rfl) (by kernel_rfl) (fun _ _ _ h => h) (Or.inl ⟨by rfl, ?hy7⟩) hHeld ?rest7
    case hy7 => (intro W hW; go_simp; try with_reducible rfl)
    simp only [Act.put, List.setIfInBounds_toArray, List.set_cons_zero, List.set_cons_succ]
    refine wpAnyH_take (i := 11) (v := ?v8) rfl (by kernel_rfl) (by kernel_rfl) (by kernel_rfl) (fun _ _ _ h => h) (Or.inl ⟨by rfl, ?hy8⟩) hHeld ?rest8
    case hy8 => (intro W hW; go_simp; try with_reducible rfl)
    simp only [Act.put, List.setIfInBounds_toArray, List.set_cons_zero, List.set_cons_succ]
    refine wpAnyH_take (i := 13) (v := ?v9) rfl (by kernel_rfl) (by kernel_rfl) (by kernel_rfl) (fun _ _ _ h => h) (Or.inl ⟨by rfl, ?hy9⟩) hHeld ?rest9
    case hy9 => (intro W hW; go_simp; try with_reducible rfl)
    simp only [Act.put, List.setIfInBounds_toArray, List.set_cons_zero, List.set_cons_succ]
    refine wpAnyH_take (i := 14) (v := ?v10) rfl (by kernel_rfl) (by kernel_rfl) (by kernel_rfl) (fun _ _ _ h => h) (Or.inl ⟨by rfl, ?hy10⟩) hHeld ?rest10
    case hy10 => (intro W hW; go_simp; try with_reducible rfl)
    simp only [Act.put, List.setIfInBounds_toArray, List.set_cons_zero, List.set_cons_succ]
    refine wpAnyH_take (i := 16) (v := ?v11) rfl (by kernel_rfl) (by kernel_rfl) (by kernel_rfl) (fun _ _ _ h => h) (Or.inl ⟨by rfl, ?hy11⟩) hHeld ?rest11
    case hy11 => (intro W hW; go_simp; try with_reducible rfl)
    simp only [Act.put, List.setIfInBounds_toArray, List.set_cons_zero, List.set_cons_succ]
    refine wpAnyH_take (i := 17) (v := ?v12) rfl (by kernel_rfl) (by kernel_rfl) (by kernel_rfl) (fun _ _ _ h => h) (Or.inl ⟨by rfl, ?hy12⟩) hHeld ?rest12
    case hy12 => (intro W hW; go_simp; try with_reducible rfl)
    simp only [Act.put, List.setIfInBounds_toArray, List.set_cons_zero, List.set_cons_succ]
    refine wpAnyH_take (i := 2) (v := .agg Kl.toArray) rfl (by kernel_rfl) (by kernel_rfl) (by kernel_rfl) (fun _ _ _ h => h) (Or.inl ⟨by rfl, ?hy13⟩) hHeld ?rest13
    case hy13 => (intro W hW; exact ex_load 24 (.tmp 17) (by kernel_rfl) w2.heap.size 0 (by kernel_rfl) Kl _ (HS.out W hW).1 Tryz.underlying24 rfl hi1)
    simp only [Act.put, List.setIfInBounds_toArray, List.set_cons_zero, List.set_cons_succ]
    refine wpAnyH_take (i := 6) (v := .agg Ul.toArray) rfl (by kernel_rfl) (by kernel_rfl) (by kernel_rfl) (fun _ _ _ h => h) (Or.inl ⟨by rfl, ?hy14⟩) hHeld ?rest14
    case hy14 => (intro W hW; exact ex_load 26 (.tmp 21) (by kernel_rfl) w2.heap.size 16 (by kernel_rfl) Ul _ (HS.out W hW).2.1 Tryz.underlying26 rfl hi2)
    simp only [Act.put, List.setIfInBounds_toArray, List.set_cons_zero, List.set_cons_succ]
    refine wpAnyH_take (i := 9) (v := .int .i64 x1) rfl (by kernel_rfl) (by kernel_rfl) (by kernel_rfl) (fun _ _ _ h => h) (Or.inl ⟨by rfl, ?hy15⟩) hHeld ?rest15
    case hy15 => (intro W hW; exact ex_load1 3 (.tmp 24) (by kernel_rfl) ⟨w2.heap.size, 48, none⟩ (by kernel_rfl) _ .i64 (HS.out W hW).2.2.1 Tryz.underlying3)
    simp only [Act.put, List.setIfInBounds_toArray, List.set_cons_zero, List.set_cons_succ]
    refine wpAnyH_take (i := 12) (v := .int .i64 x2) rfl (by kernel_rfl) (by kernel_rfl) (by kernel_rfl) (fun _ _ _ h => h) (Or.inl ⟨by rfl, ?hy16⟩) hHeld ?rest16
    case hy16 => (intro W hW; exact ex_load1 3 (.tmp 27) (by kernel_rfl) ⟨w2.heap.size, 49, none⟩ (by kernel_rfl) _ .i64 (HS.out W hW).2.2.2.1 Tryz.underlying3)
    simp only [Act.put, List.setIfInBounds_toArray, List.set_cons_zero, List.set_cons_succ]
    refine wpAnyH_take (i := 15) (v := .int .i64 x3) rfl (by kernel_rfl) (by kernel_rfl) (by kernel_rfl) (fun _ _ _ h => h) (Or.inl ⟨by rfl, ?hy17⟩) hHeld ?rest17
    case hy17 => (intro W hW; exact ex_load1 3 (.tmp 30) (by kernel_rfl) ⟨w2.heap.size, 50, none⟩ (by kernel_rfl) _ .i64 (HS.out W hW).2.2.2.2.1 Tryz.underlying3)
    simp only [Act.put, List.setIfInBounds_toArray, List.set_cons_zero, List.set_cons_succ]
    refine wpAnyH_take (i := 18) (v := .int .i64 x4) rfl (by kernel_rfl) (by kernel_rfl) (by kernel_rfl) (fun _ _ _ h => h) (Or.inl ⟨by rfl, ?hy18⟩) hHeld ?rest18
    case hy18 => (intro W hW; exact ex_load1 3 (.tmp 33) (by kernel_rfl) ⟨w2.heap.size, 51, none⟩ (by kernel_rfl) _ .i64 (HS.out W hW).2.2.2.2.2 Tryz.underlying3)
    simp only [Act.put, List.setIfInBounds_toArray, List.set_cons_zero, List.set_cons_succ]
    refine wpAnyH_ready (rs := [3, 20]) (by kernel_rfl) (by simp) ?_
    refine AllReadyH.cons rfl (fun K hK => ?_) (AllReadyH.cons rfl (fun K hK => ?_) AllReadyH.nil)
    · go_simp
      refine (QI.out _).mono ?_
      rintro e w5 ⟨rfl, q1⟩
      have q2 := Below.step hHeld q1
      have HQ2 := hide q2
      have hthA : ∀ Z : Array Value, Z.size = 52 → (w5.alloc (.cells Z 31)).there w5.heap.size 0 52 := fun Z hz => there_of_blk (Blk.new _ _ _) hz
      refine hK.out _ _ (q2) (fun hHeld => ?_)
      clear hK K
      try simp only [Act.put, List.setIfInBounds_toArray, List.set_cons_zero, List.set_cons_succ]
      refine wpAnyH_take (i := 19) (v := .agg V) rfl (by kernel_rfl) (by kernel_rfl) (by kernel_rfl) (fun _ _ _ h => h) (Or.inl ⟨by rfl, ?hy19⟩) hHeld ?rest19
      case hy19 => (intro W hW; exact ex_build 31 _ rfl #[(0, .agg I), (1, .agg Ul.toArray), (2, .int .i64 x1), (3, .int .i64 x2), (4, .int .i64 x3), (5, .int .i64 x4)] (by kernel_rfl) _ (hbd W))
      simp only [Act.put, List.setIfInBounds_toArray, List.set_cons_zero, List.set_cons_succ]
      refine wpAnyH_ready (rs := [20]) (by kernel_rfl) (by simp) ?_
      refine AllReadyH.cons rfl (fun K hK => ?_) AllReadyH.nil
      go_simp
      refine hK.out _ _ (Below.al0 hHeld _) (fun hHeld => ?_)
      clear hK K
      try simp only [Act.put, List.setIfInBounds_toArray, List.set_cons_zero, List.set_cons_succ]
      refine wpAnyH_ready (rs := [21]) (by kernel_rfl) (by simp) ?_
      refine AllReadyH.cons rfl (fun K hK => ?_) AllReadyH.nil
      go_simp
      refine hK.out _ _ (hHeld.trans (Lib.below_setCells_w HQ2.out.size _ _ _)) (fun hHeld => ?_)
      clear hK K
      try simp only [Act.put, List.setIfInBounds_toArray, List.set_cons_zero, List.set_cons_succ]
      refine wpAnyH_done (by kernel_rfl) ?_ _
      refine noPanic_normal ?_
      go_wp2_with fail
      go_meet
      exact ⟨w5.heap.size, rfl, blk_fill (Blk.new w5 _ _) (hVs.trans (by kernel_rfl)), hHeld⟩
    · go_simp
      refine hK.out _ _ (Below.al0 hHeld _) (fun hHeld => ?_)
      clear hK K
      try simp only [Act.put, List.setIfInBounds_toArray, List.set_cons_zero, List.set_cons_succ]
      refine wpAnyH_ready (rs := [3]) (by kernel_rfl) (by simp) ?_
      refine AllReadyH.cons rfl (fun K hK => ?_) AllReadyH.nil
      go_simp
      refine (QI.out _).mono ?_
      rintro e w5 ⟨rfl, q1⟩
      have kb := (Blk.drew (Blk.new w3 31 _)).below' q1
      have HKB := hide kb
      have hthB := there_of_blk (n := 52) kb (by kernel_rfl)
      clear kb
      refine hK.out _ _ (Below.step hHeld q1) (fun hHeld => ?_)
      clear hK K
      try simp only [Act.put, List.setIfInBounds_toArray, List.set_cons_zero, List.set_cons_succ]
      refine wpAnyH_take (i := 19) (v := .agg V) rfl (by kernel_rfl) (by kernel_rfl) (by kernel_rfl) (fun _ _ _ h => h) (Or.inl ⟨by rfl, ?hy20⟩) hHeld ?rest20
      case hy20 => (intro W hW; exact ex_build 31 _ rfl #[(0, .agg I), (1, .agg Ul.toArray), (2, .int .i64 x1), (3, .int .i64 x2), (4, .int .i64 x3), (5, .int .i64 x4)] (by kernel_rfl) _ (hbd W))
      simp only [Act.put, List.setIfInBounds_toArray, List.set_cons_zero, List.set_cons_succ]
      refine wpAnyH_ready (rs := [21]) (by kernel_rfl) (by simp) ?_
      refine AllReadyH.cons rfl (fun K hK => ?_) AllReadyH.nil
      go_simp
      refine hK.out _ _ (hHeld.trans (Lib.below_setCells_w (Nat.le_refl _) _ _ _)) (fun hHeld => ?_)
      clear hK K
      try simp only [Act.put, List.setIfInBounds_toArray, List.set_cons_zero, List.set_cons_succ]
      refine wpAnyH_done (by kernel_rfl) ?_ _
      refine noPanic_normal ?_
      go_wp2_with fail
      go_meet
      exact ⟨w3.heap.size, rfl, blk_fill HKB.out (hVs.trans (by kernel_rfl)), hHeld⟩
  case rest =>
    obtain ⟨g, rfl, hblk, hbel⟩ := hcut
    have hb2 := Below.step H3.out.2 hbel
    have c1 : wc.cell? ⟨w.heap.size, 1, none⟩ = some (.bool D) := by rw [(H2.out.1.below' hb2).cell]; exact HL.out.2.2.1
    have HK := hide (And.intro hblk (And.intro (H2.out.2.1.below' hb2) (Below.step H2.out.2.2 hb2)))
    clear hblk hbel hb2 s0 s1 s2 s3 s4 s5 hbd hu1 hu2 hi1 hi2 hl1 hl2 ho1 ho2 hFit hVs
    go_wp2_with first
      | ((with_reducible change wpList _ _ _ (⟨some 38, _, _, _, _, _⟩ :: _) _ _); refine wpList_load_row (o := ⟨some 38, .load _ _, _, _, _, _⟩) rfl 31 _ rfl g rfl 31 V (0, 0) _ HK.out.1 Tryz.underlying31 rfl ((by kernel_rfl : (Tryz.prog.info? 31).map (·.size) = some 52).trans (by rw [HF.out.2.2.1])) ?_)
      | ((with_reducible change wpList _ _ _ (⟨some 39, _, _, _, _, _⟩ :: _) _ _); refine wpList_yields (by kernel_rfl) (.agg F) (ex_build 34 _ rfl #[(0, .int .u8 2), (1, .bool D), (3, .agg V)] (by kernel_rfl) _ (HBD.out _)) ?_)
      | ((with_reducible change wpList _ _ _ (⟨none, .store _ (.tmp 2) _, _, _, _, _⟩ :: _) _ _); go_loud (refine wpList_store_row (o := ⟨none, .store _ (.tmp 2) _, _, _, _, _⟩) HK.out.2.1 F (by rw [HF.out.1]; kernel_rfl) HF.out.2.1 rfl 34 _ _ rfl (by rw [HF.out.1]; kernel_rfl) rfl rfl ?_; intro w7 hb7 hg7))
    refine bodyPost_ret (results_row_tmp rfl _ _ (w.heap.size + 1) 34 F (0, 0) _ rfl hb7 Tryz.underlying34 rfl (by rw [HF.out.1]; kernel_rfl)) rfl ⟨rfl, ?_⟩
    exact HK.out.2.2.grown hg7 HK.out.2.2.size fun k hk => (by injection hk with hk; omega)
end
set_option maxRecDepth 100000 in
set_option maxHeartbeats 8000000 in
theorem weak_vf (cs : Array Value) (c : CP) (v : Value) (w : World) (h : Capy w cs c v) (hmay : c.may) (hk : c.kind = 2) :
    Calls Tryz.prog 20 #[.agg cs] w fun e w' => e = .returned (.tuple #[.agg ((weakC c).cells (.slice none 0 0)), .int .i64 0]) ∧ Below w.heap.size w w' := by
  obtain ⟨W, hW⟩ : ∃ W, W = (w.alloc (.cells cs 34)).alloc (.cells Tryz.zeroCells34 34) := ⟨_, rfl⟩
  have HW := hide hW
  have HB := hide (show Blk W w.heap.size 34 cs ∧ Blk W (w.heap.size + 1) 34 Tryz.zeroCells34 ∧ Below w.heap.size w W from by
    have b1 := (Below.refl w.heap.size w).alloc (Nat.le_refl _) (.cells cs 34)
    have k2 := Blk.new (w.alloc (.cells cs 34)) 34 Tryz.zeroCells34
    simp only [World.size_alloc] at k2
    rw [hW]
    exact ⟨(Blk.new w 34 cs).alloc _, k2, b1.alloc b1.size _⟩)
  have HZ := hide h.size
  have QC := hide (fun W (hW : Below w.heap.size w W) => check_cap cs c v W (h.below hW))
  have QO := hide (fun W (hW : Below w.heap.size w W) => of_any cs c v W (h.below hW))
  rw [if_pos hmay] at QC
  rcases oneK c v with ⟨-, -, hk2, -, -⟩ | ⟨h0, -, -, -, -⟩ | ⟨-, -, hk2, -, -⟩ | ⟨-, hm⟩
  · omega
  rotate_left
  · omega
  · exact absurd hmay hm
  rw [h0] at QO
  obtain ⟨R, hR⟩ : ∃ R : Array Value, R = c.vf.cells.toArray := ⟨_, rfl⟩
  obtain ⟨F, hF⟩ : ∃ F : Array Value, F = (weakC c).cells (.slice none 0 0) := ⟨_, rfl⟩
  have HR := hide (show R.size = 52 ∧ R.all (·.oneCell') = true ∧ True from ⟨by rw [hR]; exact rv_size _ h.wf.2.1, by rw [hR]; exact rv_one _, trivial⟩)
  have HF := hide (show F.size = 107 ∧ F.all (·.oneCell') = true from ⟨by rw [hF]; exact CP.cells_size (weak_wf h.wf) _, by rw [hF]; exact CP.cells_one _ _ _ _⟩)
  have HBD := hide (show ∀ W, (Instr.build 34 #[(0, .int .u8 2), (1, .bool c.dir), (3, .agg R)]).run Tryz.prog W = .ok (.agg F) W from fun W => by
    rw [hR, hF]
    unfold weakC
    rw [if_pos hmay, if_neg (by omega), if_pos hk]
    exact build_cap2d _ h.wf.2.1 _ W)
  have HL := hide h.c1
  rw [← hR] at QO
  rw [← hF]
  generalize c.dir = D at *
  clear h hW hmay h0 hk hR hF
  go_enter Tryz.func20, Tryz.ntmps20
  go_upto_region 1 with fail
  rw [← HW.out]
  go_wp2_with ((with_reducible change wpList _ _ _ (⟨some 7, _, _, _, _, _⟩ :: _) _ _); refine wpList_load_row (o := ⟨some 7, .load _ _, _, _, _, _⟩) rfl 34 _ rfl w.heap.size rfl 34 cs (0, 0) _ HB.out.1 Tryz.underlying34 rfl (by rw [HZ.out]; kernel_rfl) ?_)
  refine (QC.out _ HB.out.2.2).mono ?_
  rintro e w1 ⟨rfl, b1⟩
  have H1 := hide (And.intro (HB.out.1.below' b1) (And.intro (HB.out.2.1.below' b1) (Below.step HB.out.2.2 b1)))
  clear b1
  go_wp2_with ((with_reducible change wpList _ _ _ (⟨some 11, _, _, _, _, _⟩ :: _) _ _); refine wpList_load_row (o := ⟨some 11, .load _ _, _, _, _, _⟩) rfl 34 _ rfl w.heap.size rfl 34 cs (0, 0) _ H1.out.1 Tryz.underlying34 rfl (by rw [HZ.out]; kernel_rfl) ?_)
  refine (QO.out _ H1.out.2.2).mono ?_
  rintro e w2 ⟨rfl, b2⟩
  have H2 := hide (And.intro (H1.out.1.below' b2) (And.intro (H1.out.2.1.below' b2) (Below.step H1.out.2.2 b2)))
  clear b2
  go_wp2_with first
    | ((with_reducible change wpList _ _ _ (⟨none, .store _ (.tmp 6) _, _, _, _, _⟩ :: _) _ _); go_loud (refine wpList_store_row (o := ⟨none, .store _ (.tmp 6) _, _, _, _, _⟩) (g := w2.heap.size) (t := 93) (Blk.new w2 _ _) R (HR.out.1.trans (by kernel_rfl)) HR.out.2.1 rfl 93 _ _ rfl ((by kernel_rfl : (Tryz.prog.info? 93).map (·.size) = some 52).trans (by rw [HR.out.1])) rfl rfl ?_; intro w3 hb hg; have H3 := hide (show Blk w3 w2.heap.size 93 R ∧ Below w2.heap.size w2 w3 from ⟨hb, (Below.al0 (Below.refl w2.heap.size w2) _).grown hg (by simp) (fun k hk => by injection hk with hk; omega)⟩); clear hb hg; have c1 : w3.cell? ⟨w.heap.size, 1, none⟩ = some (.bool D) := ((H2.out.1.below' H3.out.2).cell 1).trans HL.out))
    | ((with_reducible change wpList _ _ _ (⟨some 46, _, _, _, _, _⟩ :: _) _ _); refine wpList_yields (by kernel_rfl) (.agg R) (ex_load 31 _ rfl w2.heap.size 0 (by kernel_rfl) R.toList _ (rng_of H3.out.1) Tryz.underlying31 rfl ((by kernel_rfl : (Tryz.prog.info? 31).map (·.size) = some 52).trans (by rw [Array.length_toList, HR.out.1]))) ?_)
    | ((with_reducible change wpList _ _ _ (⟨some 47, _, _, _, _, _⟩ :: _) _ _); refine wpList_yields (by kernel_rfl) (.agg F) (ex_build 34 _ rfl #[(0, .int .u8 2), (1, .bool D), (3, .agg R)] (by kernel_rfl) _ (HBD.out _)) ?_)
    | ((with_reducible change wpList _ _ _ (⟨none, .store _ (.tmp 2) _, _, _, _, _⟩ :: _) _ _); go_loud (refine wpList_store_row (o := ⟨none, .store _ (.tmp 2) _, _, _, _, _⟩) (H2.out.2.1.below' H3.out.2) F (by rw [HF.out.1]; kernel_rfl) HF.out.2 rfl 34 _ _ rfl (by rw [HF.out.1]; kernel_rfl) rfl rfl ?_; intro w7 hb7 hg7))
  have HK := hide (And.intro trivial (And.intro trivial (Below.step H2.out.2.2 H3.out.2)))
  refine bodyPost_ret (results_row_tmp rfl _ _ (w.heap.size + 1) 34 F (0, 0) _ rfl hb7 Tryz.underlying34 rfl (by rw [HF.out.1]; kernel_rfl)) rfl ⟨rfl, ?_⟩
  exact HK.out.2.2.grown hg7 HK.out.2.2.size fun k hk => (by injection hk with hk; omega)
set_option maxRecDepth 100000 in
set_option maxHeartbeats 8000000 in
theorem weak_no (cs : Array Value) (c : CP) (v : Value) (w : World) (h : Capy w cs c v) (hno : ¬ c.may ∨ c.kind = 3) :
    Calls Tryz.prog 20 #[.agg cs] w fun e w' => e = .returned (.tuple #[.agg (CP.zero.cells (.slice none 0 0)), .int .i64 5]) ∧ Below w.heap.size w w' := by
  obtain ⟨W, hW⟩ : ∃ W, W = (w.alloc (.cells cs 34)).alloc (.cells Tryz.zeroCells34 34) := ⟨_, rfl⟩
  have HW := hide hW
  have HB := hide (show Blk W w.heap.size 34 cs ∧ Blk W (w.heap.size + 1) 34 Tryz.zeroCells34 ∧ Below w.heap.size w W from by
    have b1 := (Below.refl w.heap.size w).alloc (Nat.le_refl _) (.cells cs 34)
    have k2 := Blk.new (w.alloc (.cells cs 34)) 34 Tryz.zeroCells34
    simp only [World.size_alloc] at k2
    rw [hW]
    exact ⟨(Blk.new w 34 cs).alloc _, k2, b1.alloc b1.size _⟩)
  have HZ := hide h.size
  have QC := hide (fun W (hW : Below w.heap.size w W) => check_cap cs c v W (h.below hW))
  have QO := hide (fun W (hW : Below w.heap.size w W) => of_any cs c v W (h.below hW))
  by_cases hmay : c.may
  rotate_left
  · rw [if_neg hmay] at QC
    clear h hW hmay QO hno
    go_enter Tryz.func20, Tryz.ntmps20
    go_upto_region 1 with fail
    rw [← HW.out]
    go_wp2_with ((with_reducible change wpList _ _ _ (⟨some 7, _, _, _, _, _⟩ :: _) _ _); refine wpList_load_row (o := ⟨some 7, .load _ _, _, _, _, _⟩) rfl 34 _ rfl w.heap.size rfl 34 cs (0, 0) _ HB.out.1 Tryz.underlying34 rfl (by rw [HZ.out]; kernel_rfl) ?_)
    refine (QC.out _ HB.out.2.2).mono ?_
    rintro e w1 ⟨rfl, b1⟩
    have H1 := hide (And.intro (HB.out.1.below' b1) (And.intro (HB.out.2.1.below' b1) (Below.step HB.out.2.2 b1)))
    clear b1
    go_wp2_with first
      | ((with_reducible change wpList _ _ _ (⟨none, .store _ (.tmp 2) _, _, _, _, _⟩ :: _) _ _); go_loud (refine wpList_store_row (o := ⟨none, .store _ (.tmp 2) _, _, _, _, _⟩) H1.out.2.1 Tryz.zeroCells34 (by kernel_rfl) (by rw [capZ_eq]; exact CP.zero_one) rfl 34 _ _ rfl (by kernel_rfl) rfl rfl ?_; intro w7 hb7 hg7))
    refine bodyPost_ret (results_row_tmp rfl _ _ (w.heap.size + 1) 34 Tryz.zeroCells34 (0, 0) _ rfl hb7 Tryz.underlying34 rfl (by kernel_rfl)) rfl ⟨by rw [← capZ_eq]; rfl, ?_⟩
    exact H1.out.2.2.grown hg7 H1.out.2.2.size fun k hk => (by injection hk with hk; omega)
  rw [if_pos hmay] at QC
  have hk : c.kind = 3 := hno.resolve_left (fun h => h hmay)
  rcases oneK c v with ⟨-, -, hk2, -, -⟩ | ⟨-, -, hk2, -, -⟩ | ⟨h0, -, -, -, -⟩ | ⟨-, hm⟩
  · omega
  · omega
  rotate_left
  · exact absurd hmay hm
  rw [h0] at QO
  clear h hW hmay h0 hk hno
  go_enter Tryz.func20, Tryz.ntmps20
  go_upto_region 1 with fail
  rw [← HW.out]
  go_wp2_with ((with_reducible change wpList _ _ _ (⟨some 7, _, _, _, _, _⟩ :: _) _ _); refine wpList_load_row (o := ⟨some 7, .load _ _, _, _, _, _⟩) rfl 34 _ rfl w.heap.size rfl 34 cs (0, 0) _ HB.out.1 Tryz.underlying34 rfl (by rw [HZ.out]; kernel_rfl) ?_)
  refine (QC.out _ HB.out.2.2).mono ?_
  rintro e w1 ⟨rfl, b1⟩
  have H1 := hide (And.intro (HB.out.1.below' b1) (And.intro (HB.out.2.1.below' b1) (Below.step HB.out.2.2 b1)))
  clear b1
  go_wp2_with ((with_reducible change wpList _ _ _ (⟨some 11, _, _, _, _, _⟩ :: _) _ _); refine wpList_load_row (o := ⟨some 11, .load _ _, _, _, _, _⟩) rfl 34 _ rfl w.heap.size rfl 34 cs (0, 0) _ H1.out.1 Tryz.underlying34 rfl (by rw [HZ.out]; kernel_rfl) ?_)
  refine (QO.out _ H1.out.2.2).mono ?_
  rintro e w2 ⟨rfl, b2⟩
  have H2 := hide (And.intro (H1.out.1.below' b2) (And.intro (H1.out.2.1.below' b2) (Below.step H1.out.2.2 b2)))
  clear b2
  go_wp2_with first
    | ((with_reducible change wpList _ _ _ (⟨none, .store _ (.tmp 2) _, _, _, _, _⟩ :: _) _ _); go_loud (refine wpList_store_row (o := ⟨none, .store _ (.tmp 2) _, _, _, _, _⟩) H2.out.2.1 Tryz.zeroCells34 (by kernel_rfl) (by rw [capZ_eq]; exact CP.zero_one) rfl 34 _ _ rfl (by kernel_rfl) rfl rfl ?_; intro w7 hb7 hg7))
  refine bodyPost_ret (results_row_tmp rfl _ _ (w.heap.size + 1) 34 Tryz.zeroCells34 (0, 0) _ rfl hb7 Tryz.underlying34 rfl (by kernel_rfl)) rfl ⟨by rw [← capZ_eq]; rfl, ?_⟩
  exact H2.out.2.2.grown hg7 H2.out.2.2.size fun k hk => (by injection hk with hk; omega)
theorem weak_any (cs : Array Value) (c : CP) (v : Value) (w : World) (h : Capy w cs c v) :
    Calls Tryz.prog 20 #[.agg cs] w fun e w' => e = .returned (.tuple #[.agg ((weakC c).cells (.slice none 0 0)), .int .i64 (weakE c)]) ∧ Below w.heap.size w w' := by
  by_cases hmay : c.may
  · have hk3 : c.kind = 1 ∨ c.kind = 2 ∨ c.kind = 3 := by
      rcases hmay with ⟨h1, -⟩ | ⟨h1, -⟩ | ⟨h1, -⟩
      · exact .inl h1
      · exact .inr (.inl h1)
      · exact .inr (.inr h1)
    rcases hk3 with hk | hk | hk
    · have he : weakE c = 0 := by unfold weakE; rw [if_pos hmay, if_pos hk]
      rw [he]
      exact weak_rd cs c v w h hmay hk
    · have he : weakE c = 0 := by unfold weakE; rw [if_pos hmay, if_neg (by omega), if_pos hk]
      rw [he]
      exact weak_vf cs c v w h hmay hk
    · have he : weakE c = 5 := by unfold weakE; rw [if_pos hmay, if_neg (by omega), if_neg (by omega)]
      have hc : weakC c = CP.zero := by unfold weakC; rw [if_pos hmay, if_neg (by omega), if_neg (by omega)]
      rw [he, hc]
      exact weak_no cs c v w h (.inr hk)
  · have he : weakE c = 5 := by unfold weakE; rw [if_neg hmay]
    have hc : weakC c = CP.zero := by unfold weakC; rw [if_neg hmay]
    rw [he, hc]
    exact weak_no cs c v w h (.inl hmay)
set_option maxRecDepth 100000 in
set_option maxHeartbeats 8000000 in
theorem verify_any (cs : Array Value) (c : CP) (v : Value) (w : World) (h : Capy w cs c v) :
    Calls Tryz.prog 21 #[.agg cs] w fun e w' => e = .returned (.tuple #[.agg (weakC c).vf.cells.toArray, .int .i64 (weakE c)]) ∧ Below w.heap.size w w' := by
  have QW := hide (fun W (hW : Below w.heap.size w W) => weak_any cs c v W (h.below hW))
  have HZ := hide h.size
  obtain ⟨V, hV⟩ : ∃ V : Array Value, V = (weakC c).vf.cells.toArray := ⟨_, rfl⟩
  obtain ⟨F, hF⟩ : ∃ F : Array Value, F = (weakC c).cells (.slice none 0 0) := ⟨_, rfl⟩
  have hwf := weak_wf h.wf
  have HF := hide (show F.size = 107 ∧ F.all (·.oneCell') = true ∧ V.size = 52 ∧ V.all (·.oneCell') = true ∧ ∀ j, j < 52 → F[54 + j]? = V.toList[j]? from ⟨by rw [hF]; exact CP.cells_size hwf _, by rw [hF]; exact CP.cells_one _ _ _ _, by rw [hV]; exact rv_size _ hwf.2.1, by rw [hV]; exact rv_one _, fun j hj => by
    have hc : Capy w F (weakC c) (.slice none 0 0) := ⟨hF, hwf, weak_in h.i64, by rw [weak_lit]; exact By.nil w⟩
    rw [hc.vf j hj, hV]⟩)
  rw [← hV]
  rw [← hF] at QW
  generalize weakE c = er at *
  clear h hV hF hwf
  have HN := hide (fun Z => two_newC w cs Z)
  go_enter Tryz.func21, Tryz.ntmps21
  go_wp2_with ((with_reducible change wpList _ _ _ (⟨some 7, _, _, _, _, _⟩ :: _) _ _); refine wpList_load_row (o := ⟨some 7, .load _ _, _, _, _, _⟩) rfl 34 _ rfl w.heap.size rfl 34 cs (0, 0) _ (HN.out _).1 Tryz.underlying34 rfl (by rw [HZ.out]; kernel_rfl) ?_)
  with_reducible refine (QW.out _ (HN.out _).2.2).mono ?_
  rintro e w1 ⟨rfl, b1⟩
  obtain ⟨Z, hZ⟩ : ∃ Z : Array Value, Z = RV.zero.cells.toArray := ⟨_, rfl⟩
  have H1 := hide (show Blk w1 (w.heap.size + 1) 31 Z ∧ Below w.heap.size w w1 ∧ Z.size = 52 from ⟨by rw [hZ]; exact (HN.out _).2.1.below' b1, (HN.out _).2.2.trans (b1.mono (HN.out _).2.2.size), by rw [hZ]; rfl⟩)
  clear hZ b1 HN
  go_wp2_with first
    | ((with_reducible change wpList _ _ _ (⟨none, .store _ (.tmp 4) _, _, _, _, _⟩ :: _) _ _); go_loud (refine wpList_store_row (o := ⟨none, .store _ (.tmp 4) _, _, _, _, _⟩) (Blk.new w1 34 Tryz.zeroCells34) F (by rw [HF.out.1]; kernel_rfl) HF.out.2.1 rfl 34 _ _ rfl (by rw [HF.out.1]; kernel_rfl) rfl rfl ?_; intro w4 hb4 hg4; have H4 := hide (show Blk w4 w1.heap.size 34 F ∧ Below w1.heap.size w1 w4 from ⟨hb4, ((Below.refl w1.heap.size w1).alloc (Nat.le_refl _) _).grown hg4 (by simp) (fun k hk => by injection hk with hk; omega)⟩); clear hb4 hg4))
    | ((with_reducible change wpList _ _ _ (⟨some 12, _, _, _, _, _⟩ :: _) _ _); refine wpList_yields (by kernel_rfl) (.agg V) (ex_load 31 _ rfl w1.heap.size 54 (by kernel_rfl) V.toList _ (rng_vf H4.out.1 HF.out.2.2.2.2 HF.out.2.2.1) Tryz.underlying31 rfl ((by kernel_rfl : (Tryz.prog.info? 31).map (·.size) = some 52).trans (by rw [Array.length_toList, HF.out.2.2.1]))) ?_)
    | ((with_reducible change wpList _ _ _ (⟨none, .store _ (.tmp 2) _, _, _, _, _⟩ :: _) _ _); go_loud (refine wpList_store_row (o := ⟨none, .store _ (.tmp 2) _, _, _, _, _⟩) (H1.out.1.below' H4.out.2) V (by rw [HF.out.2.2.1, H1.out.2.2]) HF.out.2.2.2.1 rfl 31 _ _ rfl ((by kernel_rfl : (Tryz.prog.info? 31).map (·.size) = some 52).trans (by rw [HF.out.2.2.1])) rfl rfl ?_; intro w7 hb7 hg7))
  refine bodyPost_ret (results_row_tmp rfl _ _ (w.heap.size + 1) 31 V (0, 0) _ rfl hb7 Tryz.underlying31 rfl ((by kernel_rfl : (Tryz.prog.info? 31).map (·.size) = some 52).trans (by rw [HF.out.2.2.1]))) rfl ⟨rfl, ?_⟩
  have h7 := Below.step H1.out.2.1 H4.out.2
  exact h7.grown hg7 h7.size fun k hk => (by injection hk with hk; omega)
end Go.Proofs.YtcpceaflnnkhnaaGreatDoor
