/- The ways to lay: a number, a digest. -/
import Derived.Test.YteaagngikiaokaaDoorLayM
import Derived.Test.YteaagngikiaokaaDoorUnpA
import Derived.Test.YteaagngikiaokaaDoorRefV
import Derived.Deep.RegionHeld
import Derived.Deep.MidRow
import Derived.Laws.Cover3
namespace Go.Proofs.YteaagngikiaokaaDoor
open Go.RowKit

set_option maxRecDepth 100000 in
set_option maxHeartbeats 1000000 in
theorem num_lay (v : Value) (l : List UInt8) (b : Nat) (q : Addr) (w : World) (h : By w v l) (hl : l.length ≤ 1048576) (ht : Tab w) (he : Err w) (hb : w.cell? ⟨b, 0, none⟩ = some (.pointer (some q))) (old : Value) (hq : w.cell? q = some old) (hf : w.frozen? q = false) (hqn : q.spot = none) :
    Calls Tryd.prog 67 #[v, .pointer (some ⟨b, 0, none⟩)] w fun e w' => e = .returned (.bool (decide (rdE l 2147483647 = 0))) ∧ ∃ w1, Below w.heap.size w w1 ∧ w' = w1.setCell q (.int .i64 (rdN l 2147483647)) := by
  obtain ⟨s, hs, hcv⟩ := run_str (P := Tryd.prog) h 27 9 5 Tryd.underlying27 Tryd.underlying5 Tryd.underlying9
  have hls : lst s = l := hs
  have hsz : s.size = l.length := by rw [← hls]; exact (lst_len s).symm
  have Q := hide (fun W (hW : Below w.heap.size w W) => bread_any s 2147483647 W (by omega) (by omega) (ht.below hW) (he.below hW))
  rw [hls] at Q
  obtain ⟨A, c, rfl, _⟩ := h.form
  have HB := hide (And.intro hb (And.intro hq hf))
  have h1 := World.block_lt_of_cell? _ _ hb
  have h2 := World.block_lt_of_cell? _ _ hq
  obtain ⟨qb, qo, qs⟩ := q
  simp only at hqn
  subst hqn
  generalize rdN l 2147483647 = x at *
  obtain ⟨y, hy⟩ : ∃ y, y = rdE l 2147483647 := ⟨_, rfl⟩
  rw [← hy] at Q ⊢
  have hyb : (decide (y = 0)) = (y == 0) := by
    by_cases h0 : y = 0
    · simp [h0]
    · simp [h0]
  clear h ht he hs hls hsz hb hq hf hy
  go_enter Tryd.func67, Tryd.ntmps67
  go_wp2_with fail
  refine (Q.out _ (Below.refl _ _)).mono ?_
  rintro e w1 ⟨rfl, b1⟩
  have c1 : w1.cell? ⟨b, 0, none⟩ = some (.pointer (some ⟨qb, qo, none⟩)) := (b1.cell (p := ⟨b, 0, none⟩) h1).trans HB.out.1
  have c2 : w1.cell? ⟨qb, qo, none⟩ = some old := (b1.cell (p := ⟨qb, qo, none⟩) h2).trans HB.out.2.1
  have c3 : w1.frozen? ⟨qb, qo, none⟩ = false := by
    have hk := b1.block qb h2
    have h3 := HB.out.2.2
    simp only [World.frozen?] at h3 ⊢
    rw [hk]
    exact h3
  have BB := hide b1
  clear b1
  go_wp2
  go_ret
  exact ⟨ret_bool hyb.symm, w1, BB.out, rfl⟩

set_option maxRecDepth 100000 in
set_option maxHeartbeats 1000000 in
theorem dig_no (A : Option Addr) (n c b : Nat) (w : World) (hn : n ≠ 32) :
    Calls Tryd.prog 69 #[.slice A n c, .pointer (some ⟨b, 0, none⟩)] w fun e w' => e = .returned (.bool false) ∧ w' = w := by
  have i1 : ¬ (n : Int) = 32 := by omega
  go_enter Tryd.func69, Tryd.ntmps69
  go_wp2
  go_ret
  exact ⟨rfl, rfl⟩

/-- What stands while the digest is stored. -/
structure DI (w0 : World) (v pb q pa : Value) (cs : List Value) (gq oq : Nat) (listed : Array Bool) (a : Act) (w : World) : Prop where
  size : listed.size = 6
  tsz : a.tmps.size = 12
  df : a.defers = []
  t0 : a.tmps[0]? = some v
  t1 : a.tmps[1]? = some pb
  s0 : listed.getD 0 false = true → a.tmps[7]? = some q
  s1 : listed.getD 1 false = true → a.tmps[8]? = some v
  s2 : listed.getD 2 false = true → a.tmps[9]? = some pa
  s3 : listed.getD 3 false = true → a.tmps[10]? = some (.agg cs.toArray)
  s4 : listed.getD 4 false = true → a.tmps[11]? = some q
  d5 : listed.getD 5 false = true → ∀ j, j < 5 → listed.getD j false = true
  wd : w = if listed.getD 5 false = true then w0.setCells gq oq cs else w0

theorem DI.put {w0 : World} {v pb q pa : Value} {cs : List Value} {gq oq : Nat} {listed : Array Bool} {a : Act} {w : World} (h : DI w0 v pb q pa cs gq oq listed a w) (i d : Nat) (u : Value) (hi : i < 5) (hd : d = 7 + i) (hf : listed.getD i false = false)
    (hu : (i = 0 → u = q) ∧ (i = 1 → u = v) ∧ (i = 2 → u = pa) ∧ (i = 3 → u = .agg cs.toArray) ∧ (i = 4 → u = q)) : DI w0 v pb q pa cs gq oq (listed.setIfInBounds i true) (a.put (some d) u) w := by
  have hs : i < listed.size := by rw [h.size]; omega
  have hg : ∀ j, j ≠ i → (listed.setIfInBounds i true).getD j false = listed.getD j false := fun j hj => by rw [getD_set hs, if_neg hj]
  have h5 : (listed.setIfInBounds i true).getD 5 false = false := by
    rw [hg 5 (by omega)]
    rcases hb : listed.getD 5 false with _ | _
    · rfl
    · rw [h.d5 hb i hi] at hf; cases hf
  have h5' : listed.getD 5 false = false := by rw [← hg 5 (by omega)]; exact h5
  subst hd
  have sl : ∀ j x, (j = i → u = x) → (listed.getD j false = true → a.tmps[7 + j]? = some x) → (listed.setIfInBounds i true).getD j false = true → (a.put (some (7 + i)) u).tmps[7 + j]? = some x := fun j x h1 h2 hl => by
    by_cases hj : j = i
    · subst hj
      rw [put_same (by rw [h.tsz]; omega), h1 rfl]
    · rw [hg j hj] at hl
      rw [put_other (by omega)]
      exact h2 hl
  refine ⟨by simpa using h.size, by simpa [Act.put] using h.tsz, h.df, (put_other (by omega)).trans h.t0, (put_other (by omega)).trans h.t1, sl 0 _ (fun e => hu.1 e.symm) h.s0, sl 1 _ (fun e => hu.2.1 e.symm) h.s1, sl 2 _ (fun e => hu.2.2.1 e.symm) h.s2, sl 3 _ (fun e => hu.2.2.2.1 e.symm) h.s3, sl 4 _ (fun e => hu.2.2.2.2 e.symm) h.s4, fun hl => ?_, ?_⟩
  · rw [h5] at hl; cases hl
  · rw [h5]; have := h.wd; rw [h5'] at this; exact this

theorem op_store_mid {P : Program} {ops : Array Oper} {Q : Exit → Act → World → Prop} {K : Act → World → Prop} {i : Nat} {a : Act} {w : World} {op : Oper} (hi : ops[i]? = some op) (hg : op.guard = none) (h : op.wp P a w K Q) : wpOp P ops Q i K a w := by
  unfold wpOp
  simp only [hi]
  rw [if_pos (by simp [Region.wanted, hg])]
  exact .inl h

theorem op_load {P : Program} {ops : Array Oper} {Q : Exit → Act → World → Prop} {K : Act → World → Prop} {i : Nat} {a : Act} {w : World} {d s : Tmp} {ty t : TypeId} {p : String} {af : Array Edge} {u v : Value} (hi : ops[i]? = some ⟨some d, .load ty (.tmp s), t, p, af, none⟩) (hs : a.eval (.tmp s) = u) (hr : (Instr.loadAt ty u).run P w = .ok v w) (h : K (a.put (some d) v) w) : wpOp P ops Q i K a w :=
  op_value hi rfl (by simp [execOp, hs, hr, Result.andThen]) h
theorem op_s2a {P : Program} {ops : Array Oper} {Q : Exit → Act → World → Prop} {K : Act → World → Prop} {i : Nat} {a : Act} {w : World} {d s : Tmp} {ty t : TypeId} {p : String} {af : Array Edge} {u v : Value} (hi : ops[i]? = some ⟨some d, .sliceToArrayPointer ty (.tmp s), t, p, af, none⟩) (hs : a.eval (.tmp s) = u) (hr : (Instr.arrayAt ty u).run P w = .ok v w) (h : K (a.put (some d) v) w) : wpOp P ops Q i K a w :=
  op_value hi rfl (by simp [execOp, hs, hr, Result.andThen]) h
theorem load_dig {W : World} {b : Nat} {v : Value} (h : W.cell? ⟨b, 0, none⟩ = some v) : (Instr.loadAt 100 (.pointer (some ⟨b, 0, none⟩))).run Tryd.prog W = .ok v W := by
  go_simp
theorem s2a_dig (gA oA c : Nat) (W : World) (hc : 32 ≤ c) : (Instr.arrayAt 42 (.slice (some ⟨gA, oA, none⟩) 32 c)).run Tryd.prog W = .ok (.pointer (some ⟨gA, oA, none⟩)) W := run_arrayAt W 42 5 32 _ 32 c Tryd.underlying42 (by omega)

set_option maxRecDepth 100000 in
set_option maxHeartbeats 1000000 in
theorem dig_lay (gA oA c : Nat) (l : List UInt8) (b gq oq : Nat) (w : World) (hl : l.length = 32) (hc : 32 ≤ c) (hr : w.rangeAt gA oA (bcells l)) (hb : w.cell? ⟨b, 0, none⟩ = some (.pointer (some ⟨gq, oq, none⟩))) (hq : w.there gq oq 32) :
    Calls Tryd.prog 69 #[.slice (some ⟨gA, oA, none⟩) 32 c, .pointer (some ⟨b, 0, none⟩)] w fun e w' => e = .returned (.bool true) ∧ w' = (w.drew).setCells gq oq (bcells l) := by
  have hi : (Tryd.prog.info? 42).map (·.size) = some (bcells l).length := by rw [bcells_length, hl]; kernel_rfl
  have hl2 : (bcells l).length = 32 := by rw [bcells_length, hl]
  have h1 : ∀ v ∈ bcells l, v.oneCell' = true := fun v hv => by
    obtain ⟨x, _, rfl⟩ := List.mem_map.1 hv
    rfl
  generalize bcells l = cs at *
  have HH := hide (And.intro hi (And.intro hl2 (And.intro h1 (And.intro hr (And.intro hb hq)))))
  clear hi hl2 h1 hr hb hq
  go_enter Tryd.func69, Tryd.ntmps69
  go_wp2
  refine wp_region_any rfl ?_
  refine wpAny_inv (DI w.drew (.slice (some ⟨gA, oA, none⟩) 32 c) (.pointer (some ⟨b, 0, none⟩)) (.pointer (some ⟨gq, oq, none⟩)) (.pointer (some ⟨gA, oA, none⟩)) cs gq oq) (fun listed a W h => h.size.trans rfl) ?step ?fin _ _ _ _ (by simp) ?start
  case start =>
    refine ⟨by simp, by simp, rfl, rfl, rfl, fun hl => ?_, fun hl => ?_, fun hl => ?_, fun hl => ?_, fun hl => ?_, fun hl => ?_, by simp [Array.getD]⟩
    all_goals
      simp [Array.getD] at hl
  case fin =>
    intro listed a W h hr
    have hall : ∀ i, i < 6 → listed.getD i false = true := fun i hi => all_ready (h.size.trans rfl) (by kernel_rfl) hr i hi
    have hW := h.wd
    rw [hall 5 (by omega), if_pos rfl] at hW
    subst hW
    have hts := h.tsz
    have hdf := h.df
    clear h hr hall
    go_wp2
    exact bodyPost_ret (results_tmp rfl _ _ _) rfl ⟨by simp [hts], rfl⟩
  case step =>
    intro listed a W i h hi
    obtain ⟨hlt, hf, o, ho, hdep⟩ := ready_at hi
    have hi39 : i < 6 := hlt
    have hff : listed.getD i false = false := by
      have : i < listed.size := by rw [h.size]; exact hi39
      simpa [Array.getD, this] using hf
    clear hi hlt hf
    have hW : i < 5 → W = w.drew := fun hi5 => by
      have := h.wd
      rcases hb : listed.getD 5 false with _ | _
      · rw [hb] at this; exact this
      · rw [h.d5 hb i hi5] at hff; cases hff
    have hc6 : i = 0 ∨ i = 1 ∨ i = 2 ∨ i = 3 ∨ i = 4 ∨ i = 5 := by omega
    rcases hc6 with rfl | rfl | rfl | rfl | rfl | rfl
    · clear ho hdep
      have hv : a.eval (.tmp 1) = .pointer (some ⟨b, 0, none⟩) := eval_tmp h.t1
      have hW0 := hW (by omega)
      have hcell : W.cell? ⟨b, 0, none⟩ = some (.pointer (some ⟨gq, oq, none⟩)) := by rw [hW0]; exact HH.out.2.2.2.2.1
      refine op_load rfl hv (load_dig hcell) ?_
      exact h.put 0 7 _ (by omega) rfl hff ⟨fun _ => rfl, fun e => by omega, fun e => by omega, fun e => by omega, fun e => by omega⟩
    · clear ho hdep
      exact op_move rfl (eval_tmp h.t0) (h.put 1 8 _ (by omega) rfl hff ⟨fun e => by omega, fun _ => rfl, fun e => by omega, fun e => by omega, fun e => by omega⟩)
    · simp at ho
      subst ho
      simp [Region.binds] at hdep
      have hv : a.eval (.tmp 8) = .slice (some ⟨gA, oA, none⟩) 32 c := eval_tmp (h.s1 (gd hdep))
      refine op_s2a rfl hv (s2a_dig gA oA c W hc) (h.put 2 9 _ (by omega) rfl hff ⟨fun e => by omega, fun e => by omega, fun _ => rfl, fun e => by omega, fun e => by omega⟩)
    · simp at ho
      subst ho
      simp [Region.binds] at hdep
      have hv : a.eval (.tmp 9) = .pointer (some ⟨gA, oA, none⟩) := eval_tmp (h.s2 (gd hdep))
      have hW0 := hW (by omega)
      refine op_store_mid rfl rfl (wp_load_mid 42 (.tmp 9) rfl gA oA hv cs _ (by rw [hW0]; exact HH.out.2.2.2.1) Tryd.underlying42 rfl HH.out.1 ?_)
      exact h.put 3 10 _ (by omega) rfl hff ⟨fun e => by omega, fun e => by omega, fun e => by omega, fun _ => rfl, fun e => by omega⟩
    · simp at ho
      subst ho
      simp [Region.binds] at hdep
      have hv : a.eval (.tmp 7) = .pointer (some ⟨gq, oq, none⟩) := eval_tmp (h.s0 (gd hdep.1))
      exact op_value (v := .pointer (some ⟨gq, oq, none⟩)) rfl rfl (by simp [execOp, hv]) (h.put 4 11 _ (by omega) rfl hff ⟨fun e => by omega, fun e => by omega, fun e => by omega, fun e => by omega, fun _ => rfl⟩)
    · simp at ho
      subst ho
      simp [Region.binds] at hdep
      have hx : a.eval (.tmp 11) = .pointer (some ⟨gq, oq, none⟩) := eval_tmp (h.s4 (gd hdep.1))
      have hy : a.eval (.tmp 10) = .agg cs.toArray := eval_tmp (h.s3 (gd hdep.2.1))
      have hW0 : W = w.drew := by have := h.wd; rw [hff] at this; exact this
      refine op_store_mid rfl rfl (wp_store_mid 42 (.tmp 11) (.tmp 10) rfl gq oq cs.toArray hx hy (by rw [hW0, List.size_toArray, HH.out.2.1]; exact HH.out.2.2.2.2.2) (by rw [List.size_toArray]; exact HH.out.1) (by simpa using HH.out.2.2.1) ?_)
      have hs5 : 5 < listed.size := by rw [h.size]; omega
      have hg : ∀ j, j ≠ 5 → (listed.setIfInBounds 5 true).getD j false = listed.getD j false := fun j hj => by rw [getD_set hs5, if_neg hj]
      refine ⟨by simpa using h.size, h.tsz, h.df, h.t0, h.t1, fun hl => h.s0 (by rwa [hg 0 (by omega)] at hl), fun hl => h.s1 (by rwa [hg 1 (by omega)] at hl), fun hl => h.s2 (by rwa [hg 2 (by omega)] at hl), fun hl => h.s3 (by rwa [hg 3 (by omega)] at hl), fun hl => h.s4 (by rwa [hg 4 (by omega)] at hl), fun _ j hj => ?_, ?_⟩
      · rw [hg j (by omega)]
        have hj5 : j = 0 ∨ j = 1 ∨ j = 2 ∨ j = 3 ∨ j = 4 := by omega
        rcases hj5 with rfl | rfl | rfl | rfl | rfl
        · exact gd hdep.2.2.1
        · exact gd hdep.2.2.2.1
        · exact gd hdep.2.2.2.2.1
        · exact gd hdep.2.1
        · exact gd hdep.1
      · rw [getD_set hs5, if_pos rfl, if_pos rfl, hW0]
end Go.Proofs.YteaagngikiaokaaDoor
