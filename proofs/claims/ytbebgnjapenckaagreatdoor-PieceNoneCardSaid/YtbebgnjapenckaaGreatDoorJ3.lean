/- Joined texts: Bst, PnA, Exs, PnB, PnC, Open, Bulk, OpnN. -/
import Derived.Test.YtbebgnjapenckaaGreatDoorJ1
import Derived.Laws.ResultCell
import Derived.Test.YtbebgnjapenckaaGreatDoorJ2
import Derived.Deep.RegionHeld3
import Derived.Laws.StructEq
import Derived.Deep.RegionHeldLaw
import Derived.ProofKit
import Derived.OpenShut
import Derived.ShutString
import Derived.ChangeOld
import Derived.SizedLaws
import Derived.JoinedCond
import Derived.Deep.CondSized
import Derived.Test.YtbebgnjapenckaaGreatDoorRows
import Derived.ChangeShapes
import Derived.WideShapes

/- Steps of worlds, one behind another. They hold of every program. -/
namespace Go.Proofs.YtbebgnjapenckaaGreatDoor
open Go.RowKit
theorem Below.step {w W W' : World} (h : Below w.heap.size w W) (h' : Below W.heap.size W W') : Below w.heap.size w W' := h.trans (h'.mono h.size)
theorem Below.al0 {w W : World} (h : Below w.heap.size w W) (o : Obj) : Below w.heap.size w (W.alloc o) := h.alloc h.size o
theorem results_row_tmp {P : Program} {fn : Func} {p u : Tmp} {ty : TypeId} (h : fn.results = #[.cell p ty, .tmp u]) (tmps : Array Value) (w : World) (g : Nat) (t : TypeId) (cs : Array Value) (fr : Nat × Nat) (d : TypeDesc)
    (hp : tmps.getD p undef = .pointer (some ⟨g, 0, none⟩)) (hg : w.heap[g]? = some (.cells cs t fr))
    (hu : P.underlying ty = some d) (hd : (match d with | .struct _ | .array _ _ => true | _ => false) = true) (hi : (P.info? ty).map (·.size) = some cs.size) :
    (results fn tmps).run P w = .ok (.tuple #[.agg cs, tmps.getD u undef]) w := by
  rw [results_cell_tmp h, hp]
  simp [asAddr, run_loadVar_row w g t ty cs fr d hg hu hd hi, Result.andThen]
end Go.Proofs.YtbebgnjapenckaaGreatDoor

/- Pieces that are nil, or that nobody made: what their methods answer. Printed by wip/sbn.py PnA. -/
namespace Go.Proofs.YtbebgnjapenckaaGreatDoor
open Go.RowKit

/-- A piece that is nil, or that nobody made. -/
def NoP (w : World) (v : Value) : Prop := v = .pointer none ∨ ∃ g, v = .pointer (some ⟨g, 0, none⟩) ∧ g < w.heap.size ∧ w.cell? ⟨g, 0, none⟩ = some (.int .u8 0)
theorem NoP.below {w w' : World} {v : Value} (h : NoP w v) (hb : Below w.heap.size w w') : NoP w' v := by
  rcases h with h | ⟨g, h, h1, h2⟩
  · exact .inl h
  · exact .inr ⟨g, h, Nat.lt_of_lt_of_le h1 hb.size, by rw [hb.cell (p := ⟨g, 0, none⟩) h1]; exact h2⟩
theorem results_cell {P : Program} {fn : Func} {p u : Tmp} {ty : TypeId} (h : fn.results = #[.cell p ty, .tmp u]) (tmps : Array Value) (w : World) (g : Nat) (t : TypeId) (cs : Array Value) (fr : Nat × Nat) (d : TypeDesc)
    (hp : tmps.getD p undef = .pointer (some ⟨g, 0, none⟩)) (hg : w.heap[g]? = some (.cells cs t fr))
    (hu : P.underlying ty = some d) (hd : (match d with | .struct _ | .array _ _ => true | _ => false) = true) (hi : (P.info? ty).map (·.size) = some cs.size) {x : Value} (hx : tmps.getD u undef = x) :
    (results fn tmps).run P w = .ok (.tuple #[.agg cs, x]) w := by
  subst hx
  have hp' : tmps[p]?.getD undef = .pointer (some ⟨g, 0, none⟩) := by simpa using hp
  simp only [results, h]
  simp [Sem.run_bind, Result.andThen, hp', asAddr, run_loadVar_row w g t ty cs fr d hg hu hd hi]
theorem stage_none (v : Value) (w : World) (h : NoP w v) : Calls Tryz.prog 5 #[v] w fun e w' => w = w' ∧ e = .returned (.int .u8 0) := by
  rcases h with rfl | ⟨g, rfl, _, hc⟩
  · go_enter Tryz.func5, Tryz.ntmps5
    go_wp2
    go_ret
    exact ⟨rfl, rfl⟩
  · go_enter Tryz.func5, Tryz.ntmps5
    go_wp2
    go_ret
    exact ⟨rfl, rfl⟩
theorem stage_made (g : Nat) (w : World) (hc : w.cell? ⟨g, 0, none⟩ = some (.int .u8 1)) : Calls Tryz.prog 5 #[.pointer (some ⟨g, 0, none⟩)] w fun e w' => w = w' ∧ e = .returned (.int .u8 1) := by
  go_enter Tryz.func5, Tryz.ntmps5
  go_wp2
  go_ret
  exact ⟨rfl, rfl⟩
theorem atFront_none (v : Value) (w : World) (h : NoP w v) : Calls Tryz.prog 14 #[v] w fun e w' => w = w' ∧ e = .returned (.int .i64 1) := by
  have Q := hide (stage_none v w h)
  clear h
  go_enter Tryz.func14, Tryz.ntmps14
  go_wp2_with fail
  refine Q.out.mono ?_
  rintro e _ ⟨rfl, rfl⟩
  clear Q
  go_wp2
  go_ret
  exact ⟨rfl, rfl⟩
theorem atBlocks_none (v x : Value) (w : World) (h : NoP w v) : Calls Tryz.prog 17 #[v, x] w fun e w' => w = w' ∧ e = .returned (.int .i64 1) := by
  have Q := hide (stage_none v w h)
  clear h
  go_enter Tryz.func17, Tryz.ntmps17
  go_wp2_with fail
  refine Q.out.mono ?_
  rintro e _ ⟨rfl, rfl⟩
  clear Q
  go_wp2
  go_ret
  exact ⟨rfl, rfl⟩
theorem front_none (v : Value) (w : World) (h : NoP w v) : Calls Tryz.prog 6 #[v] w fun e w' => w = w' ∧ e = .returned (.tuple #[.slice none 0 0, .int .i64 1]) := by
  have Q := hide (atFront_none v w h)
  clear h
  go_enter Tryz.func6, Tryz.ntmps6
  go_wp2_with fail
  refine Q.out.mono ?_
  rintro e _ ⟨rfl, rfl⟩
  clear Q
  go_wp2
  go_ret2
  exact ⟨rfl, rfl⟩
theorem want_none (v x : Value) (w : World) (h : NoP w v) : Calls Tryz.prog 7 #[v, x] w fun e w' => w = w' ∧ e = .returned (.tuple #[.slice none 0 0, .int .i64 1]) := by
  have Q := hide (atBlocks_none v x w h)
  clear h
  go_enter Tryz.func7, Tryz.ntmps7
  go_wp2_with fail
  refine Q.out.mono ?_
  rintro e _ ⟨rfl, rfl⟩
  clear Q
  go_wp2
  go_ret2
  exact ⟨rfl, rfl⟩
theorem take_none (v x y : Value) (w : World) (h : NoP w v) : Calls Tryz.prog 8 #[v, x, y] w fun e w' => w = w' ∧ e = .returned (.tuple #[.slice none 0 0, .int .i64 1]) := by
  have Q := hide (atBlocks_none v x w h)
  clear h
  go_enter Tryz.func8, Tryz.ntmps8
  go_wp2_with fail
  refine Q.out.mono ?_
  rintro e _ ⟨rfl, rfl⟩
  clear Q
  go_wp2
  go_ret2
  exact ⟨rfl, rfl⟩
theorem popen_none (v y : Value) (w : World) (h : NoP w v) : Calls Tryz.prog 12 #[v, y] w fun e w' => w = w' ∧ e = .returned (.int .i64 1) := by
  have Q := hide (atFront_none v w h)
  clear h
  go_enter Tryz.func12, Tryz.ntmps12
  go_wp2_with fail
  refine Q.out.mono ?_
  rintro e _ ⟨rfl, rfl⟩
  clear Q
  go_wp2
  go_ret
  exact ⟨rfl, rfl⟩
theorem has_none (v x : Value) (w : World) (h : NoP w v) : Calls Tryz.prog 11 #[v, x] w fun e w' => w = w' ∧ e = .returned (.bool false) := by
  have Q := hide (stage_none v w h)
  clear h
  go_enter Tryz.func11, Tryz.ntmps11
  go_wp2_with fail
  refine Q.out.mono ?_
  rintro e _ ⟨rfl, rfl⟩
  clear Q
  go_wp2
  go_ret
  exact ⟨rfl, rfl⟩
def ZU : Array Value := (List.replicate 4 (Value.int .i64 0) ++ List.replicate 64 (Value.int .u8 0)).toArray
def ZD : Array Value := (List.replicate 32 (Value.int .u8 0)).toArray
theorem ZU_zero : Tryz.zeroCells40 = ZU := by kernel_rfl
theorem ZU_size : ZU.size = 68 := by kernel_rfl
theorem ZD_size : ZD.size = 32 := by kernel_rfl
theorem ZU_one : ZU.all (·.oneCell') = true := by kernel_rfl
theorem ZD_one : ZD.all (·.oneCell') = true := by kernel_rfl
theorem ZU_build (W : World) : (Instr.build 40 #[]).run Tryz.prog W = .ok (.agg ZU) W := by kernel_rfl
theorem ZD_build (W : World) : (Instr.build 32 #[]).run Tryz.prog W = .ok (.agg ZD) W := by kernel_rfl
theorem ZU_neq (W : World) : (binOp .neq 40 (.agg ZU) (.agg ZU)).run Tryz.prog W = .ok (.bool false) W := by kernel_rfl
theorem ZD_neq (W : World) : (binOp .neq 32 (.agg ZD) (.agg ZD)).run Tryz.prog W = .ok (.bool false) W := by kernel_rfl
set_option maxRecDepth 100000 in
theorem ueb_none (v : Value) (w : World) (h : NoP w v) : Calls Tryz.prog 9 #[v] w fun e w' => Below w.heap.size w w' ∧ e = .returned (.tuple #[.agg ZU, .int .i64 1]) := by
  obtain ⟨zu, hzu, hz1, hz2⟩ : ∃ Z, Z = ZU ∧ Z.size = 68 ∧ Z.all (·.oneCell') = true := ⟨_, rfl, ZU_size, ZU_one⟩
  have hz := ZU_zero
  have hzb := ZU_build
  rw [← hzu] at hzb hz ⊢
  have b1 := (Below.refl w.heap.size w).alloc (Nat.le_refl _) (.cells zu 40)
  have n1 := Blk.new w 40 zu
  have Q := hide (stage_none v _ (h.below b1))
  have H := hide (And.intro b1 n1)
  have HZ := hide (And.intro hz1 hz2)
  generalize hW0 : w.alloc (.cells zu 40) = W0 at *
  clear h b1 n1 hzu hz1 hz2
  go_enter Tryz.func9, Tryz.ntmps9
  go_wp2_with fail
  refine Q.out.mono ?_
  rintro e _ ⟨rfl, rfl⟩
  clear Q
  go_wp2_with (first
    | ((with_reducible change wpList _ _ _ (⟨none, .store _ (.tmp 2) _, _, _, _, _⟩ :: _) _ _); go_loud (refine wpList_store_row (o := ⟨none, .store _ (.tmp 2) _, _, _, _, _⟩) (H.out.2) (zu) (rfl) (HZ.out.2) rfl 40 _ _ rfl (by rw [HZ.out.1]; kernel_rfl) rfl rfl ?_; intro w4 hb4 hg4; have H4 := hide (And.intro hb4 hg4); clear hb4 hg4)))
  have hbel := H.out.1.grown H4.out.2 H.out.1.size (fun k hk => by injection hk with hk; omega)
  refine bodyPost_ret (results_cell (x := .int .i64 1) rfl _ _ w.heap.size 40 zu (0, 0) _ rfl H4.out.1 Tryz.underlying40 rfl (by rw [HZ.out.1]; kernel_rfl) rfl) rfl ⟨hbel, rfl⟩
set_option maxRecDepth 100000 in
theorem segment_none (v x : Value) (w : World) (h : NoP w v) : Calls Tryz.prog 10 #[v, x] w fun e w' => Below w.heap.size w w' ∧ e = .returned (.tuple #[.agg ZD, .int .i64 1]) := by
  obtain ⟨zu, hzu, hz1, hz2⟩ : ∃ Z, Z = ZD ∧ Z.size = 32 ∧ Z.all (·.oneCell') = true := ⟨_, rfl, ZD_size, ZD_one⟩
  have hzb := ZD_build
  have hzl : (#[.int .u8 0, .int .u8 0, .int .u8 0, .int .u8 0, .int .u8 0, .int .u8 0, .int .u8 0, .int .u8 0, .int .u8 0, .int .u8 0, .int .u8 0, .int .u8 0, .int .u8 0, .int .u8 0, .int .u8 0, .int .u8 0, .int .u8 0, .int .u8 0, .int .u8 0, .int .u8 0, .int .u8 0, .int .u8 0, .int .u8 0, .int .u8 0, .int .u8 0, .int .u8 0, .int .u8 0, .int .u8 0, .int .u8 0, .int .u8 0, .int .u8 0, .int .u8 0] : Array Value) = zu := hzu.symm
  rw [← hzu] at hzb ⊢
  have b1 := (Below.refl w.heap.size w).alloc (Nat.le_refl _) (.cells zu 32)
  have n1 := Blk.new w 32 zu
  have Q := hide (stage_none v _ (h.below b1))
  have H := hide (And.intro b1 n1)
  have HZ := hide (And.intro hz1 hz2)
  generalize hW0 : w.alloc (.cells zu 32) = W0 at *
  clear h b1 n1 hzu hz1 hz2
  go_enter Tryz.func10, Tryz.ntmps10
  go_wp2_with fail
  refine Q.out.mono ?_
  rintro e _ ⟨rfl, rfl⟩
  clear Q
  go_wp2_with (first
    | ((with_reducible change wpList _ _ _ (⟨none, .store _ (.tmp 4) _, _, _, _, _⟩ :: _) _ _); go_loud (refine wpList_store_row (o := ⟨none, .store _ (.tmp 4) _, _, _, _, _⟩) (H.out.2) (zu) (rfl) (HZ.out.2) rfl 32 _ _ rfl (by rw [HZ.out.1]; kernel_rfl) rfl rfl ?_; intro w4 hb4 hg4; have H4 := hide (And.intro hb4 hg4); clear hb4 hg4)))
  have hbel := H.out.1.grown H4.out.2 H.out.1.size (fun k hk => by injection hk with hk; omega)
  refine bodyPost_ret (results_cell (x := .int .i64 1) rfl _ _ w.heap.size 32 zu (0, 0) _ rfl H4.out.1 Tryz.underlying32 rfl (by rw [HZ.out.1]; kernel_rfl) rfl) rfl ⟨hbel, rfl⟩
end Go.Proofs.YtbebgnjapenckaaGreatDoor

/- Operations one by one: loads, a struct built, a struct stored, a comparison. They hold of every program. -/
namespace Go.Proofs.YtbebgnjapenckaaGreatDoor.Exs
open Go.RowKit

section
variable {P : Program} {o : Oper} {a : Act} {w : World}
theorem ex_loadB (ty : TypeId) (x : Operand) (ho : o.op = .load ty x) (g : Nat) (hx : a.eval x = .pointer (some ⟨g, 0, none⟩)) (t : TypeId) (cs : Array Value) (d : TypeDesc) (hg : Blk w g t cs)
    (hu : P.underlying ty = some d) (hd : (match d with | .struct _ | .array _ _ => true | _ => false) = true) (hi : (P.info? ty).map (·.size) = some cs.size) : (execOp a.eval o).run P w = .ok (.value (.agg cs)) w := by
  unfold execOp
  simp only [ho, hx, Instr.loadAt, Instr.sureAddr, Sem.run_bind, Sem.run_pure, Result.andThen_ok, run_loadVar_row w g t ty cs (0, 0) d hg hu hd hi]
theorem ex_loadI (ty : TypeId) (x : Operand) (ho : o.op = .load ty x) (p : Addr) (hx : a.eval x = .pointer (some p)) (v : Value) (k : IntKind) (hc : w.cell? p = some v) (hu : P.underlying ty = some (.int k)) : (execOp a.eval o).run P w = .ok (.value v) w := by
  unfold execOp
  simp only [ho, hx, Instr.loadAt, Instr.sureAddr, Sem.run_bind, Sem.run_pure, Result.andThen_ok]
  simp [loadVar, isAgg, underlying, hu, hc, Result.andThen]
theorem ex_buildV (t : TypeId) (ps : Array (Nat × Operand)) (ho : o.op = .build t ps) (vs : Array (Nat × Value)) (hv : ps.map (fun x => (x.1, a.eval x.2)) = vs) (v : Value) (hr : (Instr.build t vs).run P w = .ok v w) : (execOp a.eval o).run P w = .ok (.value v) w := by
  subst hv
  unfold execOp
  simp only [ho, Sem.run_bind, Sem.run_pure, hr, Result.andThen_ok]
theorem wp_store_blk {op : Oper} {K : Act → World → Prop} {Q : Exit → Act → World → Prop} {g : Nat} {t : TypeId} {old : Array Value} (hb : Blk w g t old) (cells : Array Value) (hs : cells.size = old.size) (h1 : cells.all (·.oneCell') = true)
    (ty : TypeId) (x y : Operand) (ho : op.op = .store ty x y) (hi : (P.info? ty).map (·.size) = some cells.size) (hx : a.eval x = .pointer (some ⟨g, 0, none⟩)) (hy : a.eval y = .agg cells)
    (h : ∀ w', Blk w' g t cells → w.grownBy w' (some g) → K (a.put op.dst undef) w') : op.wp P a w K Q := by
  refine wp_store_mid ty x y ho g 0 cells hx hy (fun j hj => ⟨?_, ?_⟩) hi h1 (h _ ?_ (stores_grown g _ _ _))
  · rw [Nat.zero_add, hb.cell]; simp; omega
  · rw [Nat.zero_add]; exact hb.frozen j
  · have := blk_setCells cells.toList w 0 old hb (by simp; omega)
    simp only [List.take_zero, List.nil_append, Nat.zero_add, Array.length_toList] at this
    rw [List.drop_of_length_le (by simp; omega), List.append_nil] at this
    simpa using this
theorem wpList_ex {ops : Array Oper} {rest : List Oper} {Q : Exit → Act → World → Prop} (hgd : o.guard = none) {v : Value} (hr : (execOp a.eval o).run P w = .ok (.value v) w) (h : wpList P ops Q rest (a.put o.dst v) w) : wpList P ops Q (o :: rest) a w := by
  refine wpList_plain hgd fun K hK => ?_
  unfold Oper.wp
  rw [hr]
  exact hK _ _ h
theorem ex_loadR (ty : TypeId) (x : Operand) (ho : o.op = .load ty x) (b k : Nat) (hx : a.eval x = .pointer (some ⟨b, k, none⟩)) (F : Array Value) (d : TypeDesc) (hc : w.rangeAt b k F.toList)
    (hu : P.underlying ty = some d) (hd : d.isRow = true) (hi : (P.info? ty).map (·.size) = some F.size) : (execOp a.eval o).run P w = .ok (.value (.agg F)) w := by
  unfold execOp
  simp only [ho, hx, Sem.run_bind, Sem.run_pure, Result.andThen_ok, run_loadAt_mid w b k ty F.toList d hc hu hd (by simpa using hi)]
theorem ex_binA (op : BinOp) (t : TypeId) (x y : Operand) (ho : o.op = .binOp op t x y t) (hop : op = .eql ∨ op = .neq) (xs ys : Array Value) (hx : a.eval x = .agg xs) (hy : a.eval y = .agg ys) (hm : P.eqGuardType P.depth t = false) (r : Bool) (hr : (binOp op t (.agg xs) (.agg ys)).run P w = .ok (.bool r) w) : (execOp a.eval o).run P w = .ok (.value (.bool r)) w := by
  unfold execOp
  rcases hop with rfl | rfl
  · simp only [ho, hx, hy, Sem.run_bind, Sem.run_pure, run_eqGuard_agg w _ _ _ _ _ _ hm, Result.andThen_ok, hr]
  · simp only [ho, hx, hy, Sem.run_bind, Sem.run_pure, run_eqGuard_agg w _ _ _ _ _ _ hm, Result.andThen_ok, hr]
theorem wpList_exW {ops : Array Oper} {rest : List Oper} {Q : Exit → Act → World → Prop} (hw : Region.wanted o (yielded ops a.tmps) = true) {v : Value} (hr : (execOp a.eval o).run P w = .ok (.value v) w) (h : wpList P ops Q rest (a.put o.dst v) w) : wpList P ops Q (o :: rest) a w :=
  wpList_step fun K hK => by
    rw [if_pos hw]
    unfold Oper.wp
    rw [hr]
    exact hK _ _ h
end
end Go.Proofs.YtbebgnjapenckaaGreatDoor.Exs

/- A piece that New makes. Printed by wip/sbn.py PnB. -/
namespace Go.Proofs.YtbebgnjapenckaaGreatDoor
open Go.RowKit Exs

def VC : Array Value := (List.replicate 48 (Value.int .u8 0) ++ [Value.int .i64 1, Value.int .i64 1, Value.int .i64 50, Value.int .i64 60]).toArray
def SHC : Array Value := #[.int .i64 1, .int .i64 1, .int .i64 50, .int .i64 60, .int .i64 2, .int .i64 10, .int .i64 50, .int .i64 10]
def PC (r : Nat) : Array Value := (Value.int .u8 1 :: (VC.toList ++ (SHC.toList ++ (Value.int .i64 0 :: Value.bool false :: (ZU.toList ++ [Value.slice none 0 0, Value.slice none 0 0, Value.slice (some ⟨r, 0, none⟩) 2 2, Value.int .i64 2]))))).toArray
theorem VC_build (W : World) : (Instr.build 34 #[(2, .int .i64 1), (3, .int .i64 1), (4, .int .i64 50), (5, .int .i64 60)]).run Tryz.prog W = .ok (.agg VC) W := by kernel_rfl
theorem PC_build (r : Nat) (W : World) : (Instr.build 44 #[(0, .int .u8 1), (1, .agg VC), (2, .agg SHC), (3, .int .i64 0), (8, .slice (some ⟨r, 0, none⟩) 2 2), (9, .int .i64 2)]).run Tryz.prog W = .ok (.agg (PC r)) W := by kernel_rfl
theorem make2 (W : World) : (Instr.makeSlice 42 (.int .i64 2) (.int .i64 2)).run Tryz.prog W = .ok (.slice (some ⟨W.heap.size, 0, none⟩) 2 2) (W.alloc (.cells #[.int .i64 0, .int .i64 0] 3)) := by kernel_rfl
theorem again_1 (w : World) : Calls Tryz.prog 13 #[.int .i64 1, .int .i64 1, .int .i64 50, .int .i64 60] w fun e w' => Below w.heap.size w w' ∧ e = .returned (.tuple #[.agg SHC, .int .i64 0]) := by
  refine (again_any 1 1 50 60 w (by omega) (by omega) (by omega) (by omega)).mono ?_
  rintro e w' ⟨hb, he⟩
  refine ⟨hb, he.trans ?_⟩
  rw [if_pos (show agOK 1 1 50 60 from ⟨by omega, by omega, by decide, by omega, by omega, by decide⟩)]
  rfl
set_option maxRecDepth 100000 in
set_option maxHeartbeats 2000000 in
theorem new_any (w : World) : Calls Tryz.prog 4 #[.agg VC, .int .i64 0] w fun e w' => Below w.heap.size w w' ∧ ∃ g, e = .returned (.tuple #[.pointer (some ⟨g, 0, none⟩), .int .i64 0]) ∧ w'.cell? ⟨g, 0, none⟩ = some (.int .u8 1) := by
  obtain ⟨vc, hvc, v0, v1, v2, v3, v4, v5⟩ : ∃ V, V = VC ∧ V.size = 52 ∧ V.all (·.oneCell') = true ∧ V[48]? = some (.int .i64 1) ∧ V[49]? = some (.int .i64 1) ∧ V[50]? = some (.int .i64 50) ∧ V[51]? = some (.int .i64 60) :=
    ⟨_, rfl, by kernel_rfl, by kernel_rfl, by kernel_rfl, by kernel_rfl, by kernel_rfl, by kernel_rfl⟩
  obtain ⟨sc, hsc, s0, s1, s4⟩ : ∃ V, V = SHC ∧ V.size = 8 ∧ V.all (·.oneCell') = true ∧ V[4]? = some (.int .i64 2) := ⟨_, rfl, by kernel_rfl, by kernel_rfl, by kernel_rfl⟩
  obtain ⟨pc, hpc, p0⟩ : ∃ P : Nat → Array Value, P = PC ∧ ∀ r, (P r)[0]? = some (.int .u8 1) := ⟨_, rfl, fun r => by kernel_rfl⟩
  have hbd := PC_build
  have QA := hide again_1
  rw [← hpc, ← hvc, ← hsc] at hbd
  rw [← hsc] at QA
  rw [← hvc]
  have HBD := hide hbd
  have n1 := Blk.new w 34 vc
  have b1 := (Below.refl w.heap.size w).alloc (Nat.le_refl _) (.cells vc 34)
  have HBK := hide (fun W (hW : Below (w.alloc (.cells vc 34)).heap.size (w.alloc (.cells vc 34)) W) => n1.below' hW)
  have c48 := n1.cell 48
  have c49 := n1.cell 49
  have c50 := n1.cell 50
  have c51 := n1.cell 51
  rw [v2] at c48
  rw [v3] at c49
  rw [v4] at c50
  rw [v5] at c51
  have HB := hide b1
  have HV := hide (And.intro v0 (And.intro v1 v3))
  have HS := hide (And.intro s0 (And.intro s1 s4))
  have HP := hide p0
  generalize hW0 : w.alloc (.cells vc 34) = W0 at *
  clear hvc v0 v1 v2 v3 v4 v5 hsc s0 s1 s4 hpc p0 hbd n1 b1
  go_enter Tryz.func4, Tryz.ntmps4
  go_wp2_with fail
  refine (QA.out _).mono ?_
  rintro e w1 ⟨b1, rfl⟩
  have B1 := hide b1
  clear b1 c48 c49 c50 c51 QA
  go_wp2_with (first
    | ((with_reducible change wpList _ _ _ (⟨none, .store _ (.tmp 6) _, _, _, _, _⟩ :: _) _ _); go_loud (refine wpList_store_row (o := ⟨none, .store _ (.tmp 6) _, _, _, _, _⟩) (Blk.new w1 _ _) (sc) (HS.out.1.trans (by kernel_rfl)) (HS.out.2.1) rfl 38 _ _ rfl (by rw [HS.out.1]; kernel_rfl) rfl rfl ?_; intro w2 hb2 hg2; have b2 : Below w1.heap.size w1 w2 := ((Below.refl _ w1).alloc (Nat.le_refl _) _).grown hg2 (by simp) (fun k hk => by cases hk; exact Nat.le_refl _); have H2 := hide (And.intro hb2 (Below.step B1.out b2)); have c49 := (HBK.out w2 H2.out.2).cell 49; rw [HV.out.2.2] at c49; clear hb2 hg2 b2)))
  have hv := HBK.out w2 H2.out.2
  have hs := H2.out.1
  generalize w1.heap.size = m at *
  have HVS := hide (And.intro hv hs)
  have hmk := make2
  have HC4 := hide (show ∀ W, Blk W m 38 sc → W.cell? ⟨m, 4, none⟩ = some (.int .i64 2) from fun W h => by rw [h.cell]; exact HS.out.2.2)
  clear hv hs c49
  go_wp2_with fail
  refine wp_region_held_drew (S := fun W => (Blk W w.heap.size 34 vc ∧ Blk W m 38 sc) ∧ Below w2.heap.size w2 W) (by kernel_rfl) ⟨HVS.out, (Below.refl _ _).drew⟩ (fun hHeld => ?_)
  refine wpAnyH_take (i := 0) (v := .agg vc) rfl (by kernel_rfl) (by kernel_rfl) (by kernel_rfl) (fun _ _ _ h => h) (Or.inl ⟨by rfl, ?_⟩) (by assumption) ?_
  · (intro W hW; exact ex_loadB 34 (.tmp 2) (by kernel_rfl) w.heap.size (by kernel_rfl) 34 vc _ hW.1.1 Tryz.underlying34 rfl (by rw [HV.out.1]; kernel_rfl))
  try simp only [Act.put, List.setIfInBounds_toArray, List.set_cons_zero, List.set_cons_succ, List.getElem_toArray, List.getElem_cons_succ, List.getElem_cons_zero]
  refine wpAnyH_take (i := 1) (v := .agg sc) rfl (by kernel_rfl) (by kernel_rfl) (by kernel_rfl) (fun _ _ _ h => h) (Or.inl ⟨by rfl, ?_⟩) (by assumption) ?_
  · (intro W hW; exact ex_loadB 38 (.tmp 6) (by kernel_rfl) m (by kernel_rfl) 38 sc _ hW.1.2 Tryz.underlying38 rfl (by rw [HS.out.1]; kernel_rfl))
  try simp only [Act.put, List.setIfInBounds_toArray, List.set_cons_zero, List.set_cons_succ, List.getElem_toArray, List.getElem_cons_succ, List.getElem_cons_zero]
  refine wpAnyH_take (i := 2) (v := ?_) rfl (by kernel_rfl) (by kernel_rfl) (by kernel_rfl) (fun _ _ _ h => h) (Or.inl ⟨by rfl, ?_⟩) (by assumption) ?_
  rotate_left
  · (intro w9 hSw; (try dsimp only at hSw); go_simp; try with_reducible rfl)
  try simp only [Act.put, List.setIfInBounds_toArray, List.set_cons_zero, List.set_cons_succ, List.getElem_toArray, List.getElem_cons_succ, List.getElem_cons_zero]
  refine wpAnyH_take (i := 3) (v := ?_) rfl (by kernel_rfl) (by kernel_rfl) (by kernel_rfl) (fun _ _ _ h => h) (Or.inl ⟨by rfl, ?_⟩) (by assumption) ?_
  rotate_left
  · (intro w9 hSw; (try dsimp only at hSw); go_simp; try with_reducible rfl)
  try simp only [Act.put, List.setIfInBounds_toArray, List.set_cons_zero, List.set_cons_succ, List.getElem_toArray, List.getElem_cons_succ, List.getElem_cons_zero]
  refine wpAnyH_take (i := 4) (v := .int .i64 2) rfl (by kernel_rfl) (by kernel_rfl) (by kernel_rfl) (fun _ _ _ h => h) (Or.inl ⟨by rfl, ?_⟩) (by assumption) ?_
  · (intro W hW; exact ex_loadI 3 (.tmp 33) (by kernel_rfl) ⟨m, 4, none⟩ (by kernel_rfl) _ .i64 (HC4.out W hW.1.2) Tryz.underlying3)
  try simp only [Act.put, List.setIfInBounds_toArray, List.set_cons_zero, List.set_cons_succ, List.getElem_toArray, List.getElem_cons_succ, List.getElem_cons_zero]
  refine wpAnyH_take (i := 6) (v := ?_) rfl (by kernel_rfl) (by kernel_rfl) (by kernel_rfl) (fun _ _ _ h => h) (Or.inl ⟨by rfl, ?_⟩) (by assumption) ?_
  rotate_left
  · (intro w9 hSw; (try dsimp only at hSw); go_simp; try with_reducible rfl)
  try simp only [Act.put, List.setIfInBounds_toArray, List.set_cons_zero, List.set_cons_succ, List.getElem_toArray, List.getElem_cons_succ, List.getElem_cons_zero]
  refine wpAnyH_take (i := 7) (v := .int .i64 2) rfl (by kernel_rfl) (by kernel_rfl) (by kernel_rfl) (fun _ _ _ h => h) (Or.inl ⟨by rfl, ?_⟩) (by assumption) ?_
  · (intro W hW; exact ex_loadI 3 (.tmp 36) (by kernel_rfl) ⟨m, 4, none⟩ (by kernel_rfl) _ .i64 (HC4.out W hW.1.2) Tryz.underlying3)
  try simp only [Act.put, List.setIfInBounds_toArray, List.set_cons_zero, List.set_cons_succ, List.getElem_toArray, List.getElem_cons_succ, List.getElem_cons_zero]
  refine wpAnyH_ready (rs := [5]) (by kernel_rfl) (by simp) ?_
  refine AllReadyH.cons rfl (fun K hK => ?_) AllReadyH.nil
  go_simp
  have b3 := ((Below.refl _ w2).alloc (Nat.le_refl _) (.cells #[.int .i64 0, .int .i64 0] 3)).drew
  obtain ⟨w3, hw3⟩ : ∃ W, W = (w2.alloc (.cells #[.int .i64 0, .int .i64 0] 3)).drew := ⟨_, rfl⟩
  rw [← hw3] at b3 ⊢
  have B3 := hide b3
  clear hw3 b3 hmk
  refine hK.out _ _ (⟨⟨HVS.out.1.below' B3.out, HVS.out.2.below' B3.out⟩, B3.out⟩) (fun hHeld => ?_)
  clear hK K
  try simp only [Act.put, List.setIfInBounds_toArray, List.set_cons_zero, List.set_cons_succ, List.getElem_toArray, List.getElem_cons_succ, List.getElem_cons_zero]
  refine wpAnyH_take (i := 8) (v := .agg (pc w2.heap.size)) rfl (by kernel_rfl) (by kernel_rfl) (by kernel_rfl) (fun _ _ _ h => h) (Or.inl ⟨by rfl, ?_⟩) (by assumption) ?_
  · (intro W hW; exact ex_buildV 44 _ rfl #[(0, .int .u8 1), (1, .agg vc), (2, .agg sc), (3, .int .i64 0), (8, .slice (some ⟨w2.heap.size, 0, none⟩) 2 2), (9, .int .i64 2)] (by kernel_rfl) _ (HBD.out _ W))
  try simp only [Act.put, List.setIfInBounds_toArray, List.set_cons_zero, List.set_cons_succ, List.getElem_toArray, List.getElem_cons_succ, List.getElem_cons_zero]
  refine wpAnyH_ready (rs := [9]) (by kernel_rfl) (by simp) ?_
  refine AllReadyH.cons rfl (fun K hK => ?_) AllReadyH.nil
  go_simp
  have n4 := (Blk.new w3 44 (pc w2.heap.size)).cell 0
  rw [HP.out] at n4
  have b4 := B3.out.alloc B3.out.size (.cells (pc w2.heap.size) 44)
  obtain ⟨w4, hw4⟩ : ∃ W, W = w3.alloc (.cells (pc w2.heap.size) 44) := ⟨_, rfl⟩
  rw [← hw4] at n4 b4 ⊢
  have B4 := hide b4
  have N4 := hide n4
  clear hw4 b4 n4
  refine hK.out _ _ (⟨⟨HVS.out.1.below' B4.out, HVS.out.2.below' B4.out⟩, B4.out⟩) (fun hHeld => ?_)
  clear hK K
  try simp only [Act.put, List.setIfInBounds_toArray, List.set_cons_zero, List.set_cons_succ, List.getElem_toArray, List.getElem_cons_succ, List.getElem_cons_zero]
  refine wpAnyH_take (i := 10) (v := ?_) rfl (by kernel_rfl) (by kernel_rfl) (by kernel_rfl) (fun _ _ _ h => h) (Or.inl ⟨by rfl, ?_⟩) (by assumption) ?_
  rotate_left
  · (intro w9 hSw; (try dsimp only at hSw); go_simp; try with_reducible rfl)
  try simp only [Act.put, List.setIfInBounds_toArray, List.set_cons_zero, List.set_cons_succ, List.getElem_toArray, List.getElem_cons_succ, List.getElem_cons_zero]
  refine wpAnyH_take (i := 11) (v := ?_) rfl (by kernel_rfl) (by kernel_rfl) (by kernel_rfl) (fun _ _ _ h => h) (Or.inl ⟨by rfl, ?_⟩) (by assumption) ?_
  rotate_left
  · (intro w9 hSw; (try dsimp only at hSw); go_simp; try with_reducible rfl)
  try simp only [Act.put, List.setIfInBounds_toArray, List.set_cons_zero, List.set_cons_succ, List.getElem_toArray, List.getElem_cons_succ, List.getElem_cons_zero]
  refine wpAnyH_done (by kernel_rfl) ?_ _
  go_wp2
  go_ret2
  exact ⟨Below.step HB.out (Below.step H2.out.2 B4.out), w3.heap.size, rfl, N4.out⟩
end Go.Proofs.YtbebgnjapenckaaGreatDoor

/- The law PieceNone. Printed by wip/sbn.py PnC. -/
namespace Go.Proofs.YtbebgnjapenckaaGreatDoor
open Go.RowKit Exs

def ZP : Array Value := (Value.int .u8 0 :: (List.replicate 48 (Value.int .u8 0) ++ (List.replicate 4 (Value.int .i64 0) ++ (List.replicate 8 (Value.int .i64 0) ++ (Value.int .i64 0 :: Value.bool false :: (ZU.toList ++ [Value.slice none 0 0, Value.slice none 0 0, Value.slice none 0 0, Value.int .i64 0])))))).toArray
theorem ZP_zero : Tryz.zeroCells44 = ZP := by kernel_rfl
theorem ZP_0 : ZP[0]? = some (.int .u8 0) := by kernel_rfl
set_option maxRecDepth 100000 in
set_option maxHeartbeats 4000000 in
theorem law_none (on kd j : Int) (B : Option Addr) (nb cb : Nat) (w : World) :
    Calls Tryz.prog 3 #[.agg #[.int .i64 on, .int .i64 kd, .int .i64 j, .slice B nb cb]] w fun e w' => e = .returned (.bool true) ∧ Below w.heap.size w w' := by
  have n1 := Blk.new w 24 #[.int .i64 on, .int .i64 kd, .int .i64 j, .slice B nb cb]
  have b1 := (Below.refl w.heap.size w).alloc (Nat.le_refl _) (.cells #[.int .i64 on, .int .i64 kd, .int .i64 j, .slice B nb cb] 24)
  have HC := hide (fun W (hW : Below (w.alloc (.cells #[.int .i64 on, .int .i64 kd, .int .i64 j, .slice B nb cb] 24)).heap.size (w.alloc (.cells #[.int .i64 on, .int .i64 kd, .int .i64 j, .slice B nb cb] 24)) W) =>
    (show W.cell? ⟨w.heap.size, 2, none⟩ = some (.int .i64 j) ∧ W.cell? ⟨w.heap.size, 3, none⟩ = some (.slice B nb cb) from ⟨(n1.below' hW).cell 2, (n1.below' hW).cell 3⟩))
  have HB := hide b1
  generalize hW0 : w.alloc (.cells #[.int .i64 on, .int .i64 kd, .int .i64 j, .slice B nb cb] 24) = W0 at *
  clear n1 b1
  obtain ⟨zp, hzp, hp0⟩ : ∃ Z, Z = ZP ∧ Z[0]? = some (.int .u8 0) := ⟨_, rfl, ZP_0⟩
  have hz := ZP_zero
  rw [← hzp] at hz
  have HP := hide hp0
  clear hzp hp0
  obtain ⟨zu, hzu, hz1, hz2⟩ : ∃ Z, Z = ZU ∧ Z.size = 68 ∧ Z.all (·.oneCell') = true := ⟨_, rfl, ZU_size, ZU_one⟩
  obtain ⟨zd, hzd, hz3, hz4⟩ : ∃ Z, Z = ZD ∧ Z.size = 32 ∧ Z.all (·.oneCell') = true := ⟨_, rfl, ZD_size, ZD_one⟩
  have hzl : (#[.int .u8 0, .int .u8 0, .int .u8 0, .int .u8 0, .int .u8 0, .int .u8 0, .int .u8 0, .int .u8 0, .int .u8 0, .int .u8 0, .int .u8 0, .int .u8 0, .int .u8 0, .int .u8 0, .int .u8 0, .int .u8 0, .int .u8 0, .int .u8 0, .int .u8 0, .int .u8 0, .int .u8 0, .int .u8 0, .int .u8 0, .int .u8 0, .int .u8 0, .int .u8 0, .int .u8 0, .int .u8 0, .int .u8 0, .int .u8 0, .int .u8 0, .int .u8 0] : Array Value) = ZD := rfl
  have QU := hide ueb_none
  have QD := hide segment_none
  have hbu := ZU_build
  have hbd := ZD_build
  have hnu := ZU_neq
  have hnd := ZD_neq
  have hzu0 := ZU_zero
  rw [← hzu] at QU hbu hnu hzu0
  rw [← hzd] at QD hbd hnd hzl
  have HZ := hide (And.intro (And.intro hz1 hz2) (And.intro hz3 hz4))
  have HE := hide (And.intro (And.intro hbu hnu) (And.intro hbd hnd))
  clear hzu hzd hz1 hz2 hz3 hz4 hbu hbd hnu hnd
  go_enter Tryz.func3, Tryz.ntmps3
  go_wp2_with fail
  refine (new_any W0).mono ?_
  rintro e w1 ⟨b1, g, rfl, hg⟩
  have B1 := hide b1
  have QS := hide (stage_made g w1 hg)
  clear b1 hg
  go_wp2_with fail
  refine QS.out.mono ?_
  rintro e _ ⟨rfl, rfl⟩
  clear QS
  have n2 := Blk.new w1 44 zp
  have n2' := n2.alloc (.cells #[.pointer none, .pointer (some ⟨w1.heap.size, 0, none⟩)] 25)
  have n3 := Blk.new (w1.alloc (.cells zp 44)) 25 #[.pointer none, .pointer (some ⟨w1.heap.size, 0, none⟩)]
  simp only [World.size_alloc] at n3
  have b3 := ((Below.refl _ w1).alloc (Nat.le_refl _) (.cells zp 44)).alloc (by simp) (.cells #[.pointer none, .pointer (some ⟨w1.heap.size, 0, none⟩)] 25)
  have HL := hide (fun W (hW : Below ((w1.alloc (.cells zp 44)).alloc (.cells #[.pointer none, .pointer (some ⟨w1.heap.size, 0, none⟩)] 25)).heap.size ((w1.alloc (.cells zp 44)).alloc (.cells #[.pointer none, .pointer (some ⟨w1.heap.size, 0, none⟩)] 25)) W) =>
    (show W.cell? ⟨w1.heap.size + 1, 0, none⟩ = some (.pointer none) ∧ W.cell? ⟨w1.heap.size + 1, 1, none⟩ = some (.pointer (some ⟨w1.heap.size, 0, none⟩)) ∧ NoP W (.pointer (some ⟨w1.heap.size, 0, none⟩)) from
      ⟨(n3.below' hW).cell 0, (n3.below' hW).cell 1, .inr ⟨_, rfl, (n2'.below' hW).lt, by rw [(n2'.below' hW).cell]; exact HP.out⟩⟩))
  have B2 := hide (Below.step B1.out b3)
  clear n2 n2' n3 b3
  go_wp2_with fail
  generalize hW2 : (w1.alloc (.cells zp 44)).alloc (.cells #[.pointer none, .pointer (some ⟨w1.heap.size, 0, none⟩)] 25) = W2 at *
  go_loopw [7] (fun u7 wr => ∃ k : Nat, k ≤ 2 ∧ u7 = .int .i64 (k : Int) ∧ Below W2.heap.size W2 wr) (fun u7 _ => 2 - (intOf u7).toNat)
  case atStart => exact ⟨0, by omega, rfl, Below.refl _ _⟩
  case round =>
    obtain ⟨k, hk, rfl, hbel⟩ := hrel
    have HBL := hide hbel
    obtain ⟨l1, l2, l3⟩ := HL.out wr hbel
    clear hbel
    by_cases hlt : k < 2
    · obtain ⟨v, hv, hnp⟩ : ∃ v, wr.cell? ⟨w1.heap.size + 1, k, none⟩ = some v ∧ NoP wr v := by
        rcases (by omega : k = 0 ∨ k = 1) with rfl | rfl
        · exact ⟨_, l1, .inl rfl⟩
        · exact ⟨_, l2, l3⟩
      have c2 := (HC.out wr (Below.step B2.out HBL.out)).1
      have c3 := (HC.out wr (Below.step B2.out HBL.out)).2
      have HNP := hide hnp
      have HV := hide hv
      clear l1 l2 l3 hnp
      have j1 : (k : Int) < 2 := by omega
      have j2 : (0 : Int) ≤ (k : Int) := by omega
      go_wp2_with (first
        | (go_at_call 6; refine (front_none v wr HNP.out).mono ?_; rintro e _ ⟨rfl, rfl⟩)
        | (go_at_call 7; refine (want_none v _ _ HNP.out).mono ?_; rintro e _ ⟨rfl, rfl⟩)
        | (go_at_call 8; refine (take_none v _ _ _ HNP.out).mono ?_; rintro e _ ⟨rfl, rfl⟩))
      refine (QU.out v wr HNP.out).mono ?_
      rintro e x3 ⟨q3, rfl⟩
      have B3 := hide q3
      clear q3 c2 c3
      go_wp2_with (first
        | ((with_reducible change wpList _ _ _ (⟨none, .store _ (.tmp 15) _, _, _, _, _⟩ :: _) _ _); go_loud (refine wpList_store_row (o := ⟨none, .store _ (.tmp 15) _, _, _, _, _⟩) (Blk.new x3 _ _) (zu) (rfl) (HZ.out.1.2) rfl 40 _ _ rfl (by rw [HZ.out.1.1]; kernel_rfl) rfl rfl ?_; intro x4 hb9 hg9; have q4 : Below x3.heap.size x3 x4 := ((Below.refl _ x3).alloc (Nat.le_refl _) _).grown hg9 (by simp) (fun k hk => by cases hk; exact Nat.le_refl _); have K4 := hide hb9; have B4 := hide (Below.step B3.out q4); have c2 := (HC.out x4 (Below.step B2.out (Below.step HBL.out B4.out))).1; clear hb9 hg9 q4)))
      refine (QD.out v _ x4 (HNP.out.below B4.out)).mono ?_
      rintro e x5 ⟨q5, rfl⟩
      have K5 := hide (K4.out.below' q5)
      have B5 := hide (Below.step B4.out q5)
      clear q5 c2
      generalize x3.heap.size = gu at *
      go_wp2_with (first
        | ((with_reducible change wpList _ _ _ (⟨none, .store _ (.tmp 17) _, _, _, _, _⟩ :: _) _ _); go_loud (refine wpList_store_row (o := ⟨none, .store _ (.tmp 17) _, _, _, _, _⟩) (Blk.new x5 _ _) (zd) (rfl) (HZ.out.2.2) rfl 32 _ _ rfl (by rw [HZ.out.2.1]; kernel_rfl) rfl rfl ?_; intro x6 hb9 hg9; have q6 : Below x5.heap.size x5 x6 := ((Below.refl _ x5).alloc (Nat.le_refl _) _).grown hg9 (by simp) (fun k hk => by cases hk; exact Nat.le_refl _); have K6 := hide (And.intro hb9 (K5.out.below' q6)); have B6 := hide (Below.step B5.out q6); have c2 := (HC.out x6 (Below.step B2.out (Below.step HBL.out B6.out))).1; have c3 := (HC.out x6 (Below.step B2.out (Below.step HBL.out B6.out))).2; clear hb9 hg9 q6))
        | ((with_reducible change wpList _ _ _ (⟨some 91, _, _, _, _, _⟩ :: _) _ _); go_loud (refine wpList_exW (o := ⟨some 91, .load _ _, _, _, _, _⟩) (by rfl) (ex_loadB 40 (.tmp 15) rfl gu rfl 40 zu _ K6.out.2 Tryz.underlying40 rfl (by rw [HZ.out.1.1]; kernel_rfl)) ?_; refine wpList_exW (o := ⟨some 92, .build _ _, _, _, _, _⟩) (by rfl) (ex_buildV 40 #[] rfl #[] (by kernel_rfl) _ (HE.out.1.1 _)) ?_; refine wpList_exW (o := ⟨some 93, .binOp _ _ _ _ _, _, _, _, _⟩) (by rfl) (ex_binA .neq 40 (.tmp 91) (.tmp 92) rfl (.inr rfl) zu zu rfl rfl (by kernel_rfl) false (HE.out.1.2 _)) ?_))
        | ((with_reducible change wpList _ _ _ (⟨some 96, _, _, _, _, _⟩ :: _) _ _); go_loud (refine wpList_exW (o := ⟨some 96, .load _ _, _, _, _, _⟩) (by rfl) (ex_loadB 32 (.tmp 17) rfl x5.heap.size rfl 32 zd _ K6.out.1 Tryz.underlying32 rfl (by rw [HZ.out.2.1]; kernel_rfl)) ?_; refine wpList_exW (o := ⟨some 97, .build _ _, _, _, _, _⟩) (by rfl) (ex_buildV 32 #[] rfl #[] (by kernel_rfl) _ (HE.out.2.1 _)) ?_; refine wpList_exW (o := ⟨some 98, .binOp _ _ _ _ _, _, _, _, _⟩) (by rfl) (ex_binA .neq 32 (.tmp 96) (.tmp 97) rfl (.inr rfl) zd zd rfl rfl (by kernel_rfl) false (HE.out.2.2 _)) ?_))
        | (go_at_call 11; refine (has_none v _ _ (HNP.out.below B6.out)).mono ?_; rintro e _ ⟨rfl, rfl⟩)
        | (go_at_call 5; refine (stage_none v _ (HNP.out.below B6.out)).mono ?_; rintro e _ ⟨rfl, rfl⟩)
        | (go_at_call 12; refine (popen_none v _ _ (HNP.out.below B6.out)).mono ?_; rintro e _ ⟨rfl, rfl⟩))
      go_roundw
      case rel => exact ⟨k + 1, by omega, by go_num, Below.step HBL.out B6.out⟩
      case measure => simp [intOf]; omega
    · have hk2 : k = 2 := by omega
      subst hk2
      go_wp2
      go_ret
      exact ⟨rfl, Below.step HB.out (Below.step B2.out HBL.out)⟩
end Go.Proofs.YtbebgnjapenckaaGreatDoor

/- From the reading of an argument to what the walks are told of it. -/
namespace Go.Proofs.YtbebgnjapenckaaGreatDoor
open Go.RowKit

theorem cell_lt {w : World} {a : Addr} {v : Value} (h : w.cell? a = some v) : a.block < w.heap.size := by
  rcases Nat.lt_or_ge a.block w.heap.size with h1 | h1
  · exact h1
  · simp [World.cell?, Array.getElem?_eq_none h1] at h

/-- A slice of bytes that came in. -/
theorem by_of_row {w : World} {a : Addr} {len cap : Nat} {zs : List Int} (hl : len ≤ cap) (hm : cap ≤ maxLen) (hz : zs.length = cap)
    (hcell : ∀ i, i < zs.length → w.cell? (a.add i) = some (.int .u8 (zs.getD i 0))) (hwz : ∀ n ∈ zs, (Lit.int .u8 n).wf = true) :
    ∃ l : List UInt8, l.length = len ∧ By w (.slice (some a) len cap) l := by
  refine ⟨(zs.take len).map fun z => UInt8.ofNat z.toNat, by simp; omega, ?_, some a, cap, by simp; omega, by simp; omega, hm, fun h0 => ?_⟩
  · simp
  · obtain ⟨b, o, sp⟩ := a
    simp only [List.length_map, List.length_take] at h0
    have h1 := hcell 0 (by omega)
    have hsp : sp = none := by simpa [Addr.add] using World.cell?_spot h1
    subst hsp
    refine ⟨b, o, rfl, cell_lt (a := ⟨b, o, none⟩) (by simpa [Addr.add] using h1), fun j hj => ?_⟩
    simp only [List.length_map, List.length_take, Nat.mul_one] at hj
    have hc := hcell j (by omega)
    rw [Addr.add_mid] at hc
    rw [hc, bcells_get, List.getElem?_map, List.getElem?_take_of_lt (by omega), List.getElem?_eq_getElem (by omega)]
    have hw := hwz zs[j] (List.getElem_mem (by omega))
    have hb : 0 ≤ zs[j] ∧ zs[j] ≤ 255 := by simpa [Lit.wf, IntKind.min, IntKind.max, IntKind.bits, IntKind.signed] using hw
    simp only [Option.map_some, Option.some.injEq, Value.int.injEq, true_and]
    rw [List.getD_eq_getElem?_getD, List.getElem?_eq_getElem (by omega), Option.getD_some, UInt8.toNat_ofNat']
    omega

end Go.Proofs.YtbebgnjapenckaaGreatDoor

/- What the bound of an Upto statement gives: of each argument that it is small. -/
namespace Go.Proofs.YtbebgnjapenckaaGreatDoor.bulks

theorem one_le {H : Type} (d : DataW H) : 1 ≤ Rows.uptoBulk d := by
  cases d with
  | lit l => cases l <;> simp [Rows.uptoBulk]
  | nil => simp [Rows.uptoBulk]
  | ptr d => simp [Rows.uptoBulk]
  | slice a b => simp [Rows.uptoBulk]
  | agg a => simp [Rows.uptoBulk]
  | iface t d => simp [Rows.uptoBulk]
  | map a => simp [Rows.uptoBulk]
  | held h => simp [Rows.uptoBulk]
theorem in_all {H : Type} {d : DataW H} {l : List (DataW H)} (h : d ∈ l) : Rows.uptoBulk d ≤ Rows.uptoBulkAll l := by
  induction l with
  | nil => cases h
  | cons x r ih =>
    simp only [Rows.uptoBulkAll]
    rcases List.mem_cons.1 h with e | e
    · subst e; omega
    · have := ih e; omega
theorem count_le {H : Type} (l : List (DataW H)) : l.length ≤ Rows.uptoBulkAll l := by
  induction l with
  | nil => simp [Rows.uptoBulkAll]
  | cons x r ih => have := one_le x; simp only [Rows.uptoBulkAll, List.length_cons]; omega
theorem slice_le {H : Type} (a b : List (DataW H)) : a.length + b.length + 1 ≤ Rows.uptoBulk (.slice a b) := by
  have h1 := count_le a
  have h2 := count_le b
  simp only [Rows.uptoBulk]
  omega
theorem elems_le {H : Type} (a b : List (DataW H)) : Rows.uptoBulkAll a + 1 ≤ Rows.uptoBulk (.slice a b) := by
  simp only [Rows.uptoBulk]; omega
theorem string_eq {H : Type} (b : List UInt8) : Rows.uptoBulk (DataW.lit (H := H) (.string b)) = b.length + 1 := by simp [Rows.uptoBulk]
/-- Each part of what is read is within the bound. -/
theorem part {H : Type} {l : List (DataW H)} (hk : Rows.uptoSmall H l = true) {d : DataW H} (h : d ∈ l) : Rows.uptoBulk d ≤ 1048576 :=
  Nat.le_trans (in_all h) (of_decide_eq_true hk)
end Go.Proofs.YtbebgnjapenckaaGreatDoor.bulks

/- An Act of layer 25 that came in, as the walk of PieceNone is told of it. -/
namespace Go.Proofs.YtbebgnjapenckaaGreatDoor
open Go.RowKit Go.ChangeShapes Go.WideShapes

theorem cut_list1 {α : Type} (l : List α) (i : Nat) : l.drop i = (l.drop i).take 1 ++ l.drop (i + 1) := by
  rw [← List.drop_drop, List.take_append_drop]
set_option maxRecDepth 10000
section
variable {H : Type} {enc : TypeId × Value → H} {w : World} {base : Nat} {spare : Nat → Bool} {held : Bool}
theorem bytes_cell {cs : List Value} {fuel : Nat} {x : DataW H × List MemPlace} (h : DataW.trod enc Tryz.prog w base spare held fuel 22 cs = some x) : ∃ A n c, cs = [.slice A n c] := by
  rcases open_ints Tryz.underlying22 Tryz.underlying5 (by kernel_rfl) h with ⟨g1, _⟩ | ⟨y, yl, yc, zs, g1, _⟩
  · exact ⟨_, _, _, g1⟩
  · exact ⟨_, _, _, g1⟩
theorem act_of {cs : List Value} {fuel : Nat} {x : DataW H × List MemPlace} (h : DataW.trod enc Tryz.prog w base spare held fuel 24 cs = some x) :
    ∃ (on kd j : Int) (A : Option Addr) (n c : Nat), cs = [.int .i64 on, .int .i64 kd, .int .i64 j, .slice A n c] := by
  obtain ⟨xs, m, rfl, hx, hl, hxl, hf⟩ := DataW.trod_struct Tryz.underlying24 h
  rw [show Tryz.prog.cellsOf 24 = 4 by kernel_rfl] at hl
  have c1 : Tryz.prog.cellsOf 3 = 1 := by kernel_rfl
  have c2 : Tryz.prog.cellsOf 22 = 1 := by kernel_rfl
  have hx4 : xs.length = 4 := hxl
  have get : ∀ i, i < 4 → ∃ y, xs[i]? = some y := fun i hi => ⟨_, List.getElem?_eq_getElem (by omega)⟩
  obtain ⟨y0, g0⟩ := get 0 (by omega)
  obtain ⟨y1, g1⟩ := get 1 (by omega)
  obtain ⟨y2, g2⟩ := get 2 (by omega)
  obtain ⟨y3, g3⟩ := get 3 (by omega)
  have f0 : DataW.trod enc Tryz.prog w base spare held m 3 ((cs.drop 0).take (Tryz.prog.cellsOf 3)) = some y0 := (hf 0 _ rfl).trans g0
  have f1 : DataW.trod enc Tryz.prog w base spare held m 3 ((cs.drop 1).take (Tryz.prog.cellsOf 3)) = some y1 := (hf 1 _ rfl).trans g1
  have f2 : DataW.trod enc Tryz.prog w base spare held m 3 ((cs.drop 2).take (Tryz.prog.cellsOf 3)) = some y2 := (hf 2 _ rfl).trans g2
  have f3 : DataW.trod enc Tryz.prog w base spare held m 22 ((cs.drop 3).take (Tryz.prog.cellsOf 22)) = some y3 := (hf 3 _ rfl).trans g3
  rw [c1] at f0 f1 f2
  rw [c2] at f3
  obtain ⟨z0, e0, _, w0⟩ := DataW.trod_int Tryz.underlying3 f0
  obtain ⟨z1, e1, _, w1⟩ := DataW.trod_int Tryz.underlying3 f1
  obtain ⟨z2, e2, _, w2⟩ := DataW.trod_int Tryz.underlying3 f2
  obtain ⟨A, n, c, e3⟩ := bytes_cell f3
  refine ⟨z0, z1, z2, A, n, c, ?_⟩
  have a0 := cut_list1 cs 0
  have a1 := cut_list1 cs 1
  have a2 := cut_list1 cs 2
  have a3 := cut_list1 cs 3
  rw [e0] at a0
  rw [e1] at a1
  rw [e2] at a2
  rw [e3, show 3 + 1 = 4 from rfl, List.drop_eq_nil_of_le (show cs.length ≤ 4 by omega), List.append_nil] at a3
  rw [show 2 + 1 = 3 from rfl, a3] at a2
  rw [show 1 + 1 = 2 from rfl, a2] at a1
  rw [show 0 + 1 = 1 from rfl, a1] at a0
  rw [List.drop_zero] at a0
  exact a0
theorem open_act {v : Value} {d : DataW H} {p : List MemPlace} {r : Reach} {b0 : Nat} {P' : World} (hv : Value.okWide Tryz.prog P' r b0 24 v) (h : DataW.Trod enc Tryz.prog w base spare held 24 v d p) :
    ∃ (on kd j : Int) (A : Option Addr) (n c : Nat), v = .agg #[.int .i64 on, .int .i64 kd, .int .i64 j, .slice A n c] := by
  obtain ⟨cs, rfl, _⟩ := okWide_struct Tryz.underlying24 hv
  obtain ⟨fuel, hf⟩ := h
  obtain ⟨on, kd, j, A, n, c, h1⟩ := act_of hf
  refine ⟨on, kd, j, A, n, c, ?_⟩
  have h2 : cs.toList.toArray = cs := Array.toArray_toList
  rw [← h2]
  exact congrArg (fun l => Value.agg l.toArray) h1
end
end Go.Proofs.YtbebgnjapenckaaGreatDoor
