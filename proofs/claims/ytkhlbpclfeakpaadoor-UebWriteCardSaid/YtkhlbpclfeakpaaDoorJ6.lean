/- Joined texts: RdQM. -/
import Derived.Test.YtkhlbpclfeakpaaDoorJ4
import Derived.Stop.BytesEq

/- Joined texts: RdM, RdP, RdQ. -/

/- Plain: a Ueb's digests, byte by byte. -/
namespace Go.Proofs.YtkhlbpclfeakpaaDoor
open Go.RowKit

def mix (i : Nat) (v : List UInt8) : List UInt8 := v.take i ++ List.replicate (32 - i) 0
theorem mix_zero (v : List UInt8) : mix 0 v = List.replicate 32 0 := by simp [mix]
theorem mix_all {v : List UInt8} (h : v.length = 32) : mix 32 v = v := by
  unfold mix; rw [List.take_of_length_le (by omega)]; simp
theorem mix_len {v : List UInt8} (h : v.length = 32) {i : Nat} (hi : i ≤ 32) : (mix i v).length = 32 := by
  unfold mix; simp; omega
theorem mix_set {v : List UInt8} (h : v.length = 32) {i : Nat} (hi : i < 32) {x : UInt8} (hx : v[i]? = some x) : (mix i v).set i x = mix (i + 1) v := by
  unfold mix
  rw [List.set_append_right _ _ (by rw [List.length_take]; omega), List.length_take, show i - min i v.length = 0 by omega, show 32 - i = (32 - (i + 1)) + 1 by omega, List.replicate_succ, List.set_cons_zero, List.take_add_one, hx]
  simp
theorem bcells_set (l : List UInt8) (i : Nat) (x : UInt8) : (bcells l).set i (.int .u8 (x.toNat : Int)) = bcells (l.set i x) := by
  unfold bcells
  rw [List.map_set]
theorem sh_set (k n seg size : Int) (sh sg : List UInt8) (h : sh.length = 32) (i : Nat) (hi : i < 32) (x : UInt8) :
    (US.cells ⟨k, n, seg, size, sh, sg⟩).setIfInBounds (4 + i) (.int .u8 (x.toNat : Int)) = US.cells ⟨k, n, seg, size, sh.set i x, sg⟩ := by
  unfold US.cells uebC
  simp only [List.setIfInBounds_toArray]
  congr 1
  rw [show 4 + i = i + 1 + 1 + 1 + 1 by omega]
  simp only [List.set_cons_succ]
  rw [List.set_append_left _ _ (by simp; omega), bcells_set]
theorem sg_set (k n seg size : Int) (sh sg : List UInt8) (h : sh.length = 32) (i : Nat) (hi : i < 32) (x : UInt8) :
    (US.cells ⟨k, n, seg, size, sh, sg⟩).setIfInBounds (36 + i) (.int .u8 (x.toNat : Int)) = US.cells ⟨k, n, seg, size, sh, sg.set i x⟩ := by
  unfold US.cells uebC
  simp only [List.setIfInBounds_toArray]
  congr 1
  rw [show 36 + i = (32 + i) + 1 + 1 + 1 + 1 by omega]
  simp only [List.set_cons_succ]
  rw [List.set_append_right _ _ (by simp; omega), bcells_length, h, show 32 + i - 32 = i by omega, bcells_set]

/-- The struct after i rounds. -/
def mixU (n0 n1 n2 n5 : Int) (w3 w4 : List UInt8) (i : Nat) : US := ⟨n0, n1, n2, n5, mix i w4, mix i w3⟩
theorem mixU_step {n0 n1 n2 n5 : Int} {w3 w4 : List UInt8} (h3 : w3.length = 32) (h4 : w4.length = 32) {i : Nat} (hi : i < 32) {x y : UInt8} (hx : w3[i]? = some x) (hy : w4[i]? = some y) :
    ((mixU n0 n1 n2 n5 w3 w4 i).cells.setIfInBounds (36 + i) (.int .u8 (x.toNat : Int))).setIfInBounds (4 + i) (.int .u8 (y.toNat : Int)) = (mixU n0 n1 n2 n5 w3 w4 (i + 1)).cells := by
  unfold mixU
  rw [sg_set _ _ _ _ _ _ (mix_len h4 (by omega)) i hi, sh_set _ _ _ _ _ _ (mix_len h4 (by omega)) i hi, mix_set h3 hi hx, mix_set h4 hi hy]
theorem mixU_zero (n0 n1 n2 n5 : Int) (w3 w4 : List UInt8) : (mixU n0 n1 n2 n5 w3 w4 0).cells = uebC n0 n1 n2 n5 (bcells (List.replicate 32 0) ++ bcells (List.replicate 32 0)) := by
  unfold mixU US.cells; rw [mix_zero, mix_zero]
theorem mixU_all (n0 n1 n2 n5 : Int) {w3 w4 : List UInt8} (h3 : w3.length = 32) (h4 : w4.length = 32) : mixU n0 n1 n2 n5 w3 w4 32 = ⟨n0, n1, n2, n5, w4, w3⟩ := by
  unfold mixU; rw [mix_all h3, mix_all h4]
theorem mixU_wf (n0 n1 n2 n5 : Int) {w3 w4 : List UInt8} (h3 : w3.length = 32) (h4 : w4.length = 32) {i : Nat} (hi : i ≤ 32) : (mixU n0 n1 n2 n5 w3 w4 i).wf := ⟨mix_len h4 hi, mix_len h3 hi⟩
theorem storeVar_one {ty : TypeId} {a : Addr} {v : Value} (h : v.oneCell' = true) : storeVar ty a v = storeVar ty a (.agg #[v]) := by
  have hc : v.cells = #[v] := by cases v <;> first | rfl | cases h
  unfold storeVar
  rw [hc]
  rfl
/-- A cell of a block is stored. -/
theorem wpList_store_blk {P : Program} {ops : Array Oper} {rest : List Oper} {o : Oper} {a : Act} {w : World} {Q : Exit → Act → World → Prop} {g : Nat} {t : TypeId} {old : Array Value} (hb : Blk w g t old) (j : Nat) (hj : j < old.size) (v : Value)
    (h1 : v.oneCell' = true) (hgd : o.guard = none) (ty : TypeId) (x y : Operand) (ho : o.op = .store ty x y)
    (hi : (P.info? ty).map (·.size) = some 1) (hx : a.eval x = .pointer (some ⟨g, j, none⟩)) (hy : a.eval y = v)
    (h : ∀ w', Blk w' g t (old.setIfInBounds j v) → w.grownBy w' (some g) → wpList P ops Q rest (a.put o.dst undef) w') : wpList P ops Q (o :: rest) a w := by
  refine wpList_plain hgd fun K hK => ?_
  have ht : w.there g j (#[v] : Array Value).size := fun k hk => by
    have hk0 : k = 0 := by simp at hk; omega
    subst hk0
    refine ⟨?_, hb.frozen _⟩
    rw [Nat.add_zero, hb.cell]; simp; omega
  unfold Oper.wp execOp
  simp only [ho, hx, hy, Instr.storeAt, Instr.sureAddr, Sem.run_bind, Sem.run_pure, Result.andThen_ok, storeVar_one h1, run_storeVar_mid (P := P) w g j ty #[v] ht hi (by simp [h1])]
  exact hK _ _ (h _ (hb.set_ j v) (store_grown w g j v))
end Go.Proofs.YtkhlbpclfeakpaaDoor

/- Plain: a Ueb's bytes, there and back. -/
namespace Go.Proofs.YtkhlbpclfeakpaaDoor
open Go.RowKit

def writeU (u : US) : List UInt8 := encs (uebRows u.k u.n u.seg u.size u.sh u.sg)
theorem agOK_in {k n seg size : Int} (h : agOK k n seg size) : (0 ≤ k ∧ k ≤ 2147483647) ∧ (0 ≤ n ∧ n ≤ 2147483647) ∧ (0 ≤ seg ∧ seg ≤ 2147483647) ∧ (0 ≤ size ∧ size ≤ 2147483647) := by
  obtain ⟨⟨h1, h2, h3, h4, h5⟩, h6, h7, h8, h9, _⟩ := h
  have hu : upN 65536 k.toNat ≤ 65791 := by
    unfold upN
    exact Nat.le_trans (Nat.div_le_self _ _) (by omega)
  have hd : seg = k * (seg / k) := by
    have := Int.mul_ediv_add_emod seg k
    omega
  have hq0 : 0 ≤ seg / k := Int.ediv_nonneg (by omega) (by omega)
  have hq : k * (seg / k) ≤ 255 * 65791 := Int.mul_le_mul (by omega) (by omega) hq0 (by omega)
  omega
theorem lst_numS {x : Int} (h : 0 ≤ x) : lst (numS x) = Lib.itoa x := by
  unfold numS
  rw [if_neg (by omega)]
  exact lst_itoaS x
theorem rd_num {x : Int} (h : 0 ≤ x ∧ x ≤ 2147483647) : rdN (lst (numS x)) 2147483647 = x ∧ rdE (lst (numS x)) 2147483647 = 0 := by
  have := rd_ok h.1 h.2 (by omega) (lst_numS h.1)
  unfold rdN rdE
  rw [this]
  refine ⟨?_, rfl⟩
  show (x.toNat : Int) = x
  omega
theorem num_rd {l : List UInt8} (h : rdE l 2147483647 = 0) : l = lst (numS (rdN l 2147483647)) := by
  unfold rdE at h
  cases hr : rd l 2147483647 with
  | none => rw [hr] at h; simp at h
  | some x =>
    have := (rd_some hr (by omega)).2.2
    unfold rdN
    rw [hr]
    simp only
    rw [lst_numS (by omega)]
    exact this

theorem writeU_unpack {u : US} (hw : u.wf) (hi : u.in) : unpack (writeU u) = (uebRows u.k u.n u.seg u.size u.sh u.sg, 0, 0) := by
  unfold US.in at hi
  exact unpack_encs _ (uebRows_may _ _ _ _ _ _ (by omega) (by omega) (by omega) (by omega) hw.1 hw.2)
theorem writeU_fold {u : US} (hw : u.wf) (hi : u.in) : foldU US.zero (uebRows u.k u.n u.seg u.size u.sh u.sg) = some u := by
  unfold US.in at hi
  unfold uebRows
  rw [fold_six, if_pos ⟨(rd_num hi.1).2, (rd_num hi.2.1).2, (rd_num hi.2.2.1).2, (rd_num hi.2.2.2).2, hw.2, hw.1⟩, (rd_num hi.1).1, (rd_num hi.2.1).1, (rd_num hi.2.2.1).1, (rd_num hi.2.2.2).1]
/-- There and back. -/
theorem readU_write {u : US} (hw : u.wf) (ha : u.may) : readU (writeU u) = (u, 0, 0) := by
  have hi : u.in := agOK_in ha
  rw [readU_some (writeU_unpack hw hi) rfl (writeU_fold hw hi), if_pos (show agOK _ _ _ _ from ha)]
/-- What is read is the bytes of what it is read as. -/
theorem readU_one {b : List UInt8} {u : US} (h : readU b = (u, 0, 0)) : b = writeU u ∧ u.wf ∧ u.may := by
  rcases unpack_cases b with ⟨R, h1, h2, h3⟩ | ⟨p, _, h1⟩
  · by_cases h6 : R.length = 6
    · rcases hf : foldU US.zero R with _ | u'
      · rw [readU_no h1 hf] at h; simp at h
      · rw [readU_some h1 h6 hf] at h
        by_cases ha : agOK u'.k u'.n u'.seg u'.size
        · rw [if_pos ha] at h
          simp only [Prod.mk.injEq, and_true] at h
          subst h
          have hwi := fold_in R _ _ US.zero_wf US.zero_in hf
          obtain ⟨v0, v1, v2, v3, v4, v5, rfl⟩ := six h3 h6 fun x hx => (fold_some _ _ _ hf x hx).1
          rw [fold_six] at hf
          by_cases hg : goodV v0 v1 v2 v3 v4 v5
          · rw [if_pos hg] at hf
            cases hf
            refine ⟨?_, hwi.1, ha⟩
            rw [h2]
            unfold writeU uebRows
            simp only
            rw [← num_rd hg.1, ← num_rd hg.2.1, ← num_rd hg.2.2.1, ← num_rd hg.2.2.2.1]
          · rw [if_neg hg] at hf; cases hf
        · rw [if_neg ha] at h; simp at h
    · rw [readU_len h1 h6] at h; simp at h
  · rw [readU_form h1] at h; simp at h
theorem readU_cases (b : List UInt8) : (∃ u, readU b = (u, 0, 0)) ∨ ∃ p e, readU b = (US.zero, p, e) ∧ e ≠ 0 ∧ p ≤ b.length ∧ e ≤ 133 := by
  rcases unpack_cases b with ⟨R, h1, h2, h3⟩ | ⟨p, hp, h1⟩
  · by_cases h6 : R.length = 6
    · rcases hf : foldU US.zero R with _ | u'
      · exact .inr ⟨0, 132, readU_no h1 hf, by omega, by omega, by omega⟩
      · by_cases ha : agOK u'.k u'.n u'.seg u'.size
        · exact .inl ⟨u', by rw [readU_some h1 h6 hf, if_pos ha]⟩
        · exact .inr ⟨0, 133, by rw [readU_some h1 h6 hf, if_neg ha], by omega, by omega, by omega⟩
    · exact .inr ⟨0, 132, readU_len h1 h6, by omega, by omega, by omega⟩
  · exact .inr ⟨p, 131, readU_form h1, by omega, by omega, by omega⟩
theorem readU_wf (b : List UInt8) : (readU b).1.wf := by
  rcases readU_cases b with ⟨u, h⟩ | ⟨p, e, h, _⟩
  · rw [h]; exact (readU_one h).2.1
  · rw [h]; exact US.zero_wf
end Go.Proofs.YtkhlbpclfeakpaaDoor

/- Two Uebs are compared. -/
namespace Go.Proofs.YtkhlbpclfeakpaaDoor
open Go.RowKit

theorem dig_size (w : World) : (sizeOf 47).run Tryd.prog w = .ok 32 w := by
  have h : (Tryd.prog.info? 47).map (·.size) = some 32 := by kernel_rfl
  rcases hi : Tryd.prog.info? 47 with _ | i
  · rw [hi] at h; cases h
  · rw [hi] at h
    simp only [Option.map_some, Option.some.injEq] at h
    simp [sizeOf, typeInfo, run_program, hi, h]
theorem byte_size (w : World) : (sizeOf 5).run Tryd.prog w = .ok 1 w := by
  have h : (Tryd.prog.info? 5).map (·.size) = some 1 := by kernel_rfl
  rcases hi : Tryd.prog.info? 5 with _ | i
  · rw [hi] at h; cases h
  · rw [hi] at h
    simp only [Option.map_some, Option.some.injEq] at h
    simp [sizeOf, typeInfo, run_program, hi, h]
theorem part_dig (u : US) (hu : u.wf) (w : World) :
    (Go.part 47 u.cells 4).run Tryd.prog w = .ok (.agg (u.sh.map Extern.Stop.cell).toArray) w ∧ (Go.part 47 u.cells 36).run Tryd.prog w = .ok (.agg (u.sg.map Extern.Stop.cell).toArray) w := by
  have e1 : u.cells.extract 4 36 = (u.sh.map Extern.Stop.cell).toArray := by
    apply Array.ext'
    unfold US.cells uebC
    have := hu.1
    simp [bcells, List.drop, List.take_append, this]
    intro a _; rfl
  have e2 : u.cells.extract 36 68 = (u.sg.map Extern.Stop.cell).toArray := by
    apply Array.ext'
    unfold US.cells uebC
    have := hu.1
    have := hu.2
    simp [bcells, List.drop, List.take_append, *]
    rw [List.take_of_length_le (by simp; omega)]
    rfl
  constructor
  · simp [Go.part, isAgg, run_underlying Tryd.underlying47, dig_size, e1]
  · simp [Go.part, isAgg, run_underlying Tryd.underlying47, dig_size, e2]
theorem part_int (u : US) (w : World) :
    (Go.part 3 u.cells 0).run Tryd.prog w = .ok (.int .i64 u.k) w ∧ (Go.part 3 u.cells 1).run Tryd.prog w = .ok (.int .i64 u.n) w ∧ (Go.part 3 u.cells 2).run Tryd.prog w = .ok (.int .i64 u.seg) w ∧ (Go.part 3 u.cells 3).run Tryd.prog w = .ok (.int .i64 u.size) w := by
  refine ⟨?_, ?_, ?_, ?_⟩ <;> simp [Go.part, isAgg, run_underlying Tryd.underlying3, US.cells, uebC]
theorem ueb_fields : ((Tryd.prog.fieldsOf 49).toList.map fun f => (f.name == "_", f.type, f.offset)) = [(false, 3, 0), (false, 3, 1), (false, 3, 2), (false, 3, 3), (false, 47, 4), (false, 47, 36)] := by kernel_rfl
theorem fields_six {l : List Field} {a b c d e f : TypeId} (h : (l.map fun f => (f.name == "_", f.type, f.offset)) = [(false, a, 0), (false, b, 1), (false, c, 2), (false, d, 3), (false, e, 4), (false, f, 36)]) :
    ∃ x0 x1 x2 x3 x4 x5 : Field, l = [x0, x1, x2, x3, x4, x5] ∧ (x0.name ≠ "_" ∧ x1.name ≠ "_" ∧ x2.name ≠ "_" ∧ x3.name ≠ "_" ∧ x4.name ≠ "_" ∧ x5.name ≠ "_") ∧ (x0.type = a ∧ x1.type = b ∧ x2.type = c ∧ x3.type = d ∧ x4.type = e ∧ x5.type = f) ∧ (x0.offset = 0 ∧ x1.offset = 1 ∧ x2.offset = 2 ∧ x3.offset = 3 ∧ x4.offset = 4 ∧ x5.offset = 36) := by
  have hl : l.length = 6 := by simpa using congrArg List.length h
  match l, hl with
  | [x0, x1, x2, x3, x4, x5], _ =>
    simp only [List.map_cons, List.map_nil, List.cons.injEq, Prod.mk.injEq, and_true, beq_eq_false_iff_ne] at h
    exact ⟨x0, x1, x2, x3, x4, x5, rfl, by simp [h], by simp [h], by simp [h]⟩
theorem eqFields_step {P : Program} {w : World} {d : Nat} {xs ys : Array Value} {f : Field} {fs : List Field} {a b : Value} {r : Bool} {t : TypeId} {o : Nat} (hn : f.name ≠ "_") (ht : f.type = t) (ho : f.offset = o)
    (ha : (Go.part t xs o).run P w = .ok a w) (hb : (Go.part t ys o).run P w = .ok b w) (he : (Op.equalIn d t a b).run P w = .ok r w) :
    (Op.eqFields d xs ys (f :: fs)).run P w = if r = true then (Op.eqFields d xs ys fs).run P w else .ok false w := by
  subst ht ho
  simp only [Op.eqFields, ne_eq, hn, not_false_eq_true, if_true, Sem.run_bind, ha, hb, he, Result.andThen_ok]
  cases r <;> simp
theorem eqFields_nil {P : Program} {w : World} {d : Nat} {xs ys : Array Value} : (Op.eqFields d xs ys []).run P w = .ok true w := by simp [Op.eqFields]
theorem ueb_eqlF (d : Nat) (u v : US) (hu : u.wf) (hv : v.wf) (w : World) : (Op.eqFields (d + 2) u.cells v.cells (Tryd.prog.fieldsOf 49).toList).run Tryd.prog w = .ok (decide (u = v)) w := by
  obtain ⟨x0, x1, x2, x3, x4, x5, hl, ⟨n0, n1, n2, n3, n4, n5⟩, ⟨t0, t1, t2, t3, t4, t5⟩, o0, o1, o2, o3, o4, o5⟩ := fields_six ueb_fields
  obtain ⟨p0, p1, p2, p3⟩ := part_int u w
  obtain ⟨q0, q1, q2, q3⟩ := part_int v w
  obtain ⟨p4, p5⟩ := part_dig u hu w
  obtain ⟨q4, q5⟩ := part_dig v hv w
  have e4 := run_equalIn_bytes w d 47 5 32 Tryd.underlying47 Tryd.underlying5 byte_size u.sh v.sh hu.1 hv.1
  have e5 := run_equalIn_bytes w d 47 5 32 Tryd.underlying47 Tryd.underlying5 byte_size u.sg v.sg hu.2 hv.2
  have ei := fun a b => run_equalIn_int (P := Tryd.prog) w (d + 1) 3 .i64 .i64 a b Tryd.underlying3
  rw [hl, eqFields_step n0 t0 o0 p0 q0 (ei _ _), eqFields_step n1 t1 o1 p1 q1 (ei _ _), eqFields_step n2 t2 o2 p2 q2 (ei _ _), eqFields_step n3 t3 o3 p3 q3 (ei _ _), eqFields_step n4 t4 o4 p4 q4 e4, eqFields_step n5 t5 o5 p5 q5 e5, eqFields_nil]
  clear hl n0 n1 n2 n3 n4 n5 t0 t1 t2 t3 t4 t5 o0 o1 o2 o3 o4 o5 p0 p1 p2 p3 p4 p5 q0 q1 q2 q3 q4 q5 e4 e5 ei hu hv
  obtain ⟨k, n, seg, size, sh, sg⟩ := u
  obtain ⟨k', n', seg', size', sh', sg'⟩ := v
  simp only [US.mk.injEq, beq_iff_eq]
  by_cases h0 : k = k'
  rotate_left
  · simp [h0]
  by_cases h1 : n = n'
  rotate_left
  · simp [h1]
  by_cases h2 : seg = seg'
  rotate_left
  · simp [h2]
  by_cases h3 : size = size'
  rotate_left
  · simp [h3]
  by_cases h4 : sh = sh'
  rotate_left
  · simp [h4]
  by_cases h5 : sg = sg'
  rotate_left
  · simp [h5]
  simp [h0, h1, h2, h3, h4, h5]
theorem ueb_eql (u v : US) (hu : u.wf) (hv : v.wf) (w : World) : (binOp .eql 49 (.agg u.cells) (.agg v.cells)).run Tryd.prog w = .ok (.bool (decide (u = v))) w := by
  rw [run_eql_struct, run_equalIn_agg w 9999 49 _ _ (by kernel_rfl) (by kernel_rfl), ueb_eqlF 9997 u v hu hv w]
  rfl
theorem wpList_eqlU {ops : Array Oper} {rest : List Oper} {o : Oper} {a : Act} {w : World} {Q : Exit → Act → World → Prop} (hgd : Region.wanted o (yielded ops a.tmps) = true) (x y : Operand) (ho : o.op = .binOp .eql 49 x y 49) (u v : US) (hu : u.wf) (hv : v.wf)
    (r : Bool) (hr : decide (u = v) = r) (hx : a.eval x = .agg u.cells) (hy : a.eval y = .agg v.cells) (h : wpList Tryd.prog ops Q rest (a.put o.dst (.bool r)) w) : wpList Tryd.prog ops Q (o :: rest) a w := by
  refine BigFrame.wpList_want hgd fun K hK => ?_
  subst hr
  unfold Oper.wp execOp
  simp only [ho, hx, hy, Sem.run_bind, run_eqGuard_agg w _ _ _ _ _ _ (show Tryd.prog.eqGuardType Tryd.prog.depth 49 = false by kernel_rfl), Result.andThen_ok, ueb_eql u v hu hv w]
  exact hK _ _ h
theorem wpList_loadU {ops : Array Oper} {rest : List Oper} {o : Oper} {a : Act} {w : World} {Q : Exit → Act → World → Prop} (hgd : Region.wanted o (yielded ops a.tmps) = true) (x : Operand) (ho : o.op = .load 49 x)
    (g : Nat) (hx : a.eval x = .pointer (some ⟨g, 0, none⟩)) (u : US) (hu : u.wf) (hg : Blk w g 49 u.cells)
    (h : wpList Tryd.prog ops Q rest (a.put o.dst (.agg u.cells)) w) : wpList Tryd.prog ops Q (o :: rest) a w := by
  refine BigFrame.wpList_want hgd fun K hK => ?_
  exact wp_load_row 49 x ho g hx 49 u.cells (0, 0) _ hg Tryd.underlying49 rfl (by rw [US.size_ hu]; kernel_rfl) (hK _ _ h)
theorem wpList_storeU {ops : Array Oper} {rest : List Oper} {o : Oper} {a : Act} {w : World} {Q : Exit → Act → World → Prop} {g : Nat} {old : Array Value} (hb : Blk w g 49 old) (hs : old.size = 68) (u : US) (hu : u.wf)
    (h1 : u.cells.all (·.oneCell') = true) (hgd : o.guard = none) (x y : Operand) (ho : o.op = .store 49 x y)
    (hx : a.eval x = .pointer (some ⟨g, 0, none⟩)) (hy : a.eval y = .agg u.cells)
    (h : ∀ w', Blk w' g 49 u.cells → w.grownBy w' (some g) → wpList Tryd.prog ops Q rest (a.put o.dst undef) w') : wpList Tryd.prog ops Q (o :: rest) a w :=
  wpList_store_row hb u.cells (by rw [US.size_ hu, hs]) h1 hgd 49 x y ho (by rw [US.size_ hu]; kernel_rfl) hx hy h
theorem zcells_size : (Tryd.zeroCells49).size = 68 := by kernel_rfl
end Go.Proofs.YtkhlbpclfeakpaaDoor
