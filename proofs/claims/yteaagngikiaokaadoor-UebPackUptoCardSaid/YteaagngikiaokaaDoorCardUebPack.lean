/- The card of UebPack, in the form with a bound on what is read, over its walk: whatever the arguments that can be read, the call returns true and leaves them as they were. Conditions: the bound of the statement itself; the listed package-level variables hold what the program's text lays (tied). -/
import Derived.Test.YteaagngikiaokaaDoorCards
import Derived.Test.YteaagngikiaokaaDoorTie
import Derived.Test.YteaagngikiaokaaDoorPkF
import Derived.Test.YteaagngikiaokaaDoorOpen
import Derived.Test.YteaagngikiaokaaDoorBulk
import Derived.WalkKit
import Derived.ProofKit
import Derived.OpenShut
import Derived.Deep.DeepHandedRow
import Derived.Lay
import Derived.SevenTiedAt
import Derived.Test.YteaagngikiaokaaDoorOpnB
namespace Go.Proofs.YteaagngikiaokaaDoor.uebPack
open Go.ChangeShapes Go.WideShapes Go.ChangeAt Go.RowKit
open Go.ChangeMaps (open_string shut_string)
set_option linter.unusedVariables false

theorem own : ownKnob Tryd.prog.godebug = none := by kernel_rfl
theorem laidOut : laidOutB Tryd.prog = true := by kernel_rfl
set_option maxRecDepth 100000 in
theorem contract (H : Type) (enc : TypeId × Value → H) (W : World) (base : Nat) (args : Array Value) (ds gs : List (DataW H)) (before : List MemPlace)
    (hval : ∀ (j : Nat) t v, Tryd.f3.params[j]? = some t → args[j]? = some v → Value.okWide Tryd.prog W .any base t v)
    (hW : DataW.Whole enc Tryd.prog Tryd.f3.params.toList Rows.uebPackSpec.vars false W args.toList ds gs before)
    (hk : Rows.uptoSmall H (ds ++ gs) = true) (hL : laidMetH Tryd.prog Rows.uebPackUptoRow.laid W) (hS : W.ShapedOpen Tryd.prog) :
    Calls Tryd.prog 3 args W fun e W' => ∃ v, e = .returned v ∧ Rows.uebPackSpec.post enc Tryd.prog Tryd.f3 false true false false W args v W' := by
  have hW' := hW
  obtain ⟨p, q, hA0, hV, rfl, hfz, hnd⟩ := hW
  have hA : DataW.TrodAll enc Tryd.prog W 0 (fun _ => true) true Tryd.f3.params.toList args.toList ds p := hA0
  rw [Tryd.params3] at hA hval
  obtain ⟨v0, vs0, d0, ds0, p0, q0, hargs, rfl, rfl, h0, r0⟩ := trodAll_cons hA
  obtain ⟨v1, vs1, d1, ds1, p1, q1, rfl, rfl, rfl, h1, r1⟩ := trodAll_cons r0
  obtain ⟨rfl, rfl, rfl⟩ := trodAll_nil r1
  obtain rfl : args = #[v0, v1] := by cases args; simp_all
  obtain ⟨rfl, rfl⟩ := trodVars_none hV
  obtain ⟨a0, len0, cap0, rfl⟩ := okWide_slice Tryd.underlying22 (hval 0 22 v0 rfl rfl)
  have k0 := h0
  have lt0 : ∀ x ∈ p0, x.block < W.heap.size := by obtain ⟨m, hm⟩ := k0; exact DataW.trod_lt m _ _ _ hm
  obtain ⟨l0, e0, n0, b0⟩ : ∃ l0, Rws W (.slice a0 len0 cap0) l0 ∧ l0.length ≤ 1048576 ∧ ∀ x ∈ l0, x.2.2.length ≤ 1048576 := by
    obtain ⟨fuel, hf⟩ := h0
    rcases Go.Deep.open_slice_pairs Tryd.underlying22 Tryd.underlying55 (by kernel_rfl) rfl rfl (by kernel_rfl) (by kernel_rfl) hf with ⟨hcs, _⟩ | ⟨x, l, c, m, n, V0, V1, D0, D1, P0, P1, hcs, _, hl, hm, hmm, hxx, hx⟩
    · simp [Value.cells] at hcs
      obtain ⟨rfl, rfl, rfl⟩ := hcs
      exact ⟨[], Rws.nil W, by simp, by simp⟩
    · simp [Value.cells] at hcs
      obtain ⟨rfl, rfl, rfl⟩ := hcs
      simp only [Prod.mk.injEq] at hxx
      obtain ⟨rfl, rfl⟩ := hxx
      have hbk := bulks.part hk (d := DataW.slice ((List.range len0).map fun i => .agg [D0 i, D1 i]) ((List.range (m - len0)).map fun j => .agg [D0 (len0 + j), D1 (len0 + j)])) (by simp)
      have hbl := bulks.slice_le ((List.range len0).map fun i => DataW.agg [D0 i, D1 i]) ((List.range (m - len0)).map fun j => DataW.agg [D0 (len0 + j), D1 (len0 + j)])
      simp only [List.length_map, List.length_range] at hbl
      obtain ⟨lb, hlb, hby, hbb⟩ := rows_ofB (B := 1048576) (m := m) hl hm (by rw [hmm]; split <;> omega) (fun i hi => by
        obtain ⟨c0, c1, t0, t1⟩ := hx i hi
        obtain ⟨s0, e0, _, _⟩ := DataW.trod_string Tryd.underlying9 t0
        simp only [List.cons.injEq, and_true] at e0
        refine ⟨c0, c1, ⟨s0, e0⟩, ?_⟩
        rcases open_ints Tryd.underlying27 Tryd.underlying5 (by kernel_rfl) t1 with ⟨g1, _⟩ | ⟨y, yl, yc, zs, g1, _, yl1, ym, yz, yx, ycell, ywz⟩
        · simp only [List.cons.injEq, and_true] at g1
          rw [g1]
          exact ⟨[], By.nil W, fun _ => by simp⟩
        · simp only [List.cons.injEq, and_true] at g1
          rw [g1]
          obtain ⟨lb, hlb, hy⟩ := by_of_row yl1 ym (by simpa using yz) ycell ywz
          refine ⟨lb, hy, fun hil => ?_⟩
          have hr := bulks.row_le hil hbk
          simp only [Prod.mk.injEq] at yx
          rw [yx.1] at hr
          have h2 := bulks.slice_le (lits (H := H) .u8 (zs.take yl)) (lits .u8 (zs.drop yl))
          simp only [lits, List.length_map, List.length_take, List.length_drop] at hr h2
          have : zs.length = yc := by simpa using yz
          omega)
      exact ⟨lb, hby, by omega, hbb⟩
  obtain ⟨a1, len1, cap1, rfl⟩ := okWide_slice Tryd.underlying22 (hval 1 22 v1 rfl rfl)
  have k1 := h1
  have lt1 : ∀ x ∈ p1, x.block < W.heap.size := by obtain ⟨m, hm⟩ := k1; exact DataW.trod_lt m _ _ _ hm
  obtain ⟨l1, e1, n1, b1⟩ : ∃ l1, Rws W (.slice a1 len1 cap1) l1 ∧ l1.length ≤ 1048576 ∧ ∀ x ∈ l1, x.2.2.length ≤ 1048576 := by
    obtain ⟨fuel, hf⟩ := h1
    rcases Go.Deep.open_slice_pairs Tryd.underlying22 Tryd.underlying55 (by kernel_rfl) rfl rfl (by kernel_rfl) (by kernel_rfl) hf with ⟨hcs, _⟩ | ⟨x, l, c, m, n, V0, V1, D0, D1, P0, P1, hcs, _, hl, hm, hmm, hxx, hx⟩
    · simp [Value.cells] at hcs
      obtain ⟨rfl, rfl, rfl⟩ := hcs
      exact ⟨[], Rws.nil W, by simp, by simp⟩
    · simp [Value.cells] at hcs
      obtain ⟨rfl, rfl, rfl⟩ := hcs
      simp only [Prod.mk.injEq] at hxx
      obtain ⟨rfl, rfl⟩ := hxx
      have hbk := bulks.part hk (d := DataW.slice ((List.range len1).map fun i => .agg [D0 i, D1 i]) ((List.range (m - len1)).map fun j => .agg [D0 (len1 + j), D1 (len1 + j)])) (by simp)
      have hbl := bulks.slice_le ((List.range len1).map fun i => DataW.agg [D0 i, D1 i]) ((List.range (m - len1)).map fun j => DataW.agg [D0 (len1 + j), D1 (len1 + j)])
      simp only [List.length_map, List.length_range] at hbl
      obtain ⟨lb, hlb, hby, hbb⟩ := rows_ofB (B := 1048576) (m := m) hl hm (by rw [hmm]; split <;> omega) (fun i hi => by
        obtain ⟨c0, c1, t0, t1⟩ := hx i hi
        obtain ⟨s0, e0, _, _⟩ := DataW.trod_string Tryd.underlying9 t0
        simp only [List.cons.injEq, and_true] at e0
        refine ⟨c0, c1, ⟨s0, e0⟩, ?_⟩
        rcases open_ints Tryd.underlying27 Tryd.underlying5 (by kernel_rfl) t1 with ⟨g1, _⟩ | ⟨y, yl, yc, zs, g1, _, yl1, ym, yz, yx, ycell, ywz⟩
        · simp only [List.cons.injEq, and_true] at g1
          rw [g1]
          exact ⟨[], By.nil W, fun _ => by simp⟩
        · simp only [List.cons.injEq, and_true] at g1
          rw [g1]
          obtain ⟨lb, hlb, hy⟩ := by_of_row yl1 ym (by simpa using yz) ycell ywz
          refine ⟨lb, hy, fun hil => ?_⟩
          have hr := bulks.row_le hil hbk
          simp only [Prod.mk.injEq] at yx
          rw [yx.1] at hr
          have h2 := bulks.slice_le (lits (H := H) .u8 (zs.take yl)) (lits .u8 (zs.drop yl))
          simp only [lits, List.length_map, List.length_take, List.length_drop] at hr h2
          have : zs.length = yc := by simpa using yz
          omega)
      exact ⟨lb, hby, by omega, hbb⟩
  clear hA0
  have hL0 : laidMet Tryd.prog (("math/bits.deBruijn32tab", Rows.laid_math_bits_deBruijn32tab) :: ("math/bits.deBruijn64tab", Rows.laid_math_bits_deBruijn64tab) :: ("internal/strconv.uint64pow10", Rows.laid_internal_strconv_uint64pow10) :: []) W := hL
  have ht := of_laidP hL0.tail.tail
  refine (law_pack _ _ l0 l1 W e0 e1 n0 n1 b0 b1 ht).mono fun e W' ⟨he, bel⟩ => ?_
  subst he
  exact ⟨_, rfl, _, _, _, [], _, [], hW', trodAll_mk1 (shut_bool Tryd.underlying4 _), (trodAll_cons_mk (Below.trod laidOut (by kernel_rfl) (of_decide_eq_true (by kernel_rfl)) k0 bel lt0) (trodAll_cons_mk (Below.trod laidOut (by kernel_rfl) (of_decide_eq_true (by kernel_rfl)) k1 bel lt1) trodAll_mk0)), rfl, bel.frame _, fun h => by cases h⟩

noncomputable def laidWorld (os : Os) : World := World.laidAll Tryd.prog os Rows.uebPackUptoRow.laid
theorem laid_met (os : Os) : laidMet Tryd.prog Rows.uebPackUptoRow.laid ((laidWorld os).forCall (fun _ _ => 0) ⟨#[], #[.slice none 0 0, .slice none 0 0], []⟩).memory := laidMet_laidAll _ (by kernel_rfl) (by kernel_rfl)
theorem reads (os : Os) {H : Type} (enc : TypeId × Value → H) : ∃ places, DataW.whole enc Tryd.prog ((laidWorld os).forCall (fun _ _ => 0) ⟨#[], #[.slice none 0 0, .slice none 0 0], []⟩).memory Tryd.f3.params.toList Rows.uebPackSpec.vars false (#[.slice none 0 0, .slice none 0 0] : Array Value).toList 8 = some ([.nil, .nil], [], places) := ⟨[], by kernel_rfl⟩
set_option maxRecDepth 100000 in
theorem lifted (os : Os) (started : os.Started) (H : Type) (enc : TypeId × Value → H) (F : Stop.Interp) :
    ReturnsInHanded {} Tryd.checked os 3 .any ((Rows.OpenSpec.upto Rows.uebPackSpec).preRow enc Tryd.prog Tryd.f3 Rows.uebPackUptoRow.domain false Rows.uebPackUptoRow.laid) (((Rows.OpenSpec.upto Rows.uebPackSpec).at F).post enc Tryd.prog Tryd.f3 false true false false) := by
  obtain ⟨places, hx⟩ := reads os enc
  refine returnsInHanded_of_row (C := Tryd.checked) (s := Rows.OpenSpec.upto Rows.uebPackSpec) own started (by kernel_rfl) Tryd.func3
    (witness_row_at (enc := enc) (C := Tryd.checked) false (laidWorld os) #[.slice none 0 0, .slice none 0 0] (World.laidAll_os _ _ _) (by kernel_rfl) (by kernel_rfl) (by kernel_rfl)
      (OpenSpec.preRow_of_cond 8 hx (by kernel_rfl) (fun k hk => by cases hk; kernel_rfl) (by kernel_rfl) (laid_met os))) ?_
  intro W base args ds gs before hval hW _ hcond _ hL hS _
  exact contract H enc W base args ds gs before hval hW (hcond _ rfl) hL hS

theorem over : Rows.UebPackUptoSaid :=
  OpenClaim.holds_of_cond 3 Tryd.f3 rfl rfl rfl rfl rfl rfl rfl ⟨rfl, rfl, rfl, rfl, rfl⟩ rfl rfl rfl rfl rfl (by kernel_rfl) Tryd.func3 (by kernel_rfl)
    (of_decide_eq_true (by kernel_rfl)) (by unfold Func.isWrapper; first | (rw [if_pos (by decide +kernel)]; kernel_rfl) | (rw [if_neg (by decide +kernel)]; exact ⟨rfl, rfl⟩))
    (fun os started H enc _ F => by rw [OpenClaim.pre_eq_preRow]; exact lifted os started H enc F)

theorem plain (f : FuncId) (fn : Func) (hf : Tryd.pinned.checked.prog.funcNamed "strongroom/strongroomlaw13.UebPack" = some f) (hfn : Tryd.pinned.checked.prog.funcs[f]? = some fn) :
    Rows.uebPackUptoCard.stood.looks = Tryd.pinned.checked.prog.looks [] ∧ ∀ (j : Nat) t, fn.params[j]? = some t → Tryd.pinned.checked.prog.wantsStandIn t = false := by
  obtain rfl : f = 3 := Option.some.inj ((show Tryd.prog.funcNamed "strongroom/strongroomlaw13.UebPack" = some 3 by kernel_rfl).symm.trans hf) |>.symm
  obtain rfl : fn = Tryd.f3 := (Option.some.inj (Tryd.func3.symm.trans hfn)).symm
  refine ⟨by kernel_rfl, fun j t ht => ?_⟩
  rw [Tryd.params3] at ht
  have hm := Array.mem_of_getElem? ht
  have hall : (Tryd.f3.params.toList.all fun u => !Tryd.prog.wantsStandIn u) = true := by kernel_rfl
  rw [Tryd.params3] at hall
  exact (show Tryd.prog.wantsStandIn t = false by simpa using List.all_eq_true.1 hall t (Array.mem_toList_iff.2 hm))

theorem proved : Rows.UebPackUptoCardSaid :=
  Claim7.holds_tied_plain_at .later [] _ _ _ _ over (fun _ h => by cases h) (by kernel_rfl) (fun _ h => by cases h) uebPackUpto_row_tie rfl ⟨rfl, rfl⟩ (by kernel_rfl) rfl plain (by kernel_rfl)
#print axioms proved
end Go.Proofs.YteaagngikiaokaaDoor.uebPack
