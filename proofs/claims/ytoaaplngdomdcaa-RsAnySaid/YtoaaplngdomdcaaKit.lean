/- Contracts of the statements' helpers for lists of bytes: marks, sameness, lists that are lent with marks behind them. -/
import Derived.Test.YtoaaplngdomdcaaRows
import Derived.Test.YtoaaplngdomdcaaMem
import Derived.BigQuiet
import Derived.Deep.QuietTactic
namespace Go.Proofs.Ytoaaplngdomdcaa
open Go.RowKit

theorem elem8 : Elem1 Try.prog 38 5 (.int .u8 0) 1 := ⟨Try.underlying38, by kernel_rfl, rfl⟩
theorem Try.info8 : (Try.prog.info? 5).map (fun i => (i.zero, i.size, i.bytes)) = some (some (.int .u8 0), 1, 1) := by kernel_rfl

def mark (k i : Int) : UInt8 := UInt8.ofNat ((151 * k + 7 * i + 1) % 256).toNat
theorem mark_toNat (k i : Int) : ((mark k i).toNat : Int) = (151 * k + 7 * i + 1) % 256 := by
  unfold mark
  simp only [UInt8.toNat_ofNat']
  omega


set_option maxHeartbeats 400000 in
theorem mark_any (k i : Int) (w : World) :
    Calls Try.prog 115 #[.int .i64 k, .int .i64 i] w fun e w' => e = .returned (.int .u8 ((mark k i).toNat : Int)) ∧ w = w' := by
  go_enter Try.func115, Try.ntmps115
  go_wp2
  go_ret
  refine ⟨ret_int ?_, rfl⟩
  rw [mark_toNat]
  simp only [wrap64]
  omega

/-- What two lists have in common from the first k places on. -/
theorem same_step (l m : List UInt8) (k : Nat) (x y : UInt8) (hx : l[k]? = some x) (hy : m[k]? = some y) (h : l.take k = m.take k) :
    (l.take (k + 1) = m.take (k + 1)) ↔ x = y := by
  rw [List.take_add_one, List.take_add_one, hx, hy, h]
  simp

theorem u8_int {x y : UInt8} : ((x.toNat : Int) = (y.toNat : Int)) ↔ x = y := by
  constructor
  · intro h
    exact UInt8.toNat_inj.1 (by omega)
  · rintro rfl; rfl

set_option maxHeartbeats 400000 in
theorem same_any (va vb : Value) (l m : List UInt8) (w : World) (ha : By w va l) (hb : By w vb m) :
    Calls Try.prog 29 #[va, vb] w fun e w' => e = .returned (.bool (decide (l = m))) ∧ Below w.heap.size w w' := by
  obtain ⟨A, c, rfl, hc, hm, hca⟩ := ha.form
  obtain ⟨B, d, rfl, hd, hmd, hcb⟩ := hb.form
  unfold maxLen at hm hmd
  by_cases hl : l.length = m.length
  · have hne : ((l.length : Int) != (m.length : Int)) = false := by simp [hl]
    have HL : Hid (l.length = m.length) := hl
    clear hl
    go_enter Try.func29, Try.ntmps29
    go_wp2
    go_loopw [5] (fun i wr => ∃ k : Nat, k ≤ l.length ∧ i = .int .i64 k ∧ l.take k = m.take k ∧ Below w.heap.size w wr) (fun i _ => l.length - (intOf i).toNat)
    case atStart => exact ⟨0, by omega, rfl, by simp, Below.refl _ _⟩
    case round =>
      obtain ⟨k, hk, rfl, hq, hbel⟩ := hrel
      have HQ := hide hq
      clear hq
      by_cases hlt : k < l.length
      · have hlt2 : k < m.length := by have := HL.out; omega
        obtain ⟨x, hx⟩ : ∃ x, l[k]? = some x := ⟨_, List.getElem?_eq_getElem hlt⟩
        obtain ⟨y, hy⟩ : ∃ y, m[k]? = some y := ⟨_, List.getElem?_eq_getElem hlt2⟩
        obtain ⟨b, o, rfl, hbl, hcell⟩ := hca k x hx
        obtain ⟨b2, o2, rfl, hbl2, hcell2⟩ := hcb k y hy
        have hcx : wr.cell? ⟨b, o + k, none⟩ = some (.int .u8 (x.toNat : Int)) := (hbel.cell (p := ⟨b, o + k, none⟩) hbl).trans hcell
        have hcy : wr.cell? ⟨b2, o2 + k, none⟩ = some (.int .u8 (y.toNat : Int)) := (hbel.cell (p := ⟨b2, o2 + k, none⟩) hbl2).trans hcell2
        have HX := hide hx
        have HY := hide hy
        clear hx hy hcell hcell2 hca hcb
        have i1 : (k : Int) < (l.length : Int) := by omega
        have i2 : (k : Int) < (m.length : Int) := by omega
        have i3 : (0 : Int) ≤ (k : Int) := by omega
        by_cases hxy : x = y
        · have hd : ((x.toNat : Int) != (y.toNat : Int)) = false := by simp [hxy]
          go_wp2
          go_quiet (fail)
          go_wp2
          go_roundw
          case rel => exact ⟨k + 1, by omega, by go_num, (same_step l m k x y HX.out HY.out HQ.out).2 hxy, below_drewN hbel _⟩
          case measure => simp [intOf]; omega
        · have hd : ((x.toNat : Int) != (y.toNat : Int)) = true := by
            rw [bne_iff_ne]; intro h; exact hxy (u8_int.1 h)
          go_wp2
          go_quiet (fail)
          go_wp2
          go_ret
          refine ⟨ret_bool ?_, below_drewN hbel _⟩
          refine (decide_eq_false fun h => hxy ((same_step l m k x y HX.out HY.out HQ.out).1 (by rw [h]))).symm
      · have hge : ¬ ((k : Int) < (l.length : Int)) := by omega
        go_wp2
        go_ret
        refine ⟨ret_bool ?_, hbel⟩
        refine (decide_eq_true ?_).symm
        have := HQ.out
        rwa [List.take_of_length_le (by omega), List.take_of_length_le (by have := HL.out; omega)] at this
  · have hne : ((l.length : Int) != (m.length : Int)) = true := by rw [bne_iff_ne]; omega
    go_enter Try.func29, Try.ntmps29
    go_wp2
    go_ret
    exact ⟨ret_bool (decide_eq_false fun h => hl (by rw [h])).symm, Below.refl _ _⟩

/-- The first n marks behind a list of length len. -/
def marks (k len n : Nat) : List UInt8 := (List.range n).map fun i => mark k ((len + i : Nat) : Int)
theorem marks_succ (k len n : Nat) : marks k len (n + 1) = marks k len n ++ [mark k ((len + n : Nat) : Int)] := by
  simp [marks, List.range_succ]
@[simp] theorem marks_length (k len n : Nat) : (marks k len n).length = n := by simp [marks]

theorem take_snoc {α : Type} (l : List α) (k : Nat) (x : α) (h : l[k]? = some x) : l.take (k + 1) = l.take k ++ [x] := by
  rw [List.take_add_one, h]; rfl


set_option maxHeartbeats 800000 in
theorem lent_any (va : Value) (l : List UInt8) (w : World) (ha : By w va l) (hl : l.length ≤ 140737488355000) :
    Calls Try.prog 125 #[va] w fun e w' => ∃ v, e = .returned v ∧ Own w' w.heap.size 5 v (l ++ marks 0 l.length 70) ∧ Below w.heap.size w w' := by
  obtain ⟨A, c, rfl, hc, hm, hca⟩ := ha.form
  unfold maxLen at hm
  go_enter Try.func125, Try.ntmps125
  go_wp2
  go_loopw [3, 4] (fun v i wr => ∃ k : Nat, k ≤ l.length ∧ i = .int .i64 k ∧ Own wr w.heap.size 5 v (l.take k) ∧ Below w.heap.size w wr) (fun _ i _ => l.length - (intOf i).toNat)
  case atStart => exact ⟨0, by omega, rfl, Own.nil _ _ _, Below.refl _ _⟩
  case round =>
    obtain ⟨k, hk, rfl, hown, hbel⟩ := hrel
    have HO := hide hown
    clear hown
    by_cases hlt : k < l.length
    · obtain ⟨x, hx⟩ : ∃ x, l[k]? = some x := ⟨_, List.getElem?_eq_getElem hlt⟩
      obtain ⟨b, o, rfl, hbl, hcell⟩ := hca k x hx
      have hcx : wr.cell? ⟨b, o + k, none⟩ = some (.int .u8 (x.toNat : Int)) := (hbel.cell (p := ⟨b, o + k, none⟩) hbl).trans hcell
      have HX := hide hx
      clear hx hcell hca
      have hlk : (l.take k).length = k := by rw [List.length_take]; omega
      have HLK := hide hlk
      clear hlk
      go_wp2_with (at_builtin; go_loud (refine wpList_pushB elem8 HO.out hbel hbel.size (by rw [List.length_take]; omega) x rfl _ _ rfl rfl rfl ?_); intro v1 w1 hown1 hbel1 _ _)
      go_roundw
      case rel => exact ⟨k + 1, by omega, by go_num, by rw [take_snoc l k x HX.out]; exact hown1, hbel1⟩
      case measure => simp [intOf]; omega
    · have hkl : k = l.length := by omega
      subst hkl
      have hO2 := HO.out
      rw [List.take_of_length_le (Nat.le_refl _)] at hO2
      clear HO
      have HO := hide hO2
      clear hO2
      go_wp2
      go_loopw [3, 5] (fun v i wr => ∃ k : Nat, k ≤ 70 ∧ i = .int .i64 k ∧ Own wr w.heap.size 5 v (l ++ marks 0 l.length k) ∧ Below w.heap.size w wr) (fun _ i _ => 70 - (intOf i).toNat)
      case atStart => exact ⟨0, by omega, rfl, by simpa [marks] using HO.out, hbel⟩
      case round =>
        clear HO hbel
        obtain ⟨k, hk, rfl, hown, hbel⟩ := hrel
        have HO := hide hown
        clear hown
        by_cases hlt : k < 70
        · have hmk := mark_any 0 ((l.length + k : Nat) : Int)
          rw [Int.natCast_add] at hmk
          go_wp2_with (first
            | (go_at_call 115; refine (hmk _).mono ?_; rintro e w' ⟨rfl, rfl⟩)
            | (at_builtin; go_loud (refine wpList_pushB elem8 HO.out hbel hbel.size (by rw [List.length_append, marks_length]; omega) (mark 0 ((l.length + k : Nat) : Int)) rfl _ _ rfl rfl rfl ?_); intro v1 w1 hown1 hbel1 _ _))
          go_roundw
          case rel => exact ⟨k + 1, by omega, by go_num, by rw [marks_succ, ← List.append_assoc]; exact hown1, hbel1⟩
          case measure => simp [intOf]; omega
        · have hkl : k = 70 := by omega
          subst hkl
          go_wp2
          go_ret
          exact ⟨_, rfl, HO.out, hbel⟩


set_option maxHeartbeats 400000 in
theorem kept_any (vf va : Value) (f l : List UInt8) (w : World) (hf : By w vf f) (ha : By w va l) (hl : l.length ≤ 140737488355000) :
    Calls Try.prog 126 #[vf, va] w fun e w' => e = .returned (.bool (decide (f = l ++ marks 0 l.length 70))) ∧ Below w.heap.size w w' := by
  go_enter Try.func126, Try.ntmps126
  go_wp2_with fail
  refine (lent_any va l w ha hl).mono ?_
  rintro e w1 ⟨v, rfl, hown, hbel⟩
  go_wp2_with fail
  refine (same_any vf v f _ w1 (hf.below hbel) hown.by_).mono ?_
  rintro e w2 ⟨rfl, hbel2⟩
  go_wp2_with fail
  go_ret
  exact ⟨rfl, hbel.trans (hbel2.mono hbel.size)⟩

/-- What a list holds when i places are written over. -/
def overed (_n i : Nat) (l : List UInt8) : List UInt8 := ((List.range i).map fun j => mark 7 ((j + 3 : Nat) : Int)) ++ l.drop i
theorem overed_set (l : List UInt8) (i : Nat) (h : i < l.length) : (overed l.length i l).set i (mark 7 ((i : Int) + 3)) = overed l.length (i + 1) l := by
  unfold overed
  rw [List.set_append_right _ _ (by simp), List.drop_eq_getElem_cons h]
  simp only [List.length_map, List.length_range, Nat.sub_self, List.set_cons_zero, List.range_succ, List.map_append, List.map_cons, List.map_nil, List.append_assoc, List.cons_append, List.nil_append]
  rfl
theorem overed_length (l : List UInt8) (n i : Nat) (h : i ≤ l.length) : (overed n i l).length = l.length := by simp [overed]; omega

theorem Own.store {w : World} {base : Nat} {e : TypeId} {g n cap : Nat} {l : List UInt8} (h : Own w base e (.slice (some ⟨g, 0, none⟩) n cap) l) (k : Nat) (x : UInt8) :
    Own (w.setCell ⟨g, k, none⟩ (.int .u8 (x.toNat : Int))) base e (.slice (some ⟨g, 0, none⟩) n cap) (l.set k x) := by
  have hn : n = l.length := by
    rcases h.2 with ⟨h0, _⟩ | ⟨g', cap', cur, hv, _⟩
    · cases h0
    · injection hv
  unfold Own at *
  subst hn
  have := (h.stored k (.int .u8 (x.toNat : Int))).1
  have e : (bcells l).set k (.int .u8 (x.toNat : Int)) = bcells (l.set k x) := by simp [bcells, List.map_set]
  rw [e] at this
  simpa using this

theorem Own.form {w : World} {base : Nat} {e : TypeId} {v : Value} {l : List UInt8} (h : Own w base e v l) (hn : 0 < l.length) : ∃ g cap, v = .slice (some ⟨g, 0, none⟩) l.length cap ∧ base ≤ g ∧ g < w.heap.size :=
  World.ownsRow.form h hn


set_option maxHeartbeats 400000 in
theorem over_any (base : Nat) (v : Value) (l : List UInt8) (w : World) (h : Own w base 5 v l) (hl : l.length ≤ 140737488355328) :
    Calls Try.prog 127 #[v] w fun e w' => e = .returned (.tuple #[]) ∧ Below base w w' ∧ w.grownBy w' v.ownBlock ∧ (∃ l', Own w' base 5 v l' ∧ l'.length = l.length) := by
  by_cases h0 : l.length = 0
  · have hl0 : l = [] := List.eq_nil_of_length_eq_zero h0
    subst hl0
    have HO := hide h
    obtain ⟨A, c, hv, _⟩ := h.by_.form
    subst hv
    clear h
    go_enter Try.func127, Try.ntmps127
    go_wp2
    go_loopw [2] (fun u2 wr => u2 = .int .i64 0 ∧ Below base w wr ∧ w.grownBy wr (Value.ownBlock (.slice A (List.length ([] : List UInt8)) c)) ∧ Own wr base 5 (.slice A (List.length ([] : List UInt8)) c) []) (fun _ _ => 0)
    case atStart => exact ⟨rfl, Below.refl _ _, World.grownBy.refl _ _, HO.out⟩
    case round =>
      obtain ⟨rfl, hb, hg, hw⟩ := hrel
      go_wp2
      go_end0
      exact ⟨rfl, hb, hg, [], hw, rfl⟩
  obtain ⟨g, cap, hv, hbg, _⟩ := h.form (by omega)
  subst hv
  have HO := hide h
  clear h
  go_enter Try.func127, Try.ntmps127
  go_wp2
  go_loopw [2] (fun u2 wr => ∃ i : Nat, i ≤ l.length ∧ u2 = .int .i64 (i : Int) ∧ Below base w wr ∧ w.grownBy wr (some g) ∧ Own wr base 5 (.slice (some ⟨g, 0, none⟩) l.length cap) (overed l.length i l)) (fun i _ => l.length - (intOf i).toNat)
  case atStart => exact ⟨0, by omega, rfl, Below.refl _ _, World.grownBy.refl _ _, by simpa [overed] using HO.out⟩
  case round =>
    obtain ⟨i, hi, rfl, hb, hg, ho⟩ := hrel
    clear HO
    have HO := hide ho
    by_cases hil : i < l.length
    · have hlen := overed_length l l.length i hi
      have hfz := World.ownsRow.frozenAt (n := l.length) (xs := bcells (overed l.length i l)) (by unfold Own at ho; rw [hlen] at ho; exact ho) i
      have hcc := World.ownsRow.cellAt (n := l.length) (xs := bcells (overed l.length i l)) (by unfold Own at ho; rw [hlen] at ho; exact ho) i (by omega)
      have hcv : ∃ y, wr.cell? ⟨g, i, none⟩ = some y := by rw [hcc]; exact ⟨_, List.getElem?_eq_getElem (by rw [bcells_length]; omega)⟩
      obtain ⟨y, hcy⟩ := hcv
      have hmk := mark_any 7 ((i : Int) + 3)
      have HG := hide hg
      clear hcc hlen ho hg
      go_wp2_with (go_at_call 115; ((with_reducible refine (hmk _).mono ?_)); rintro e w' ⟨rfl, rfl⟩)
      go_roundw
      case rel => exact ⟨i + 1, by omega, by go_num, hb.setCell hbg _, HG.out.trans_ (store_grown _ _ _ _), by rw [← overed_set l i hil]; exact HO.out.store i _⟩
      case measure => simp [intOf]; omega
    · have hieq : i = l.length := by omega
      clear HO
      go_wp2
      go_end0
      refine ⟨rfl, hb, hg, _, ho, ?_⟩
      rw [overed_length _ _ _ (by omega)]
/-- The beginning of a row, as 'full[:n]' gives it. -/
theorem Own.front {w : World} {base : Nat} {e : TypeId} {g n cap : Nat} {l r : List UInt8} (h : Own w base e (.slice (some ⟨g, 0, none⟩) n cap) (l ++ r)) : By w (.slice (some ⟨g, 0, none⟩) l.length cap) l := by
  rcases h.2 with ⟨h0, _⟩ | ⟨g', cap', cur, hv, hg, hh, hnc, hcm, hcs, ht⟩
  · cases h0
  · injection hv with hA hn hc
    injection hA with hA
    injection hA with hA
    subst hA hc
    have hlt := (Blk.lt (w := w) (g := g) (t := e) (cs := cur) hh)
    have hlen : (l ++ r).length = l.length + r.length := List.length_append
    refine ⟨by simp, some ⟨g, 0, none⟩, cap, rfl, by omega, hcm, fun h0 => ⟨g, 0, rfl, hlt, fun j hj => ?_⟩⟩
    rw [Nat.zero_add, cell_of_row w g j cur e (0, 0) hh]
    have e1 : cur[j]? = (bcells (l ++ r))[j]? := by
      rw [← ht, List.getElem?_take_of_lt (by omega)]; simp
    rw [e1, bcells_append, List.getElem?_append_left (by simp; omega)]

end Go.Proofs.Ytoaaplngdomdcaa
