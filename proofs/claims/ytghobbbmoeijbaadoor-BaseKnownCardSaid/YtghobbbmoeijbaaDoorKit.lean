/- Contracts of the statements' helpers for lists of bytes: marks, sameness, lists that are lent with marks behind them. -/
import Derived.Test.YtghobbbmoeijbaaDoorRows
import Derived.Test.YtghobbbmoeijbaaDoorMem
import Derived.BigQuiet
import Derived.Deep.QuietTactic
namespace Go.Proofs.YtghobbbmoeijbaaDoor
open Go.RowKit

theorem elem8 : Elem1 Tryd.prog 36 5 (.int .u8 0) 1 := ⟨Tryd.underlying36, by kernel_rfl, rfl⟩
theorem Tryd.info8 : (Tryd.prog.info? 5).map (fun i => (i.zero, i.size, i.bytes)) = some (some (.int .u8 0), 1, 1) := by kernel_rfl

def mark (k i : Int) : UInt8 := UInt8.ofNat ((151 * k + 7 * i + 1) % 256).toNat
theorem mark_toNat (k i : Int) : ((mark k i).toNat : Int) = (151 * k + 7 * i + 1) % 256 := by
  unfold mark
  simp only [UInt8.toNat_ofNat']
  omega

/-- What two lists have in common from the first k places on. -/
theorem same_step (l m : List UInt8) (k : Nat) (x y : UInt8) (hx : l[k]? = some x) (hy : m[k]? = some y) (h : l.take k = m.take k) :
    (l.take (k + 1) = m.take (k + 1)) ↔ x = y := by
  rw [List.take_add_one, List.take_add_one, hx, hy, h]
  simp

theorem u8_int {x y : UInt8} : ((x.toNat : Int) = (y.toNat : Int)) ↔ x = y := by
  constructor
  · intro h
    exact UInt8.toNat_inj.1 (by omega)
  · rintro rfl; rfl

set_option maxHeartbeats 400000 in
theorem same_any (va vb : Value) (l m : List UInt8) (w : World) (ha : By w va l) (hb : By w vb m) :
    Calls Tryd.prog 21 #[va, vb] w fun e w' => e = .returned (.bool (decide (l = m))) ∧ Below w.heap.size w w' := by
  obtain ⟨A, c, rfl, hc, hm, hca⟩ := ha.form
  obtain ⟨B, d, rfl, hd, hmd, hcb⟩ := hb.form
  unfold maxLen at hm hmd
  by_cases hl : l.length = m.length
  · have hne : ((l.length : Int) != (m.length : Int)) = false := by simp [hl]
    have HL : Hid (l.length = m.length) := hl
    clear hl
    go_enter Tryd.func21, Tryd.ntmps21
    go_wp2
    go_loopw [5] (fun i wr => ∃ k : Nat, k ≤ l.length ∧ i = .int .i64 k ∧ l.take k = m.take k ∧ Below w.heap.size w wr) (fun i _ => l.length - (intOf i).toNat)
    case atStart => exact ⟨0, by omega, rfl, by simp, Below.refl _ _⟩
    case round =>
      obtain ⟨k, hk, rfl, hq, hbel⟩ := hrel
      have HQ := hide hq
      clear hq
      by_cases hlt : k < l.length
      · have hlt2 : k < m.length := by have := HL.out; omega
        obtain ⟨x, hx⟩ : ∃ x, l[k]? = some x := ⟨_, List.getElem?_eq_getElem hlt⟩
        obtain ⟨y, hy⟩ : ∃ y, m[k]? = some y := ⟨_, List.getElem?_eq_getElem hlt2⟩
        obtain ⟨b, o, rfl, hbl, hcell⟩ := hca k x hx
        obtain ⟨b2, o2, rfl, hbl2, hcell2⟩ := hcb k y hy
        have hcx : wr.cell? ⟨b, o + k, none⟩ = some (.int .u8 (x.toNat : Int)) := (hbel.cell (p := ⟨b, o + k, none⟩) hbl).trans hcell
        have hcy : wr.cell? ⟨b2, o2 + k, none⟩ = some (.int .u8 (y.toNat : Int)) := (hbel.cell (p := ⟨b2, o2 + k, none⟩) hbl2).trans hcell2
        have HX := hide hx
        have HY := hide hy
        clear hx hy hcell hcell2 hca hcb
        have i1 : (k : Int) < (l.length : Int) := by omega
        have i2 : (k : Int) < (m.length : Int) := by omega
        have i3 : (0 : Int) ≤ (k : Int) := by omega
        by_cases hxy : x = y
        · have hd : ((x.toNat : Int) != (y.toNat : Int)) = false := by simp [hxy]
          go_wp2
          go_quiet (fail)
          go_wp2
          go_roundw
          case rel => exact ⟨k + 1, by omega, by go_num, (same_step l m k x y HX.out HY.out HQ.out).2 hxy, below_drewN hbel _⟩
          case measure => simp [intOf]; omega
        · have hd : ((x.toNat : Int) != (y.toNat : Int)) = true := by
            rw [bne_iff_ne]; intro h; exact hxy (u8_int.1 h)
          go_wp2
          go_quiet (fail)
          go_wp2
          go_ret
          refine ⟨ret_bool ?_, below_drewN hbel _⟩
          refine (decide_eq_false fun h => hxy ((same_step l m k x y HX.out HY.out HQ.out).1 (by rw [h]))).symm
      · have hge : ¬ ((k : Int) < (l.length : Int)) := by omega
        go_wp2
        go_ret
        refine ⟨ret_bool ?_, hbel⟩
        refine (decide_eq_true ?_).symm
        have := HQ.out
        rwa [List.take_of_length_le (by omega), List.take_of_length_le (by have := HL.out; omega)] at this
  · have hne : ((l.length : Int) != (m.length : Int)) = true := by rw [bne_iff_ne]; omega
    go_enter Tryd.func21, Tryd.ntmps21
    go_wp2
    go_ret
    exact ⟨ret_bool (decide_eq_false fun h => hl (by rw [h])).symm, Below.refl _ _⟩

/-- The first n marks behind a list of length len. -/
def marks (k len n : Nat) : List UInt8 := (List.range n).map fun i => mark k ((len + i : Nat) : Int)
theorem marks_succ (k len n : Nat) : marks k len (n + 1) = marks k len n ++ [mark k ((len + n : Nat) : Int)] := by
  simp [marks, List.range_succ]
@[simp] theorem marks_length (k len n : Nat) : (marks k len n).length = n := by simp [marks]

theorem take_snoc {α : Type} (l : List α) (k : Nat) (x : α) (h : l[k]? = some x) : l.take (k + 1) = l.take k ++ [x] := by
  rw [List.take_add_one, h]; rfl

/-- What a list holds when i places are written over. -/
def overed (_n i : Nat) (l : List UInt8) : List UInt8 := ((List.range i).map fun j => mark 7 ((j + 3 : Nat) : Int)) ++ l.drop i
theorem overed_set (l : List UInt8) (i : Nat) (h : i < l.length) : (overed l.length i l).set i (mark 7 ((i : Int) + 3)) = overed l.length (i + 1) l := by
  unfold overed
  rw [List.set_append_right _ _ (by simp), List.drop_eq_getElem_cons h]
  simp only [List.length_map, List.length_range, Nat.sub_self, List.set_cons_zero, List.range_succ, List.map_append, List.map_cons, List.map_nil, List.append_assoc, List.cons_append, List.nil_append]
  rfl
theorem overed_length (l : List UInt8) (n i : Nat) (h : i ≤ l.length) : (overed n i l).length = l.length := by simp [overed]; omega

theorem Own.store {w : World} {base : Nat} {e : TypeId} {g n cap : Nat} {l : List UInt8} (h : Own w base e (.slice (some ⟨g, 0, none⟩) n cap) l) (k : Nat) (x : UInt8) :
    Own (w.setCell ⟨g, k, none⟩ (.int .u8 (x.toNat : Int))) base e (.slice (some ⟨g, 0, none⟩) n cap) (l.set k x) := by
  have hn : n = l.length := by
    rcases h.2 with ⟨h0, _⟩ | ⟨g', cap', cur, hv, _⟩
    · cases h0
    · injection hv
  unfold Own at *
  subst hn
  have := (h.stored k (.int .u8 (x.toNat : Int))).1
  have e : (bcells l).set k (.int .u8 (x.toNat : Int)) = bcells (l.set k x) := by simp [bcells, List.map_set]
  rw [e] at this
  simpa using this

theorem Own.form {w : World} {base : Nat} {e : TypeId} {v : Value} {l : List UInt8} (h : Own w base e v l) (hn : 0 < l.length) : ∃ g cap, v = .slice (some ⟨g, 0, none⟩) l.length cap ∧ base ≤ g ∧ g < w.heap.size :=
  World.ownsRow.form h hn

/-- The beginning of a row, as 'full[:n]' gives it. -/
theorem Own.front {w : World} {base : Nat} {e : TypeId} {g n cap : Nat} {l r : List UInt8} (h : Own w base e (.slice (some ⟨g, 0, none⟩) n cap) (l ++ r)) : By w (.slice (some ⟨g, 0, none⟩) l.length cap) l := by
  rcases h.2 with ⟨h0, _⟩ | ⟨g', cap', cur, hv, hg, hh, hnc, hcm, hcs, ht⟩
  · cases h0
  · injection hv with hA hn hc
    injection hA with hA
    injection hA with hA
    subst hA hc
    have hlt := (Blk.lt (w := w) (g := g) (t := e) (cs := cur) hh)
    have hlen : (l ++ r).length = l.length + r.length := List.length_append
    refine ⟨by simp, some ⟨g, 0, none⟩, cap, rfl, by omega, hcm, fun h0 => ⟨g, 0, rfl, hlt, fun j hj => ?_⟩⟩
    rw [Nat.zero_add, cell_of_row w g j cur e (0, 0) hh]
    have e1 : cur[j]? = (bcells (l ++ r))[j]? := by
      rw [← ht, List.getElem?_take_of_lt (by omega)]; simp
    rw [e1, bcells_append, List.getElem?_append_left (by simp; omega)]

end Go.Proofs.YtghobbbmoeijbaaDoor
