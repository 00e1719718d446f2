import Derived.Test.YtdohebhbiokljaaGreatDoorJ1
import Derived.Test.YtdohebhbiokljaaGreatDoorJ4
import Derived.Deep.RegionHeld3
import Derived.Deep.DrawnRows
import Derived.Lib.ItoaLen
import Derived.Laws.Cover1
import Derived.Deep.RegionHeld
import Derived.Maps.RangeWalk
import Derived.Test.YtdohebhbiokljaaGreatDoorJ3
import Derived.Deep.RegionHeldLaw
import Derived.Orders
import Derived.Test.YtdohebhbiokljaaGreatDoorProg
import Derived.WalkKit
import Derived.Maps.OwnSet
import Derived.StringKeys
set_option linter.all false
namespace Go.Proofs.YtdohebhbiokljaaGreatDoor
open Go.RowKit
theorem lsts_row {w : World} {g : Nat} {cs : Array Value} {e : TypeId} (hb : Blk w g e cs) (L : List (Value × List UInt8)) (hcs : cs.toList = L.map (·.1)) (hm : L.length ≤ 1000) (hby : ∀ x ∈ L, By w x.1 x.2) :
  Lsts w (.slice (some ⟨g, 0, none⟩) L.length L.length) L := by
 refine ⟨?_, hby⟩
 have := hb.own (base := 0) (e := e) (n := L.length) (cap := L.length) (sz := 1) rfl (Nat.zero_le _) (by rw [← Array.length_toList, hcs]; simp) (Nat.le_refl _) (by unfold maxLen; omega)
 have := Sl.of_own this
 rwa [hcs, List.take_of_length_le (by simp)] at this
theorem blk_new' (w : World) (g : Nat) (t : TypeId) (cs : Array Value) (h : g = w.heap.size) : Blk (w.alloc (.cells cs t)) g t cs := by rw [h]; exact Blk.new w t cs
theorem by_marked' (w : World) (g : Nat) (hg : g = w.heap.size) (e : TypeId) (f : Nat × Nat) (l : List UInt8) (h : l.length ≤ 1000) : By (w.alloc (.cells (bcells l).toArray e f)) (.slice (some ⟨g, 0, none⟩) l.length l.length) l := by
 rw [hg]; exact by_marked w e f l h
theorem Own.base {w : World} {b b' : Nat} {e : TypeId} {v : Value} {l : List UInt8} (h : Own w b e v l) (hb : b' ≤ b) : Own w b' e v l := by
 obtain ⟨h1, h2 | ⟨g, cap, cur, hv, hg, r⟩⟩ := h
 ·exact ⟨h1, .inl h2⟩
 ·exact ⟨h1, .inr ⟨g, cap, cur, hv, Nat.le_trans hb hg, r⟩⟩
set_option maxRecDepth 100000 in
set_option maxHeartbeats 1000000 in
theorem field_any (v : Value) (b : List UInt8) (w : World) (h : By w v b) (hl : b.length ≤ 549755813888) (ht : Tab w) :
  Calls Tryz.prog 97 #[v] w fun e w' => ∃ v', e = .returned v' ∧ Own w' w.heap.size 5 v' (fld b) ∧ Below w.heap.size w w' := by
 have q1 := bnumber_any (b.length : Int) w ⟨by omega, by omega⟩ ht
 rw [show numS (b.length : Int) = itoaS (b.length : Int) by unfold numS; rw [if_neg (by omega)], show numE (b.length : Int) = 0 by unfold numE; rw [if_neg (by omega)]] at q1
 have hsz : (itoaS (b.length : Int)).size ≤ 21 := by
  have := Lib.itoa_length_le (b.length : Int) (by omega) (by omega)
  rwa [← lst_itoaS, lst_len] at this
 have hls := lst_itoaS (b.length : Int)
 have HLS := hide hls
 have Q1 := hide q1
 have HB := hide h
 have HL := hide hl
 obtain ⟨A, c, rfl, hc, hm, _⟩ := h.form
 unfold maxLen at hm
 generalize itoaS (b.length : Int) = s at *
 clear q1 h hls hl
 go_enter Tryz.func97, Tryz.ntmps97
 go_wp2_with fail
 refine Q1.out.mono ?_
 rintro e w1 ⟨rfl, b1⟩
 obtain ⟨g, cc, w2, hr, hby, b2, hg, hsz2, hcc, hcm⟩ := run_bytes_str 9 34 5 s w1 Tryz.underlying9 Tryz.underlying34 Tryz.underlying5 (by unfold maxLen; omega)
 have HY := hide hby
 have C2 := hide (b1.trans (b2.mono b1.size))
 have C1 := hide b1
 clear hby b1 b2 Q1 hg hsz2 hcc hcm
 have a1 : Below w2.heap.size w2 (w2.alloc (.cells #[.int .u8 58] 5)) := (Below.refl _ w2).alloc (Nat.le_refl _) _
 have a2 := a1.alloc (by simp) (.cells #[.int .u8 44] 5)
 have a3 := a2.alloc (by simp; omega) (.cells #[.slice (some ⟨g, 0, none⟩) s.size cc, .slice (some ⟨w2.heap.size, 0, none⟩) 1 1, .slice A b.length c, .slice (some ⟨w2.heap.size + 1, 0, none⟩) 1 1] 34)
 have y1 := (by_marked w2 5 (0, 0) [58] (by simp)).below (((Below.refl _ _).alloc (Nat.le_refl _) (.cells #[.int .u8 44] 5)).alloc (by simp) (.cells #[.slice (some ⟨g, 0, none⟩) s.size cc, .slice (some ⟨w2.heap.size, 0, none⟩) 1 1, .slice A b.length c, .slice (some ⟨w2.heap.size + 1, 0, none⟩) 1 1] 34))
 have y2 := (by_marked' (w2.alloc (.cells #[.int .u8 58] 5)) (w2.heap.size + 1) (by simp) 5 (0, 0) [44] (by simp)).below ((Below.refl _ _).alloc (Nat.le_refl _) (.cells #[.slice (some ⟨g, 0, none⟩) s.size cc, .slice (some ⟨w2.heap.size, 0, none⟩) 1 1, .slice A b.length c, .slice (some ⟨w2.heap.size + 1, 0, none⟩) 1 1] 34))
 have l1 := lsts_row (blk_new' ((w2.alloc (.cells #[.int .u8 58] 5)).alloc (.cells #[.int .u8 44] 5)) (w2.heap.size + 1 + 1) 34 #[.slice (some ⟨g, 0, none⟩) s.size cc, .slice (some ⟨w2.heap.size, 0, none⟩) 1 1, .slice A b.length c, .slice (some ⟨w2.heap.size + 1, 0, none⟩) 1 1] (by simp))
  [(.slice (some ⟨g, 0, none⟩) s.size cc, lst s), (.slice (some ⟨w2.heap.size, 0, none⟩) 1 1, [58]), (.slice A b.length c, b), (.slice (some ⟨w2.heap.size + 1, 0, none⟩) 1 1, [44])] rfl (by simp) (by
   intro x hx
   simp only [List.mem_cons, List.mem_nil_iff, or_false] at hx
   rcases hx with rfl | rfl | rfl | rfl
   ·exact HY.out.below a3
   ·exact y1
   ·exact (HB.out.below C2.out).below a3
   ·exact y2)
 have q := concat_any _ _ _ l1 (by have := HL.out; simp [total, lst_len]; omega)
 have hcat : cat [(Value.slice (some ⟨g, 0, none⟩) s.size cc, lst s), (.slice (some ⟨w2.heap.size, 0, none⟩) 1 1, [58]), (.slice A b.length c, b), (.slice (some ⟨w2.heap.size + 1, 0, none⟩) 1 1, [44])] = fld b := by
  simp [cat, HLS.out, fld]
 rw [hcat] at q
 have Q := hide q
 have A3 := hide (C2.out.trans (a3.mono C2.out.size))
 clear a1 a2 a3 y1 y2 l1 q hcat
 go_wp2_with fail
 refine Q.out.mono ?_
 rintro e w3 ⟨v', rfl, o3, b3⟩
 have O3 := hide o3
 have B3 := hide b3
 clear o3 b3 Q
 go_wp2_with fail
 go_ret
 exact ⟨v', rfl, O3.out.base (by have := C2.out.size; simp; omega), A3.out.trans (B3.out.mono A3.out.size)⟩
end Go.Proofs.YtdohebhbiokljaaGreatDoor
namespace Go.Proofs.YtdohebhbiokljaaGreatDoor
open Go.RowKit
attribute [local go_sem ↓] Go.wp_at_zero Go.wp_at_succ
abbrev RowV := ByteArray × Value × List UInt8
def rcells (L : List RowV) : List Value := L.flatMap fun x => [.string x.1, x.2.1]
def rws (L : List RowV) : List Rw := L.map fun x => (lst x.1, x.2.2)
@[simp] theorem rws_length (L : List RowV) : (rws L).length = L.length := by simp [rws]
@[simp] theorem rcells_length (L : List RowV) : (rcells L).length = L.length * 2 := by
 induction L with
 | nil => rfl
 | cons x L ih => simp only [rcells, List.flatMap_cons, List.length_append, List.length_cons, List.length_nil] at ih ⊢; omega
theorem rcells_append (a b : List RowV) : rcells (a ++ b) = rcells a ++ rcells b := by simp [rcells]
theorem rws_append (a b : List RowV) : rws (a ++ b) = rws a ++ rws b := by simp [rws]
theorem rcells_get : ∀ (L : List RowV) (k : Nat) (x : RowV), L[k]? = some x → (rcells L)[k * 2]? = some (.string x.1) ∧ (rcells L)[k * 2 + 1]? = some x.2.1
 | [], k, x, h => by simp at h
 | y :: L, 0, x, h => by
  simp only [List.getElem?_cons_zero, Option.some.injEq] at h
  subst h
  exact ⟨rfl, rfl⟩
 | y :: L, k + 1, x, h => by
  have ih := rcells_get L k x (by simpa using h)
  have e1 : (k + 1) * 2 = k * 2 + 1 + 1 := by omega
  have e2 : (k + 1) * 2 + 1 = k * 2 + 1 + 1 + 1 := by omega
  rw [e2, e1]
  exact ih
def Rws (w : World) (v : Value) (L : List RowV) : Prop := Sl w 2 v L.length (rcells L) ∧ ∀ x ∈ L, By w x.2.1 x.2.2
theorem Rws.below {w w' : World} {v : Value} {L : List RowV} (h : Rws w v L) (hb : Below w.heap.size w w') : Rws w' v L := ⟨h.1.below hb, fun x hx => (h.2 x hx).below hb⟩
theorem Rws.nil (w : World) : Rws w (.slice none 0 0) [] := ⟨Sl.nil w 2, fun x hx => by cases hx⟩
theorem Rws.form {w : World} {v : Value} {L : List RowV} (h : Rws w v L) : ∃ A c, v = .slice A L.length c ∧ L.length ≤ c ∧ c ≤ maxLen ∧
  ∀ k x, L[k]? = some x → ∃ b o, A = some ⟨b, o, none⟩ ∧ b < w.heap.size ∧ w.cell? ⟨b, o + k * 2, none⟩ = some (.string x.1) ∧ w.cell? ⟨b, o + k * 2 + 1, none⟩ = some x.2.1 := by
 obtain ⟨A, c, hv, hc, hm, hcell⟩ := h.1.form
 refine ⟨A, c, hv, hc, hm, fun k x hx => ?_⟩
 have hk := (List.getElem?_eq_some_iff.1 hx).1
 obtain ⟨b, o, hA, hb, hcs⟩ := hcell (by omega)
 have hg := rcells_get L k x hx
 refine ⟨b, o, hA, hb, ?_, ?_⟩
 ·rw [hcs (k * 2) (by omega), hg.1]
 ·rw [Nat.add_assoc, hcs (k * 2 + 1) (by omega), hg.2]
theorem rws_get {L : List RowV} {k : Nat} {x : RowV} (h : L[k]? = some x) : (rws L)[k]? = some (lst x.1, x.2.2) := by simp [rws, h]
set_option maxRecDepth 100000 in
set_option maxHeartbeats 1000000 in
theorem rowMay_any (v : Value) (L : List RowV) (i : Nat) (w : World) (h : Rws w v L) (hi : i < L.length) :
  Calls Tryz.prog 96 #[v, .int .i64 (i : Int)] w fun e w' => e = .returned (.bool (rowB (rws L) i)) ∧ w = w' := by
 obtain ⟨A, c, rfl, hc, hm, hcell⟩ := h.form
 unfold maxLen at hm
 obtain ⟨x, hx⟩ : ∃ x, L[i]? = some x := ⟨_, List.getElem?_eq_getElem hi⟩
 obtain ⟨b, o, rfl, hb, h1, h2⟩ := hcell i x hx
 have hby := h.2 x (List.mem_of_getElem? hx)
 obtain ⟨A2, c2, hv2, _⟩ := hby.form
 rw [hv2] at h2
 have e1 : (rws L)[i]? = some (lst x.1, x.2.2) := rws_get hx
 have i1 : (i : Int) < (L.length : Int) := by omega
 have i2 : (0 : Int) ≤ (i : Int) := by omega
 have hxs : (lst x.1).length = x.1.size := lst_len _
 by_cases h0 : i = 0
 ·have hres : rowB (rws L) i = (decide (1 ≤ x.1.size) && decide (x.1.size ≤ 64) && decide (x.2.2.length ≤ 65536)) := by
   unfold rowB
   rw [e1]
   simp [h0, hxs]
  rw [hres]
  subst h0
  simp only [Nat.zero_mul, Nat.add_zero] at h1 h2
  clear hby hcell hx e1 hres h hv2
  by_cases c1 : 1 ≤ x.1.size
  ·by_cases c2 : x.1.size ≤ 64
   ·by_cases c3 : x.2.2.length ≤ 65536
    ·go_enter Tryz.func96, Tryz.ntmps96
     go_wp2
     go_ret
     simp [c1, c2, c3]
    ·go_enter Tryz.func96, Tryz.ntmps96
     go_wp2
     go_ret
     simp [c1, c2, c3]
   ·go_enter Tryz.func96, Tryz.ntmps96
    go_wp2
    go_ret
    simp [c1, c2]
  ·go_enter Tryz.func96, Tryz.ntmps96
   go_wp2
   go_ret
   simp [c1]
 ·obtain ⟨m, rfl⟩ : ∃ m, i = m + 1 := ⟨i - 1, by omega⟩
  obtain ⟨y, hy⟩ : ∃ y, L[m]? = some y := ⟨_, List.getElem?_eq_getElem (by omega)⟩
  obtain ⟨b', o', hbo, -, h3, -⟩ := hcell m y hy
  cases hbo
  have e2 : (rws L)[m]? = some (lst y.1, y.2.2) := rws_get hy
  have hres : rowB (rws L) (m + 1) = (decide (m + 1 < 64) && decide (1 ≤ x.1.size) && decide (x.1.size ≤ 64) && decide (x.2.2.length ≤ 65536) && !(Op.bytesLess x.1.toList y.1.toList || x.1.toList == y.1.toList)) := by
   unfold rowB
   rw [e1]
   simp only [Nat.add_sub_cancel, e2, hxs, leB, str_toList]
   simp [lst]
  rw [hres]
  have k1 : (m : Int) + 1 < (L.length : Int) := by omega
  have k2 : (0 : Int) ≤ (m : Int) + 1 := by omega
  have k3 : (m : Int) < (L.length : Int) := by omega
  have k4 : (0 : Int) ≤ (m : Int) := by omega
  have k5 : ((m : Int) + 1).toNat = m + 1 := by omega
  clear hby hcell hx hy e1 e2 hres h hv2 h0 i1 i2 hi
  by_cases c0 : m + 1 < 64
  ·have j0 : (m : Int) + 1 < 64 := by omega
   by_cases c1 : 1 ≤ x.1.size
   ·by_cases c2 : x.1.size ≤ 64
    ·by_cases c3 : x.2.2.length ≤ 65536
     ·go_enter Tryz.func96, Tryz.ntmps96
      go_wp2
      go_ret
      simp [c0, c1, c2, c3]
      intro hh
      omega
     ·go_enter Tryz.func96, Tryz.ntmps96
      go_wp2
      go_ret
      simp [c0, c1, c2, c3]
    ·go_enter Tryz.func96, Tryz.ntmps96
     go_wp2
     go_ret
     simp [c0, c1, c2]
   ·go_enter Tryz.func96, Tryz.ntmps96
    go_wp2
    go_ret
    simp [c0, c1]
  ·have j0 : ¬ (m : Int) + 1 < 64 := by omega
   go_enter Tryz.func96, Tryz.ntmps96
   go_wp2
   go_ret
   simp [c0]
theorem below_same {B : Nat} {a W W' : World} (h : Below B a W) (e1 : W'.os = W.os) (e2 : W'.tape = W.tape) (e3 : W'.output = W.output) (e4 : W'.heap = W.heap) : Below B a W' :=
 ⟨e1.trans h.os, e2.trans h.tape, e3.trans h.output, by rw [e4]; exact h.size, fun k hk => by rw [e4]; exact h.block k hk⟩
theorem By.heap_ {w W : World} {v : Value} {l : List UInt8} (h : By w v l) (e : W.heap = w.heap) : By W v l := h.keep (by rw [e]; exact Nat.le_refl _) fun b _ => by rw [e]
theorem By.alloc {w : World} {v : Value} {l : List UInt8} (h : By w v l) (o : Obj) : By (w.alloc o) v l := h.below ((Below.refl _ w).alloc (Nat.le_refl _) o)
theorem by_str_row {W : World} {g : Nat} {s : ByteArray} {cap : Nat} {e : TypeId} {f : Nat × Nat} (hh : W.heap[g]? = some (.cells (bytesRow s cap) e f)) (h1 : s.size ≤ cap) (h2 : cap ≤ maxLen) : By W (.slice (some ⟨g, 0, none⟩) s.size cap) (lst s) := by
 have := by_row (l := lst s) (c := cap) hh (by rw [lst_len]; exact h1) h2 fun j hj => by
  rw [lst_len] at hj
  unfold bytesRow bcells lst
  rw [Array.getElem?_append_left (by simp; omega)]
  simp
 rwa [lst_len] at this
theorem fld_len (b : List UInt8) (h : b.length ≤ 65536) : (fld b).length ≤ b.length + 7 := by
 have := itoa_len b.length h
 unfold fld
 simp
 omega
theorem encs_len : ∀ (rs : List Rw) (k : Nat), rs.length ≤ k → (∀ y ∈ rs, y.1.length ≤ 64 ∧ y.2.length ≤ 65536) → (encs rs).length ≤ 1048576 * k
 | [], k, _, _ => by simp
 | x :: rs, 0, h, _ => by simp at h
 | x :: rs, k + 1, h, hy => by
  have ih := encs_len rs k (by simpa using h) fun y hm => hy y (List.mem_cons_of_mem _ hm)
  have hx := hy x (List.mem_cons_self ..)
  have f1 := fld_len x.1 (by omega)
  have f2 := fld_len x.2 hx.2
  rw [encs_cons, List.length_append]
  unfold enc
  rw [List.length_append]
  omega
set_option maxRecDepth 100000 in
set_option maxHeartbeats 8000000 in
theorem pack_any (v : Value) (L : List RowV) (w : World) (h : Rws w v L) (ht : Tab w) :
  Calls Tryz.prog 77 #[v] w fun e w' => Below w.heap.size w w' ∧
   ((may (rws L) ∧ ∃ v', e = .returned (.tuple #[v', .int .i64 0]) ∧ Own w' w.heap.size 5 v' (encs (rws L))) ∨
    (¬ may (rws L) ∧ e = .returned (.tuple #[.slice none 0 0, .int .i64 130]))) := by
 have HR := hide h
 have HT := hide ht
 obtain ⟨A, c, rfl, hc, hm, hcell⟩ := h.form
 have HC := hide hcell
 unfold maxLen at hm
 clear h ht hcell
 go_enter Tryz.func77, Tryz.ntmps77
 go_wp2
 go_loopw [4, 8] (fun u4 u8 wr => ∃ k : Nat, k ≤ L.length ∧ u8 = .int .i64 k ∧ Own wr w.heap.size 5 u4 (encs ((rws L).take k)) ∧ (∀ j, j < k → rowB (rws L) j = true) ∧ Below w.heap.size w wr) (fun _ i _ => L.length - (intOf i).toNat)
 case atStart => exact ⟨0, by omega, rfl, Own.nil _ _ _, fun j hj => absurd hj (Nat.not_lt_zero _), Below.refl _ _⟩
 case round =>
  obtain ⟨k, hk, rfl, ho, hr, hb⟩ := hrel
  have HO := hide ho
  have HM := hide hr
  clear ho hr
  by_cases hlt : k < L.length
  ·have q := rowMay_any _ L k wr (HR.out.below hb) hlt
   have i1 : (k : Int) < (L.length : Int) := by omega
   have i2 : (0 : Int) ≤ (k : Int) := by omega
   rcases hrb : rowB (rws L) k with _ | _
   ·rw [hrb] at q
    have Q := hide q
    have HB := hide hrb
    clear q hrb
    go_wp2_with fail
    refine Q.out.mono ?_
    rintro e w1 ⟨rfl, rfl⟩
    go_wp2
    go_ret2
    have hno : ¬ may (rws L) := fun hmay => by
     have := hmay k (by simpa using hlt)
     rw [HB.out] at this
     cases this
    exact ⟨hb, .inr ⟨hno, rfl⟩⟩
   ·rw [hrb] at q
    have Q := hide q
    obtain ⟨x, hx⟩ : ∃ x, L[k]? = some x := ⟨_, List.getElem?_eq_getElem hlt⟩
    obtain ⟨b, o, rfl, hbl, h1, h2⟩ := HC.out k x hx
    have hb1 : wr.cell? ⟨b, o + k * 2, none⟩ = some (.string x.1) := (hb.cell (p := ⟨b, o + k * 2, none⟩) hbl).trans h1
    have hb2 : wr.cell? ⟨b, o + k * 2 + 1, none⟩ = some x.2.1 := (hb.cell (p := ⟨b, o + k * 2 + 1, none⟩) hbl).trans h2
    have hby := (HR.out.2 x (List.mem_of_getElem? hx)).below hb
    clear q h1 h2
    go_wp2_with fail
    refine Q.out.mono ?_
    rintro e w1 ⟨rfl, rfl⟩
    obtain ⟨A2, c2, hv2, _⟩ := hby.form
    rw [hv2] at hb2
    have kc := fun w : World => run_bytes_of_string w 9 34 5 x.1 Tryz.underlying9 Tryz.underlying34 Tryz.underlying5
    have hvl : x.2.2.length ≤ 65536 := by
     obtain ⟨r, hr, _, _, _, hv⟩ := rowB_some hrb
     rw [rws_get hx] at hr
     cases hr
     exact hv
    have hnl : x.1.size ≤ 64 := by
     obtain ⟨r, hr, _, _, hv, _⟩ := rowB_some hrb
     rw [rws_get hx] at hr
     cases hr
     simpa [lst_len] using hv
    have HNL := hide hnl
    have HVL := hide hvl
    rw [hv2] at hby
    have HV : Hid (∀ W, Below wr.heap.size wr W → Calls Tryz.prog 97 #[.slice A2 x.2.2.length c2] W fun e w' => ∃ A n c, e = .returned (.slice A n c) ∧ By w' (.slice A n c) (fld x.2.2) ∧ Below W.heap.size W w' ∧ Below wr.heap.size wr w') := fun W hW =>
     (field_any _ x.2.2 W (hby.below hW) (by omega) ((HT.out.below hb).below hW)).mono fun e w' ⟨v', h1, h2, h3⟩ => by
      obtain ⟨A', c', rfl, _⟩ := h2.by_.form
      exact ⟨_, _, _, h1, h2.by_, h3, hW.trans (h3.mono hW.size)⟩
    have HN : Hid (∀ W g cap, (∃ e f, W.heap[g]? = some (.cells (bytesRow x.1 cap) e f)) → x.1.size ≤ cap → cap ≤ maxLen → Below wr.heap.size wr W → Calls Tryz.prog 97 #[.slice (some ⟨g, 0, none⟩) x.1.size cap] W fun e w' => ∃ A n c, e = .returned (.slice A n c) ∧ By w' (.slice A n c) (fld (lst x.1)) ∧ Below W.heap.size W w' ∧ Below wr.heap.size wr w') := fun W g cap ⟨e, f, h1⟩ h2 h3 hW =>
     (field_any _ (lst x.1) W (by_str_row h1 h2 h3) (by rw [lst_len]; omega) ((HT.out.below hb).below hW)).mono fun e w' ⟨v', h1, h2, h3⟩ => by
      obtain ⟨A', c', rfl, _⟩ := h2.by_.form
      exact ⟨_, _, _, h1, h2.by_, h3, hW.trans (h3.mono hW.size)⟩
    have hnext : encs ((rws L).take (k + 1)) = encs ((rws L).take k) ++ (fld (lst x.1) ++ fld x.2.2) := by
     rw [take_snoc (rws L) k _ (rws_get hx), encs_snoc]; rfl
    have hlen0 : (encs ((rws L).take k)).length ≤ 1048576 * k := encs_len _ k (by simp; omega) fun y hy => by
     obtain ⟨j, hj⟩ := List.mem_iff_getElem?.1 hy
     rw [List.getElem?_take] at hj
     split at hj
     ·rename_i hjk
      obtain ⟨r, hr, _, _, h64, h65⟩ := rowB_some (HM.out j hjk)
      rw [hj] at hr
      cases hr
      exact ⟨h64, h65⟩
     ·cases hj
    have hk64 : k < 64 := by
     obtain ⟨r, _, h64, _⟩ := rowB_some hrb
     exact h64
    have HK : Hid (∀ W g (a b c : Value), (∃ e f, W.heap[g]? = some (.cells #[a, b, c] e f)) → By W a (encs ((rws L).take k)) → By W b (fld (lst x.1)) → By W c (fld x.2.2) → Below wr.heap.size wr W → Calls Tryz.prog 66 #[.slice (some ⟨g, 0, none⟩) 3 3] W fun e w' => ∃ v', e = .returned v' ∧ Own w' w.heap.size 5 v' (encs ((rws L).take (k + 1))) ∧ Below wr.heap.size wr w') := fun W g a b c ⟨e, f, hh⟩ ha hb' hc' hW => by
     have hl : Lsts W (.slice (some ⟨g, 0, none⟩) 3 3) [(a, encs ((rws L).take k)), (b, fld (lst x.1)), (c, fld x.2.2)] := by
      refine ⟨⟨rfl, _, 3, rfl, Nat.le_refl _, by unfold maxLen; omega, fun _ => ⟨g, 0, rfl, ?_, fun j hj => ?_⟩⟩, ?_⟩
      ·rcases Nat.lt_or_ge g W.heap.size with h | h
       ·exact h
       ·rw [Array.getElem?_eq_none h] at hh; cases hh
      ·rw [Nat.zero_add, cell_of_row W g j _ e f hh]
       simp
      ·intro y hy
       simp only [List.mem_cons, List.mem_nil_iff, or_false] at hy
       rcases hy with rfl | rfl | rfl
       ·exact ha
       ·exact hb'
       ·exact hc'
     have hf1 := fld_len (lst x.1) (by rw [lst_len]; omega)
     have hf2 := fld_len x.2.2 hvl
     rw [lst_len] at hf1
     refine (concat_any _ _ W hl (by simp [total]; omega)).mono ?_
     rintro e w' ⟨v', h1, h2, h3⟩
     refine ⟨v', h1, ?_, hW.trans (h3.mono hW.size)⟩
     rw [hnext]
     have : cat [(a, encs ((rws L).take k)), (b, fld (lst x.1)), (c, fld x.2.2)] = encs ((rws L).take k) ++ (fld (lst x.1) ++ fld x.2.2) := by simp [cat]
     rw [this] at h2
     exact h2.base (Nat.le_trans hb.size hW.size)
    clear hnext hlen0 hk64
    have hcl := fun w : World => grownCap_le_maxLen w x.1.size 0 5 (by unfold maxLen; omega)
    have HCL := hide hcl
    clear hcl
    have hbw : b < wr.heap.size := Nat.lt_of_lt_of_le hbl hb.size
    obtain ⟨A4, c4, hv4, _⟩ := HO.out.by_.form
    subst hv4
    have HB1 := hide hb1
    have HB2 := hide hb2
    have HX := hide hx
    have HRB := hide hrb
    clear Q hx hrb hvl hnl hv2 hby
    go_wp2
    go_region_held (fun w' => w'.cell? ⟨b, o + k * 2, none⟩ = some (.string x.1) ∧ w'.cell? ⟨b, o + k * 2 + 1, none⟩ = some (.slice A2 x.2.2.length c2))
     (first | go_keep | exact ⟨(r1.cell (p := ⟨b, o + k * 2, none⟩) hbw).trans HB1.out, (r1.cell (p := ⟨b, o + k * 2 + 1, none⟩) hbw).trans HB2.out⟩ | exact ⟨(r2.cell (p := ⟨b, o + k * 2, none⟩) hbw).trans HB1.out, (r2.cell (p := ⟨b, o + k * 2 + 1, none⟩) hbw).trans HB2.out⟩ | exact ⟨(r3.cell (p := ⟨b, o + k * 2, none⟩) hbw).trans HB1.out, (r3.cell (p := ⟨b, o + k * 2 + 1, none⟩) hbw).trans HB2.out⟩)
     (first
      | (go_at_call 97; (with_reducible refine (HV.out _ ?bb).mono ?_); (case bb => (first | exact Below.refl _ _ | assumption | exact (Below.refl _ _).drew | exact (Below.refl _ _).drew.drew | exact ((Below.refl _ _).alloc (Nat.le_refl _) _).drew | exact ((Below.refl _ _).alloc (Nat.le_refl _) _).drew.drew | exact ((Below.refl _ _).alloc (Nat.le_refl _) _).drew.drew.drew | exact (r1.alloc r1.size _).drew | exact (r1.alloc r1.size _).drew.drew | exact r1.drew | exact r1.alloc r1.size _)); rintro e w1 ⟨A1, n1, c1, rfl, p1, q1, r1⟩)
      | (go_at_call 97; (with_reducible refine (HN.out _ _ _ ?hr (grownCap_ge ..) (HCL.out _) ?bb).mono ?_); (case hr => first | exact ⟨_, _, heap_alloc_new wr _⟩ | exact ⟨_, _, heap_alloc_new w1 _⟩ | exact ⟨_, _, (q1.block _ (by simp)).trans (heap_alloc_new wr _)⟩); (case bb => (first | exact Below.refl _ _ | assumption | exact (Below.refl _ _).drew | exact (Below.refl _ _).drew.drew | exact ((Below.refl _ _).alloc (Nat.le_refl _) _).drew | exact ((Below.refl _ _).alloc (Nat.le_refl _) _).drew.drew | exact ((Below.refl _ _).alloc (Nat.le_refl _) _).drew.drew.drew | exact (r1.alloc r1.size _).drew | exact (r1.alloc r1.size _).drew.drew | exact r1.drew | exact r1.alloc r1.size _)); rintro e w2 ⟨A3, n3, c3, rfl, p2, q2, r2⟩)
      | (go_at_call 66; (with_reducible refine (HK.out _ _ _ _ _ ⟨_, _, heap_alloc_new w2 _⟩ ?ha ?hb ?hc ?bb).mono ?_); (case ha => first | exact By.heap_ (By.alloc (By.below HO.out.by_ r2) _) rfl | exact By.heap_ (By.alloc (By.below HO.out.by_ r1) _) rfl); (case hb => first | exact By.heap_ (By.alloc (by exact p2) _) rfl | exact By.heap_ (By.alloc (By.below (by exact p2) q1) _) rfl); (case hc => first | exact By.heap_ (By.alloc (by exact p1) _) rfl | exact By.heap_ (By.alloc (By.below (by exact p1) q2) _) rfl); (case bb => first | exact below_same (r2.alloc r2.size _) rfl rfl rfl rfl | exact below_same (r1.alloc r1.size _) rfl rfl rfl rfl); rintro e w3 ⟨v3, rfl, p3, r3⟩)
      | (go_at_call 66; (with_reducible refine (HK.out _ _ _ _ _ ⟨_, _, heap_alloc_new w1 _⟩ ?ha ?hb ?hc ?bb).mono ?_); (case ha => first | exact By.heap_ (By.alloc (By.below HO.out.by_ r2) _) rfl | exact By.heap_ (By.alloc (By.below HO.out.by_ r1) _) rfl); (case hb => first | exact By.heap_ (By.alloc (by exact p2) _) rfl | exact By.heap_ (By.alloc (By.below (by exact p2) q1) _) rfl); (case hc => first | exact By.heap_ (By.alloc (by exact p1) _) rfl | exact By.heap_ (By.alloc (By.below (by exact p1) q2) _) rfl); (case bb => first | exact below_same (r2.alloc r2.size _) rfl rfl rfl rfl | exact below_same (r1.alloc r1.size _) rfl rfl rfl rfl); rintro e w3 ⟨v3, rfl, p3, r3⟩))
    all_goals
     go_wp2
     go_roundw
     case rel =>
      refine ⟨k + 1, by omega, by go_num, p3, fun j hj => ?_, hb.trans (r3.mono hb.size)⟩
      rcases Nat.lt_or_ge j k with hjk | hjk
      ·exact HM.out j hjk
      ·rw [show j = k by omega]; exact HRB.out
     case measure => simp [intOf]; omega
  ·have hge : ¬ (k : Int) < (L.length : Int) := by omega
   have hks : k = L.length := by omega
   have hend := HO.out
   rw [hks, List.take_of_length_le (by simp)] at hend
   have HE := hide hend
   have HMY : Hid (may (rws L)) := fun j hj => HM.out j (by rw [hks]; simpa using hj)
   clear hks hend HO HM
   go_wp2
   go_ret2
   exact ⟨hb, .inl ⟨HMY.out, _, rfl, HE.out⟩⟩
end Go.Proofs.YtdohebhbiokljaaGreatDoor
namespace Go.Proofs.YtdohebhbiokljaaGreatDoor
open Go.RowKit
attribute [local go_sem ↓] Go.wp_at_zero Go.wp_at_succ
theorem Below.step {w W W' : World} (h : Below w.heap.size w W) (h' : Below W.heap.size W W') : Below w.heap.size w W' := h.trans (h'.mono h.size)
theorem Below.al0 {w W : World} (h : Below w.heap.size w W) (o : Obj) : Below w.heap.size w (W.alloc o) := h.alloc h.size o
def tK : List UInt8 := [107]
def tN : List UInt8 := [110]
def tSeg : List UInt8 := [115, 101, 103]
def tSegments : List UInt8 := [115, 101, 103, 109, 101, 110, 116, 115]
def tShares : List UInt8 := [115, 104, 97, 114, 101, 115]
def tSize : List UInt8 := [115, 105, 122, 101]
def uebRows (k n seg size : Int) (sh sg : List UInt8) : List Rw := [(tK, lst (numS k)), (tN, lst (numS n)), (tSeg, lst (numS seg)), (tSegments, sg), (tShares, sh), (tSize, lst (numS size))]
theorem numS_len (x : Int) (h : -9223372036854775808 ≤ x ∧ x ≤ 9223372036854775807) : (lst (numS x)).length ≤ 21 := by
 unfold numS
 split
 ·simp [lst]
 ·rw [lst_itoaS]
  exact Lib.itoa_length_le x h.1 h.2
theorem uebRows_may (k n seg size : Int) (sh sg : List UInt8) (hk : -9223372036854775808 ≤ k ∧ k ≤ 9223372036854775807) (hn : -9223372036854775808 ≤ n ∧ n ≤ 9223372036854775807) (hs : -9223372036854775808 ≤ seg ∧ seg ≤ 9223372036854775807) (hz : -9223372036854775808 ≤ size ∧ size ≤ 9223372036854775807)
  (h1 : sh.length = 32) (h2 : sg.length = 32) : may (uebRows k n seg size sh sg) := by
 have l1 := numS_len k hk
 have l2 := numS_len n hn
 have l3 := numS_len seg hs
 have l4 := numS_len size hz
 unfold uebRows
 generalize lst (numS k) = a1 at *
 generalize lst (numS n) = a2 at *
 generalize lst (numS seg) = a3 at *
 generalize lst (numS size) = a4 at *
 have c1 : leB tN tK = false := by decide
 have c2 : leB tSeg tN = false := by decide
 have c3 : leB tSegments tSeg = false := by decide
 have c4 : leB tShares tSegments = false := by decide
 have c5 : leB tSize tShares = false := by decide
 intro i hi
 simp only [List.length_cons, List.length_nil] at hi
 rcases i with _ | _ | _ | _ | _ | _ | i
 ·simp [rowB]; exact ⟨by decide, by omega⟩
 ·simp [rowB, c1]; exact ⟨by decide, by omega⟩
 ·simp [rowB, c2]; exact ⟨by decide, by omega⟩
 ·simp [rowB, c3, h2]; decide
 ·simp [rowB, c4, h1]; decide
 ·simp [rowB, c5]; exact ⟨by decide, by omega⟩
 ·omega
set_option maxRecDepth 100000 in
set_option maxHeartbeats 1000000 in
theorem number_any (x : Int) (w : World) (hx : -9223372036854775808 ≤ x ∧ x ≤ 9223372036854775807) (ht : Tab w) :
  Calls Tryz.prog 75 #[.int .i64 x] w fun e w' => ∃ A n c, e = .returned (.slice A n c) ∧ By w' (.slice A n c) (lst (numS x)) ∧ Below w.heap.size w w' := by
 have hsz := numS_len x hx
 rw [lst_len] at hsz
 have Q := hide (bnumber_any x w hx ht)
 generalize numS x = s at *
 generalize numE x = y at *
 go_enter Tryz.func75, Tryz.ntmps75
 go_wp2_with fail
 refine Q.out.mono ?_
 rintro e w1 ⟨rfl, b1⟩
 obtain ⟨g, cc, w2, hr, hby, b2, hg, hsz2, hcc, hcm⟩ := run_bytes_str 9 34 5 s w1 Tryz.underlying9 Tryz.underlying34 Tryz.underlying5 (by unfold maxLen; omega)
 have HY := hide hby
 have C2 := hide (b1.trans (b2.mono b1.size))
 clear hby b1 b2 Q hg hsz2 hcc hcm
 go_wp2_with fail
 go_ret
 exact ⟨_, _, _, rfl, HY.out, C2.out⟩
end Go.Proofs.YtdohebhbiokljaaGreatDoor
namespace Go.Proofs.YtdohebhbiokljaaGreatDoor
open Go.RowKit
attribute [local go_sem ↓] Go.wp_at_zero Go.wp_at_succ
theorem by_mid {W : World} {g o : Nat} {cs : Array Value} {t : TypeId} {f : Nat × Nat} {l : List UInt8} {n : Nat} (hn : n = l.length) (hh : W.heap[g]? = some (.cells cs t f)) (hcs : ∀ j, j < l.length → cs[o + j]? = (bcells l)[j]?) (hm : l.length ≤ 1000) : By W (.slice (some ⟨g, o, none⟩) n n) l := by
 subst hn
 refine ⟨by simp, _, l.length, rfl, Nat.le_refl _, by unfold maxLen; omega, fun _ => ⟨g, o, rfl, ?_, fun j hj => ?_⟩⟩
 ·rcases Nat.lt_or_ge g W.heap.size with h | h
  ·exact h
  ·rw [Array.getElem?_eq_none h] at hh; cases hh
 ·rw [cell_of_row W g (o + j) cs t f hh]
  exact hcs j (by omega)
theorem pack_ueb (k n seg size : Int) (sh sg : List UInt8) (w w1 W : World) (g : Nat) (v1 v2 v3 v4 : Value) (hk : -9223372036854775808 ≤ k ∧ k ≤ 9223372036854775807) (hn : -9223372036854775808 ≤ n ∧ n ≤ 9223372036854775807) (hs : -9223372036854775808 ≤ seg ∧ seg ≤ 9223372036854775807) (hz : -9223372036854775808 ≤ size ∧ size ≤ 9223372036854775807) (h1 : sh.length = 32) (h2 : sg.length = 32)
  (hww : w.heap.size ≤ w1.heap.size) (hy1 : By w1 (.slice (some ⟨w.heap.size, 36, none⟩) 32 32) sg) (hy2 : By w1 (.slice (some ⟨w.heap.size, 4, none⟩) 32 32) sh) (ht : Tab w1)
  (hh : ∃ e f, W.heap[g]? = some (.cells #[.string ⟨#[107]⟩, v1, .string ⟨#[110]⟩, v2, .string ⟨#[115, 101, 103]⟩, v3, .string ⟨#[115, 101, 103, 109, 101, 110, 116, 115]⟩, .slice (some ⟨w.heap.size, 36, none⟩) 32 32, .string ⟨#[115, 104, 97, 114, 101, 115]⟩, .slice (some ⟨w.heap.size, 4, none⟩) 32 32, .string ⟨#[115, 105, 122, 101]⟩, v4] e f)) (a1 : By W v1 (lst (numS k))) (a2 : By W v2 (lst (numS n))) (a3 : By W v3 (lst (numS seg))) (a4 : By W v4 (lst (numS size))) (hW : Below w1.heap.size w1 W) :
  Calls Tryz.prog 77 #[.slice (some ⟨g, 0, none⟩) 6 6] W fun e w' => ∃ A n' c, e = .returned (.tuple #[.slice A n' c, .int .i64 0]) ∧ Own w' w.heap.size 5 (.slice A n' c) (encs (uebRows k n seg size sh sg)) ∧ Below W.heap.size W w' := by
 obtain ⟨e, f, hh⟩ := hh
 have hr : Rws W (.slice (some ⟨g, 0, none⟩) 6 6) [(⟨#[107]⟩, v1, lst (numS k)), (⟨#[110]⟩, v2, lst (numS n)), (⟨#[115, 101, 103]⟩, v3, lst (numS seg)), (⟨#[115, 101, 103, 109, 101, 110, 116, 115]⟩, .slice (some ⟨w.heap.size, 36, none⟩) 32 32, sg), (⟨#[115, 104, 97, 114, 101, 115]⟩, .slice (some ⟨w.heap.size, 4, none⟩) 32 32, sh), (⟨#[115, 105, 122, 101]⟩, v4, lst (numS size))] := by
  refine ⟨⟨by simp, _, 6, rfl, Nat.le_refl _, by unfold maxLen; omega, fun _ => ⟨g, 0, rfl, ?_, fun j hj => ?_⟩⟩, ?_⟩
  ·rcases Nat.lt_or_ge g W.heap.size with h | h
   ·exact h
   ·rw [Array.getElem?_eq_none h] at hh; cases hh
  ·rw [Nat.zero_add, cell_of_row W g j _ e f hh]
   simp [rcells]
  ·intro y hy
   simp only [List.mem_cons, List.mem_nil_iff, or_false] at hy
   rcases hy with rfl | rfl | rfl | rfl | rfl | rfl
   ·exact a1
   ·exact a2
   ·exact a3
   ·exact hy1.below hW
   ·exact hy2.below hW
   ·exact a4
 refine (pack_any _ _ W hr (ht.below hW)).mono ?_
 rintro e w' ⟨hb, h⟩
 have hm := uebRows_may k n seg size sh sg hk hn hs hz h1 h2
 rcases h with ⟨-, v', he, ho⟩ | ⟨hno, -⟩
 ·obtain ⟨A, c, rfl, _⟩ := ho.by_.form
  exact ⟨A, _, c, he, ho.base (Nat.le_trans hww hW.size), hb⟩
 ·exact absurd hm hno
set_option maxRecDepth 100000 in
set_option maxHeartbeats 40000000 in
theorem write_ok (k n seg size : Int) (sh sg : List UInt8) (w : World) (hk : -9223372036854775808 ≤ k ∧ k ≤ 9223372036854775807) (hn : -9223372036854775808 ≤ n ∧ n ≤ 9223372036854775807) (hs : -9223372036854775808 ≤ seg ∧ seg ≤ 9223372036854775807) (hz : -9223372036854775808 ≤ size ∧ size ≤ 9223372036854775807) (h1 : sh.length = 32) (h2 : sg.length = 32) (ht : Tab w) (hag : agOK k n seg size) :
  Calls Tryz.prog 43 #[.agg (uebC k n seg size (bcells sh ++ bcells sg))] w fun e w' => Below w.heap.size w w' ∧ ∃ A n' c, e = .returned (.tuple #[.slice A n' c, .int .i64 0]) ∧ Own w' w.heap.size 5 (.slice A n' c) (encs (uebRows k n seg size sh sg)) := by
 have q := fun w => check_any_ueb k n seg size (bcells sh ++ bcells sg) w hk hn hs hz
 simp only [if_pos hag] at q
 have Q := hide q
 have HP := hide (fun w1 W g v1 v2 v3 v4 => pack_ueb k n seg size sh sg w w1 W g v1 v2 v3 v4 hk hn hs hz h1 h2)
 have hb := Blk.new w 25 (uebC k n seg size (bcells sh ++ bcells sg))
 have hsz : (uebC k n seg size (bcells sh ++ bcells sg)).size = 68 := by simp [uebC, h1, h2]
 have hal := (Below.refl w.heap.size w).alloc (Nat.le_refl _) (.cells (uebC k n seg size (bcells sh ++ bcells sg)) 25)
 have m1 : ∀ W t f, W.heap[w.heap.size]? = some (.cells (uebC k n seg size (bcells sh ++ bcells sg)) t f) → By W (.slice (some ⟨w.heap.size, 36, none⟩) 32 32) sg := fun W t f hh => by_mid h2.symm hh (fun j hj => by
  simp only [uebC, List.getElem?_toArray]
  rw [show 36 + j = (32 + j) + 4 by omega]
  simp only [List.getElem?_cons_succ]
  rw [List.getElem?_append_right (by simp [h1])]
  simp [h1]) (by omega)
 have m2 : ∀ W t f, W.heap[w.heap.size]? = some (.cells (uebC k n seg size (bcells sh ++ bcells sg)) t f) → By W (.slice (some ⟨w.heap.size, 4, none⟩) 32 32) sh := fun W t f hh => by_mid h1.symm hh (fun j hj => by
  simp only [uebC, List.getElem?_toArray]
  rw [show 4 + j = j + 4 by omega]
  simp only [List.getElem?_cons_succ]
  rw [List.getElem?_append_left (by simp; omega)]) (by omega)
 have f0 : (uebC k n seg size (bcells sh ++ bcells sg))[0]? = some (.int .i64 k) := rfl
 have f1 : (uebC k n seg size (bcells sh ++ bcells sg))[1]? = some (.int .i64 n) := rfl
 have f2 : (uebC k n seg size (bcells sh ++ bcells sg))[2]? = some (.int .i64 seg) := rfl
 have f3 : (uebC k n seg size (bcells sh ++ bcells sg))[3]? = some (.int .i64 size) := rfl
 have M1 := hide m1
 have M2 := hide m2
 have HF := hide (And.intro f0 (And.intro f1 (And.intro f2 f3)))
 have HB := hide hb
 have HAL := hide hal
 have HT := hide ht
 have HSZ := hide hsz
 clear q hb hal m1 m2 f0 f1 f2 f3 ht hag hsz
 generalize uebC k n seg size (bcells sh ++ bcells sg) = cs at *
 go_enter Tryz.func43, Tryz.ntmps43
 go_wp2_with (refine wpList_load_row (o := ⟨some 6, .load _ _, _, _, _, _⟩) rfl 25 _ rfl w.heap.size rfl 25 cs (0, 0) _ HB.out Tryz.underlying25 rfl (by rw [HSZ.out]; kernel_rfl) ?_)
 refine (Q.out _).mono ?_
 rintro e w1 ⟨b1, rfl⟩
 have B1 := hide (HAL.out.trans (b1.mono HAL.out.size))
 have HB1 : Hid (Blk w1 w.heap.size 25 cs) := HB.out.below' b1
 have N1 : Hid (∀ W, Below w1.heap.size w1 W → _) := fun W hW => number_any k W hk ((HT.out.below B1.out).below hW)
 have N2 : Hid (∀ W, Below w1.heap.size w1 W → _) := fun W hW => number_any n W hn ((HT.out.below B1.out).below hW)
 have N3 : Hid (∀ W, Below w1.heap.size w1 W → _) := fun W hW => number_any seg W hs ((HT.out.below B1.out).below hW)
 have N4 : Hid (∀ W, Below w1.heap.size w1 W → _) := fun W hW => number_any size W hz ((HT.out.below B1.out).below hW)
 have HK := hide (fun W g v1 v2 v3 v4 => HP.out w1 W g v1 v2 v3 v4 B1.out.size (M1.out w1 _ _ HB1.out) (M2.out w1 _ _ HB1.out) (HT.out.below B1.out))
 have HS : Hid (∀ W, Below w1.heap.size w1 W → W.cell? ⟨w.heap.size, 0, none⟩ = some (.int .i64 k) ∧ W.cell? ⟨w.heap.size, 1, none⟩ = some (.int .i64 n) ∧ W.cell? ⟨w.heap.size, 2, none⟩ = some (.int .i64 seg) ∧ W.cell? ⟨w.heap.size, 3, none⟩ = some (.int .i64 size)) := fun W hW => by
  have hbW := HB1.out.below' hW
  exact ⟨(hbW.cell 0).trans HF.out.1, (hbW.cell 1).trans HF.out.2.1, (hbW.cell 2).trans HF.out.2.2.1, (hbW.cell 3).trans HF.out.2.2.2⟩
 have s := HS.out w1 (Below.refl _ _)
 obtain ⟨s0, s1, s2, s3⟩ := s
 clear b1 HB HAL M1 M2 HF HP Q hk hn hs hz
 go_wp2_with fail
 go_region_held3 (fun w' => w'.cell? ⟨w.heap.size, 0, none⟩ = some (.int .i64 k) ∧ w'.cell? ⟨w.heap.size, 1, none⟩ = some (.int .i64 n) ∧ w'.cell? ⟨w.heap.size, 2, none⟩ = some (.int .i64 seg) ∧ w'.cell? ⟨w.heap.size, 3, none⟩ = some (.int .i64 size))
     (first | go_keep | exact HS.out _ (by (repeat (first | with_reducible exact Below.refl _ _ | with_reducible refine Below.drew ?_ | with_reducible refine Below.al0 ?_ _ | with_reducible refine Below.step ?_ q1 | with_reducible refine Below.step ?_ q2 | with_reducible refine Below.step ?_ q3 | with_reducible refine Below.step ?_ q4 | with_reducible refine Below.step ?_ q5))))
     (first
      | (go_at_call 75; (with_reducible refine (N1.out _ ?bb).mono ?_); (case bb => (repeat (first | with_reducible exact Below.refl _ _ | with_reducible refine Below.drew ?_ | with_reducible refine Below.al0 ?_ _ | with_reducible refine Below.step ?_ q1 | with_reducible refine Below.step ?_ q2 | with_reducible refine Below.step ?_ q3 | with_reducible refine Below.step ?_ q4 | with_reducible refine Below.step ?_ q5))); rintro e w2 ⟨A1, n1, c1, rfl, p1, q1⟩)
      | (go_at_call 75; (with_reducible refine (N2.out _ ?bb).mono ?_); (case bb => (repeat (first | with_reducible exact Below.refl _ _ | with_reducible refine Below.drew ?_ | with_reducible refine Below.al0 ?_ _ | with_reducible refine Below.step ?_ q1 | with_reducible refine Below.step ?_ q2 | with_reducible refine Below.step ?_ q3 | with_reducible refine Below.step ?_ q4 | with_reducible refine Below.step ?_ q5))); rintro e w3 ⟨A2, n2, c2, rfl, p2, q2⟩)
      | (go_at_call 75; (with_reducible refine (N3.out _ ?bb).mono ?_); (case bb => (repeat (first | with_reducible exact Below.refl _ _ | with_reducible refine Below.drew ?_ | with_reducible refine Below.al0 ?_ _ | with_reducible refine Below.step ?_ q1 | with_reducible refine Below.step ?_ q2 | with_reducible refine Below.step ?_ q3 | with_reducible refine Below.step ?_ q4 | with_reducible refine Below.step ?_ q5))); rintro e w4 ⟨A3, n3, c3, rfl, p3, q3⟩)
      | (go_at_call 75; (with_reducible refine (N4.out _ ?bb).mono ?_); (case bb => (repeat (first | with_reducible exact Below.refl _ _ | with_reducible refine Below.drew ?_ | with_reducible refine Below.al0 ?_ _ | with_reducible refine Below.step ?_ q1 | with_reducible refine Below.step ?_ q2 | with_reducible refine Below.step ?_ q3 | with_reducible refine Below.step ?_ q4 | with_reducible refine Below.step ?_ q5))); rintro e w5 ⟨A4, n4, c4, rfl, p4, q4⟩)
      | (go_at_call 77; (with_reducible refine (HK.out _ _ _ _ _ _ ⟨_, _, heap_alloc_new w2 _⟩ ?a1 ?a2 ?a3 ?a4 ?bb).mono ?_); (case a1 => exact By.below p1 (by (repeat (first | with_reducible exact Below.refl _ _ | with_reducible refine Below.drew ?_ | with_reducible refine Below.al0 ?_ _ | with_reducible refine Below.step ?_ q1 | with_reducible refine Below.step ?_ q2 | with_reducible refine Below.step ?_ q3 | with_reducible refine Below.step ?_ q4 | with_reducible refine Below.step ?_ q5)))); (case a2 => exact By.below p2 (by (repeat (first | with_reducible exact Below.refl _ _ | with_reducible refine Below.drew ?_ | with_reducible refine Below.al0 ?_ _ | with_reducible refine Below.step ?_ q1 | with_reducible refine Below.step ?_ q2 | with_reducible refine Below.step ?_ q3 | with_reducible refine Below.step ?_ q4 | with_reducible refine Below.step ?_ q5)))); (case a3 => exact By.below p3 (by (repeat (first | with_reducible exact Below.refl _ _ | with_reducible refine Below.drew ?_ | with_reducible refine Below.al0 ?_ _ | with_reducible refine Below.step ?_ q1 | with_reducible refine Below.step ?_ q2 | with_reducible refine Below.step ?_ q3 | with_reducible refine Below.step ?_ q4 | with_reducible refine Below.step ?_ q5)))); (case a4 => exact By.below p4 (by (repeat (first | with_reducible exact Below.refl _ _ | with_reducible refine Below.drew ?_ | with_reducible refine Below.al0 ?_ _ | with_reducible refine Below.step ?_ q1 | with_reducible refine Below.step ?_ q2 | with_reducible refine Below.step ?_ q3 | with_reducible refine Below.step ?_ q4 | with_reducible refine Below.step ?_ q5)))); (case bb => (repeat (first | with_reducible exact Below.refl _ _ | with_reducible refine Below.drew ?_ | with_reducible refine Below.al0 ?_ _ | with_reducible refine Below.step ?_ q1 | with_reducible refine Below.step ?_ q2 | with_reducible refine Below.step ?_ q3 | with_reducible refine Below.step ?_ q4 | with_reducible refine Below.step ?_ q5))); rintro e w6 ⟨A5, n5, c5, rfl, p5, q5⟩)
      | (go_at_call 77; (with_reducible refine (HK.out _ _ _ _ _ _ ⟨_, _, heap_alloc_new w3 _⟩ ?a1 ?a2 ?a3 ?a4 ?bb).mono ?_); (case a1 => exact By.below p1 (by (repeat (first | with_reducible exact Below.refl _ _ | with_reducible refine Below.drew ?_ | with_reducible refine Below.al0 ?_ _ | with_reducible refine Below.step ?_ q1 | with_reducible refine Below.step ?_ q2 | with_reducible refine Below.step ?_ q3 | with_reducible refine Below.step ?_ q4 | with_reducible refine Below.step ?_ q5)))); (case a2 => exact By.below p2 (by (repeat (first | with_reducible exact Below.refl _ _ | with_reducible refine Below.drew ?_ | with_reducible refine Below.al0 ?_ _ | with_reducible refine Below.step ?_ q1 | with_reducible refine Below.step ?_ q2 | with_reducible refine Below.step ?_ q3 | with_reducible refine Below.step ?_ q4 | with_reducible refine Below.step ?_ q5)))); (case a3 => exact By.below p3 (by (repeat (first | with_reducible exact Below.refl _ _ | with_reducible refine Below.drew ?_ | with_reducible refine Below.al0 ?_ _ | with_reducible refine Below.step ?_ q1 | with_reducible refine Below.step ?_ q2 | with_reducible refine Below.step ?_ q3 | with_reducible refine Below.step ?_ q4 | with_reducible refine Below.step ?_ q5)))); (case a4 => exact By.below p4 (by (repeat (first | with_reducible exact Below.refl _ _ | with_reducible refine Below.drew ?_ | with_reducible refine Below.al0 ?_ _ | with_reducible refine Below.step ?_ q1 | with_reducible refine Below.step ?_ q2 | with_reducible refine Below.step ?_ q3 | with_reducible refine Below.step ?_ q4 | with_reducible refine Below.step ?_ q5)))); (case bb => (repeat (first | with_reducible exact Below.refl _ _ | with_reducible refine Below.drew ?_ | with_reducible refine Below.al0 ?_ _ | with_reducible refine Below.step ?_ q1 | with_reducible refine Below.step ?_ q2 | with_reducible refine Below.step ?_ q3 | with_reducible refine Below.step ?_ q4 | with_reducible refine Below.step ?_ q5))); rintro e w6 ⟨A5, n5, c5, rfl, p5, q5⟩)
      | (go_at_call 77; (with_reducible refine (HK.out _ _ _ _ _ _ ⟨_, _, heap_alloc_new w4 _⟩ ?a1 ?a2 ?a3 ?a4 ?bb).mono ?_); (case a1 => exact By.below p1 (by (repeat (first | with_reducible exact Below.refl _ _ | with_reducible refine Below.drew ?_ | with_reducible refine Below.al0 ?_ _ | with_reducible refine Below.step ?_ q1 | with_reducible refine Below.step ?_ q2 | with_reducible refine Below.step ?_ q3 | with_reducible refine Below.step ?_ q4 | with_reducible refine Below.step ?_ q5)))); (case a2 => exact By.below p2 (by (repeat (first | with_reducible exact Below.refl _ _ | with_reducible refine Below.drew ?_ | with_reducible refine Below.al0 ?_ _ | with_reducible refine Below.step ?_ q1 | with_reducible refine Below.step ?_ q2 | with_reducible refine Below.step ?_ q3 | with_reducible refine Below.step ?_ q4 | with_reducible refine Below.step ?_ q5)))); (case a3 => exact By.below p3 (by (repeat (first | with_reducible exact Below.refl _ _ | with_reducible refine Below.drew ?_ | with_reducible refine Below.al0 ?_ _ | with_reducible refine Below.step ?_ q1 | with_reducible refine Below.step ?_ q2 | with_reducible refine Below.step ?_ q3 | with_reducible refine Below.step ?_ q4 | with_reducible refine Below.step ?_ q5)))); (case a4 => exact By.below p4 (by (repeat (first | with_reducible exact Below.refl _ _ | with_reducible refine Below.drew ?_ | with_reducible refine Below.al0 ?_ _ | with_reducible refine Below.step ?_ q1 | with_reducible refine Below.step ?_ q2 | with_reducible refine Below.step ?_ q3 | with_reducible refine Below.step ?_ q4 | with_reducible refine Below.step ?_ q5)))); (case bb => (repeat (first | with_reducible exact Below.refl _ _ | with_reducible refine Below.drew ?_ | with_reducible refine Below.al0 ?_ _ | with_reducible refine Below.step ?_ q1 | with_reducible refine Below.step ?_ q2 | with_reducible refine Below.step ?_ q3 | with_reducible refine Below.step ?_ q4 | with_reducible refine Below.step ?_ q5))); rintro e w6 ⟨A5, n5, c5, rfl, p5, q5⟩)
      | (go_at_call 77; (with_reducible refine (HK.out _ _ _ _ _ _ ⟨_, _, heap_alloc_new w5 _⟩ ?a1 ?a2 ?a3 ?a4 ?bb).mono ?_); (case a1 => exact By.below p1 (by (repeat (first | with_reducible exact Below.refl _ _ | with_reducible refine Below.drew ?_ | with_reducible refine Below.al0 ?_ _ | with_reducible refine Below.step ?_ q1 | with_reducible refine Below.step ?_ q2 | with_reducible refine Below.step ?_ q3 | with_reducible refine Below.step ?_ q4 | with_reducible refine Below.step ?_ q5)))); (case a2 => exact By.below p2 (by (repeat (first | with_reducible exact Below.refl _ _ | with_reducible refine Below.drew ?_ | with_reducible refine Below.al0 ?_ _ | with_reducible refine Below.step ?_ q1 | with_reducible refine Below.step ?_ q2 | with_reducible refine Below.step ?_ q3 | with_reducible refine Below.step ?_ q4 | with_reducible refine Below.step ?_ q5)))); (case a3 => exact By.below p3 (by (repeat (first | with_reducible exact Below.refl _ _ | with_reducible refine Below.drew ?_ | with_reducible refine Below.al0 ?_ _ | with_reducible refine Below.step ?_ q1 | with_reducible refine Below.step ?_ q2 | with_reducible refine Below.step ?_ q3 | with_reducible refine Below.step ?_ q4 | with_reducible refine Below.step ?_ q5)))); (case a4 => exact By.below p4 (by (repeat (first | with_reducible exact Below.refl _ _ | with_reducible refine Below.drew ?_ | with_reducible refine Below.al0 ?_ _ | with_reducible refine Below.step ?_ q1 | with_reducible refine Below.step ?_ q2 | with_reducible refine Below.step ?_ q3 | with_reducible refine Below.step ?_ q4 | with_reducible refine Below.step ?_ q5)))); (case bb => (repeat (first | with_reducible exact Below.refl _ _ | with_reducible refine Below.drew ?_ | with_reducible refine Below.al0 ?_ _ | with_reducible refine Below.step ?_ q1 | with_reducible refine Below.step ?_ q2 | with_reducible refine Below.step ?_ q3 | with_reducible refine Below.step ?_ q4 | with_reducible refine Below.step ?_ q5))); rintro e w6 ⟨A5, n5, c5, rfl, p5, q5⟩))
 all_goals
  go_wp2
  go_ret2
  exact ⟨B1.out.trans (Below.mono (by (repeat (first | with_reducible exact Below.refl _ _ | with_reducible refine Below.drew ?_ | with_reducible refine Below.al0 ?_ _ | with_reducible refine Below.step ?_ q1 | with_reducible refine Below.step ?_ q2 | with_reducible refine Below.step ?_ q3 | with_reducible refine Below.step ?_ q4 | with_reducible refine Below.step ?_ q5))) B1.out.size), _, _, _, rfl, p5⟩
end Go.Proofs.YtdohebhbiokljaaGreatDoor
namespace Go.Proofs.YtdohebhbiokljaaGreatDoor
open Go.RowKit
set_option maxRecDepth 100000 in
set_option maxHeartbeats 1000000 in
theorem write_bad (k n seg size : Int) (d : List Value) (w : World) (hk : -9223372036854775808 ≤ k ∧ k ≤ 9223372036854775807) (hn : -9223372036854775808 ≤ n ∧ n ≤ 9223372036854775807) (hs : -9223372036854775808 ≤ seg ∧ seg ≤ 9223372036854775807) (hz : -9223372036854775808 ≤ size ∧ size ≤ 9223372036854775807) (hd : d.length = 64) (hag : ¬ agOK k n seg size) :
  Calls Tryz.prog 43 #[.agg (uebC k n seg size d)] w fun e w' => Below w.heap.size w w' ∧ e = .returned (.tuple #[.slice none 0 0, .int .i64 133]) := by
 have q := fun w => check_any_ueb k n seg size d w hk hn hs hz
 simp only [if_neg hag] at q
 have Q := hide q
 have HB := hide (Blk.new w 25 (uebC k n seg size d))
 have hsz : (uebC k n seg size d).size = 68 := by simp [uebC, hd]
 have HAL := hide ((Below.refl w.heap.size w).alloc (Nat.le_refl _) (.cells (uebC k n seg size d) 25))
 have HSZ := hide hsz
 clear q hag hsz
 generalize uebC k n seg size d = cs at *
 go_enter Tryz.func43, Tryz.ntmps43
 go_wp2_with (refine wpList_load_row (o := ⟨some 6, .load _ _, _, _, _, _⟩) rfl 25 _ rfl w.heap.size rfl 25 cs (0, 0) _ HB.out Tryz.underlying25 rfl (by rw [HSZ.out]; kernel_rfl) ?_)
 refine (Q.out _).mono ?_
 rintro e w1 ⟨b1, rfl⟩
 have B1 := hide (HAL.out.trans (b1.mono HAL.out.size))
 clear b1
 go_wp2_with fail
 go_ret2
 exact ⟨B1.out, rfl⟩
def uebLen (k n seg size : Int) (sh sg : List UInt8) : Int := ((encs (uebRows k n seg size sh sg)).length : Int)
set_option maxRecDepth 100000 in
set_option maxHeartbeats 1000000 in
theorem length_any (k n seg size : Int) (sh sg : List UInt8) (w : World) (hk : -9223372036854775808 ≤ k ∧ k ≤ 9223372036854775807) (hn : -9223372036854775808 ≤ n ∧ n ≤ 9223372036854775807) (hs : -9223372036854775808 ≤ seg ∧ seg ≤ 9223372036854775807) (hz : -9223372036854775808 ≤ size ∧ size ≤ 9223372036854775807) (h1 : sh.length = 32) (h2 : sg.length = 32) (ht : Tab w) :
  Calls Tryz.prog 22 #[.agg (uebC k n seg size (bcells sh ++ bcells sg))] w fun e w' => Below w.heap.size w w' ∧
   e = .returned (if agOK k n seg size then .tuple #[.int .i64 (uebLen k n seg size sh sg), .int .i64 0] else .tuple #[.int .i64 0, .int .i64 133]) := by
 have HB := hide (Blk.new w 25 (uebC k n seg size (bcells sh ++ bcells sg)))
 have hsz : (uebC k n seg size (bcells sh ++ bcells sg)).size = 68 := by simp [uebC, h1, h2]
 have HAL := hide ((Below.refl w.heap.size w).alloc (Nat.le_refl _) (.cells (uebC k n seg size (bcells sh ++ bcells sg)) 25))
 have HSZ := hide hsz
 clear hsz
 by_cases hag : agOK k n seg size
 ·have Q := hide (write_ok k n seg size sh sg _ hk hn hs hz h1 h2 (ht.below HAL.out) hag)
  rw [if_pos hag]
  clear hag ht hk hn hs hz h1 h2
  unfold uebLen
  generalize uebC k n seg size (bcells sh ++ bcells sg) = cs at *
  generalize encs (uebRows k n seg size sh sg) = l at *
  go_enter Tryz.func22, Tryz.ntmps22
  go_wp2_with (refine wpList_load_row (o := ⟨some 7, .load _ _, _, _, _, _⟩) rfl 25 _ rfl w.heap.size rfl 25 cs (0, 0) _ HB.out Tryz.underlying25 rfl (by rw [HSZ.out]; kernel_rfl) ?_)
  refine Q.out.mono ?_
  rintro e w1 ⟨b1, A, n', c, rfl, o1⟩
  have hn' : n' = l.length := by
   obtain ⟨A', c', hv, _⟩ := o1.by_.form
   injection hv
  subst hn'
  have B1 := hide (HAL.out.trans (b1.mono HAL.out.size))
  clear b1 Q o1
  go_wp2_with fail
  go_ret2
  exact ⟨B1.out, rfl⟩
 ·have Q := hide (write_bad k n seg size (bcells sh ++ bcells sg) _ hk hn hs hz (by simp [h1, h2]) hag : Calls _ _ _ (w.alloc (.cells (uebC k n seg size (bcells sh ++ bcells sg)) 25)) _)
  rw [if_neg hag]
  clear hag ht hk hn hs hz h1 h2
  generalize uebC k n seg size (bcells sh ++ bcells sg) = cs at *
  go_enter Tryz.func22, Tryz.ntmps22
  go_wp2_with (refine wpList_load_row (o := ⟨some 7, .load _ _, _, _, _, _⟩) rfl 25 _ rfl w.heap.size rfl 25 cs (0, 0) _ HB.out Tryz.underlying25 rfl (by rw [HSZ.out]; kernel_rfl) ?_)
  refine Q.out.mono ?_
  rintro e w1 ⟨b1, rfl⟩
  have B1 := hide (HAL.out.trans (b1.mono HAL.out.size))
  clear b1 Q
  go_wp2_with fail
  go_ret2
  exact ⟨B1.out, rfl⟩
end Go.Proofs.YtdohebhbiokljaaGreatDoor
namespace Go.Proofs.YtdohebhbiokljaaGreatDoor
open Go.RowKit Exs
theorem arrSize (l : List UInt8) : (bcells l).toArray.size = l.length := by simp
theorem arrOne (l : List UInt8) : (bcells l).toArray.all (·.oneCell') = true := by simp [bcells, Value.oneCell']
theorem byBlk {W : World} {g : Nat} {t : TypeId} {l : List UInt8} {n : Nat} (h : Blk W g t (bcells l).toArray) (hn : n = l.length) (hm : n ≤ maxLen) : By W (.slice (some ⟨g, 0, none⟩) n n) l := by
 subst hn
 refine ⟨by simp, some ⟨g, 0, none⟩, l.length, rfl, Nat.le_refl _, hm, fun _ => ⟨g, 0, rfl, h.lt, fun j _ => ?_⟩⟩
 rw [Nat.zero_add, h.cell j, List.getElem?_toArray]
theorem threeNew (w : World) (K Z V : Array Value) (t u x : TypeId) : Blk (((w.alloc (.cells K t)).alloc (.cells Z u)).alloc (.cells V x)) w.heap.size t K ∧ Blk (((w.alloc (.cells K t)).alloc (.cells Z u)).alloc (.cells V x)) (w.heap.size + 1) u Z ∧ Blk (((w.alloc (.cells K t)).alloc (.cells Z u)).alloc (.cells V x)) (w.heap.size + 1 + 1) x V ∧ Below w.heap.size w (((w.alloc (.cells K t)).alloc (.cells Z u)).alloc (.cells V x)) := by
 refine ⟨((Blk.new _ _ _).alloc _).alloc _, ?_, ?_, (((Below.refl _ w).alloc (Nat.le_refl _) _).alloc (by simp) _).alloc (by simp; omega) _⟩
 ·have := (Blk.new (w.alloc (.cells K t)) u Z).alloc (.cells V x)
  simpa using this
 ·have := Blk.new ((w.alloc (.cells K t)).alloc (.cells Z u)) x V
  simpa using this
set_option maxRecDepth 10000 in
set_option maxHeartbeats 4000000 in
theorem troot_any (x : List UInt8) (hx : x.length = 32) (w : World) :
  Calls Tryz.prog 24 #[.agg (bcells x).toArray] w fun e w' => e = .returned (.agg (bcells (tagD 5 x)).toArray) ∧ Below w.heap.size w w' := by
 obtain ⟨K, hK⟩ : ∃ K : Array Value, K = (bcells x).toArray := ⟨_, rfl⟩
 obtain ⟨F, hF⟩ : ∃ F : Array Value, F = (bcells (tagD 5 x)).toArray := ⟨_, rfl⟩
 have HF := hide (show F.size = 32 ∧ F.all (·.oneCell') = true from ⟨by rw [hF, arrSize]; simp, by rw [hF]; exact arrOne _⟩)
 have Q : Hid (∀ W g, Blk W g 23 K → ∀ b, W.cell? ⟨b, 0, none⟩ = some (.slice (some ⟨g, 0, none⟩) 32 32) → Calls Tryz.prog 46 #[.int .u8 5, .slice (some ⟨b, 0, none⟩) 1 1] W fun e w' => e = .returned (.agg F) ∧ Below W.heap.size W w') := hide fun W g hg b hb => by
  have h := made_one 5 x (.inr (.inr (.inl ⟨rfl, hx⟩))) b 0 1 (some ⟨g, 0, none⟩) 32 W (World.block_lt_of_cell? _ _ hb) ⟨Nat.le_refl _, by unfold maxLen; omega⟩ (by rw [hx]; exact hb) (by rw [hx]; exact byBlk (by rw [← hK]; exact hg) hx.symm (by unfold maxLen; omega)) (by omega)
  rw [← hF] at h
  exact h
 rw [← hK, ← hF]
 clear hK hF hx
 go_enter Tryz.func24, Tryz.ntmps24
 go_wp2_with fail
 have HN := hide (fun Z => threeNew w K Z #[.slice (some ⟨w.heap.size, 0, none⟩) 32 32] 23 23 34)
 with_reducible refine (Q.out _ w.heap.size (HN.out _).1 (w.heap.size + 1 + 1) (((HN.out _).2.2.1.cell 0).trans rfl)).mono ?_
 rintro e w1 ⟨rfl, b1⟩
 obtain ⟨Z, hZ⟩ : ∃ Z : Array Value, Z = (bcells (List.replicate 32 0)).toArray := ⟨_, rfl⟩
 have H1 := hide (show Blk w1 (w.heap.size + 1) 23 Z ∧ Below w.heap.size w w1 ∧ Z.size = 32 from ⟨by rw [hZ]; exact (HN.out _).2.1.below' b1, (HN.out _).2.2.2.trans (b1.mono (HN.out _).2.2.2.size), by rw [hZ]; rfl⟩)
 clear hZ b1 HN
 go_wp2_with (refine wpList_store_row (o := ⟨none, .store _ (.tmp 2) _, _, _, _, _⟩) H1.out.1 F (by rw [HF.out.1, H1.out.2.2]) HF.out.2 rfl 23 _ _ rfl (by rw [HF.out.1]; kernel_rfl) rfl rfl ?_; intro w7 hb7 hg7)
 refine bodyPost_ret (results_cell_row rfl _ _ (w.heap.size + 1) 23 F (0, 0) _ rfl hb7 Tryz.underlying23 rfl (by rw [HF.out.1]; kernel_rfl)) rfl ⟨rfl, H1.out.2.1.grown hg7 H1.out.2.1.size fun k hk => (by injection hk with hk; omega)⟩
set_option maxRecDepth 10000 in
set_option maxHeartbeats 4000000 in
theorem rroot_any (x : List UInt8) (hx : x.length = 32) (w : World) :
  Calls Tryz.prog 35 #[.agg (bcells x).toArray] w fun e w' => e = .returned (.agg (bcells (tagD 5 x)).toArray) ∧ Below w.heap.size w w' := by
 obtain ⟨K, hK⟩ : ∃ K : Array Value, K = (bcells x).toArray := ⟨_, rfl⟩
 obtain ⟨F, hF⟩ : ∃ F : Array Value, F = (bcells (tagD 5 x)).toArray := ⟨_, rfl⟩
 have HF := hide (show F.size = 32 ∧ F.all (·.oneCell') = true from ⟨by rw [hF, arrSize]; simp, by rw [hF]; exact arrOne _⟩)
 have Q : Hid (∀ W g, Blk W g 23 K → ∀ b, W.cell? ⟨b, 0, none⟩ = some (.slice (some ⟨g, 0, none⟩) 32 32) → Calls Tryz.prog 30 #[.int .u8 5, .slice (some ⟨b, 0, none⟩) 1 1] W fun e w' => e = .returned (.agg F) ∧ Below W.heap.size W w') := hide fun W g hg b hb => by
  have h := rdigest_one 5 x (.inr (.inr (.inl ⟨rfl, hx⟩))) b 0 1 (some ⟨g, 0, none⟩) 32 W (World.block_lt_of_cell? _ _ hb) (by rw [hx]; exact hb) (by rw [hx]; exact byBlk (by rw [← hK]; exact hg) hx.symm (by unfold maxLen; omega)) (by omega)
  rw [← hF] at h
  exact h
 rw [← hK, ← hF]
 clear hK hF hx
 go_enter Tryz.func35, Tryz.ntmps35
 go_wp2_with fail
 have HN := hide (fun Z => threeNew w K Z #[.slice (some ⟨w.heap.size, 0, none⟩) 32 32] 23 23 34)
 with_reducible refine (Q.out _ w.heap.size (HN.out _).1 (w.heap.size + 1 + 1) (((HN.out _).2.2.1.cell 0).trans rfl)).mono ?_
 rintro e w1 ⟨rfl, b1⟩
 obtain ⟨Z, hZ⟩ : ∃ Z : Array Value, Z = (bcells (List.replicate 32 0)).toArray := ⟨_, rfl⟩
 have H1 := hide (show Blk w1 (w.heap.size + 1) 23 Z ∧ Below w.heap.size w w1 ∧ Z.size = 32 from ⟨by rw [hZ]; exact (HN.out _).2.1.below' b1, (HN.out _).2.2.2.trans (b1.mono (HN.out _).2.2.2.size), by rw [hZ]; rfl⟩)
 clear hZ b1 HN
 go_wp2_with (refine wpList_store_row (o := ⟨none, .store _ (.tmp 2) _, _, _, _, _⟩) H1.out.1 F (by rw [HF.out.1, H1.out.2.2]) HF.out.2 rfl 23 _ _ rfl (by rw [HF.out.1]; kernel_rfl) rfl rfl ?_; intro w7 hb7 hg7)
 refine bodyPost_ret (results_cell_row rfl _ _ (w.heap.size + 1) 23 F (0, 0) _ rfl hb7 Tryz.underlying23 rfl (by rw [HF.out.1]; kernel_rfl)) rfl ⟨rfl, H1.out.2.1.grown hg7 H1.out.2.1.size fun k hk => (by injection hk with hk; omega)⟩
set_option maxRecDepth 10000 in
set_option maxHeartbeats 4000000 in
theorem tnode_any (x y : List UInt8) (hx : x.length = 32) (hy : y.length = 32) (w : World) :
  Calls Tryz.prog 45 #[.agg (bcells x).toArray, .agg (bcells y).toArray] w fun e w' => e = .returned (.agg (bcells (nodeD x y)).toArray) ∧ Below w.heap.size w w' := by
 obtain ⟨X, hX⟩ : ∃ K : Array Value, K = (bcells x).toArray := ⟨_, rfl⟩
 obtain ⟨Y, hY⟩ : ∃ K : Array Value, K = (bcells y).toArray := ⟨_, rfl⟩
 obtain ⟨F, hF⟩ : ∃ F : Array Value, F = (bcells (nodeD x y)).toArray := ⟨_, rfl⟩
 have HF := hide (show F.size = 32 ∧ F.all (·.oneCell') = true from ⟨by rw [hF, arrSize]; simp, by rw [hF]; exact arrOne _⟩)
 have Q : Hid (∀ W g h, Blk W g 23 X → Blk W h 23 Y → ∀ b, W.cell? ⟨b, 0, none⟩ = some (.slice (some ⟨g, 0, none⟩) 32 32) → W.cell? ⟨b, 1, none⟩ = some (.slice (some ⟨h, 0, none⟩) 32 32) → Calls Tryz.prog 46 #[.int .u8 6, .slice (some ⟨b, 0, none⟩) 2 2] W fun e w' => e = .returned (.agg F) ∧ Below W.heap.size W w') := hide fun W g h hg hh b hb hb2 => by
  have h := made_node x y hx hy b 0 2 (some ⟨g, 0, none⟩) (some ⟨h, 0, none⟩) 32 32 W (World.block_lt_of_cell? _ _ hb) ⟨Nat.le_refl _, by unfold maxLen; omega⟩ hb hb2 (byBlk (by rw [← hX]; exact hg) hx.symm (by unfold maxLen; omega)) (byBlk (by rw [← hY]; exact hh) hy.symm (by unfold maxLen; omega))
  rw [← hF] at h
  exact h
 rw [← hX, ← hY, ← hF]
 clear hX hY hF hx hy
 obtain ⟨Z, hzl, hZ⟩ : ∃ Z : Array Value, (#[.int .u8 0, .int .u8 0, .int .u8 0, .int .u8 0, .int .u8 0, .int .u8 0, .int .u8 0, .int .u8 0, .int .u8 0, .int .u8 0, .int .u8 0, .int .u8 0, .int .u8 0, .int .u8 0, .int .u8 0, .int .u8 0, .int .u8 0, .int .u8 0, .int .u8 0, .int .u8 0, .int .u8 0, .int .u8 0, .int .u8 0, .int .u8 0, .int .u8 0, .int .u8 0, .int .u8 0, .int .u8 0, .int .u8 0, .int .u8 0, .int .u8 0, .int .u8 0] : Array Value) = Z ∧ Z.size = 32 := ⟨_, rfl, rfl⟩
 have HN := hide (threeNew w X Y Z 23 23 23)
 have HZ := hide hZ
 clear hZ
 go_enter Tryz.func45, Tryz.ntmps45
 go_wp2_with fail
 obtain ⟨w3, hw3⟩ : ∃ W, W = ((w.alloc (.cells X 23)).alloc (.cells Y 23)).alloc (.cells Z 23) := ⟨_, rfl⟩
 rw [← hw3] at HN ⊢
 clear hw3 hzl
 refine wp_region_held_drew (S := fun W => Below w.heap.size w W) (by kernel_rfl) HN.out.2.2.2.drew (fun hHeld => ?_)
 refine wpAnyH_take (i := 0) (v := ?_) rfl (by kernel_rfl) (by kernel_rfl) (by kernel_rfl) (fun _ _ _ h => h) (Or.inl ⟨by rfl, ?_⟩) (by assumption) ?_
 rotate_left
 ·(intro w9 hSw; go_simp; try with_reducible rfl)
 try go_frame
 refine wpAnyH_take (i := 1) (v := ?_) rfl (by kernel_rfl) (by kernel_rfl) (by kernel_rfl) (fun _ _ _ h => h) (Or.inl ⟨by rfl, ?_⟩) (by assumption) ?_
 rotate_left
 ·(intro w9 hSw; go_simp; try with_reducible rfl)
 try go_frame
 refine wpAnyH_ready (rs := [2]) (by kernel_rfl) (by simp) ?_
 refine AllReadyH.cons rfl (fun K hK => ?_) AllReadyH.nil
 go_simp
 have b5 : Below w3.heap.size w3 ((w3.alloc (.cells #[.slice (some ⟨w.heap.size, 0, none⟩) 32 32, .slice (some ⟨w.heap.size + 1, 0, none⟩) 32 32] 34)).drew) := ((Below.refl _ w3).alloc (Nat.le_refl _) _).drew
 have k5 := (Blk.new w3 34 #[.slice (some ⟨w.heap.size, 0, none⟩) 32 32, .slice (some ⟨w.heap.size + 1, 0, none⟩) 32 32]).drew
 obtain ⟨w5, hw5⟩ : ∃ W, W = (w3.alloc (.cells #[.slice (some ⟨w.heap.size, 0, none⟩) 32 32, .slice (some ⟨w.heap.size + 1, 0, none⟩) 32 32] 34)).drew := ⟨_, rfl⟩
 rw [← hw5] at b5 k5 ⊢
 have B5 := hide b5
 have K5 := hide k5
 clear hw5 b5 k5
 refine hK.out _ _ (Below.step HN.out.2.2.2 B5.out) (fun hHeld => ?_)
 clear hK K
 try go_frame
 refine wpAnyH_ready (rs := [3]) (by kernel_rfl) (by simp) ?_
 refine AllReadyH.cons rfl (fun K hK => ?_) AllReadyH.nil
 go_simp
 refine (Q.out w5 w.heap.size (w.heap.size + 1) (HN.out.1.below' B5.out) (HN.out.2.1.below' B5.out) w3.heap.size ((K5.out.cell 0).trans rfl) ((K5.out.cell 1).trans rfl)).mono ?_
 rintro e w6 ⟨rfl, b6⟩
 have B6 := hide (Below.step B5.out b6)
 clear b6
 refine hK.out _ _ (Below.step HN.out.2.2.2 B6.out) (fun hHeld => ?_)
 clear hK K
 try go_frame
 refine wpAnyH_ready (rs := [4]) (by kernel_rfl) (by simp) ?_
 refine AllReadyH.cons rfl (fun K hK => ?_) AllReadyH.nil
 refine wp_store_blk (g := _) (t := 23) (HN.out.2.2.1.below' B6.out) F (by rw [HF.out.1, HZ.out]) HF.out.2 23 _ _ rfl (by rw [HF.out.1]; kernel_rfl) rfl rfl ?_
 intro w7 hb7 hg7
 have H7 := hide (And.intro hb7 hg7)
 clear hb7 hg7
 have hS7 : Below w.heap.size w w7 := by
  have h := Below.step HN.out.2.2.2 B6.out
  exact h.grown H7.out.2 h.size fun k hk => by injection hk with hk; omega
 have HS7 := hide hS7
 clear hS7
 refine hK.out _ _ (HS7.out) (fun hHeld => ?_)
 clear hK K
 try go_frame
 refine wpAnyH_done (by kernel_rfl) ?_ _
 go_wp2_with fail
 refine bodyPost_ret (results_cell_row rfl _ _ (w.heap.size + 1 + 1) 23 F (0, 0) _ rfl H7.out.1 Tryz.underlying23 rfl (by rw [HF.out.1]; kernel_rfl)) rfl ⟨rfl, HS7.out⟩
set_option maxRecDepth 10000 in
set_option maxHeartbeats 4000000 in
theorem tblock_any (A : Option Addr) (c : Nat) (l : List UInt8) (w : World) (hv : By w (.slice A l.length c) l) (hl : l.length ≤ 1099511627000) :
  Calls Tryz.prog 26 #[.slice A l.length c] w fun e w' => e = .returned (.agg (bcells (tagD 3 l)).toArray) ∧ Below w.heap.size w w' := by
 obtain ⟨F, hF⟩ : ∃ F, F = (bcells (tagD 3 l)).toArray := ⟨_, rfl⟩
 have HF := hide (show F.size = 32 ∧ F.all (·.oneCell') = true from by rw [hF]; exact dig_cells _ (by simp))
 have QD := hide (fun b o (c' : Nat) W (hb : b < W.heap.size) (hc : W.cell? ⟨b, o, none⟩ = some (.slice A l.length c)) (hW : Below w.heap.size w W) (h1c : 1 ≤ c' ∧ c' ≤ maxLen) => made_one 3 l (.inl (.inl rfl)) b o c' A c W hb h1c hc (hv.below hW) hl)
 rw [← hF, show ((3 : Nat) : Int) = 3 from rfl] at QD
 rw [← hF]
 obtain ⟨n, hn⟩ : ∃ n, n = l.length := ⟨_, rfl⟩
 rw [← hn] at QD ⊢
 clear hF hn hv hl
 go_enter Tryz.func26, Tryz.ntmps26
 go_wp2_with fail
 have HN := hide (fun zs => two_new w zs 23 34 (.slice A n c))
 with_reducible refine (QD.out (w.heap.size + 1) 0 1 _ (HN.out _).2.1.lt (((HN.out _).2.1.cell 0).trans rfl) (HN.out _).1 ⟨Nat.le_refl _, by unfold maxLen; omega⟩).mono ?_
 rintro e w1 ⟨rfl, b1⟩
 obtain ⟨Z, hZ⟩ : ∃ Z : Array Value, Z = (bcells (List.replicate 32 0)).toArray := ⟨_, rfl⟩
 have H1 := hide (show Blk w1 w.heap.size 23 Z ∧ Below w.heap.size w w1 ∧ Z.size = 32 from ⟨by rw [hZ]; exact (HN.out _).2.2.below' b1, (HN.out _).1.trans (b1.mono (HN.out _).1.size), by rw [hZ]; rfl⟩)
 clear hZ b1 HN
 go_wp2_with (refine wpList_store_row (o := ⟨none, .store _ (.tmp 2) _, _, _, _, _⟩) H1.out.1 F (by rw [HF.out.1, H1.out.2.2]) HF.out.2 rfl 23 _ _ rfl (by rw [HF.out.1]; kernel_rfl) rfl rfl ?_; intro w7 hb7 hg7)
 refine bodyPost_ret (results_cell_row rfl _ _ w.heap.size 23 F (0, 0) _ rfl hb7 Tryz.underlying23 rfl (by rw [HF.out.1]; kernel_rfl)) rfl ⟨rfl, H1.out.2.1.grown hg7 H1.out.2.1.size fun k hk => by injection hk with hk; omega⟩
set_option maxRecDepth 10000 in
set_option maxHeartbeats 4000000 in
theorem tpad_any (i : Nat) (hi : i < 4294967296) (w : World) :
  Calls Tryz.prog 48 #[.int .u32 (i : Int)] w fun e w' => e = .returned (.agg (bcells (tagD 7 (bigL i 4))).toArray) ∧ Below w.heap.size w w' := by
 obtain ⟨l, hl⟩ : ∃ l, l = bigL i 4 := ⟨_, rfl⟩
 have hl4 : l.length = 4 := by rw [hl]; simp
 obtain ⟨F, hF⟩ : ∃ F, F = (bcells (tagD 7 l)).toArray := ⟨_, rfl⟩
 have HF := hide (show F.size = 32 ∧ F.all (·.oneCell') = true from by rw [hF]; exact dig_cells _ (by simp))
 have QB := hide (fun W => big32_any i W hi)
 rw [← hl] at QB ⊢
 have QD := hide (fun (A : Option Addr) (c : Nat) b o (c' : Nat) W (hv : By W (.slice A 4 c) l) (hb : b < W.heap.size) (hc : W.cell? ⟨b, o, none⟩ = some (.slice A 4 c)) (h1c : 1 ≤ c' ∧ c' ≤ maxLen) => made_one 7 l (.inr (.inr (.inr ⟨rfl, hl4⟩))) b o c' A c W hb h1c (by rw [hl4]; exact hc) (by rw [hl4]; exact hv) (by omega))
 rw [← hF, show ((7 : Nat) : Int) = 7 from rfl] at QD
 rw [← hF]
 have HL4 := hide hl4
 clear hF hl hl4
 go_enter Tryz.func48, Tryz.ntmps48
 go_wp2_with fail
 obtain ⟨Z, hZ⟩ : ∃ Z : Array Value, Z = (bcells (List.replicate 32 0)).toArray := ⟨_, rfl⟩
 have hn := Blk.new w 23 Z
 have hb0 := (Below.refl _ w).alloc (Nat.le_refl _) (.cells Z 23)
 rw [hZ] at hn hb0
 have HN := hide (And.intro hn hb0)
 clear hn hb0
 with_reducible refine (QB.out _).mono ?_
 rintro e w1 ⟨b1, rfl, o1⟩
 have H1 := hide (show Blk w1 w.heap.size 23 Z ∧ Below w.heap.size w w1 ∧ Z.size = 32 ∧ By w1 (.slice (some ⟨w.heap.size + 1, 0, none⟩) 4 4) l from ⟨by rw [hZ]; exact HN.out.1.below' b1, HN.out.2.trans (b1.mono HN.out.2.size), by rw [hZ]; rfl, by have := o1.by_; simpa using this⟩)
 clear hZ b1 o1 HN
 go_wp2_with fail
 have k1 := Blk.new w1 34 #[.slice (some ⟨w.heap.size + 1, 0, none⟩) 4 4]
 have ha := (Below.refl w1.heap.size w1).alloc (Nat.le_refl _) (.cells #[.slice (some ⟨w.heap.size + 1, 0, none⟩) 4 4] 34)
 have hby := H1.out.2.2.2
 have QD2 := hide (QD.out (some ⟨w.heap.size + 1, 0, none⟩) 4 w1.heap.size 0 1 _ (hby.below ha) k1.lt ((k1.cell 0).trans rfl) ⟨Nat.le_refl _, by unfold maxLen; omega⟩)
 have HA := hide ha
 clear k1 ha hby
 with_reducible refine QD2.out.mono ?_
 rintro e w2 ⟨rfl, b2⟩
 have b3 := HA.out.trans (b2.mono HA.out.size)
 have H2 := hide (And.intro (H1.out.2.1.trans (b3.mono H1.out.2.1.size)) (H1.out.1.below' b3))
 clear b2 b3 QD2
 go_wp2_with (refine wpList_store_row (o := ⟨none, .store _ (.tmp 2) _, _, _, _, _⟩) H2.out.2 F (by rw [HF.out.1, H1.out.2.2.1]) HF.out.2 rfl 23 _ _ rfl (by rw [HF.out.1]; kernel_rfl) rfl rfl ?_; intro w7 hb7 hg7)
 refine bodyPost_ret (results_cell_row rfl _ _ w.heap.size 23 F (0, 0) _ rfl hb7 Tryz.underlying23 rfl (by rw [HF.out.1]; kernel_rfl)) rfl ⟨rfl, H2.out.1.grown hg7 H2.out.1.size fun k hk => by injection hk with hk; omega⟩
end Go.Proofs.YtdohebhbiokljaaGreatDoor
namespace Go.Proofs.YtdohebhbiokljaaGreatDoor
open Go
theorem wpAny_inv {P : Program} {ops : Array Oper} {Q : Exit → Act → World → Prop} {md : Region.Mode} (I : Array Bool → Act → World → Prop)
  (hsz : ∀ listed a w, I listed a w → listed.size = ops.size)
  (hstep : ∀ listed a w i, I listed a w → i ∈ Region.ready md ops listed → wpOp P ops Q i (I (listed.setIfInBounds i true)) a w)
  (hfin : ∀ listed a w, I listed a w → Region.ready md ops listed = [] → Q .normal a w) :
  ∀ fuel listed a w, listed.toList.count false ≤ fuel → I listed a w → wpAny P md ops Q fuel listed a w := by
 intro fuel
 induction fuel with
 | zero =>
  intro listed a w hc hI
  have hr : Region.ready md ops listed = [] := by
   unfold Region.ready
   rw [List.filter_eq_nil_iff]
   intro i hi
   have hlt : i < listed.size := by rw [hsz _ _ _ hI]; exact List.mem_range.1 hi
   have h0 : false ∉ listed.toList := List.count_eq_zero.1 (Nat.le_zero.1 hc)
   have ht : listed.getD i true = true := by
    rw [Array.getD, dif_pos hlt]
    rcases hb : listed[i] with _ | _
    ·exact absurd (by rw [← hb]; exact Array.getElem_mem_toList hlt) h0
    ·exact hb
   simp [ht]
  exact ⟨hr, hfin _ _ _ hI hr⟩
 | succ fuel ih =>
  intro listed a w hc hI
  refine ⟨hfin _ _ _ hI, fun i hi => wpOp_mono (fun a w h => ih _ a w ?_ h) (hstep _ _ _ i hI hi)⟩
  have hlt : i < listed.size := by
   rw [hsz _ _ _ hI]
   unfold Region.ready at hi
   exact List.mem_range.1 (List.mem_filter.1 hi).1
  have hf : listed.getD i true = false := by
   unfold Region.ready at hi
   have := (List.mem_filter.1 hi).2
   simp only [Bool.and_eq_true, Bool.not_eq_true'] at this
   exact this.1
  rw [Array.getD, dif_pos hlt] at hf
  rw [Array.toList_setIfInBounds]
  have hlt' : i < listed.toList.length := by simpa using hlt
  have hg : listed.toList[i] = false := by simpa using hf
  have h1 : listed.toList = listed.toList.take i ++ false :: listed.toList.drop (i + 1) := by
   rw [← hg, List.getElem_cons_drop, List.take_append_drop]
  rw [List.set_eq_take_append_cons_drop, if_pos hlt']
  rw [h1, List.count_append, List.count_cons] at hc
  rw [List.count_append, List.count_cons]
  simp at hc ⊢
  omega
theorem ready_at {md : Region.Mode} {ops : Array Oper} {listed : Array Bool} {i : Nat} (h : i ∈ Region.ready md ops listed) : i < ops.size ∧ listed.getD i true = false ∧ ∃ o, ops[i]? = some o ∧ (o.after.all fun e => !Region.binds md e || listed.getD e.on false) = true := by
 unfold Region.ready at h
 obtain ⟨h1, h2⟩ := List.mem_filter.1 h
 simp only [Bool.and_eq_true, Bool.not_eq_true'] at h2
 refine ⟨List.mem_range.1 h1, h2.1, ?_⟩
 rcases ho : ops[i]? with _ | o
 ·rw [ho] at h2; simp at h2
 ·refine ⟨o, rfl, ?_⟩
  rw [ho] at h2
  simpa using h2.2
theorem all_ready {md : Region.Mode} {ops : Array Oper} {listed : Array Bool} (hs : listed.size = ops.size)
  (hd : ((List.range ops.size).all fun i => ((ops[i]?).map fun o => o.after.all fun e => decide (e.on < i)).getD true) = true)
  (hr : Region.ready md ops listed = []) : ∀ i, i < ops.size → listed.getD i false = true := by
 intro i
 induction i using Nat.strongRecOn with
 | ind i ih =>
  intro hi
  rcases hb : listed.getD i false with _ | _
  ·exfalso
   have hmem : i ∈ Region.ready md ops listed := by
    unfold Region.ready
    refine List.mem_filter.2 ⟨List.mem_range.2 hi, ?_⟩
    have hl : i < listed.size := by omega
    have hbt : listed.getD i true = false := by
     simp [Array.getD, hl] at hb ⊢
     exact hb
    obtain ⟨o, ho⟩ : ∃ o, ops[i]? = some o := ⟨_, Array.getElem?_eq_getElem hi⟩
    have hdi := List.all_eq_true.1 hd i (List.mem_range.2 hi)
    rw [ho] at hdi
    simp only [Option.map_some, Option.getD_some] at hdi
    rw [ho, hbt]
    simp only [Bool.not_false, Option.map_some, Option.getD_some, Bool.true_and]
    rw [Array.all_eq_true_iff_forall_mem] at hdi ⊢
    intro e he
    have := of_decide_eq_true (hdi e he)
    rw [ih e.on this (by omega)]
    simp
   rw [hr] at hmem
   cases hmem
  ·rfl
end Go.Proofs.YtdohebhbiokljaaGreatDoor
namespace Go.Proofs.YtdohebhbiokljaaGreatDoor
open Go.RowKit
set_option maxRecDepth 100000 in
set_option maxHeartbeats 400000 in
theorem num1_any (p : Option Addr) (w : World) : Calls Tryz.prog 105 #[.pointer p] w fun e w' => e = .returned (.func (.func 106) #[] #[.pointer (some ⟨w.heap.size, 0, none⟩)]) ∧ w' = w.alloc (.cells #[.pointer p] 158) := by
 go_enter Tryz.func105, Tryz.ntmps105
 go_wp2
 go_ret
 exact ⟨rfl, rfl⟩
set_option maxRecDepth 100000 in
set_option maxHeartbeats 400000 in
theorem dig1_any (p : Option Addr) (w : World) : Calls Tryz.prog 108 #[.pointer p] w fun e w' => e = .returned (.func (.func 109) #[] #[.pointer (some ⟨w.heap.size, 0, none⟩)]) ∧ w' = w.alloc (.cells #[.pointer p] 161) := by
 go_enter Tryz.func108, Tryz.ntmps108
 go_wp2
 go_ret
 exact ⟨rfl, rfl⟩
section
variable {P : Program} {ops : Array Oper} {Q : Exit → Act → World → Prop} {K : Act → World → Prop} {i : Nat} {a : Act} {w : World}
theorem op_value {o : Oper} {v : Value} {w' : World} (hi : ops[i]? = some o) (hg : o.guard = none) (hr : (execOp a.eval o).run P w = .ok (.value v) w') (h : K (a.put o.dst v) w') : wpOp P ops Q i K a w := by
 unfold wpOp
 simp only [hi]
 rw [if_pos (by simp [Region.wanted, hg])]
 refine .inl ?_
 unfold Oper.wp
 rw [hr]
 exact h
theorem op_move {d s : Tmp} {t : TypeId} {p : String} {af : Array Edge} {v : Value} (hi : ops[i]? = some ⟨some d, .move (.tmp s), t, p, af, none⟩) (hs : a.eval (.tmp s) = v) (h : K (a.put (some d) v) w) : wpOp P ops Q i K a w :=
 op_value hi rfl (by simp [execOp, hs]) h
end
end Go.Proofs.YtdohebhbiokljaaGreatDoor
namespace Go.Proofs.YtdohebhbiokljaaGreatDoor
open Go.RowKit
def keyB : Nat → ByteArray
 | 0 => ⟨#[107]⟩
 | 1 => ⟨#[110]⟩
 | 2 => ⟨#[115, 101, 103]⟩
 | 3 => ⟨#[115, 105, 122, 101]⟩
 | 4 => ⟨#[115, 101, 103, 109, 101, 110, 116, 115]⟩
 | _ => ⟨#[115, 104, 97, 114, 101, 115]⟩
def keyL (k : Nat) : Lit := .string (keyB k).data.toList
def tgt (g : Nat) : Nat → Addr
 | 0 => ⟨g, 0, none⟩
 | 1 => ⟨g, 1, none⟩
 | 2 => ⟨g, 2, none⟩
 | 3 => ⟨g, 3, none⟩
 | 4 => ⟨g, 36, none⟩
 | _ => ⟨g, 4, none⟩
def cloF (k : Nat) : Nat := if k < 4 then 106 else 109
def cloV (k b : Nat) : Value := .func (.func (cloF k)) #[] #[.pointer (some ⟨b, 0, none⟩)]
theorem cloV_inj {k k' b b' : Nat} (h : cloV k b = cloV k' b') : cloF k = cloF k' ∧ b = b' := by
 unfold cloV at h
 simpa using h
open Classical in
noncomputable def rFun (v : Value) : Option (DataW Unit × List MemPlace) :=
 if h : ∃ b : Nat, v = cloV 0 b then some (.lit (.int .i64 ((Classical.choose h : Nat) : Int)), [])
 else if h : ∃ b : Nat, v = cloV 4 b then some (.lit (.int .i64 (-1 - ((Classical.choose h : Nat) : Int))), []) else some (.nil, [])
def cloD (k b : Nat) : DataW Unit := if k < 4 then .lit (.int .i64 (b : Int)) else .lit (.int .i64 (-1 - (b : Int)))
theorem cloF_lt {k : Nat} (h : k < 4) : cloV k = cloV 0 := by unfold cloV cloF; simp [h]
theorem cloF_ge {k : Nat} (h : ¬ k < 4) : cloV k = cloV 4 := by unfold cloV cloF; simp [h]
theorem clo_ne (b b' : Nat) : cloV 4 b ≠ cloV 0 b' := fun h => by
 have := (cloV_inj h).1
 exact absurd this (by unfold cloF; decide)
theorem rFun_clo (k b : Nat) : rFun (cloV k b) = some (cloD k b, []) := by
 unfold rFun cloD
 by_cases h : k < 4
 ·have hx : ∃ b' : Nat, cloV k b = cloV 0 b' := ⟨b, by rw [cloF_lt h]⟩
  rw [dif_pos hx, if_pos h]
  have := (cloV_inj (Classical.choose_spec hx)).2
  rw [← this]
 ·have h0 : ¬ ∃ b' : Nat, cloV k b = cloV 0 b' := fun ⟨b', hb⟩ => by rw [cloF_ge h] at hb; exact clo_ne _ _ hb
  have hx : ∃ b' : Nat, cloV k b = cloV 4 b' := ⟨b, by rw [cloF_ge h]⟩
  rw [dif_neg h0, dif_pos hx, if_neg h]
  have := (cloV_inj (Classical.choose_spec hx)).2
  rw [← this]
theorem rFun_back {v : Value} {k b : Nat} {ps : List MemPlace} (h : rFun v = some (cloD k b, ps)) : v = cloV k b := by
 unfold rFun cloD at h
 split at h
 ·rename_i hx
  have hs := Classical.choose_spec hx
  split at h
  ·rename_i hk
   simp at h
   have he : Classical.choose hx = b := Int.ofNat.inj h.1
   rw [cloF_lt hk, ← he]
   exact hs
  ·simp at h; omega
 ·split at h
  ·rename_i h0 hx
   have hs := Classical.choose_spec hx
   split at h
   ·simp at h; omega
   ·rename_i hk
    simp at h
    have he : Classical.choose hx = b := by omega
    rw [cloF_ge hk, ← he]
    exact hs
  ·split at h <;> simp at h
def dstOf (i : Nat) : Option Nat := if i = 0 then some 5 else if i = 37 then some 36 else if i = 38 then some 2 else if i < 37 then (if (i - 1) % 6 = 5 then none else some (6 + 5 * ((i - 1) / 6) + (i - 1) % 6)) else none
def valOf (g m : Nat) (B : Nat → Nat) (i : Nat) : Value :=
 if i = 0 then .map (some m) else if i = 37 then .map (some m) else if i = 38 then .map (some m) else
 if (i - 1) % 6 = 0 then .func (.func (if (i - 1) / 6 < 4 then 105 else 108)) #[] #[] else
 if (i - 1) % 6 = 1 then .pointer (some ⟨g, 0, none⟩) else
 if (i - 1) % 6 = 2 then .pointer (some ⟨g, 0, none⟩) else
 if (i - 1) % 6 = 3 then .pointer (some (tgt g ((i - 1) / 6))) else cloV ((i - 1) / 6) (B ((i - 1) / 6))
theorem dst_inj : ∀ i j d, dstOf i = some d → dstOf j = some d → i = j := by
 intro i j d hi hj
 unfold dstOf at hi hj
 repeat' split at hi
 all_goals repeat' split at hj
 all_goals simp at hi hj
 all_goals omega
theorem dst_lt : ∀ i d, dstOf i = some d → d < 37 ∧ d ≠ 0 ∧ d ≠ 3 ∧ d ≠ 4 := by
 intro i d hi
 unfold dstOf at hi
 repeat' split at hi
 all_goals simp at hi
 all_goals omega
structure LI (w0 : World) (g : Nat) (listed : Array Bool) (a : Act) (w : World) (m : Nat) (B : Nat → Nat) (D : DataW Unit) (n : Nat) : Prop where
 size : listed.size = 39
 tsz : a.tmps.size = 37
 df : a.defers = []
 t0 : a.tmps[0]? = some (.pointer (some ⟨g, 0, none⟩))
 t3 : a.tmps[3]? = some (.func (.func 105) #[] #[])
 t4 : a.tmps[4]? = some (.func (.func 108) #[] #[])
 slots : ∀ i d, dstOf i = some d → listed.getD i false = true → a.tmps[d]? = some (valOf g m B i)
 bel : Below w0.heap.size w0 w
 dep37 : listed.getD 37 false = true → listed.getD 0 false = true
 dep38 : listed.getD 38 false = true → listed.getD 0 false = true
 depk : ∀ k, k < 6 → listed.getD (6 + 6 * k) false = true → listed.getD 0 false = true
 depc : ∀ k, k < 6 → listed.getD (6 + 6 * k) false = true → listed.getD (5 + 6 * k) false = true
 cells : ∀ k, k < 6 → listed.getD (5 + 6 * k) false = true → w.cell? ⟨B k, 0, none⟩ = some (.pointer (some (tgt g k))) ∧ w0.heap.size ≤ B k
 map : listed.getD 0 false = true → w0.heap.size ≤ m ∧ w.ownsMap Tryz.prog 9 rFun m n D ∧ n ≤ 100 ∧
  (∀ k, k < 6 → Maps.has D (keyL k) = listed.getD (6 + 6 * k) false) ∧ (∀ k, k < 6 → listed.getD (6 + 6 * k) false = true → ∀ z, D.atKey (keyL k) z = cloD k (B k)) ∧
  (∀ s : List UInt8, (∀ k, k < 6 → s ≠ (keyB k).data.toList) → Maps.has D (.string s) = false) ∧
  Maps.size D = ((List.range 6).filter fun k => listed.getD (6 + 6 * k) false).length ∧ n = Maps.size D
theorem getD_set {listed : Array Bool} {i j : Nat} (h : i < listed.size) : (listed.setIfInBounds i true).getD j false = if j = i then true else listed.getD j false := by
 by_cases hj : j = i
 ·subst hj
  simp [Array.getD, h]
 ·rw [if_neg hj]
  by_cases hjs : j < listed.size
  ·simp [Array.getD, hjs, Array.getElem_setIfInBounds, Ne.symm hj]
  ·simp [Array.getD, hjs]
theorem LI.put {w0 : World} {g : Nat} {listed : Array Bool} {a : Act} {w : World} {m : Nat} {B : Nat → Nat} {D : DataW Unit} {n : Nat} (h : LI w0 g listed a w m B D n) (i d : Nat) (hi : i < 39) (hd : dstOf i = some d)
  (hk : i ≠ 0 ∧ ∀ k, k < 6 → i ≠ 5 + 6 * k) (h37 : (i = 37 ∨ i = 38) → listed.getD 0 false = true) : LI w0 g (listed.setIfInBounds i true) (a.put (some d) (valOf g m B i)) w m B D n := by
 have hs : i < listed.size := by rw [h.size]; exact hi
 have hins : ∀ k, k < 6 → i ≠ 6 + 6 * k := fun k hk he => by
  subst he
  unfold dstOf at hd
  rw [if_neg (by omega), if_neg (by omega), if_neg (by omega), if_pos (by omega), if_pos (by omega)] at hd
  cases hd
 have hdl := dst_lt i d hd
 have hg : ∀ j, j ≠ i → (listed.setIfInBounds i true).getD j false = listed.getD j false := fun j hj => by rw [getD_set hs, if_neg hj]
 have hp : ∀ e, e ≠ d → (a.put (some d) (valOf g m B i)).tmps[e]? = a.tmps[e]? := fun e he => by simp [Act.put, Array.getElem?_setIfInBounds, Ne.symm he]
 refine ⟨by simpa using h.size, by simpa [Act.put] using h.tsz, h.df, ?_, ?_, ?_, fun j e he hl => ?_, h.bel, fun hl => ?_, fun hl => ?_, fun k hk6 hl => ?_, fun k hk6 hl => ?_, fun k hk6 hl => ?_, fun hl => ?_⟩
 ·rw [hp 0 (Ne.symm hdl.2.1)]; exact h.t0
 ·rw [hp 3 (Ne.symm hdl.2.2.1)]; exact h.t3
 ·rw [hp 4 (Ne.symm hdl.2.2.2)]; exact h.t4
 ·by_cases hj : j = i
  ·subst hj
   rw [hd] at he
   cases he
   simp [Act.put, h.tsz, hdl.1]
  ·rw [hg j hj] at hl
   have hne : e ≠ d := fun h' => hj (dst_inj j i d (by rw [he, h']) hd)
   rw [hp e hne]
   exact h.slots j e he hl
 ·rw [hg 0 (Ne.symm hk.1)]
  by_cases h' : i = 37
  ·exact h37 (.inl h')
  ·rw [hg 37 (Ne.symm h')] at hl; exact h.dep37 hl
 ·rw [hg 0 (Ne.symm hk.1)]
  by_cases h' : i = 38
  ·exact h37 (.inr h')
  ·rw [hg 38 (Ne.symm h')] at hl; exact h.dep38 hl
 ·rw [hg 0 (Ne.symm hk.1)]
  rw [hg _ (Ne.symm (hins k hk6))] at hl
  exact h.depk k hk6 hl
 ·rw [hg _ (Ne.symm (hins k hk6))] at hl
  rw [hg _ (Ne.symm (hk.2 k hk6))]
  exact h.depc k hk6 hl
 ·rw [hg _ (Ne.symm (hk.2 k hk6))] at hl
  exact h.cells k hk6 hl
 ·rw [hg 0 (Ne.symm hk.1)] at hl
  obtain ⟨h1, h2, h3, h4, h5, h6, h7, h8⟩ := h.map hl
  refine ⟨h1, h2, h3, fun k hk6 => ?_, fun k hk6 hl => ?_, h6, ?_, h8⟩
  ·rw [hg _ (Ne.symm (hins k hk6))]; exact h4 k hk6
  ·rw [hg _ (Ne.symm (hins k hk6))] at hl; exact h5 k hk6 hl
  ·rw [h7]
   congr 1
   refine List.filter_congr fun k hk6 => ?_
   rw [hg _ (Ne.symm (hins k (List.mem_range.1 hk6)))]
end Go.Proofs.YtdohebhbiokljaaGreatDoor
namespace Go.Proofs.YtdohebhbiokljaaGreatDoor
open Go.RowKit
theorem val_same {g m m' : Nat} {B B' : Nat → Nat} {j d : Nat} (hd : dstOf j = some d) (hm : (j = 0 ∨ j = 37 ∨ j = 38) → m = m') (hB : ∀ k, j = 5 + 6 * k → B k = B' k) : valOf g m B j = valOf g m' B' j := by
 have h5 : (j - 1) % 6 = 4 → j ≠ 0 → B ((j - 1) / 6) = B' ((j - 1) / 6) := fun h h0 => hB _ (by omega)
 have hne : ¬ (j = 0 ∨ j = 37 ∨ j = 38) → (j - 1) % 6 ≠ 5 := fun h0 h6 => by
  unfold dstOf at hd
  rw [if_neg (by omega), if_neg (by omega), if_neg (by omega)] at hd
  split at hd
  ·first
    | cases hd
    | (rw [if_pos h6] at hd; cases hd)
  ·cases hd
 unfold valOf
 by_cases h0 : j = 0
 ·rw [if_pos h0, if_pos h0, hm (.inl h0)]
 ·rw [if_neg h0, if_neg h0]
  by_cases h1 : j = 37
  ·rw [if_pos h1, if_pos h1, hm (.inr (.inl h1))]
  ·rw [if_neg h1, if_neg h1]
   by_cases h2 : j = 38
   ·rw [if_pos h2, if_pos h2, hm (.inr (.inr h2))]
   ·rw [if_neg h2, if_neg h2]
    have := hne (by omega)
    by_cases h3 : (j - 1) % 6 = 0
    ·rw [if_pos h3, if_pos h3]
    ·rw [if_neg h3, if_neg h3]
     by_cases h4 : (j - 1) % 6 = 1
     ·rw [if_pos h4, if_pos h4]
     ·rw [if_neg h4, if_neg h4]
      by_cases h6 : (j - 1) % 6 = 2
      ·rw [if_pos h6, if_pos h6]
      ·rw [if_neg h6, if_neg h6]
       by_cases h7 : (j - 1) % 6 = 3
       ·rw [if_pos h7, if_pos h7]
       ·rw [if_neg h7, if_neg h7, h5 (by omega) h0]
theorem Blk_new (w : World) (ty : TypeId) (v : Value) : (w.alloc (.cells #[v] ty)).cell? ⟨w.heap.size, 0, none⟩ = some v := by
 rw [cell_of_row _ w.heap.size 0 #[v] ty (0, 0) (heap_alloc_new w _)]
 rfl
theorem put_other {a : Act} {d e : Nat} {v : Value} (h : e ≠ d) : (a.put (some d) v).tmps[e]? = a.tmps[e]? := by simp [Act.put, Array.getElem?_setIfInBounds, Ne.symm h]
theorem put_same {a : Act} {d : Nat} {v : Value} (h : d < a.tmps.size) : (a.put (some d) v).tmps[d]? = some v := by simp [Act.put, h]
theorem LI.make {w0 : World} {g : Nat} {listed : Array Bool} {a : Act} {w : World} {m : Nat} {B : Nat → Nat} {D : DataW Unit} {n : Nat} (h : LI w0 g listed a w m B D n) (h0 : listed.getD 0 false = false) :
  LI w0 g (listed.setIfInBounds 0 true) (a.put (some 5) (.map (some w.heap.size))) (w.alloc (.map #[] 0)) w.heap.size B (.map []) 0 := by
 have hs : 0 < listed.size := by rw [h.size]; omega
 have hg : ∀ j, j ≠ 0 → (listed.setIfInBounds 0 true).getD j false = listed.getD j false := fun j hj => by rw [getD_set hs, if_neg hj]
 have hg0 : (listed.setIfInBounds 0 true).getD 0 false = true := by rw [getD_set hs, if_pos rfl]
 have hbel := h.bel.alloc h.bel.size (.map #[] 0)
 have hnk : ∀ k, k < 6 → listed.getD (6 + 6 * k) false = false := fun k hk => by
  rcases hb : listed.getD (6 + 6 * k) false with _ | _
  ·rfl
  ·rw [h.depk k hk hb] at h0; cases h0
 refine ⟨by simpa using h.size, by simpa [Act.put] using h.tsz, h.df, (put_other (by omega)).trans h.t0, (put_other (by omega)).trans h.t3, (put_other (by omega)).trans h.t4, fun j e he hl => ?_, hbel, fun _ => hg0, fun _ => hg0, fun _ _ _ => hg0, fun k hk6 hl => ?_, fun k hk6 hl => ?_, fun _ => ?_⟩
 ·by_cases hj : j = 0
  ·subst hj
   have : e = 5 := by simpa [dstOf] using he.symm
   subst this
   rw [put_same (by rw [h.tsz]; omega)]
   rfl
  ·rw [hg j hj] at hl
   have hne : e ≠ 5 := fun h' => hj (dst_inj j 0 5 (by rw [he, h']) rfl)
   rw [put_other hne, h.slots j e he hl]
   refine congrArg some (val_same he (fun h' => ?_) fun _ _ => rfl)
   rcases h' with h' | h' | h'
   ·exact absurd h' hj
   ·subst h'; rw [h.dep37 hl] at h0; cases h0
   ·subst h'; rw [h.dep38 hl] at h0; cases h0
 ·rw [hg _ (by omega)] at hl ⊢
  exact h.depc k hk6 hl
 ·rw [hg _ (by omega)] at hl
  obtain ⟨h1, h2⟩ := h.cells k hk6 hl
  exact ⟨((Below.refl _ w).alloc (Nat.le_refl _) (.map #[] 0)).cell (p := ⟨B k, 0, none⟩) (World.block_lt_of_cell? _ _ h1) |>.trans h1, h2⟩
 ·refine ⟨h.bel.size, World.ownsMap_made w _ _ _, by omega, fun k hk6 => ?_, fun k hk6 hl => ?_, fun s _ => rfl, ?_, rfl⟩
  ·rw [hg _ (by omega), hnk k hk6]; rfl
  ·rw [hg _ (by omega), hnk k hk6] at hl; cases hl
  ·rw [List.filter_eq_nil_iff.2]
   ·rfl
   ·intro k hk
    rw [hg _ (by omega), hnk k (List.mem_range.1 hk)]
    simp
theorem LI.call {w0 : World} {g : Nat} {listed : Array Bool} {a : Act} {w : World} {m : Nat} {B : Nat → Nat} {D : DataW Unit} {n : Nat} (h : LI w0 g listed a w m B D n) (k d : Nat) (ty : TypeId) (hk : k < 6) (hl0 : listed.getD (5 + 6 * k) false = false) (hd : dstOf (5 + 6 * k) = some d) :
  LI w0 g (listed.setIfInBounds (5 + 6 * k) true) (a.put (some d) (cloV k w.heap.size)) (w.alloc (.cells #[.pointer (some (tgt g k))] ty)) m (fun j => if j = k then w.heap.size else B j) D n := by
 have hs : 5 + 6 * k < listed.size := by rw [h.size]; omega
 have hg : ∀ j, j ≠ 5 + 6 * k → (listed.setIfInBounds (5 + 6 * k) true).getD j false = listed.getD j false := fun j hj => by rw [getD_set hs, if_neg hj]
 have hbel := h.bel.alloc h.bel.size (.cells #[.pointer (some (tgt g k))] ty)
 have hdl := dst_lt _ d hd
 refine ⟨by simpa using h.size, by simpa [Act.put] using h.tsz, h.df, (put_other (Ne.symm hdl.2.1)).trans h.t0, (put_other (Ne.symm hdl.2.2.1)).trans h.t3, (put_other (Ne.symm hdl.2.2.2)).trans h.t4, fun j e he hl => ?_, hbel, fun hl => ?_, fun hl => ?_, fun k' hk6 hl => ?_, fun k' hk6 hl => ?_, fun k' hk6 hl => ?_, fun hl => ?_⟩
 ·by_cases hj : j = 5 + 6 * k
  ·subst hj
   rw [hd] at he
   cases he
   rw [put_same (by rw [h.tsz]; exact hdl.1)]
   unfold valOf
   rw [if_neg (by omega), if_neg (by omega), if_neg (by omega), if_neg (by omega), if_neg (by omega), if_neg (by omega), if_neg (by omega), show (5 + 6 * k - 1) / 6 = k by omega]
   simp
  ·rw [hg j hj] at hl
   have hne : e ≠ d := fun h' => hj (dst_inj j _ d (by rw [he, h']) hd)
   rw [put_other hne, h.slots j e he hl]
   exact congrArg some (val_same he (fun _ => rfl) fun k' hk' => by rw [if_neg (fun e' => hj (by omega))])
 ·rw [hg _ (by omega)] at hl ⊢; exact h.dep37 hl
 ·rw [hg _ (by omega)] at hl ⊢; exact h.dep38 hl
 ·rw [hg _ (by omega)] at hl ⊢; exact h.depk k' hk6 hl
 ·rw [hg _ (by omega)] at hl
  by_cases hkk : k' = k
  ·subst hkk; rw [getD_set hs, if_pos rfl]
  ·rw [hg _ (by omega)]; exact h.depc k' hk6 hl
 ·by_cases hkk : k' = k
  ·subst hkk
   simp only [if_pos]
   exact ⟨(Blk_new w ty _).trans rfl, h.bel.size⟩
  ·rw [hg _ (by omega)] at hl
   simp only [if_neg hkk]
   obtain ⟨h1, h2⟩ := h.cells k' hk6 hl
   exact ⟨((Below.refl _ w).alloc (Nat.le_refl _) _).cell (p := ⟨B k', 0, none⟩) (World.block_lt_of_cell? _ _ h1) |>.trans h1, h2⟩
 ·rw [hg _ (by omega)] at hl
  obtain ⟨h1, h2, h3, h4, h5, h6, h7, h8⟩ := h.map hl
  refine ⟨h1, h2.alloc _, h3, fun k' hk6 => ?_, fun k' hk6 hl => ?_, h6, ?_, h8⟩
  ·rw [hg _ (by omega)]; exact h4 k' hk6
  ·rw [hg _ (by omega)] at hl
   have hc := h.depc k' hk6 hl
   have hkk : k' ≠ k := fun e' => by subst e'; rw [hl0] at hc; cases hc
   simp only [if_neg hkk]
   exact h5 k' hk6 hl
  ·rw [h7]
   congr 1
   refine List.filter_congr fun k' hk6 => ?_
   rw [hg _ (by omega)]
theorem key_len (k : Nat) : (keyB k).size ≤ maxLen := by
 unfold maxLen keyB
 split <;> decide
theorem key_ne {k k' : Nat} (hk : k < 6) (hk' : k' < 6) (h : k' ≠ k) : keyL k' ≠ keyL k := by
 have : ∀ a, a < 6 → ∀ b, b < 6 → b ≠ a → (keyB b).data.toList ≠ (keyB a).data.toList := by decide
 intro e
 unfold keyL at e
 injection e with e
 exact this k hk k' hk' h e
theorem count_ins (f : Nat → Bool) (k : Nat) (hk : k < 6) (hf : f k = false) : ((List.range 6).filter fun j => if j = k then true else f j).length = ((List.range 6).filter f).length + 1 := by
 have e : List.range 6 = [0, 1, 2, 3, 4, 5] := rfl
 rw [e]
 have hc : k = 0 ∨ k = 1 ∨ k = 2 ∨ k = 3 ∨ k = 4 ∨ k = 5 := by omega
 rcases hc with rfl | rfl | rfl | rfl | rfl | rfl
 all_goals
  simp only [List.filter_cons, List.filter_nil, hf]
  cases f 0 <;> cases f 1 <;> cases f 2 <;> cases f 3 <;> cases f 4 <;> cases f 5 <;> simp_all
theorem keyed_str : Maps.Keyed Tryz.prog 9 := Maps.string_keyed Tryz.underlying9
theorem LI.ins {w0 : World} {g : Nat} {listed : Array Bool} {a : Act} {w : World} {m : Nat} {B : Nat → Nat} {D : DataW Unit} {n : Nat} (h : LI w0 g listed a w m B D n) (k : Nat) (hk : k < 6) (hl0 : listed.getD (6 + 6 * k) false = false) (h0 : listed.getD 0 false = true) (hc : listed.getD (5 + 6 * k) false = true) :
  ∃ w', (Instr.mapUpdate 142 (.map (some m)) (.string (keyB k)) (cloV k (B k))).run Tryz.prog w = .ok () w' ∧ LI w0 g (listed.setIfInBounds (6 + 6 * k) true) a w' m B (D.put (keyL k) (cloD k (B k))) (n + 1) := by
 obtain ⟨h1, h2, h3, h4, h5, h6, h7, h8⟩ := h.map h0
 have hkl : WideAt.IsKeyLit (keyL k) := trivial
 obtain ⟨w', hrun, ho, hgr⟩ := h2.update keyed_str Tryz.underlying142 (by unfold maxLen; omega) (WideMaps.keyOf_string_mk Tryz.underlying9 (key_len k)) (rFun_clo k (B k))
 have hs : 6 + 6 * k < listed.size := by rw [h.size]; omega
 have hg : ∀ j, j ≠ 6 + 6 * k → (listed.setIfInBounds (6 + 6 * k) true).getD j false = listed.getD j false := fun j hj => by rw [getD_set hs, if_neg hj]
 have hgk : (listed.setIfInBounds (6 + 6 * k) true).getD (6 + 6 * k) false = true := by rw [getD_set hs, if_pos rfl]
 have hlt := h2.lt
 have hhas : Maps.has D (keyL k) = false := by rw [h4 k hk, hl0]
 have hfun : (fun j => (listed.setIfInBounds (6 + 6 * k) true).getD (6 + 6 * j) false) = fun j => if j = k then true else listed.getD (6 + 6 * j) false := by
  funext j
  by_cases hj : j = k
  ·subst hj; rw [hgk, if_pos rfl]
  ·rw [hg _ (by omega), if_neg hj]
 have hcnt : ((List.range 6).filter fun j => listed.getD (6 + 6 * j) false).length ≤ 6 := Nat.le_trans (List.length_filter_le _ _) (by simp)
 refine ⟨w', hrun, by simpa using h.size, h.tsz, h.df, h.t0, h.t3, h.t4, fun j e he hl => ?_, h.bel.grown hgr h.bel.size (fun j hj => by cases hj; exact h1), fun hl => ?_, fun hl => ?_, fun k' hk6 hl => ?_, fun k' hk6 hl => ?_, fun k' hk6 hl => ?_, fun hl => ?_⟩
 ·have hj : j ≠ 6 + 6 * k := fun e' => by
   subst e'
   unfold dstOf at he
   rw [if_neg (by omega), if_neg (by omega), if_neg (by omega), if_pos (by omega), if_pos (by omega)] at he
   cases he
  rw [hg j hj] at hl
  exact h.slots j e he hl
 ·rw [hg _ (by omega)] at hl ⊢; exact h.dep37 hl
 ·rw [hg _ (by omega)] at hl ⊢; exact h.dep38 hl
 ·rw [hg _ (by omega)]; exact h0
 ·rw [hg _ (by omega)]
  by_cases hkk : k' = k
  ·subst hkk; exact hc
  ·rw [hg _ (by omega)] at hl; exact h.depc k' hk6 hl
 ·rw [hg _ (by omega)] at hl
  obtain ⟨c1, c2⟩ := h.cells k' hk6 hl
  refine ⟨?_, c2⟩
  have hb := World.block_lt_of_cell? _ _ c1
  have hne : B k' ≠ m := fun e' => by
   obtain ⟨es, clock, hh, _⟩ := h2
   rw [e'] at c1
   simp [World.cell?, hh] at c1
  have : w'.heap[B k']? = w.heap[B k']? := hgr.block (B k') hb (fun e' => hne (Option.some.inj e'))
  unfold World.cell? at c1 ⊢
  simp only at c1 ⊢
  rw [this]
  exact c1
 ·refine ⟨h1, ho, by rw [h8, h7]; omega, fun k' hk6 => ?_, fun k' hk6 hl z => ?_, fun s hs' => ?_, ?_, ?_⟩
  ·by_cases hkk : k' = k
   ·subst hkk; rw [hgk, Maps.has_put_same h2.isMap hkl]
   ·rw [hg _ (by omega), Maps.has_put_other (key_ne hk hk6 hkk)]; exact h4 k' hk6
  ·by_cases hkk : k' = k
   ·subst hkk; exact Maps.atKey_put_same h2.isMap hkl _ z
   ·rw [hg _ (by omega)] at hl
    rw [Maps.atKey_put_other (key_ne hk hk6 hkk)]; exact h5 k' hk6 hl z
  ·rw [Maps.has_put_other (fun e' => by unfold keyL at e'; injection e' with e'; exact hs' k hk e')]
   exact h6 s hs'
  ·rw [Maps.size_put (h2.tidy keyed_str), if_neg (by rw [hhas]; decide), hfun, count_ins _ k hk hl0, h7]
  ·rw [Maps.size_put (h2.tidy keyed_str), if_neg (by rw [hhas]; decide), h8]
end Go.Proofs.YtdohebhbiokljaaGreatDoor
namespace Go.Proofs.YtdohebhbiokljaaGreatDoor
open Go.RowKit
section
variable {P : Program} {ops : Array Oper} {Q : Exit → Act → World → Prop} {K : Act → World → Prop} {i : Nat} {a : Act} {w : World}
set_option maxRecDepth 100000 in
theorem op_callnum1 {ops : Array Oper} {Q : Exit → Act → World → Prop} {K : Act → World → Prop} {i : Nat} {a : Act} {w : World} {d s x : Tmp} {t at_ : TypeId} {p : String} {af : Array Edge} {q : Option Addr} (hi : ops[i]? = some ⟨some d, .call { callee := .value (.tmp s), args := #[.tmp x], argTypes := #[at_] }, t, p, af, none⟩)
  (hs : a.tmps[s]? = some (.func (.func 105) #[] #[])) (hx : a.tmps[x]? = some (.pointer q)) (h : K (a.put (some d) (.func (.func 106) #[] #[.pointer (some ⟨w.heap.size, 0, none⟩)])) (w.alloc (.cells #[.pointer q] 158))) : wpOp Tryz.prog ops Q i K a w := by
 unfold wpOp
 simp only [hi]
 rw [if_pos (by simp [Region.wanted])]
 refine .inl ?_
 unfold Oper.wp
 go_simp
 go_at_call 105
 refine (num1_any q w).mono ?_
 rintro e w2 ⟨rfl, rfl⟩
 exact h
set_option maxRecDepth 100000 in
theorem op_calldig1 {ops : Array Oper} {Q : Exit → Act → World → Prop} {K : Act → World → Prop} {i : Nat} {a : Act} {w : World} {d s x : Tmp} {t at_ : TypeId} {p : String} {af : Array Edge} {q : Option Addr} (hi : ops[i]? = some ⟨some d, .call { callee := .value (.tmp s), args := #[.tmp x], argTypes := #[at_] }, t, p, af, none⟩)
  (hs : a.tmps[s]? = some (.func (.func 108) #[] #[])) (hx : a.tmps[x]? = some (.pointer q)) (h : K (a.put (some d) (.func (.func 109) #[] #[.pointer (some ⟨w.heap.size, 0, none⟩)])) (w.alloc (.cells #[.pointer q] 161))) : wpOp Tryz.prog ops Q i K a w := by
 unfold wpOp
 simp only [hi]
 rw [if_pos (by simp [Region.wanted])]
 refine .inl ?_
 unfold Oper.wp
 go_simp
 go_at_call 108
 refine (dig1_any q w).mono ?_
 rintro e w2 ⟨rfl, rfl⟩
 exact h
theorem op_ins {m x : Tmp} {t ty : TypeId} {key : Value} {p : String} {af : Array Edge} {mv xv : Value} {w' : World} (hi : ops[i]? = some ⟨none, .insert ty (.tmp m) (.const key) (.tmp x), t, p, af, none⟩)
  (hm : a.eval (.tmp m) = mv) (hx : a.eval (.tmp x) = xv) (hr : (Instr.mapUpdate ty mv key xv).run P w = .ok () w') (h : K a w') : wpOp P ops Q i K a w := by
 unfold wpOp
 simp only [hi]
 rw [if_pos (by simp [Region.wanted])]
 refine .inl ?_
 unfold Oper.wp
 have hk : a.eval (.const key) = key := rfl
 simp [execOp, hm, hx, hk, hr, Result.andThen, Oper.upon]
 exact h
theorem gd {l : Array Bool} {i : Nat} (h : l[i]?.getD false = true) : l.getD i false = true := by simpa using h
theorem eval_tmp {s : Tmp} {v : Value} (h : a.tmps[s]? = some v) : a.eval (.tmp s) = v := by simp [Act.eval, h]
end
theorem fa0 (g : Nat) (W : World) : (Instr.fieldAt 25 (.pointer (some ⟨g, 0, none⟩)) 0).run Tryz.prog W = .ok (.pointer (some (tgt g 0))) W := by kernel_rfl
theorem fa1 (g : Nat) (W : World) : (Instr.fieldAt 25 (.pointer (some ⟨g, 0, none⟩)) 1).run Tryz.prog W = .ok (.pointer (some (tgt g 1))) W := by kernel_rfl
theorem fa2 (g : Nat) (W : World) : (Instr.fieldAt 25 (.pointer (some ⟨g, 0, none⟩)) 2).run Tryz.prog W = .ok (.pointer (some (tgt g 2))) W := by kernel_rfl
theorem fa3 (g : Nat) (W : World) : (Instr.fieldAt 25 (.pointer (some ⟨g, 0, none⟩)) 3).run Tryz.prog W = .ok (.pointer (some (tgt g 3))) W := by kernel_rfl
theorem fa4 (g : Nat) (W : World) : (Instr.fieldAt 25 (.pointer (some ⟨g, 0, none⟩)) 5).run Tryz.prog W = .ok (.pointer (some (tgt g 4))) W := by kernel_rfl
theorem fa5 (g : Nat) (W : World) : (Instr.fieldAt 25 (.pointer (some ⟨g, 0, none⟩)) 4).run Tryz.prog W = .ok (.pointer (some (tgt g 5))) W := by kernel_rfl
set_option maxRecDepth 100000 in
set_option maxHeartbeats 4000000 in
theorem layers_any (g : Nat) (w : World) : Calls Tryz.prog 93 #[.pointer (some ⟨g, 0, none⟩)] w fun e w' => ∃ (m : Nat) (B : Nat → Nat) (D : DataW Unit) (n : Nat), e = .returned (.map (some m)) ∧ Below w.heap.size w w' ∧
  w.heap.size ≤ m ∧ w'.ownsMap Tryz.prog 9 rFun m n D ∧ n ≤ 100 ∧ Maps.size D = 6 ∧ (∀ k, k < 6 → Maps.has D (keyL k) = true) ∧ (∀ k, k < 6 → ∀ z, D.atKey (keyL k) z = cloD k (B k)) ∧
  (∀ s : List UInt8, (∀ k, k < 6 → s ≠ (keyB k).data.toList) → Maps.has D (.string s) = false) ∧ (∀ k, k < 6 → w'.cell? ⟨B k, 0, none⟩ = some (.pointer (some (tgt g k))) ∧ w.heap.size ≤ B k) := by
 go_enter Tryz.func93, Tryz.ntmps93
 go_wp2
 refine wp_region_any rfl ?_
 refine wpAny_inv (fun listed a W => ∃ m B D n, LI w g listed a W m B D n) (fun listed a W ⟨_, _, _, _, h⟩ => h.size.trans rfl) ?step ?fin _ _ _ _ (by simp) ?start
 case start =>
  refine ⟨0, fun _ => 0, .map [], 0, by simp, by simp, rfl, rfl, rfl, rfl, fun i d hd hl => ?_, (Below.refl w.heap.size w).drew, fun hl => ?_, fun hl => ?_, fun k _ hl => ?_, fun k _ hl => ?_, fun k _ hl => ?_, fun hl => ?_⟩
  all_goals
   simp [Array.getD] at hl
 case fin =>
  rintro listed a W ⟨m, B, D, n, h⟩ hr
  have hall : ∀ i, i < 39 → listed.getD i false = true := fun i hi => all_ready (h.size.trans rfl) (by kernel_rfl) hr i hi
  obtain ⟨h1, h2, h3, h4, h5, h6, h7, h8⟩ := h.map (hall 0 (by omega))
  have ht2 : a.tmps[2]? = some (.map (some m)) := h.slots 38 2 rfl (hall 38 (by omega))
  have hdf := h.df
  have hcell := fun k hk => h.cells k hk (hall (5 + 6 * k) (by omega))
  have hhas : ∀ k, k < 6 → Maps.has D (keyL k) = true := fun k hk => by rw [h4 k hk]; exact hall _ (by omega)
  have hat : ∀ k, k < 6 → ∀ z, D.atKey (keyL k) z = cloD k (B k) := fun k hk => h5 k hk (hall _ (by omega))
  have hsz : Maps.size D = 6 := by
   rw [h7, List.filter_eq_self.2 (fun k hk => hall _ (by have := List.mem_range.1 hk; omega))]
   rfl
  have hbel := h.bel
  clear h hr hall h4 h5 h7 h8
  go_wp2
  exact bodyPost_ret (results_tmp rfl _ _ _) hdf ⟨m, B, D, n, by rw [Array.getD_eq_getD_getElem?, ht2]; rfl, hbel, h1, h2, h3, hsz, hhas, hat, h6, hcell⟩
 case step =>
  rintro listed a W i ⟨m, B, D, n, h⟩ hi
  obtain ⟨hlt, hf, o, ho, hdep⟩ := ready_at hi
  have hi39 : i < 39 := hlt
  have hff : listed.getD i false = false := by
   have : i < listed.size := by rw [h.size]; exact hi39
   simpa [Array.getD, this] using hf
  clear hi hlt hf
  have hc : i = 0 ∨ i = 1 ∨ i = 2 ∨ i = 3 ∨ i = 4 ∨ i = 5 ∨ i = 6 ∨ i = 7 ∨ i = 8 ∨ i = 9 ∨ i = 10 ∨ i = 11 ∨ i = 12 ∨ i = 13 ∨ i = 14 ∨ i = 15 ∨ i = 16 ∨ i = 17 ∨ i = 18 ∨ i = 19 ∨ i = 20 ∨ i = 21 ∨ i = 22 ∨ i = 23 ∨ i = 24 ∨ i = 25 ∨ i = 26 ∨ i = 27 ∨ i = 28 ∨ i = 29 ∨ i = 30 ∨ i = 31 ∨ i = 32 ∨ i = 33 ∨ i = 34 ∨ i = 35 ∨ i = 36 ∨ i = 37 ∨ i = 38 := by omega
  rcases hc with rfl | rfl | rfl | rfl | rfl | rfl | rfl | rfl | rfl | rfl | rfl | rfl | rfl | rfl | rfl | rfl | rfl | rfl | rfl | rfl | rfl | rfl | rfl | rfl | rfl | rfl | rfl | rfl | rfl | rfl | rfl | rfl | rfl | rfl | rfl | rfl | rfl | rfl | rfl
  ·clear ho hdep
   exact op_value rfl rfl (by simp [execOp, run_makeMap, Result.andThen]) ⟨_, _, _, _, h.make hff⟩
  ·clear ho hdep
   exact op_move rfl (eval_tmp h.t3) ⟨_, _, _, _, h.put 1 6 (by omega) rfl ⟨by omega, fun k hk => by omega⟩ (fun h => by omega)⟩
  ·clear ho hdep
   exact op_move rfl (eval_tmp h.t0) ⟨_, _, _, _, h.put 2 7 (by omega) rfl ⟨by omega, fun k hk => by omega⟩ (fun h => by omega)⟩
  ·simp at ho
   subst ho
   simp [Region.binds] at hdep
   have hv : a.eval (.tmp 7) = .pointer (some ⟨g, 0, none⟩) := eval_tmp (h.slots 2 7 rfl (gd hdep))
   exact op_value (v := .pointer (some ⟨g, 0, none⟩)) rfl rfl (by simp [execOp, hv]) ⟨_, _, _, _, h.put 3 8 (by omega) rfl ⟨by omega, fun k hk => by omega⟩ (fun h => by omega)⟩
  ·simp at ho
   subst ho
   simp [Region.binds] at hdep
   have hv : a.eval (.tmp 8) = .pointer (some ⟨g, 0, none⟩) := eval_tmp (h.slots 3 8 rfl (gd hdep))
   exact op_value (v := .pointer (some (tgt g 0))) rfl rfl (by simp [execOp, hv, fa0, Result.andThen]) ⟨_, _, _, _, h.put 4 9 (by omega) rfl ⟨by omega, fun k hk => by omega⟩ (fun h => by omega)⟩
  ·simp at ho
   subst ho
   simp [Region.binds] at hdep
   have hs : a.tmps[6]? = some (.func (.func 105) #[] #[]) := h.slots 1 6 rfl (gd hdep.1)
   have hx : a.tmps[9]? = some (.pointer (some (tgt g 0))) := h.slots 4 9 rfl (gd hdep.2)
   exact op_callnum1 rfl hs hx ⟨_, _, _, _, h.call 0 10 _ (by omega) hff rfl⟩
  ·simp at ho
   subst ho
   simp [Region.binds] at hdep
   obtain ⟨w2, hr2, hl2⟩ := h.ins 0 (by omega) hff (gd hdep.1) (gd hdep.2)
   have hm : a.eval (.tmp 5) = .map (some m) := eval_tmp (h.slots 0 5 rfl (gd hdep.1))
   have hx : a.eval (.tmp 10) = cloV 0 (B 0) := eval_tmp (h.slots 5 10 rfl (gd hdep.2))
   exact op_ins rfl hm hx hr2 ⟨_, _, _, _, hl2⟩
  ·clear ho hdep
   exact op_move rfl (eval_tmp h.t3) ⟨_, _, _, _, h.put 7 11 (by omega) rfl ⟨by omega, fun k hk => by omega⟩ (fun h => by omega)⟩
  ·clear ho hdep
   exact op_move rfl (eval_tmp h.t0) ⟨_, _, _, _, h.put 8 12 (by omega) rfl ⟨by omega, fun k hk => by omega⟩ (fun h => by omega)⟩
  ·simp at ho
   subst ho
   simp [Region.binds] at hdep
   have hv : a.eval (.tmp 12) = .pointer (some ⟨g, 0, none⟩) := eval_tmp (h.slots 8 12 rfl (gd hdep))
   exact op_value (v := .pointer (some ⟨g, 0, none⟩)) rfl rfl (by simp [execOp, hv]) ⟨_, _, _, _, h.put 9 13 (by omega) rfl ⟨by omega, fun k hk => by omega⟩ (fun h => by omega)⟩
  ·simp at ho
   subst ho
   simp [Region.binds] at hdep
   have hv : a.eval (.tmp 13) = .pointer (some ⟨g, 0, none⟩) := eval_tmp (h.slots 9 13 rfl (gd hdep))
   exact op_value (v := .pointer (some (tgt g 1))) rfl rfl (by simp [execOp, hv, fa1, Result.andThen]) ⟨_, _, _, _, h.put 10 14 (by omega) rfl ⟨by omega, fun k hk => by omega⟩ (fun h => by omega)⟩
  ·simp at ho
   subst ho
   simp [Region.binds] at hdep
   have hs : a.tmps[11]? = some (.func (.func 105) #[] #[]) := h.slots 7 11 rfl (gd hdep.1)
   have hx : a.tmps[14]? = some (.pointer (some (tgt g 1))) := h.slots 10 14 rfl (gd hdep.2.1)
   exact op_callnum1 rfl hs hx ⟨_, _, _, _, h.call 1 15 _ (by omega) hff rfl⟩
  ·simp at ho
   subst ho
   simp [Region.binds] at hdep
   obtain ⟨w2, hr2, hl2⟩ := h.ins 1 (by omega) hff (gd hdep.1) (gd hdep.2)
   have hm : a.eval (.tmp 5) = .map (some m) := eval_tmp (h.slots 0 5 rfl (gd hdep.1))
   have hx : a.eval (.tmp 15) = cloV 1 (B 1) := eval_tmp (h.slots 11 15 rfl (gd hdep.2))
   exact op_ins rfl hm hx hr2 ⟨_, _, _, _, hl2⟩
  ·clear ho hdep
   exact op_move rfl (eval_tmp h.t3) ⟨_, _, _, _, h.put 13 16 (by omega) rfl ⟨by omega, fun k hk => by omega⟩ (fun h => by omega)⟩
  ·clear ho hdep
   exact op_move rfl (eval_tmp h.t0) ⟨_, _, _, _, h.put 14 17 (by omega) rfl ⟨by omega, fun k hk => by omega⟩ (fun h => by omega)⟩
  ·simp at ho
   subst ho
   simp [Region.binds] at hdep
   have hv : a.eval (.tmp 17) = .pointer (some ⟨g, 0, none⟩) := eval_tmp (h.slots 14 17 rfl (gd hdep))
   exact op_value (v := .pointer (some ⟨g, 0, none⟩)) rfl rfl (by simp [execOp, hv]) ⟨_, _, _, _, h.put 15 18 (by omega) rfl ⟨by omega, fun k hk => by omega⟩ (fun h => by omega)⟩
  ·simp at ho
   subst ho
   simp [Region.binds] at hdep
   have hv : a.eval (.tmp 18) = .pointer (some ⟨g, 0, none⟩) := eval_tmp (h.slots 15 18 rfl (gd hdep))
   exact op_value (v := .pointer (some (tgt g 2))) rfl rfl (by simp [execOp, hv, fa2, Result.andThen]) ⟨_, _, _, _, h.put 16 19 (by omega) rfl ⟨by omega, fun k hk => by omega⟩ (fun h => by omega)⟩
  ·simp at ho
   subst ho
   simp [Region.binds] at hdep
   have hs : a.tmps[16]? = some (.func (.func 105) #[] #[]) := h.slots 13 16 rfl (gd hdep.1)
   have hx : a.tmps[19]? = some (.pointer (some (tgt g 2))) := h.slots 16 19 rfl (gd hdep.2.1)
   exact op_callnum1 rfl hs hx ⟨_, _, _, _, h.call 2 20 _ (by omega) hff rfl⟩
  ·simp at ho
   subst ho
   simp [Region.binds] at hdep
   obtain ⟨w2, hr2, hl2⟩ := h.ins 2 (by omega) hff (gd hdep.1) (gd hdep.2)
   have hm : a.eval (.tmp 5) = .map (some m) := eval_tmp (h.slots 0 5 rfl (gd hdep.1))
   have hx : a.eval (.tmp 20) = cloV 2 (B 2) := eval_tmp (h.slots 17 20 rfl (gd hdep.2))
   exact op_ins rfl hm hx hr2 ⟨_, _, _, _, hl2⟩
  ·clear ho hdep
   exact op_move rfl (eval_tmp h.t3) ⟨_, _, _, _, h.put 19 21 (by omega) rfl ⟨by omega, fun k hk => by omega⟩ (fun h => by omega)⟩
  ·clear ho hdep
   exact op_move rfl (eval_tmp h.t0) ⟨_, _, _, _, h.put 20 22 (by omega) rfl ⟨by omega, fun k hk => by omega⟩ (fun h => by omega)⟩
  ·simp at ho
   subst ho
   simp [Region.binds] at hdep
   have hv : a.eval (.tmp 22) = .pointer (some ⟨g, 0, none⟩) := eval_tmp (h.slots 20 22 rfl (gd hdep))
   exact op_value (v := .pointer (some ⟨g, 0, none⟩)) rfl rfl (by simp [execOp, hv]) ⟨_, _, _, _, h.put 21 23 (by omega) rfl ⟨by omega, fun k hk => by omega⟩ (fun h => by omega)⟩
  ·simp at ho
   subst ho
   simp [Region.binds] at hdep
   have hv : a.eval (.tmp 23) = .pointer (some ⟨g, 0, none⟩) := eval_tmp (h.slots 21 23 rfl (gd hdep))
   exact op_value (v := .pointer (some (tgt g 3))) rfl rfl (by simp [execOp, hv, fa3, Result.andThen]) ⟨_, _, _, _, h.put 22 24 (by omega) rfl ⟨by omega, fun k hk => by omega⟩ (fun h => by omega)⟩
  ·simp at ho
   subst ho
   simp [Region.binds] at hdep
   have hs : a.tmps[21]? = some (.func (.func 105) #[] #[]) := h.slots 19 21 rfl (gd hdep.1)
   have hx : a.tmps[24]? = some (.pointer (some (tgt g 3))) := h.slots 22 24 rfl (gd hdep.2.1)
   exact op_callnum1 rfl hs hx ⟨_, _, _, _, h.call 3 25 _ (by omega) hff rfl⟩
  ·simp at ho
   subst ho
   simp [Region.binds] at hdep
   obtain ⟨w2, hr2, hl2⟩ := h.ins 3 (by omega) hff (gd hdep.1) (gd hdep.2)
   have hm : a.eval (.tmp 5) = .map (some m) := eval_tmp (h.slots 0 5 rfl (gd hdep.1))
   have hx : a.eval (.tmp 25) = cloV 3 (B 3) := eval_tmp (h.slots 23 25 rfl (gd hdep.2))
   exact op_ins rfl hm hx hr2 ⟨_, _, _, _, hl2⟩
  ·clear ho hdep
   exact op_move rfl (eval_tmp h.t4) ⟨_, _, _, _, h.put 25 26 (by omega) rfl ⟨by omega, fun k hk => by omega⟩ (fun h => by omega)⟩
  ·clear ho hdep
   exact op_move rfl (eval_tmp h.t0) ⟨_, _, _, _, h.put 26 27 (by omega) rfl ⟨by omega, fun k hk => by omega⟩ (fun h => by omega)⟩
  ·simp at ho
   subst ho
   simp [Region.binds] at hdep
   have hv : a.eval (.tmp 27) = .pointer (some ⟨g, 0, none⟩) := eval_tmp (h.slots 26 27 rfl (gd hdep))
   exact op_value (v := .pointer (some ⟨g, 0, none⟩)) rfl rfl (by simp [execOp, hv]) ⟨_, _, _, _, h.put 27 28 (by omega) rfl ⟨by omega, fun k hk => by omega⟩ (fun h => by omega)⟩
  ·simp at ho
   subst ho
   simp [Region.binds] at hdep
   have hv : a.eval (.tmp 28) = .pointer (some ⟨g, 0, none⟩) := eval_tmp (h.slots 27 28 rfl (gd hdep))
   exact op_value (v := .pointer (some (tgt g 4))) rfl rfl (by simp [execOp, hv, fa4, Result.andThen]) ⟨_, _, _, _, h.put 28 29 (by omega) rfl ⟨by omega, fun k hk => by omega⟩ (fun h => by omega)⟩
  ·simp at ho
   subst ho
   simp [Region.binds] at hdep
   have hs : a.tmps[26]? = some (.func (.func 108) #[] #[]) := h.slots 25 26 rfl (gd hdep.1)
   have hx : a.tmps[29]? = some (.pointer (some (tgt g 4))) := h.slots 28 29 rfl (gd hdep.2.1)
   exact op_calldig1 rfl hs hx ⟨_, _, _, _, h.call 4 30 _ (by omega) hff rfl⟩
  ·simp at ho
   subst ho
   simp [Region.binds] at hdep
   obtain ⟨w2, hr2, hl2⟩ := h.ins 4 (by omega) hff (gd hdep.1) (gd hdep.2)
   have hm : a.eval (.tmp 5) = .map (some m) := eval_tmp (h.slots 0 5 rfl (gd hdep.1))
   have hx : a.eval (.tmp 30) = cloV 4 (B 4) := eval_tmp (h.slots 29 30 rfl (gd hdep.2))
   exact op_ins rfl hm hx hr2 ⟨_, _, _, _, hl2⟩
  ·clear ho hdep
   exact op_move rfl (eval_tmp h.t4) ⟨_, _, _, _, h.put 31 31 (by omega) rfl ⟨by omega, fun k hk => by omega⟩ (fun h => by omega)⟩
  ·clear ho hdep
   exact op_move rfl (eval_tmp h.t0) ⟨_, _, _, _, h.put 32 32 (by omega) rfl ⟨by omega, fun k hk => by omega⟩ (fun h => by omega)⟩
  ·simp at ho
   subst ho
   simp [Region.binds] at hdep
   have hv : a.eval (.tmp 32) = .pointer (some ⟨g, 0, none⟩) := eval_tmp (h.slots 32 32 rfl (gd hdep))
   exact op_value (v := .pointer (some ⟨g, 0, none⟩)) rfl rfl (by simp [execOp, hv]) ⟨_, _, _, _, h.put 33 33 (by omega) rfl ⟨by omega, fun k hk => by omega⟩ (fun h => by omega)⟩
  ·simp at ho
   subst ho
   simp [Region.binds] at hdep
   have hv : a.eval (.tmp 33) = .pointer (some ⟨g, 0, none⟩) := eval_tmp (h.slots 33 33 rfl (gd hdep))
   exact op_value (v := .pointer (some (tgt g 5))) rfl rfl (by simp [execOp, hv, fa5, Result.andThen]) ⟨_, _, _, _, h.put 34 34 (by omega) rfl ⟨by omega, fun k hk => by omega⟩ (fun h => by omega)⟩
  ·simp at ho
   subst ho
   simp [Region.binds] at hdep
   have hs : a.tmps[31]? = some (.func (.func 108) #[] #[]) := h.slots 31 31 rfl (gd hdep.1)
   have hx : a.tmps[34]? = some (.pointer (some (tgt g 5))) := h.slots 34 34 rfl (gd hdep.2.1)
   exact op_calldig1 rfl hs hx ⟨_, _, _, _, h.call 5 35 _ (by omega) hff rfl⟩
  ·simp at ho
   subst ho
   simp [Region.binds] at hdep
   obtain ⟨w2, hr2, hl2⟩ := h.ins 5 (by omega) hff (gd hdep.1) (gd hdep.2)
   have hm : a.eval (.tmp 5) = .map (some m) := eval_tmp (h.slots 0 5 rfl (gd hdep.1))
   have hx : a.eval (.tmp 35) = cloV 5 (B 5) := eval_tmp (h.slots 35 35 rfl (gd hdep.2))
   exact op_ins rfl hm hx hr2 ⟨_, _, _, _, hl2⟩
  ·simp at ho
   subst ho
   simp [Region.binds] at hdep
   have h0 : listed.getD 0 false = true := gd hdep.1
   have hv : a.eval (.tmp 5) = .map (some m) := eval_tmp (h.slots 0 5 rfl h0)
   exact op_move rfl hv ⟨_, _, _, _, h.put 37 36 (by omega) rfl ⟨by omega, fun k hk => by omega⟩ (fun _ => h0)⟩
  ·simp at ho
   subst ho
   simp [Region.binds] at hdep
   have h37 : listed.getD 37 false = true := gd hdep.1
   have hv : a.eval (.tmp 36) = .map (some m) := eval_tmp (h.slots 37 36 rfl h37)
   exact op_value (v := .map (some m)) rfl rfl (by simp [execOp, hv]) ⟨_, _, _, _, h.put 38 2 (by omega) rfl ⟨by omega, fun k hk => by omega⟩ (fun _ => h.dep37 h37)⟩
end Go.Proofs.YtdohebhbiokljaaGreatDoor
