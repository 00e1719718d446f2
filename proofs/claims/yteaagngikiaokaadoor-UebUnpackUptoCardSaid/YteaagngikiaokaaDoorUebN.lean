/- Joined texts: UebA, UebB. -/
import Derived.Test.YteaagngikiaokaaDoorCat
import Derived.Test.YteaagngikiaokaaDoorUebP
import Derived.Test.YteaagngikiaokaaDoorNumL
import Derived.Deep.RegionHeld3
import Derived.Deep.DrawnRows
import Derived.Lib.ItoaLen
import Derived.Laws.Cover1
import Derived.Deep.RegionHeld

/- Contracts of the program's field, rowMay and Pack. -/
namespace Go.Proofs.YteaagngikiaokaaDoor
open Go.RowKit

theorem lsts_row {w : World} {g : Nat} {cs : Array Value} {e : TypeId} (hb : Blk w g e cs) (L : List (Value × List UInt8)) (hcs : cs.toList = L.map (·.1)) (hm : L.length ≤ 1000) (hby : ∀ x ∈ L, By w x.1 x.2) :
    Lsts w (.slice (some ⟨g, 0, none⟩) L.length L.length) L := by
  refine ⟨?_, hby⟩
  have := hb.own (base := 0) (e := e) (n := L.length) (cap := L.length) (sz := 1) rfl (Nat.zero_le _) (by rw [← Array.length_toList, hcs]; simp) (Nat.le_refl _) (by unfold maxLen; omega)
  have := Sl.of_own this
  rwa [hcs, List.take_of_length_le (by simp)] at this

theorem blk_new' (w : World) (g : Nat) (t : TypeId) (cs : Array Value) (h : g = w.heap.size) : Blk (w.alloc (.cells cs t)) g t cs := by rw [h]; exact Blk.new w t cs
theorem by_marked' (w : World) (g : Nat) (hg : g = w.heap.size) (e : TypeId) (f : Nat × Nat) (l : List UInt8) (h : l.length ≤ 1000) : By (w.alloc (.cells (bcells l).toArray e f)) (.slice (some ⟨g, 0, none⟩) l.length l.length) l := by
  rw [hg]; exact by_marked w e f l h
theorem Own.base {w : World} {b b' : Nat} {e : TypeId} {v : Value} {l : List UInt8} (h : Own w b e v l) (hb : b' ≤ b) : Own w b' e v l := by
  obtain ⟨h1, h2 | ⟨g, cap, cur, hv, hg, r⟩⟩ := h
  · exact ⟨h1, .inl h2⟩
  · exact ⟨h1, .inr ⟨g, cap, cur, hv, Nat.le_trans hb hg, r⟩⟩

set_option maxRecDepth 100000 in
set_option maxHeartbeats 1000000 in
theorem field_any (v : Value) (b : List UInt8) (w : World) (h : By w v b) (hl : b.length ≤ 549755813888) (ht : Tab w) :
    Calls Tryd.prog 41 #[v] w fun e w' => ∃ v', e = .returned v' ∧ Own w' w.heap.size 5 v' (fld b) ∧ Below w.heap.size w w' := by
  have q1 := bnumber_any (b.length : Int) w ⟨by omega, by omega⟩ ht
  rw [show numS (b.length : Int) = itoaS (b.length : Int) by unfold numS; rw [if_neg (by omega)], show numE (b.length : Int) = 0 by unfold numE; rw [if_neg (by omega)]] at q1
  have hsz : (itoaS (b.length : Int)).size ≤ 21 := by
    have := Lib.itoa_length_le (b.length : Int) (by omega) (by omega)
    rwa [← lst_itoaS, lst_len] at this
  have hls := lst_itoaS (b.length : Int)
  have HLS := hide hls
  have Q1 := hide q1
  have HB := hide h
  have HL := hide hl
  obtain ⟨A, c, rfl, hc, hm, _⟩ := h.form
  unfold maxLen at hm
  generalize itoaS (b.length : Int) = s at *
  clear q1 h hls hl
  go_enter Tryd.func41, Tryd.ntmps41
  go_wp2_with fail
  refine Q1.out.mono ?_
  rintro e w1 ⟨rfl, b1⟩
  obtain ⟨g, cc, w2, hr, hby, b2, hg, hsz2, hcc, hcm⟩ := run_bytes_str 9 27 5 s w1 Tryd.underlying9 Tryd.underlying27 Tryd.underlying5 (by unfold maxLen; omega)
  have HY := hide hby
  have C2 := hide (b1.trans (b2.mono b1.size))
  have C1 := hide b1
  clear hby b1 b2 Q1 hg hsz2 hcc hcm
  have a1 : Below w2.heap.size w2 (w2.alloc (.cells #[.int .u8 58] 5)) := (Below.refl _ w2).alloc (Nat.le_refl _) _
  have a2 := a1.alloc (by simp) (.cells #[.int .u8 44] 5)
  have a3 := a2.alloc (by simp; omega) (.cells #[.slice (some ⟨g, 0, none⟩) s.size cc, .slice (some ⟨w2.heap.size, 0, none⟩) 1 1, .slice A b.length c, .slice (some ⟨w2.heap.size + 1, 0, none⟩) 1 1] 27)
  have y1 := (by_marked w2 5 (0, 0) [58] (by simp)).below (((Below.refl _ _).alloc (Nat.le_refl _) (.cells #[.int .u8 44] 5)).alloc (by simp) (.cells #[.slice (some ⟨g, 0, none⟩) s.size cc, .slice (some ⟨w2.heap.size, 0, none⟩) 1 1, .slice A b.length c, .slice (some ⟨w2.heap.size + 1, 0, none⟩) 1 1] 27))
  have y2 := (by_marked' (w2.alloc (.cells #[.int .u8 58] 5)) (w2.heap.size + 1) (by simp) 5 (0, 0) [44] (by simp)).below ((Below.refl _ _).alloc (Nat.le_refl _) (.cells #[.slice (some ⟨g, 0, none⟩) s.size cc, .slice (some ⟨w2.heap.size, 0, none⟩) 1 1, .slice A b.length c, .slice (some ⟨w2.heap.size + 1, 0, none⟩) 1 1] 27))
  have l1 := lsts_row (blk_new' ((w2.alloc (.cells #[.int .u8 58] 5)).alloc (.cells #[.int .u8 44] 5)) (w2.heap.size + 1 + 1) 27 #[.slice (some ⟨g, 0, none⟩) s.size cc, .slice (some ⟨w2.heap.size, 0, none⟩) 1 1, .slice A b.length c, .slice (some ⟨w2.heap.size + 1, 0, none⟩) 1 1] (by simp))
    [(.slice (some ⟨g, 0, none⟩) s.size cc, lst s), (.slice (some ⟨w2.heap.size, 0, none⟩) 1 1, [58]), (.slice A b.length c, b), (.slice (some ⟨w2.heap.size + 1, 0, none⟩) 1 1, [44])] rfl (by simp) (by
      intro x hx
      simp only [List.mem_cons, List.mem_nil_iff, or_false] at hx
      rcases hx with rfl | rfl | rfl | rfl
      · exact HY.out.below a3
      · exact y1
      · exact (HB.out.below C2.out).below a3
      · exact y2)
  have q := concat_any _ _ _ l1 (by have := HL.out; simp [total, lst_len]; omega)
  have hcat : cat [(Value.slice (some ⟨g, 0, none⟩) s.size cc, lst s), (.slice (some ⟨w2.heap.size, 0, none⟩) 1 1, [58]), (.slice A b.length c, b), (.slice (some ⟨w2.heap.size + 1, 0, none⟩) 1 1, [44])] = fld b := by
    simp [cat, HLS.out, fld]
  rw [hcat] at q
  have Q := hide q
  have A3 := hide (C2.out.trans (a3.mono C2.out.size))
  clear a1 a2 a3 y1 y2 l1 q hcat
  go_wp2_with fail
  refine Q.out.mono ?_
  rintro e w3 ⟨v', rfl, o3, b3⟩
  have O3 := hide o3
  have B3 := hide b3
  clear o3 b3 Q
  go_wp2_with fail
  go_ret
  exact ⟨v', rfl, O3.out.base (by have := C2.out.size; simp; omega), A3.out.trans (B3.out.mono A3.out.size)⟩
end Go.Proofs.YteaagngikiaokaaDoor

/- Tables in memory; the contracts of the program's rowMay and Pack. -/
namespace Go.Proofs.YteaagngikiaokaaDoor
open Go.RowKit
attribute [local go_sem ↓] Go.wp_at_zero Go.wp_at_succ

abbrev RowV := ByteArray × Value × List UInt8
def rcells (L : List RowV) : List Value := L.flatMap fun x => [.string x.1, x.2.1]
def rws (L : List RowV) : List Rw := L.map fun x => (lst x.1, x.2.2)
@[simp] theorem rws_length (L : List RowV) : (rws L).length = L.length := by simp [rws]
@[simp] theorem rcells_length (L : List RowV) : (rcells L).length = L.length * 2 := by
  induction L with
  | nil => rfl
  | cons x L ih => simp only [rcells, List.flatMap_cons, List.length_append, List.length_cons, List.length_nil] at ih ⊢; omega
theorem rcells_append (a b : List RowV) : rcells (a ++ b) = rcells a ++ rcells b := by simp [rcells]
theorem rws_append (a b : List RowV) : rws (a ++ b) = rws a ++ rws b := by simp [rws]
theorem rcells_get : ∀ (L : List RowV) (k : Nat) (x : RowV), L[k]? = some x → (rcells L)[k * 2]? = some (.string x.1) ∧ (rcells L)[k * 2 + 1]? = some x.2.1
  | [], k, x, h => by simp at h
  | y :: L, 0, x, h => by
    simp only [List.getElem?_cons_zero, Option.some.injEq] at h
    subst h
    exact ⟨rfl, rfl⟩
  | y :: L, k + 1, x, h => by
    have ih := rcells_get L k x (by simpa using h)
    have e1 : (k + 1) * 2 = k * 2 + 1 + 1 := by omega
    have e2 : (k + 1) * 2 + 1 = k * 2 + 1 + 1 + 1 := by omega
    rw [e2, e1]
    exact ih
/-- A table that reads as these rows. -/
def Rws (w : World) (v : Value) (L : List RowV) : Prop := Sl w 2 v L.length (rcells L) ∧ ∀ x ∈ L, By w x.2.1 x.2.2
theorem Rws.below {w w' : World} {v : Value} {L : List RowV} (h : Rws w v L) (hb : Below w.heap.size w w') : Rws w' v L := ⟨h.1.below hb, fun x hx => (h.2 x hx).below hb⟩
theorem Rws.nil (w : World) : Rws w (.slice none 0 0) [] := ⟨Sl.nil w 2, fun x hx => by cases hx⟩
/-- The value, and each row's two cells. -/
theorem Rws.form {w : World} {v : Value} {L : List RowV} (h : Rws w v L) : ∃ A c, v = .slice A L.length c ∧ L.length ≤ c ∧ c ≤ maxLen ∧
    ∀ k x, L[k]? = some x → ∃ b o, A = some ⟨b, o, none⟩ ∧ b < w.heap.size ∧ w.cell? ⟨b, o + k * 2, none⟩ = some (.string x.1) ∧ w.cell? ⟨b, o + k * 2 + 1, none⟩ = some x.2.1 := by
  obtain ⟨A, c, hv, hc, hm, hcell⟩ := h.1.form
  refine ⟨A, c, hv, hc, hm, fun k x hx => ?_⟩
  have hk := (List.getElem?_eq_some_iff.1 hx).1
  obtain ⟨b, o, hA, hb, hcs⟩ := hcell (by omega)
  have hg := rcells_get L k x hx
  refine ⟨b, o, hA, hb, ?_, ?_⟩
  · rw [hcs (k * 2) (by omega), hg.1]
  · rw [Nat.add_assoc, hcs (k * 2 + 1) (by omega), hg.2]
theorem rws_get {L : List RowV} {k : Nat} {x : RowV} (h : L[k]? = some x) : (rws L)[k]? = some (lst x.1, x.2.2) := by simp [rws, h]

set_option maxRecDepth 100000 in
set_option maxHeartbeats 1000000 in
theorem rowMay_any (v : Value) (L : List RowV) (i : Nat) (w : World) (h : Rws w v L) (hi : i < L.length) :
    Calls Tryd.prog 39 #[v, .int .i64 (i : Int)] w fun e w' => e = .returned (.bool (rowB (rws L) i)) ∧ w = w' := by
  obtain ⟨A, c, rfl, hc, hm, hcell⟩ := h.form
  unfold maxLen at hm
  obtain ⟨x, hx⟩ : ∃ x, L[i]? = some x := ⟨_, List.getElem?_eq_getElem hi⟩
  obtain ⟨b, o, rfl, hb, h1, h2⟩ := hcell i x hx
  have hby := h.2 x (List.mem_of_getElem? hx)
  obtain ⟨A2, c2, hv2, _⟩ := hby.form
  rw [hv2] at h2
  have e1 : (rws L)[i]? = some (lst x.1, x.2.2) := rws_get hx
  have i1 : (i : Int) < (L.length : Int) := by omega
  have i2 : (0 : Int) ≤ (i : Int) := by omega
  have hxs : (lst x.1).length = x.1.size := lst_len _
  by_cases h0 : i = 0
  · have hres : rowB (rws L) i = (decide (1 ≤ x.1.size) && decide (x.1.size ≤ 64) && decide (x.2.2.length ≤ 65536)) := by
      unfold rowB
      rw [e1]
      simp [h0, hxs]
    rw [hres]
    subst h0
    simp only [Nat.zero_mul, Nat.add_zero] at h1 h2
    clear hby hcell hx e1 hres h hv2
    by_cases c1 : 1 ≤ x.1.size
    · by_cases c2 : x.1.size ≤ 64
      · by_cases c3 : x.2.2.length ≤ 65536
        · go_enter Tryd.func39, Tryd.ntmps39
          go_wp2
          go_ret
          simp [c1, c2, c3]
        · go_enter Tryd.func39, Tryd.ntmps39
          go_wp2
          go_ret
          simp [c1, c2, c3]
      · go_enter Tryd.func39, Tryd.ntmps39
        go_wp2
        go_ret
        simp [c1, c2]
    · go_enter Tryd.func39, Tryd.ntmps39
      go_wp2
      go_ret
      simp [c1]
  · obtain ⟨m, rfl⟩ : ∃ m, i = m + 1 := ⟨i - 1, by omega⟩
    obtain ⟨y, hy⟩ : ∃ y, L[m]? = some y := ⟨_, List.getElem?_eq_getElem (by omega)⟩
    obtain ⟨b', o', hbo, -, h3, -⟩ := hcell m y hy
    cases hbo
    have e2 : (rws L)[m]? = some (lst y.1, y.2.2) := rws_get hy
    have hres : rowB (rws L) (m + 1) = (decide (m + 1 < 64) && decide (1 ≤ x.1.size) && decide (x.1.size ≤ 64) && decide (x.2.2.length ≤ 65536) && !(Op.bytesLess x.1.toList y.1.toList || x.1.toList == y.1.toList)) := by
      unfold rowB
      rw [e1]
      simp only [Nat.add_sub_cancel, e2, hxs, leB, str_toList]
      simp [lst]
    rw [hres]
    have k1 : (m : Int) + 1 < (L.length : Int) := by omega
    have k2 : (0 : Int) ≤ (m : Int) + 1 := by omega
    have k3 : (m : Int) < (L.length : Int) := by omega
    have k4 : (0 : Int) ≤ (m : Int) := by omega
    have k5 : ((m : Int) + 1).toNat = m + 1 := by omega
    clear hby hcell hx hy e1 e2 hres h hv2 h0 i1 i2 hi
    by_cases c0 : m + 1 < 64
    · have j0 : (m : Int) + 1 < 64 := by omega
      by_cases c1 : 1 ≤ x.1.size
      · by_cases c2 : x.1.size ≤ 64
        · by_cases c3 : x.2.2.length ≤ 65536
          · go_enter Tryd.func39, Tryd.ntmps39
            go_wp2
            go_ret
            simp [c0, c1, c2, c3]
            intro hh
            omega
          · go_enter Tryd.func39, Tryd.ntmps39
            go_wp2
            go_ret
            simp [c0, c1, c2, c3]
        · go_enter Tryd.func39, Tryd.ntmps39
          go_wp2
          go_ret
          simp [c0, c1, c2]
      · go_enter Tryd.func39, Tryd.ntmps39
        go_wp2
        go_ret
        simp [c0, c1]
    · have j0 : ¬ (m : Int) + 1 < 64 := by omega
      go_enter Tryd.func39, Tryd.ntmps39
      go_wp2
      go_ret
      simp [c0]

theorem below_same {B : Nat} {a W W' : World} (h : Below B a W) (e1 : W'.os = W.os) (e2 : W'.tape = W.tape) (e3 : W'.output = W.output) (e4 : W'.heap = W.heap) : Below B a W' :=
  ⟨e1.trans h.os, e2.trans h.tape, e3.trans h.output, by rw [e4]; exact h.size, fun k hk => by rw [e4]; exact h.block k hk⟩
theorem By.heap_ {w W : World} {v : Value} {l : List UInt8} (h : By w v l) (e : W.heap = w.heap) : By W v l := h.keep (by rw [e]; exact Nat.le_refl _) fun b _ => by rw [e]
theorem By.alloc {w : World} {v : Value} {l : List UInt8} (h : By w v l) (o : Obj) : By (w.alloc o) v l := h.below ((Below.refl _ w).alloc (Nat.le_refl _) o)
theorem by_str_row {W : World} {g : Nat} {s : ByteArray} {cap : Nat} {e : TypeId} {f : Nat × Nat} (hh : W.heap[g]? = some (.cells (bytesRow s cap) e f)) (h1 : s.size ≤ cap) (h2 : cap ≤ maxLen) : By W (.slice (some ⟨g, 0, none⟩) s.size cap) (lst s) := by
  have := by_row (l := lst s) (c := cap) hh (by rw [lst_len]; exact h1) h2 fun j hj => by
    rw [lst_len] at hj
    unfold bytesRow bcells lst
    rw [Array.getElem?_append_left (by simp; omega)]
    simp
  rwa [lst_len] at this

theorem fld_len (b : List UInt8) (h : b.length ≤ 65536) : (fld b).length ≤ b.length + 7 := by
  have := itoa_len b.length h
  unfold fld
  simp
  omega
theorem encs_len : ∀ (rs : List Rw) (k : Nat), rs.length ≤ k → (∀ y ∈ rs, y.1.length ≤ 64 ∧ y.2.length ≤ 65536) → (encs rs).length ≤ 1048576 * k
  | [], k, _, _ => by simp
  | x :: rs, 0, h, _ => by simp at h
  | x :: rs, k + 1, h, hy => by
    have ih := encs_len rs k (by simpa using h) fun y hm => hy y (List.mem_cons_of_mem _ hm)
    have hx := hy x (List.mem_cons_self ..)
    have f1 := fld_len x.1 (by omega)
    have f2 := fld_len x.2 hx.2
    rw [encs_cons, List.length_append]
    unfold enc
    rw [List.length_append]
    omega

set_option maxRecDepth 100000 in
set_option maxHeartbeats 8000000 in
theorem pack_any (v : Value) (L : List RowV) (w : World) (h : Rws w v L) (ht : Tab w) :
    Calls Tryd.prog 13 #[v] w fun e w' => Below w.heap.size w w' ∧
      ((may (rws L) ∧ ∃ v', e = .returned (.tuple #[v', .int .i64 0]) ∧ Own w' w.heap.size 5 v' (encs (rws L))) ∨
       (¬ may (rws L) ∧ e = .returned (.tuple #[.slice none 0 0, .int .i64 130]))) := by
  have HR := hide h
  have HT := hide ht
  obtain ⟨A, c, rfl, hc, hm, hcell⟩ := h.form
  have HC := hide hcell
  unfold maxLen at hm
  clear h ht hcell
  go_enter Tryd.func13, Tryd.ntmps13
  go_wp2
  go_loopw [4, 8] (fun u4 u8 wr => ∃ k : Nat, k ≤ L.length ∧ u8 = .int .i64 k ∧ Own wr w.heap.size 5 u4 (encs ((rws L).take k)) ∧ (∀ j, j < k → rowB (rws L) j = true) ∧ Below w.heap.size w wr) (fun _ i _ => L.length - (intOf i).toNat)
  case atStart => exact ⟨0, by omega, rfl, Own.nil _ _ _, fun j hj => absurd hj (Nat.not_lt_zero _), Below.refl _ _⟩
  case round =>
    obtain ⟨k, hk, rfl, ho, hr, hb⟩ := hrel
    have HO := hide ho
    have HM := hide hr
    clear ho hr
    by_cases hlt : k < L.length
    · have q := rowMay_any _ L k wr (HR.out.below hb) hlt
      have i1 : (k : Int) < (L.length : Int) := by omega
      have i2 : (0 : Int) ≤ (k : Int) := by omega
      rcases hrb : rowB (rws L) k with _ | _
      · rw [hrb] at q
        have Q := hide q
        have HB := hide hrb
        clear q hrb
        go_wp2_with fail
        refine Q.out.mono ?_
        rintro e w1 ⟨rfl, rfl⟩
        go_wp2
        go_ret2
        have hno : ¬ may (rws L) := fun hmay => by
          have := hmay k (by simpa using hlt)
          rw [HB.out] at this
          cases this
        exact ⟨hb, .inr ⟨hno, rfl⟩⟩
      · rw [hrb] at q
        have Q := hide q
        obtain ⟨x, hx⟩ : ∃ x, L[k]? = some x := ⟨_, List.getElem?_eq_getElem hlt⟩
        obtain ⟨b, o, rfl, hbl, h1, h2⟩ := HC.out k x hx
        have hb1 : wr.cell? ⟨b, o + k * 2, none⟩ = some (.string x.1) := (hb.cell (p := ⟨b, o + k * 2, none⟩) hbl).trans h1
        have hb2 : wr.cell? ⟨b, o + k * 2 + 1, none⟩ = some x.2.1 := (hb.cell (p := ⟨b, o + k * 2 + 1, none⟩) hbl).trans h2
        have hby := (HR.out.2 x (List.mem_of_getElem? hx)).below hb
        clear q h1 h2
        go_wp2_with fail
        refine Q.out.mono ?_
        rintro e w1 ⟨rfl, rfl⟩
        obtain ⟨A2, c2, hv2, _⟩ := hby.form
        rw [hv2] at hb2
        have kc := fun w : World => run_bytes_of_string w 9 27 5 x.1 Tryd.underlying9 Tryd.underlying27 Tryd.underlying5
        have hvl : x.2.2.length ≤ 65536 := by
          obtain ⟨r, hr, _, _, _, hv⟩ := rowB_some hrb
          rw [rws_get hx] at hr
          cases hr
          exact hv
        have hnl : x.1.size ≤ 64 := by
          obtain ⟨r, hr, _, _, hv, _⟩ := rowB_some hrb
          rw [rws_get hx] at hr
          cases hr
          simpa [lst_len] using hv
        have HNL := hide hnl
        have HVL := hide hvl
        rw [hv2] at hby
        have HV : Hid (∀ W, Below wr.heap.size wr W → Calls Tryd.prog 41 #[.slice A2 x.2.2.length c2] W fun e w' => ∃ A n c, e = .returned (.slice A n c) ∧ By w' (.slice A n c) (fld x.2.2) ∧ Below W.heap.size W w' ∧ Below wr.heap.size wr w') := fun W hW =>
          (field_any _ x.2.2 W (hby.below hW) (by omega) ((HT.out.below hb).below hW)).mono fun e w' ⟨v', h1, h2, h3⟩ => by
            obtain ⟨A', c', rfl, _⟩ := h2.by_.form
            exact ⟨_, _, _, h1, h2.by_, h3, hW.trans (h3.mono hW.size)⟩
        have HN : Hid (∀ W g cap, (∃ e f, W.heap[g]? = some (.cells (bytesRow x.1 cap) e f)) → x.1.size ≤ cap → cap ≤ maxLen → Below wr.heap.size wr W → Calls Tryd.prog 41 #[.slice (some ⟨g, 0, none⟩) x.1.size cap] W fun e w' => ∃ A n c, e = .returned (.slice A n c) ∧ By w' (.slice A n c) (fld (lst x.1)) ∧ Below W.heap.size W w' ∧ Below wr.heap.size wr w') := fun W g cap ⟨e, f, h1⟩ h2 h3 hW =>
          (field_any _ (lst x.1) W (by_str_row h1 h2 h3) (by rw [lst_len]; omega) ((HT.out.below hb).below hW)).mono fun e w' ⟨v', h1, h2, h3⟩ => by
            obtain ⟨A', c', rfl, _⟩ := h2.by_.form
            exact ⟨_, _, _, h1, h2.by_, h3, hW.trans (h3.mono hW.size)⟩
        have hnext : encs ((rws L).take (k + 1)) = encs ((rws L).take k) ++ (fld (lst x.1) ++ fld x.2.2) := by
          rw [take_snoc (rws L) k _ (rws_get hx), encs_snoc]; rfl
        have hlen0 : (encs ((rws L).take k)).length ≤ 1048576 * k := encs_len _ k (by simp; omega) fun y hy => by
          obtain ⟨j, hj⟩ := List.mem_iff_getElem?.1 hy
          rw [List.getElem?_take] at hj
          split at hj
          · rename_i hjk
            obtain ⟨r, hr, _, _, h64, h65⟩ := rowB_some (HM.out j hjk)
            rw [hj] at hr
            cases hr
            exact ⟨h64, h65⟩
          · cases hj
        have hk64 : k < 64 := by
          obtain ⟨r, _, h64, _⟩ := rowB_some hrb
          exact h64
        have HK : Hid (∀ W g (a b c : Value), (∃ e f, W.heap[g]? = some (.cells #[a, b, c] e f)) → By W a (encs ((rws L).take k)) → By W b (fld (lst x.1)) → By W c (fld x.2.2) → Below wr.heap.size wr W → Calls Tryd.prog 40 #[.slice (some ⟨g, 0, none⟩) 3 3] W fun e w' => ∃ v', e = .returned v' ∧ Own w' w.heap.size 5 v' (encs ((rws L).take (k + 1))) ∧ Below wr.heap.size wr w') := fun W g a b c ⟨e, f, hh⟩ ha hb' hc' hW => by
          have hl : Lsts W (.slice (some ⟨g, 0, none⟩) 3 3) [(a, encs ((rws L).take k)), (b, fld (lst x.1)), (c, fld x.2.2)] := by
            refine ⟨⟨rfl, _, 3, rfl, Nat.le_refl _, by unfold maxLen; omega, fun _ => ⟨g, 0, rfl, ?_, fun j hj => ?_⟩⟩, ?_⟩
            · rcases Nat.lt_or_ge g W.heap.size with h | h
              · exact h
              · rw [Array.getElem?_eq_none h] at hh; cases hh
            · rw [Nat.zero_add, cell_of_row W g j _ e f hh]
              simp
            · intro y hy
              simp only [List.mem_cons, List.mem_nil_iff, or_false] at hy
              rcases hy with rfl | rfl | rfl
              · exact ha
              · exact hb'
              · exact hc'
          have hf1 := fld_len (lst x.1) (by rw [lst_len]; omega)
          have hf2 := fld_len x.2.2 hvl
          rw [lst_len] at hf1
          refine (concat_any _ _ W hl (by simp [total]; omega)).mono ?_
          rintro e w' ⟨v', h1, h2, h3⟩
          refine ⟨v', h1, ?_, hW.trans (h3.mono hW.size)⟩
          rw [hnext]
          have : cat [(a, encs ((rws L).take k)), (b, fld (lst x.1)), (c, fld x.2.2)] = encs ((rws L).take k) ++ (fld (lst x.1) ++ fld x.2.2) := by simp [cat]
          rw [this] at h2
          exact h2.base (Nat.le_trans hb.size hW.size)
        clear hnext hlen0 hk64
        have hcl := fun w : World => grownCap_le_maxLen w x.1.size 0 5 (by unfold maxLen; omega)
        have HCL := hide hcl
        clear hcl
        have hbw : b < wr.heap.size := Nat.lt_of_lt_of_le hbl hb.size
        obtain ⟨A4, c4, hv4, _⟩ := HO.out.by_.form
        subst hv4
        have HB1 := hide hb1
        have HB2 := hide hb2
        have HX := hide hx
        have HRB := hide hrb
        clear Q hx hrb hvl hnl hv2 hby
        go_wp2
        go_region_held (fun w' => w'.cell? ⟨b, o + k * 2, none⟩ = some (.string x.1) ∧ w'.cell? ⟨b, o + k * 2 + 1, none⟩ = some (.slice A2 x.2.2.length c2))
          (first | go_keep | exact ⟨(r1.cell (p := ⟨b, o + k * 2, none⟩) hbw).trans HB1.out, (r1.cell (p := ⟨b, o + k * 2 + 1, none⟩) hbw).trans HB2.out⟩ | exact ⟨(r2.cell (p := ⟨b, o + k * 2, none⟩) hbw).trans HB1.out, (r2.cell (p := ⟨b, o + k * 2 + 1, none⟩) hbw).trans HB2.out⟩ | exact ⟨(r3.cell (p := ⟨b, o + k * 2, none⟩) hbw).trans HB1.out, (r3.cell (p := ⟨b, o + k * 2 + 1, none⟩) hbw).trans HB2.out⟩)
          (first
            | (go_at_call 41; (with_reducible refine (HV.out _ ?bb).mono ?_); (case bb => (first | exact Below.refl _ _ | assumption | exact (Below.refl _ _).drew | exact (Below.refl _ _).drew.drew | exact ((Below.refl _ _).alloc (Nat.le_refl _) _).drew | exact ((Below.refl _ _).alloc (Nat.le_refl _) _).drew.drew | exact ((Below.refl _ _).alloc (Nat.le_refl _) _).drew.drew.drew | exact (r1.alloc r1.size _).drew | exact (r1.alloc r1.size _).drew.drew | exact r1.drew | exact r1.alloc r1.size _)); rintro e w1 ⟨A1, n1, c1, rfl, p1, q1, r1⟩)
            | (go_at_call 41; (with_reducible refine (HN.out _ _ _ ?hr (grownCap_ge ..) (HCL.out _) ?bb).mono ?_); (case hr => first | exact ⟨_, _, heap_alloc_new wr _⟩ | exact ⟨_, _, heap_alloc_new w1 _⟩ | exact ⟨_, _, (q1.block _ (by simp)).trans (heap_alloc_new wr _)⟩); (case bb => (first | exact Below.refl _ _ | assumption | exact (Below.refl _ _).drew | exact (Below.refl _ _).drew.drew | exact ((Below.refl _ _).alloc (Nat.le_refl _) _).drew | exact ((Below.refl _ _).alloc (Nat.le_refl _) _).drew.drew | exact ((Below.refl _ _).alloc (Nat.le_refl _) _).drew.drew.drew | exact (r1.alloc r1.size _).drew | exact (r1.alloc r1.size _).drew.drew | exact r1.drew | exact r1.alloc r1.size _)); rintro e w2 ⟨A3, n3, c3, rfl, p2, q2, r2⟩)
            | (go_at_call 40; (with_reducible refine (HK.out _ _ _ _ _ ⟨_, _, heap_alloc_new w2 _⟩ ?ha ?hb ?hc ?bb).mono ?_); (case ha => first | exact By.heap_ (By.alloc (By.below HO.out.by_ r2) _) rfl | exact By.heap_ (By.alloc (By.below HO.out.by_ r1) _) rfl); (case hb => first | exact By.heap_ (By.alloc (by exact p2) _) rfl | exact By.heap_ (By.alloc (By.below (by exact p2) q1) _) rfl); (case hc => first | exact By.heap_ (By.alloc (by exact p1) _) rfl | exact By.heap_ (By.alloc (By.below (by exact p1) q2) _) rfl); (case bb => first | exact below_same (r2.alloc r2.size _) rfl rfl rfl rfl | exact below_same (r1.alloc r1.size _) rfl rfl rfl rfl); rintro e w3 ⟨v3, rfl, p3, r3⟩)
            | (go_at_call 40; (with_reducible refine (HK.out _ _ _ _ _ ⟨_, _, heap_alloc_new w1 _⟩ ?ha ?hb ?hc ?bb).mono ?_); (case ha => first | exact By.heap_ (By.alloc (By.below HO.out.by_ r2) _) rfl | exact By.heap_ (By.alloc (By.below HO.out.by_ r1) _) rfl); (case hb => first | exact By.heap_ (By.alloc (by exact p2) _) rfl | exact By.heap_ (By.alloc (By.below (by exact p2) q1) _) rfl); (case hc => first | exact By.heap_ (By.alloc (by exact p1) _) rfl | exact By.heap_ (By.alloc (By.below (by exact p1) q2) _) rfl); (case bb => first | exact below_same (r2.alloc r2.size _) rfl rfl rfl rfl | exact below_same (r1.alloc r1.size _) rfl rfl rfl rfl); rintro e w3 ⟨v3, rfl, p3, r3⟩))
        all_goals
          go_wp2
          go_roundw
          case rel =>
            refine ⟨k + 1, by omega, by go_num, p3, fun j hj => ?_, hb.trans (r3.mono hb.size)⟩
            rcases Nat.lt_or_ge j k with hjk | hjk
            · exact HM.out j hjk
            · rw [show j = k by omega]; exact HRB.out
          case measure => simp [intOf]; omega
    · have hge : ¬ (k : Int) < (L.length : Int) := by omega
      have hks : k = L.length := by omega
      have hend := HO.out
      rw [hks, List.take_of_length_le (by simp)] at hend
      have HE := hide hend
      have HMY : Hid (may (rws L)) := fun j hj => HM.out j (by rw [hks]; simpa using hj)
      clear hks hend HO HM
      go_wp2
      go_ret2
      exact ⟨hb, .inl ⟨HMY.out, _, rfl, HE.out⟩⟩
end Go.Proofs.YteaagngikiaokaaDoor
