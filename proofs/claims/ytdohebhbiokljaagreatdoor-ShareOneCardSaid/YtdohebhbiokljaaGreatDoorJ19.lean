import Derived.Test.YtdohebhbiokljaaGreatDoorJ1
import Derived.ProofKit
import Derived.OpenShut
import Derived.ShutString
import Derived.ChangeOld
import Derived.SizedLaws
import Derived.JoinedCond
import Derived.Deep.CondSized
import Derived.Test.YtdohebhbiokljaaGreatDoorRows
import Derived.Test.YtdohebhbiokljaaGreatDoorJ7
import Derived.ChangeShapes
import Derived.WideShapes
import Derived.Test.YtdohebhbiokljaaGreatDoorJ10
import Derived.Deep.Slices
namespace Go.Proofs.YtdohebhbiokljaaGreatDoor
open Go.RowKit
theorem cell_lt {w : World} {a : Addr} {v : Value} (h : w.cell? a = some v) : a.block < w.heap.size := by
  rcases Nat.lt_or_ge a.block w.heap.size with h1 | h1
  · exact h1
  · simp [World.cell?, Array.getElem?_eq_none h1] at h
theorem by_of_row {w : World} {a : Addr} {len cap : Nat} {zs : List Int} (hl : len ≤ cap) (hm : cap ≤ maxLen) (hz : zs.length = cap)
    (hcell : ∀ i, i < zs.length → w.cell? (a.add i) = some (.int .u8 (zs.getD i 0))) (hwz : ∀ n ∈ zs, (Lit.int .u8 n).wf = true) :
    ∃ l : List UInt8, l.length = len ∧ By w (.slice (some a) len cap) l := by
  refine ⟨(zs.take len).map fun z => UInt8.ofNat z.toNat, by simp; omega, ?_, some a, cap, by simp; omega, by simp; omega, hm, fun h0 => ?_⟩
  · simp
  · obtain ⟨b, o, sp⟩ := a
    simp only [List.length_map, List.length_take] at h0
    have h1 := hcell 0 (by omega)
    have hsp : sp = none := by simpa [Addr.add] using World.cell?_spot h1
    subst hsp
    refine ⟨b, o, rfl, cell_lt (a := ⟨b, o, none⟩) (by simpa [Addr.add] using h1), fun j hj => ?_⟩
    simp only [List.length_map, List.length_take, Nat.mul_one] at hj
    have hc := hcell j (by omega)
    rw [Addr.add_mid] at hc
    rw [hc, bcells_get, List.getElem?_map, List.getElem?_take_of_lt (by omega), List.getElem?_eq_getElem (by omega)]
    have hw := hwz zs[j] (List.getElem_mem (by omega))
    have hb : 0 ≤ zs[j] ∧ zs[j] ≤ 255 := by simpa [Lit.wf, IntKind.min, IntKind.max, IntKind.bits, IntKind.signed] using hw
    simp only [Option.map_some, Option.some.injEq, Value.int.injEq, true_and]
    rw [List.getD_eq_getElem?_getD, List.getElem?_eq_getElem (by omega), Option.getD_some, UInt8.toNat_ofNat']
    omega
end Go.Proofs.YtdohebhbiokljaaGreatDoor
namespace Go.Proofs.YtdohebhbiokljaaGreatDoor.bulks
theorem in_all {H : Type} {d : DataW H} {l : List (DataW H)} (h : d ∈ l) : Rows.uptoBulk d ≤ Rows.uptoBulkAll l := by
  induction l with
  | nil => cases h
  | cons x r ih =>
    simp only [Rows.uptoBulkAll]
    rcases List.mem_cons.1 h with e | e
    · subst e; omega
    · have := ih e; omega
theorem part {H : Type} {l : List (DataW H)} (hk : Rows.uptoSmall H l = true) {d : DataW H} (h : d ∈ l) : Rows.uptoBulk d ≤ 1048576 :=
  Nat.le_trans (in_all h) (of_decide_eq_true hk)
end Go.Proofs.YtdohebhbiokljaaGreatDoor.bulks
namespace Go.Proofs.YtdohebhbiokljaaGreatDoor
open Go.RowKit Go.ChangeShapes Go.WideShapes
set_option maxRecDepth 10000
section
variable {H : Type} {enc : TypeId × Value → H} {w : World} {base : Nat} {spare : Nat → Bool} {held : Bool}
theorem digest_of {cs : List Value} {fuel : Nat} {x : DataW H × List MemPlace} (h : DataW.trod enc Tryz.prog w base spare held fuel 23 cs = some x) : ∃ l : List UInt8, cs = bcells l ∧ l.length = 32 := by
  obtain ⟨xs, m, rfl, hx, hl, hxl, hf⟩ := DataW.trod_array Tryz.underlying23 h
  rw [show Tryz.prog.cellsOf 23 = 32 by kernel_rfl] at hl
  have hc1 : Tryz.prog.cellsOf 5 = 1 := by kernel_rfl
  have key : ∀ i, i < 32 → ∃ b : UInt8, cs[i]? = some (.int .u8 (b.toNat : Int)) := by
    intro i hi
    have h1 := hf i hi
    rw [hc1, Nat.mul_one, List.getElem?_eq_getElem (show i < xs.length by omega)] at h1
    obtain ⟨n, h2, _, h3⟩ := DataW.trod_int Tryz.underlying5 h1
    have h4 : cs[i]? = some (.int .u8 n) := by
      have := congrArg (·[0]?) h2
      simpa using this
    have h5 : 0 ≤ n ∧ n < 256 := by
      have h6 : 0 ≤ n ∧ n ≤ 255 := by simpa [Lit.wf, IntKind.min, IntKind.max, IntKind.signed, IntKind.bits] using h3
      omega
    refine ⟨UInt8.ofNat n.toNat, ?_⟩
    have h7 : ((UInt8.ofNat n.toNat).toNat : Int) = n := by
      rw [UInt8.toNat_ofNat']
      omega
    rw [h4, h7]
  refine ⟨cs.map fun v => match v with | .int _ n => UInt8.ofNat n.toNat | _ => 0, ?_, by simp [hl]⟩
  refine List.ext_getElem? fun i => ?_
  by_cases hi : i < 32
  · obtain ⟨b, hb⟩ := key i hi
    rw [bcells_get, List.getElem?_map, hb]
    simp
  · rw [List.getElem?_eq_none (by omega), List.getElem?_eq_none (by simp [hl]; omega)]
theorem cut_list {α : Type} (l : List α) (i j : Nat) : l.drop i = (l.drop i).take j ++ l.drop (i + j) := by
  rw [← List.drop_drop, List.take_append_drop]
theorem ueb_of {cs : List Value} {fuel : Nat} {x : DataW H × List MemPlace} (h : DataW.trod enc Tryz.prog w base spare held fuel 25 cs = some x) : ∃ u : US, cs.toArray = u.cells ∧ u.wf ∧ u.in64 := by
  obtain ⟨xs, m, rfl, hx, hl, hxl, hf⟩ := DataW.trod_struct Tryz.underlying25 h
  rw [show Tryz.prog.cellsOf 25 = 68 by kernel_rfl] at hl
  have c1 : Tryz.prog.cellsOf 3 = 1 := by kernel_rfl
  have c2 : Tryz.prog.cellsOf 23 = 32 := by kernel_rfl
  have hx6 : xs.length = 6 := hxl
  have get : ∀ i, i < 6 → ∃ y, xs[i]? = some y := fun i hi => ⟨_, List.getElem?_eq_getElem (by omega)⟩
  obtain ⟨y0, g0⟩ := get 0 (by omega)
  obtain ⟨y1, g1⟩ := get 1 (by omega)
  obtain ⟨y2, g2⟩ := get 2 (by omega)
  obtain ⟨y3, g3⟩ := get 3 (by omega)
  obtain ⟨y4, g4⟩ := get 4 (by omega)
  obtain ⟨y5, g5⟩ := get 5 (by omega)
  have f0 : DataW.trod enc Tryz.prog w base spare held m 3 ((cs.drop 0).take (Tryz.prog.cellsOf 3)) = some y0 := (hf 0 _ rfl).trans g0
  have f1 : DataW.trod enc Tryz.prog w base spare held m 3 ((cs.drop 1).take (Tryz.prog.cellsOf 3)) = some y1 := (hf 1 _ rfl).trans g1
  have f2 : DataW.trod enc Tryz.prog w base spare held m 3 ((cs.drop 2).take (Tryz.prog.cellsOf 3)) = some y2 := (hf 2 _ rfl).trans g2
  have f3 : DataW.trod enc Tryz.prog w base spare held m 3 ((cs.drop 3).take (Tryz.prog.cellsOf 3)) = some y3 := (hf 3 _ rfl).trans g3
  have f4 : DataW.trod enc Tryz.prog w base spare held m 23 ((cs.drop 4).take (Tryz.prog.cellsOf 23)) = some y4 := (hf 4 _ rfl).trans g4
  have f5 : DataW.trod enc Tryz.prog w base spare held m 23 ((cs.drop 36).take (Tryz.prog.cellsOf 23)) = some y5 := (hf 5 _ rfl).trans g5
  rw [c1] at f0 f1 f2 f3
  rw [c2] at f4 f5
  obtain ⟨k, e0, _, w0⟩ := DataW.trod_int Tryz.underlying3 f0
  obtain ⟨n, e1, _, w1⟩ := DataW.trod_int Tryz.underlying3 f1
  obtain ⟨seg, e2, _, w2⟩ := DataW.trod_int Tryz.underlying3 f2
  obtain ⟨size, e3, _, w3⟩ := DataW.trod_int Tryz.underlying3 f3
  obtain ⟨sh, e4, l4⟩ := digest_of f4
  obtain ⟨sg, e5, l5⟩ := digest_of f5
  refine ⟨⟨k, n, seg, size, sh, sg⟩, ?_, ⟨l4, l5⟩, wf64 w0, wf64 w1, wf64 w2, wf64 w3⟩
  have hcs : cs = .int .i64 k :: .int .i64 n :: .int .i64 seg :: .int .i64 size :: (bcells sh ++ bcells sg) := by
    have a0 := cut_list cs 0 1
    have a1 := cut_list cs 1 1
    have a2 := cut_list cs 2 1
    have a3 := cut_list cs 3 1
    have a4 := cut_list cs 4 32
    have a5 := cut_list cs 36 32
    rw [e0] at a0
    rw [e1] at a1
    rw [e2] at a2
    rw [e3] at a3
    rw [e4] at a4
    rw [e5, show 36 + 32 = 68 from rfl, List.drop_eq_nil_of_le (show cs.length ≤ 68 by omega), List.append_nil] at a5
    rw [show 4 + 32 = 36 from rfl, a5] at a4
    rw [show 3 + 1 = 4 from rfl, a4] at a3
    rw [show 2 + 1 = 3 from rfl, a3] at a2
    rw [show 1 + 1 = 2 from rfl, a2] at a1
    rw [show 0 + 1 = 1 from rfl, a1] at a0
    rw [List.drop_zero] at a0
    exact a0
  rw [hcs]
  rfl
end
end Go.Proofs.YtdohebhbiokljaaGreatDoor
namespace Go.Proofs.YtdohebhbiokljaaGreatDoor
open Go.RowKit Go.ChangeShapes Go.WideShapes
set_option maxRecDepth 10000
theorem Ds.nil (w : World) : Ds w (.slice none 0 0) [] := ⟨⟨rfl, none, 0, rfl, by simp, by unfold maxLen; omega, fun h => absurd h (by simp)⟩, fun x hx => by simp at hx⟩
theorem Lsts.nil (w : World) : Lsts w (.slice none 0 0) [] := ⟨⟨rfl, none, 0, rfl, by simp, by unfold maxLen; omega, fun h => absurd h (by simp)⟩, fun x hx => by simp at hx⟩
theorem digs_row {w : World} {a : Addr} {len cap : Nat} (hl : len ≤ cap) (hm : cap ≤ maxLen)
    (hx : ∀ i, i < len → ∃ l : List UInt8, l.length = 32 ∧ ∀ j, j < 32 → w.cell? ((a.add (i * 32)).add j) = (bcells l)[j]?) : ∃ L : List (List UInt8), Ds w (.slice (some a) len cap) L := by
  have key : ∀ n, n ≤ len → ∃ L : List (List UInt8), L.length = n ∧ Dg L ∧ ∀ i l, L[i]? = some l → ∀ j, j < 32 → w.cell? ((a.add (i * 32)).add j) = (bcells l)[j]? := by
    intro n
    induction n with
    | zero => exact fun _ => ⟨[], rfl, fun x h => by simp at h, fun i l h => by simp at h⟩
    | succ n ih =>
      intro hn
      obtain ⟨L, h1, h2, h3⟩ := ih (by omega)
      obtain ⟨l, hl32, hc⟩ := hx n (by omega)
      refine ⟨L ++ [l], by simp [h1], fun y hy => ?_, fun i y hy j hj => ?_⟩
      · rcases List.mem_append.1 hy with hy | hy
        · exact h2 y hy
        · rw [List.mem_singleton.1 hy]; exact hl32
      · rcases Nat.lt_trichotomy i n with hi | hi | hi
        · rw [List.getElem?_append_left (by omega)] at hy
          exact h3 i y hy j hj
        · subst hi
          rw [List.getElem?_append_right (by omega), h1, Nat.sub_self] at hy
          simp only [List.getElem?_cons_zero, Option.some.injEq] at hy
          subst hy
          exact hc j hj
        · rw [List.getElem?_eq_none (by simp; omega)] at hy
          cases hy
  obtain ⟨L, h1, h2, h3⟩ := key len (Nat.le_refl _)
  refine ⟨L, ⟨by rw [flat_size h2]; omega, some a, cap, by rw [h1], by rw [h1]; exact hl, hm, fun h0 => ?_⟩, h2⟩
  obtain ⟨l0, hl0⟩ : ∃ l, L[0]? = some l := ⟨_, List.getElem?_eq_getElem h0⟩
  have hd0 : l0.length = 32 := h2 l0 (List.mem_of_getElem? hl0)
  obtain ⟨b, o, sp⟩ := a
  have hc0 := h3 0 l0 hl0 0 (by omega)
  obtain ⟨v0, hv0⟩ : ∃ v, (bcells l0)[0]? = some v := ⟨_, List.getElem?_eq_getElem (by rw [bcells_length]; omega)⟩
  rw [hv0] at hc0
  have hsp : sp = none := by simpa [Addr.add] using World.cell?_spot hc0
  subst hsp
  refine ⟨b, o, rfl, cell_lt (a := ⟨b, o, none⟩) (by simpa [Addr.add] using hc0), fun j hj => ?_⟩
  obtain ⟨l, hl⟩ : ∃ l, L[j / 32]? = some l := ⟨_, List.getElem?_eq_getElem (by omega)⟩
  have hc := h3 (j / 32) l hl (j % 32) (by omega)
  have hf := flat_get L h2 (j / 32) l hl (j % 32) (by omega)
  rw [show j / 32 * 32 + j % 32 = j by omega] at hf
  rw [hf, ← hc, Addr.add_mid, Addr.add_mid, show o + j / 32 * 32 + j % 32 = o + j by omega]
theorem lists_row {w : World} {a : Addr} {len cap : Nat} {V : Nat → Value} (hl : len ≤ cap) (hm : cap ≤ maxLen)
    (hx : ∀ i, i < len → w.cell? (a.add i) = some (V i) ∧ ∃ l : List UInt8, By w (V i) l) : ∃ L, Lsts w (.slice (some a) len cap) L := by
  have key : ∀ n, n ≤ len → ∃ L : List (Value × List UInt8), L.length = n ∧ ∀ i x, L[i]? = some x → V i = x.1 ∧ By w x.1 x.2 := by
    intro n
    induction n with
    | zero => exact fun _ => ⟨[], rfl, fun i l h => by simp at h⟩
    | succ n ih =>
      intro hn
      obtain ⟨L, h1, h2⟩ := ih (by omega)
      obtain ⟨_, l, hb⟩ := hx n (by omega)
      refine ⟨L ++ [(V n, l)], by simp [h1], fun i x h => ?_⟩
      rcases Nat.lt_trichotomy i n with hi | hi | hi
      · rw [List.getElem?_append_left (by omega)] at h
        exact h2 i x h
      · subst hi
        rw [List.getElem?_append_right (by omega), h1, Nat.sub_self] at h
        simp only [List.getElem?_cons_zero, Option.some.injEq] at h
        subst h
        exact ⟨rfl, hb⟩
      · rw [List.getElem?_eq_none (by simp; omega)] at h
        cases h
  obtain ⟨L, h1, h2⟩ := key len (Nat.le_refl _)
  refine ⟨L, ⟨by simp, some a, cap, by rw [h1], by rw [h1]; exact hl, hm, fun h0 => ?_⟩, fun x hxm => ?_⟩
  · obtain ⟨b, o, sp⟩ := a
    have hc0 := (hx 0 (by omega)).1
    have hsp : sp = none := by simpa [Addr.add] using World.cell?_spot hc0
    subst hsp
    refine ⟨b, o, rfl, cell_lt (a := ⟨b, o, none⟩) (by simpa [Addr.add] using hc0), fun j hj => ?_⟩
    obtain ⟨x, hxx⟩ : ∃ x, L[j]? = some x := ⟨_, List.getElem?_eq_getElem (by omega)⟩
    have hc := (hx j (by omega)).1
    rw [(h2 j x hxx).1] at hc
    rw [Addr.add_mid] at hc
    rw [List.getElem?_map, hxx, hc]
    rfl
  · obtain ⟨i, hi⟩ := List.mem_iff_getElem?.1 hxm
    exact (h2 i x hi).2
section
variable {H : Type} {enc : TypeId × Value → H} {w : World} {base : Nat} {spare : Nat → Bool} {held : Bool}
theorem digs_of {cs : List Value} {fuel : Nat} {x : DataW H × List MemPlace} (h : DataW.trod enc Tryz.prog w base spare held fuel 26 cs = some x) : ∃ v L, cs = [v] ∧ Ds w v L := by
  rcases Go.Deep.open_slice Tryz.underlying26 h with ⟨rfl, _⟩ | ⟨a, len, cap, m, n, D, Pl, rfl, _, hl, hm, hmm, _, hx⟩
  · exact ⟨_, [], rfl, Ds.nil w⟩
  · rw [show Tryz.prog.cellsOf 23 = 32 by kernel_rfl] at hx
    obtain ⟨L, hL⟩ := digs_row (w := w) (a := a) hl hm (fun i hi => by
      obtain ⟨cs', h1, h2⟩ := hx i (by rw [hmm]; split <;> omega)
      obtain ⟨l, rfl, h3⟩ := digest_of h2
      exact ⟨l, h3, (World.cells?_some h1).2.2⟩)
    exact ⟨_, L, rfl, hL⟩
theorem data_of {cs : List Value} {fuel : Nat} {x : DataW H × List MemPlace} (h : DataW.trod enc Tryz.prog w base (fun _ => true) held fuel 29 cs = some x) : ∃ v L, cs = [v] ∧ Lsts w v L := by
  rcases Go.Deep.open_slice1 Tryz.underlying29 (by kernel_rfl) h with ⟨rfl, _⟩ | ⟨a, len, cap, m, n, V, D, Pl, rfl, _, hl, hm, hmm, _, hx⟩
  · exact ⟨_, [], rfl, Lsts.nil w⟩
  · obtain ⟨L, hL⟩ := lists_row (w := w) (a := a) (V := V) hl hm (fun i hi => by
      obtain ⟨h1, t1⟩ := hx i (by rw [hmm]; split <;> omega)
      refine ⟨h1, ?_⟩
      rcases open_ints Tryz.underlying34 Tryz.underlying5 (by kernel_rfl) t1 with ⟨g1, _⟩ | ⟨y, yl, yc, zs, g1, _, yl1, ym, yz, yx, ycell, ywz⟩
      · simp only [List.cons.injEq, and_true] at g1
        rw [g1]
        exact ⟨[], By.nil w⟩
      · simp only [List.cons.injEq, and_true] at g1
        rw [g1]
        obtain ⟨lb, _, hy⟩ := by_of_row yl1 ym (by simpa using yz) ycell ywz
        exact ⟨lb, hy⟩)
    exact ⟨_, L, rfl, hL⟩
theorem front_of {cs : List Value} {fuel : Nat} {x : DataW H × List MemPlace} (h : DataW.trod enc Tryz.prog w base (fun _ => true) held fuel 28 cs = some x) :
    ∃ (f : FS) (a b c : Value), cs = (frC f.num f.u a b c).toList ∧ f.wf ∧ f.u.in64 ∧ Ds w a f.ch ∧ Ds w b f.bs ∧ Ds w c f.sg := by
  obtain ⟨xs, m, rfl, hx, hl, hxl, hf⟩ := DataW.trod_struct Tryz.underlying28 h
  rw [show Tryz.prog.cellsOf 28 = 72 by kernel_rfl] at hl
  have c1 : Tryz.prog.cellsOf 3 = 1 := by kernel_rfl
  have c2 : Tryz.prog.cellsOf 25 = 68 := by kernel_rfl
  have c3 : Tryz.prog.cellsOf 26 = 1 := by kernel_rfl
  have hx5 : xs.length = 5 := hxl
  have get : ∀ i, i < 5 → ∃ y, xs[i]? = some y := fun i hi => ⟨_, List.getElem?_eq_getElem (by omega)⟩
  obtain ⟨y0, g0⟩ := get 0 (by omega)
  obtain ⟨y1, g1⟩ := get 1 (by omega)
  obtain ⟨y2, g2⟩ := get 2 (by omega)
  obtain ⟨y3, g3⟩ := get 3 (by omega)
  obtain ⟨y4, g4⟩ := get 4 (by omega)
  have f0 : DataW.trod enc Tryz.prog w base (fun _ => true) held m 3 ((cs.drop 0).take (Tryz.prog.cellsOf 3)) = some y0 := (hf 0 _ rfl).trans g0
  have f1 : DataW.trod enc Tryz.prog w base (fun _ => true) held m 25 ((cs.drop 1).take (Tryz.prog.cellsOf 25)) = some y1 := (hf 1 _ rfl).trans g1
  have f2 : DataW.trod enc Tryz.prog w base (fun _ => true) held m 26 ((cs.drop 69).take (Tryz.prog.cellsOf 26)) = some y2 := (hf 2 _ rfl).trans g2
  have f3 : DataW.trod enc Tryz.prog w base (fun _ => true) held m 26 ((cs.drop 70).take (Tryz.prog.cellsOf 26)) = some y3 := (hf 3 _ rfl).trans g3
  have f4 : DataW.trod enc Tryz.prog w base (fun _ => true) held m 26 ((cs.drop 71).take (Tryz.prog.cellsOf 26)) = some y4 := (hf 4 _ rfl).trans g4
  rw [c1] at f0
  rw [c2] at f1
  rw [c3] at f2 f3 f4
  obtain ⟨k, e0, _, _⟩ := DataW.trod_int Tryz.underlying3 f0
  obtain ⟨u, e1, hu, hi⟩ := ueb_of f1
  obtain ⟨a, L1, e2, d1⟩ := digs_of f2
  obtain ⟨b, L2, e3, d2⟩ := digs_of f3
  obtain ⟨c, L3, e4, d3⟩ := digs_of f4
  have e1' : (cs.drop 1).take 68 = u.cells.toList := by rw [← e1]
  refine ⟨⟨k, u, L1, L2, L3⟩, a, b, c, ?_, ⟨hu, d1.2, d2.2, d3.2⟩, hi, d1, d2, d3⟩
  have a0 := cut_list cs 0 1
  have a1 := cut_list cs 1 68
  have a2 := cut_list cs 69 1
  have a3 := cut_list cs 70 1
  have a4 := cut_list cs 71 1
  rw [e0] at a0
  rw [e1'] at a1
  rw [e2] at a2
  rw [e3] at a3
  rw [e4, show 71 + 1 = 72 from rfl, List.drop_eq_nil_of_le (show cs.length ≤ 72 by omega), List.append_nil] at a4
  rw [show 70 + 1 = 71 from rfl, a4] at a3
  rw [show 69 + 1 = 70 from rfl, a3] at a2
  rw [show 1 + 68 = 69 from rfl, a2] at a1
  rw [show 0 + 1 = 1 from rfl, a1] at a0
  rw [List.drop_zero] at a0
  exact a0
theorem share_of {cs : List Value} {fuel : Nat} {x : DataW H × List MemPlace} (h : DataW.trod enc Tryz.prog w base (fun _ => true) held fuel 31 cs = some x) :
    ∃ s : SS, ShV w (.agg cs.toArray) s ∧ s.f.wf ∧ s.f.u.in64 := by
  obtain ⟨xs, m, rfl, hx, hl, hxl, hf⟩ := DataW.trod_struct Tryz.underlying31 h
  rw [show Tryz.prog.cellsOf 31 = 73 by kernel_rfl] at hl
  have c1 : Tryz.prog.cellsOf 28 = 72 := by kernel_rfl
  have c2 : Tryz.prog.cellsOf 29 = 1 := by kernel_rfl
  have hx2 : xs.length = 2 := hxl
  have get : ∀ i, i < 2 → ∃ y, xs[i]? = some y := fun i hi => ⟨_, List.getElem?_eq_getElem (by omega)⟩
  obtain ⟨y0, g0⟩ := get 0 (by omega)
  obtain ⟨y1, g1⟩ := get 1 (by omega)
  have f0 : DataW.trod enc Tryz.prog w base (fun _ => true) held m 28 ((cs.drop 0).take (Tryz.prog.cellsOf 28)) = some y0 := (hf 0 _ rfl).trans g0
  have f1 : DataW.trod enc Tryz.prog w base (fun _ => true) held m 29 ((cs.drop 72).take (Tryz.prog.cellsOf 29)) = some y1 := (hf 1 _ rfl).trans g1
  rw [c1] at f0
  rw [c2] at f1
  obtain ⟨f, a, b, c, e0, hw, hi, d1, d2, d3⟩ := front_of f0
  obtain ⟨d, LD, e1, hd⟩ := data_of f1
  refine ⟨⟨f, LD.map (·.2)⟩, ⟨a, b, c, d, LD, ?_, d1, d2, d3, hd, rfl⟩, hw, hi⟩
  have a0 := cut_list cs 0 72
  have a1 := cut_list cs 72 1
  rw [e1, show 72 + 1 = 73 from rfl, List.drop_eq_nil_of_le (show cs.length ≤ 73 by omega), List.append_nil] at a1
  rw [e0, show 0 + 72 = 72 from rfl, a1, List.drop_zero] at a0
  unfold shC
  rw [a0]
theorem open_share {v : Value} {d : DataW H} {p : List MemPlace} {r : Reach} {b0 : Nat} {P' : World} (hv : Value.okWide Tryz.prog P' r b0 31 v) (h : DataW.Trod enc Tryz.prog w base (fun _ => true) held 31 v d p) :
    ∃ s : SS, ShV w v s ∧ s.f.wf ∧ s.f.u.in64 := by
  obtain ⟨cs, rfl, _⟩ := okWide_struct Tryz.underlying31 hv
  obtain ⟨fuel, hf⟩ := h
  obtain ⟨s, h1, h2⟩ := share_of hf
  exact ⟨s, by rw [show cs = cs.toList.toArray from Array.toArray_toList.symm]; exact h1, h2⟩
end
end Go.Proofs.YtdohebhbiokljaaGreatDoor
