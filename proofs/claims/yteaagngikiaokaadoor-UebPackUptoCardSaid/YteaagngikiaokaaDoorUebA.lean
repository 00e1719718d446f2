/- Contracts of the program's field, rowMay and Pack. -/
import Derived.Test.YteaagngikiaokaaDoorCat
import Derived.Test.YteaagngikiaokaaDoorUebP
import Derived.Test.YteaagngikiaokaaDoorNumL
import Derived.Deep.RegionHeld3
import Derived.Deep.DrawnRows
import Derived.Lib.ItoaLen
namespace Go.Proofs.YteaagngikiaokaaDoor
open Go.RowKit

theorem lsts_row {w : World} {g : Nat} {cs : Array Value} {e : TypeId} (hb : Blk w g e cs) (L : List (Value × List UInt8)) (hcs : cs.toList = L.map (·.1)) (hm : L.length ≤ 1000) (hby : ∀ x ∈ L, By w x.1 x.2) :
    Lsts w (.slice (some ⟨g, 0, none⟩) L.length L.length) L := by
  refine ⟨?_, hby⟩
  have := hb.own (base := 0) (e := e) (n := L.length) (cap := L.length) (sz := 1) rfl (Nat.zero_le _) (by rw [← Array.length_toList, hcs]; simp) (Nat.le_refl _) (by unfold maxLen; omega)
  have := Sl.of_own this
  rwa [hcs, List.take_of_length_le (by simp)] at this

theorem blk_new' (w : World) (g : Nat) (t : TypeId) (cs : Array Value) (h : g = w.heap.size) : Blk (w.alloc (.cells cs t)) g t cs := by rw [h]; exact Blk.new w t cs
theorem by_marked' (w : World) (g : Nat) (hg : g = w.heap.size) (e : TypeId) (f : Nat × Nat) (l : List UInt8) (h : l.length ≤ 1000) : By (w.alloc (.cells (bcells l).toArray e f)) (.slice (some ⟨g, 0, none⟩) l.length l.length) l := by
  rw [hg]; exact by_marked w e f l h
theorem Own.base {w : World} {b b' : Nat} {e : TypeId} {v : Value} {l : List UInt8} (h : Own w b e v l) (hb : b' ≤ b) : Own w b' e v l := by
  obtain ⟨h1, h2 | ⟨g, cap, cur, hv, hg, r⟩⟩ := h
  · exact ⟨h1, .inl h2⟩
  · exact ⟨h1, .inr ⟨g, cap, cur, hv, Nat.le_trans hb hg, r⟩⟩

set_option maxRecDepth 100000 in
set_option maxHeartbeats 1000000 in
theorem field_any (v : Value) (b : List UInt8) (w : World) (h : By w v b) (hl : b.length ≤ 549755813888) (ht : Tab w) :
    Calls Tryd.prog 41 #[v] w fun e w' => ∃ v', e = .returned v' ∧ Own w' w.heap.size 5 v' (fld b) ∧ Below w.heap.size w w' := by
  have q1 := bnumber_any (b.length : Int) w ⟨by omega, by omega⟩ ht
  rw [show numS (b.length : Int) = itoaS (b.length : Int) by unfold numS; rw [if_neg (by omega)], show numE (b.length : Int) = 0 by unfold numE; rw [if_neg (by omega)]] at q1
  have hsz : (itoaS (b.length : Int)).size ≤ 21 := by
    have := Lib.itoa_length_le (b.length : Int) (by omega) (by omega)
    rwa [← lst_itoaS, lst_len] at this
  have hls := lst_itoaS (b.length : Int)
  have HLS := hide hls
  have Q1 := hide q1
  have HB := hide h
  have HL := hide hl
  obtain ⟨A, c, rfl, hc, hm, _⟩ := h.form
  unfold maxLen at hm
  generalize itoaS (b.length : Int) = s at *
  clear q1 h hls hl
  go_enter Tryd.func41, Tryd.ntmps41
  go_wp2_with fail
  refine Q1.out.mono ?_
  rintro e w1 ⟨rfl, b1⟩
  obtain ⟨g, cc, w2, hr, hby, b2, hg, hsz2, hcc, hcm⟩ := run_bytes_str 9 27 5 s w1 Tryd.underlying9 Tryd.underlying27 Tryd.underlying5 (by unfold maxLen; omega)
  have HY := hide hby
  have C2 := hide (b1.trans (b2.mono b1.size))
  have C1 := hide b1
  clear hby b1 b2 Q1 hg hsz2 hcc hcm
  have a1 : Below w2.heap.size w2 (w2.alloc (.cells #[.int .u8 58] 5)) := (Below.refl _ w2).alloc (Nat.le_refl _) _
  have a2 := a1.alloc (by simp) (.cells #[.int .u8 44] 5)
  have a3 := a2.alloc (by simp; omega) (.cells #[.slice (some ⟨g, 0, none⟩) s.size cc, .slice (some ⟨w2.heap.size, 0, none⟩) 1 1, .slice A b.length c, .slice (some ⟨w2.heap.size + 1, 0, none⟩) 1 1] 27)
  have y1 := (by_marked w2 5 (0, 0) [58] (by simp)).below (((Below.refl _ _).alloc (Nat.le_refl _) (.cells #[.int .u8 44] 5)).alloc (by simp) (.cells #[.slice (some ⟨g, 0, none⟩) s.size cc, .slice (some ⟨w2.heap.size, 0, none⟩) 1 1, .slice A b.length c, .slice (some ⟨w2.heap.size + 1, 0, none⟩) 1 1] 27))
  have y2 := (by_marked' (w2.alloc (.cells #[.int .u8 58] 5)) (w2.heap.size + 1) (by simp) 5 (0, 0) [44] (by simp)).below ((Below.refl _ _).alloc (Nat.le_refl _) (.cells #[.slice (some ⟨g, 0, none⟩) s.size cc, .slice (some ⟨w2.heap.size, 0, none⟩) 1 1, .slice A b.length c, .slice (some ⟨w2.heap.size + 1, 0, none⟩) 1 1] 27))
  have l1 := lsts_row (blk_new' ((w2.alloc (.cells #[.int .u8 58] 5)).alloc (.cells #[.int .u8 44] 5)) (w2.heap.size + 1 + 1) 27 #[.slice (some ⟨g, 0, none⟩) s.size cc, .slice (some ⟨w2.heap.size, 0, none⟩) 1 1, .slice A b.length c, .slice (some ⟨w2.heap.size + 1, 0, none⟩) 1 1] (by simp))
    [(.slice (some ⟨g, 0, none⟩) s.size cc, lst s), (.slice (some ⟨w2.heap.size, 0, none⟩) 1 1, [58]), (.slice A b.length c, b), (.slice (some ⟨w2.heap.size + 1, 0, none⟩) 1 1, [44])] rfl (by simp) (by
      intro x hx
      simp only [List.mem_cons, List.mem_nil_iff, or_false] at hx
      rcases hx with rfl | rfl | rfl | rfl
      · exact HY.out.below a3
      · exact y1
      · exact (HB.out.below C2.out).below a3
      · exact y2)
  have q := concat_any _ _ _ l1 (by have := HL.out; simp [total, lst_len]; omega)
  have hcat : cat [(Value.slice (some ⟨g, 0, none⟩) s.size cc, lst s), (.slice (some ⟨w2.heap.size, 0, none⟩) 1 1, [58]), (.slice A b.length c, b), (.slice (some ⟨w2.heap.size + 1, 0, none⟩) 1 1, [44])] = fld b := by
    simp [cat, HLS.out, fld]
  rw [hcat] at q
  have Q := hide q
  have A3 := hide (C2.out.trans (a3.mono C2.out.size))
  clear a1 a2 a3 y1 y2 l1 q hcat
  go_wp2_with fail
  refine Q.out.mono ?_
  rintro e w3 ⟨v', rfl, o3, b3⟩
  have O3 := hide o3
  have B3 := hide b3
  clear o3 b3 Q
  go_wp2_with fail
  go_ret
  exact ⟨v', rfl, O3.out.base (by have := C2.out.size; simp; omega), A3.out.trans (B3.out.mono A3.out.size)⟩
end Go.Proofs.YteaagngikiaokaaDoor
