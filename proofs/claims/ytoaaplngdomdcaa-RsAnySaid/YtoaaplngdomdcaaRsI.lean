/- Contracts of the code: Make, Odd of blocks that are in order; numbers that are chosen. -/
import Derived.Test.YtoaaplngdomdcaaRsH
import Derived.Test.YtoaaplngdomdcaaOpnI
namespace Go.Proofs.Ytoaaplngdomdcaa
open Go.RowKit

set_option maxRecDepth 100000 in
set_option maxHeartbeats 4000000 in
theorem make_ok (gc k n m want : Nat) (vn vb : Value) (L : List Nat) (B : Nat → Nat → UInt8) (w : World) (hc : Cd w gc k n) (h1 : 1 ≤ k) (h2 : k ≤ n) (h3 : n ≤ 255) (hv : Ny w .i64 vn L) (hN : Nums k n L) (hb : Ls w vb (rowsOf m B k)) (hm : m ≤ 140737488355328) (hw : want < n) :
    Calls Try.prog 55 #[.pointer (some ⟨gc, 0, none⟩), vn, vb, .int .i64 (want : Int)] w fun e w' => ∃ v, e = .returned (.tuple #[v, .int .i64 0]) ∧ Own w' w.heap.size 5 v ((List.range m).map (mixs (ent k want) (decE k L B) k)) ∧ Below w.heap.size w w' := by
  have q1 := cmade_any gc k n w hc
  have q2 := look_ok gc k n vn vb L _ w hc (by omega) h1 hv hN.1 hN.2.1 hN.2.2 hb (rowsOf_length ..) (evenB_rows m k B)
  have HC := hide (And.intro hc (And.intro hv (And.intro hb hN)))
  obtain ⟨g, base, hg1, hg2⟩ := hc
  have hcg : w.cell? ⟨gc, 0, none⟩ = some (.pointer (some ⟨g, 0, none⟩)) := by rw [hg1.cell]; rfl
  have hgl := hg1.lt
  have HG := hide hg2
  obtain ⟨E, e, rfl, _, _, _⟩ := hv.form
  obtain ⟨B', d, rfl, _, _, _⟩ := hb.form
  rw [rowsOf_length] at *
  rw [hN.1] at *
  have i1 : ¬ (want : Int) < 0 := by omega
  have i2 : ¬ n ≤ want := by omega
  clear hv hb hg1 hg2
  go_enter Try.func55, Try.ntmps55
  go_wp2_with fail
  refine q1.mono ?_
  rintro e w' ⟨rfl, rfl⟩
  go_wp2_with fail
  refine q2.mono ?_
  rintro e w1 ⟨rfl, hb1⟩
  clear q1 q2
  have q3 := cn_any gc k n w1 (HC.out.1.below hb1)
  go_wp2_with fail
  refine q3.mono ?_
  rintro e w' ⟨rfl, rfl⟩
  clear q3
  have q4 := decode_ok gc k n m _ _ L B w1 (HC.out.1.below hb1) h1 h2 h3 (HC.out.2.1.below hb1) hN (HC.out.2.2.1.below hb1) hm
  go_wp2_with fail
  refine q4.mono ?_
  rintro e w2 ⟨vd, rfl, hod, hb2⟩
  have hbw2 := hb1.trans (hb2.mono hb1.size)
  have hcg2 : w2.cell? ⟨gc, 0, none⟩ = some (.pointer (some ⟨g, 0, none⟩)) := (hbw2.cell (p := ⟨gc, 0, none⟩) hgl).trans hcg
  have q5 := row_any base g n k (ent k) want w2 (HG.out.below hbw2) hw (by omega)
  clear q4
  go_wp2_with fail
  refine q5.mono ?_
  rintro e w3 ⟨vr, rfl, hor, hb3⟩
  have q6 := mixed_any vr vd k m (ent k want) (decE k L B) w3 hor.by_ (hod.ls.below hb3) ⟨h1, by omega⟩ hm
  clear q5
  go_wp2_with fail
  refine q6.mono ?_
  rintro e w4 ⟨vx, rfl, hox, hb4⟩
  have hbw3 := hbw2.trans (hb3.mono hbw2.size)
  have H4 := hide (And.intro (hox.mono_ hbw3.size) (hbw3.trans (hb4.mono hbw3.size)))
  clear q6 hox hor hod hb4 hb3 hb2 hb1
  go_wp2
  go_ret2
  exact ⟨_, rfl, H4.out.1, H4.out.2⟩

theorem Ls.front {w : World} {A : Option Addr} {c n m k : Nat} {D : Nat → Nat → UInt8} (h : Ls w (.slice A n c) (rowsOf m D n)) (hk : 1 ≤ k) (hkn : k ≤ n) : Ls w (.slice A k c) (rowsOf m D k) := by
  obtain ⟨A', c', e, h1, h2, h3⟩ := h.rows
  injection e with e1 _ e3
  subst e1 e3
  obtain ⟨b, o, B, d, rfl, hlt, _⟩ := h3 0 (by omega)
  refine ⟨(List.range k).map fun i => (w.cell? ⟨b, o + i, none⟩).getD (.bool false), ?_, fun i l hl => ?_⟩
  · refine ⟨by simp, some ⟨b, o, none⟩, c, by rw [rowsOf_length], by rw [rowsOf_length]; omega, h2, fun _ => ⟨b, o, rfl, hlt, fun j hj => ?_⟩⟩
    rw [rowsOf_length, Nat.mul_one] at hj
    obtain ⟨b', o', B', d', e, _, hc, _⟩ := h3 j (by omega)
    injection e with e
    injection e with q1 q2 _
    subst q1 q2
    rw [List.getElem?_map, List.getElem?_range hj]
    simp only [Option.map_some, hc, Option.getD_some]
  · have hi : i < k := by
      rcases Nat.lt_or_ge i k with h | h
      · exact h
      · rw [List.getElem?_eq_none (by rw [rowsOf_length]; exact h)] at hl; cases hl
    rw [rowsOf_get m D hi] at hl
    injection hl with hl
    obtain ⟨b', o', B', d', e, _, hc, _, _, hby, _⟩ := h3 i (by omega)
    injection e with e
    injection e with q1 q2 _
    subst q1 q2
    refine ⟨.slice B' m d', by rw [List.getElem?_map, List.getElem?_range hi]; simp only [Option.map_some, hc, Option.getD_some], ?_⟩
    rw [← hl]
    exact hby

theorem eq_by (A B : Option Addr) (c d m : Nat) (r s : Nat → UInt8) (w : World) (hm : m ≤ 140737488355328) (ha : By w (.slice A m c) ((List.range m).map r)) (hb : By w (.slice B m d) ((List.range m).map s)) :
    Calls Try.prog 102 #[.slice A m c, .slice B m d] w fun e w' => e = .returned (.bool (MB.soB (∀ j, j < m → r j = s j))) ∧ Dr w w' := by
  refine MB.equal_c A B c d m r s w hm (fun j hj => ?_) fun j hj => ?_
  · obtain ⟨A', c', e, _, _, h⟩ := ha.form
    injection e with e1 _ _
    subst e1
    obtain ⟨b, o, h1, _, h2⟩ := h j (r j) (by rw [List.getElem?_map, List.getElem?_range hj]; rfl)
    exact ⟨b, o, h1, h2⟩
  · obtain ⟨A', c', e, _, _, h⟩ := hb.form
    injection e with e1 _ _
    subst e1
    obtain ⟨b, o, h1, _, h2⟩ := h j (s j) (by rw [List.getElem?_map, List.getElem?_range hj]; rfl)
    exact ⟨b, o, h1, h2⟩
end Go.Proofs.Ytoaaplngdomdcaa
