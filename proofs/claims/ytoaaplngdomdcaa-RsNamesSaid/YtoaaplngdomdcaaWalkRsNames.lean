/- RsNames: the errors' numbers, and the rows that the document prints. -/
import Derived.Test.YtoaaplngdomdcaaRsD
namespace Go.Proofs.Ytoaaplngdomdcaa
open Go.RowKit

set_option maxRecDepth 100000 in
set_option maxHeartbeats 1600000 in
theorem law_names (w : World) :
    Calls Try.prog 6 #[] w fun e w' => e = .returned (.bool true) ∧ Below w.heap.size w w' := by
  have q1 : Calls Try.prog 25 #[.int .i64 1, .int .i64 3] w fun e w' => ∃ gc, e = .returned (.tuple #[.pointer (some ⟨gc, 0, none⟩), .int .i64 0]) ∧ Cd w' gc 1 3 ∧ Below w.heap.size w w' := rsnew_any 1 3 w (by omega) (by omega) (by omega)
  go_enter Try.func6, Try.ntmps6
  go_wp2_with fail
  refine q1.mono ?_
  rintro e w1 ⟨gc, rfl, hc, hb1⟩
  have n1 := (Blk.new w1 5 #[.int .u8 7, .int .u8 8]).alloc (.cells #[.slice (some ⟨w1.heap.size, 0, none⟩) 2 2] 38)
  have n3 := Blk.new (w1.alloc (.cells #[.int .u8 7, .int .u8 8] 5)) 38 #[.slice (some ⟨w1.heap.size, 0, none⟩) 2 2]
  have n4 := ((Below.refl w1.heap.size w1).alloc (Nat.le_refl _) (.cells #[.int .u8 7, .int .u8 8] 5)).alloc (by simp) (.cells #[.slice (some ⟨w1.heap.size, 0, none⟩) 2 2] 38)
  simp only [World.size_alloc] at n3
  have HC := hide (And.intro hc hb1)
  have HN := hide (And.intro n1 (And.intro n3 n4))
  clear q1 hc hb1 n1 n3 n4
  go_wp2_with fail
  have hls : Ls ((w1.alloc (.cells #[.int .u8 7, .int .u8 8] 5)).alloc (.cells #[.slice (some ⟨w1.heap.size, 0, none⟩) 2 2] 38)) (.slice (some ⟨w1.heap.size + 1, 0, none⟩) 1 1) (rowsOf 2 (fun _ t => if t = 0 then 7 else 8) 1) := by
    refine HN.out.2.1.ls (rowsOf 2 (fun _ t => if t = 0 then 7 else 8) 1) rfl (by decide) fun i l hl => ?_
    have hi : i < 1 := by
      rcases Nat.lt_or_ge i 1 with h | h
      · exact h
      · rw [List.getElem?_eq_none (by rw [rowsOf_length]; exact h)] at hl; cases hl
    rw [rowsOf_get _ _ hi] at hl
    injection hl with hl
    subst hl
    match i, hi with
    | 0, _ => exact ⟨_, rfl, HN.out.1.by_ [7, 8] rfl (by decide)⟩
  have q2 : Calls Try.prog 28 #[.pointer (some ⟨gc, 0, none⟩), .slice (some ⟨w1.heap.size + 1, 0, none⟩) 1 1] _ fun e w' => ∃ v, e = .returned (.tuple #[v, .int .i64 0]) ∧ OwnL w' _ 5 38 v (rowsOf 2 (encE 1 fun _ t => if t = 0 then 7 else 8) 3) ∧ Below _ _ w' :=
    encode_any gc 1 3 2 _ (fun _ t => if t = 0 then 7 else 8) _ (HC.out.1.below HN.out.2.2) (by omega) (by omega) (by omega) hls (by omega)
  have HB4 := hide (HC.out.2.trans (HN.out.2.2.mono HC.out.2.size))
  clear hls HN
  generalize (w1.alloc (.cells #[.int .u8 7, .int .u8 8] 5)).alloc (.cells #[.slice (some ⟨w1.heap.size, 0, none⟩) 2 2] 38) = W at *
  refine q2.mono ?_
  rintro e w2 ⟨v, rfl, hown, hb2⟩
  have HB5 := hide (HB4.out.trans (hb2.mono HB4.out.size))
  obtain ⟨A, c, rfl, _, _, hrow⟩ := hown.ls.rows
  obtain ⟨b, o, B, d, rfl, _, hcell, _, _, hby, _⟩ := hrow 2 (by omega)
  have hv : (List.range 2).map (encE 1 (fun _ t => if t = 0 then 7 else 8) 2) = [141, 4] := by decide +kernel
  rw [hv] at hby
  have HB := hide hby
  have n5 := Blk.new w2 5 #[.int .u8 141, .int .u8 4]
  have n6 := (Below.refl w2.heap.size w2).alloc (Nat.le_refl _) (.cells #[.int .u8 141, .int .u8 4] 5)
  have q3 : Calls Try.prog 29 #[.slice B 2 d, .slice (some ⟨w2.heap.size, 0, none⟩) 2 2] _ fun e w' => e = .returned (.bool true) ∧ ∃ q, w' = World.drewN _ q := same_q (.slice B 2 d) (.slice (some ⟨w2.heap.size, 0, none⟩) 2 2) [141, 4] [141, 4] _ (hby.below n6) (n5.by_ [141, 4] rfl (by decide))
  have HB6 := hide (HB5.out.trans (n6.mono HB5.out.size))
  clear q2 hown hrow hby hv hb2 HB4 HB HB5 n5 n6
  go_wp2_with fail
  refine q3.mono ?_
  rintro e w3 ⟨rfl, hd⟩
  have HB7 := hide (show Below w.heap.size w w3 by obtain ⟨q, rfl⟩ := hd; exact below_drewN HB6.out q)
  have q4 := lives_any w3
  clear hd q3 HB6
  go_wp2_with fail
  refine q4.mono ?_
  rintro e w4 ⟨rfl, hb4⟩
  go_wp2
  go_ret
  exact ⟨rfl, HB7.out.trans (hb4.mono HB7.out.size)⟩
end Go.Proofs.Ytoaaplngdomdcaa
