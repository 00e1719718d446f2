/- Joined texts: UebM, RdA, RdQM, ShrM, ShrE, AwkA, AwkB, ShrF. -/
import Derived.Test.YtdohebhbiokljaaDoorJ3
import Derived.Test.YtdohebhbiokljaaDoorJ2
import Derived.Stop.BytesEq
import Derived.RangeFuncBox
import Derived.RangeFuncLeaves
import Derived.Shelf.Abstract
import Derived.WalkKit
import Derived.OwnWalkIn
import Derived.TacticsInMore
import Derived.LoopNIn
import Derived.LoopIn
import Derived.Maps.AppendAt
import Derived.Laws.ResultCell

/- Joined texts: UebC, UebD, UebE. -/

/- The contracts of the program's Write and Length. -/
namespace Go.Proofs.YtdohebhbiokljaaDoor
open Go.RowKit
attribute [local go_sem ↓] Go.wp_at_zero Go.wp_at_succ

theorem Below.al {B : Nat} {w W : World} (h : Below B w W) (hB : B ≤ w.heap.size) (o : Obj) : Below B w (W.alloc o) := h.alloc (Nat.le_trans hB h.size) o
theorem Below.step {w W W' : World} (h : Below w.heap.size w W) (h' : Below W.heap.size W W') : Below w.heap.size w W' := h.trans (h'.mono h.size)
theorem Below.al0 {w W : World} (h : Below w.heap.size w W) (o : Obj) : Below w.heap.size w (W.alloc o) := h.alloc h.size o

def tK : List UInt8 := [107]
def tN : List UInt8 := [110]
def tSeg : List UInt8 := [115, 101, 103]
def tSegments : List UInt8 := [115, 101, 103, 109, 101, 110, 116, 115]
def tShares : List UInt8 := [115, 104, 97, 114, 101, 115]
def tSize : List UInt8 := [115, 105, 122, 101]
/-- The table of a Ueb. -/
def uebRows (k n seg size : Int) (sh sg : List UInt8) : List Rw := [(tK, lst (numS k)), (tN, lst (numS n)), (tSeg, lst (numS seg)), (tSegments, sg), (tShares, sh), (tSize, lst (numS size))]
theorem numS_len (x : Int) (h : -9223372036854775808 ≤ x ∧ x ≤ 9223372036854775807) : (lst (numS x)).length ≤ 21 := by
  unfold numS
  split
  · simp [lst]
  · rw [lst_itoaS]
    exact Lib.itoa_length_le x h.1 h.2
theorem uebRows_may (k n seg size : Int) (sh sg : List UInt8) (hk : -9223372036854775808 ≤ k ∧ k ≤ 9223372036854775807) (hn : -9223372036854775808 ≤ n ∧ n ≤ 9223372036854775807) (hs : -9223372036854775808 ≤ seg ∧ seg ≤ 9223372036854775807) (hz : -9223372036854775808 ≤ size ∧ size ≤ 9223372036854775807)
    (h1 : sh.length = 32) (h2 : sg.length = 32) : may (uebRows k n seg size sh sg) := by
  have l1 := numS_len k hk
  have l2 := numS_len n hn
  have l3 := numS_len seg hs
  have l4 := numS_len size hz
  unfold uebRows
  generalize lst (numS k) = a1 at *
  generalize lst (numS n) = a2 at *
  generalize lst (numS seg) = a3 at *
  generalize lst (numS size) = a4 at *
  have c1 : leB tN tK = false := by decide
  have c2 : leB tSeg tN = false := by decide
  have c3 : leB tSegments tSeg = false := by decide
  have c4 : leB tShares tSegments = false := by decide
  have c5 : leB tSize tShares = false := by decide
  intro i hi
  simp only [List.length_cons, List.length_nil] at hi
  rcases i with _ | _ | _ | _ | _ | _ | i
  · simp [rowB]; exact ⟨by decide, by omega⟩
  · simp [rowB, c1]; exact ⟨by decide, by omega⟩
  · simp [rowB, c2]; exact ⟨by decide, by omega⟩
  · simp [rowB, c3, h2]; decide
  · simp [rowB, c4, h1]; decide
  · simp [rowB, c5]; exact ⟨by decide, by omega⟩
  · omega

set_option maxRecDepth 100000 in
set_option maxHeartbeats 1000000 in
theorem number_any (x : Int) (w : World) (hx : -9223372036854775808 ≤ x ∧ x ≤ 9223372036854775807) (ht : Tab w) :
    Calls Tryd.prog 46 #[.int .i64 x] w fun e w' => ∃ A n c, e = .returned (.slice A n c) ∧ By w' (.slice A n c) (lst (numS x)) ∧ Below w.heap.size w w' := by
  have hsz := numS_len x hx
  rw [lst_len] at hsz
  have Q := hide (bnumber_any x w hx ht)
  generalize numS x = s at *
  generalize numE x = y at *
  go_enter Tryd.func46, Tryd.ntmps46
  go_wp2_with fail
  refine Q.out.mono ?_
  rintro e w1 ⟨rfl, b1⟩
  obtain ⟨g, cc, w2, hr, hby, b2, hg, hsz2, hcc, hcm⟩ := run_bytes_str 9 38 5 s w1 Tryd.underlying9 Tryd.underlying38 Tryd.underlying5 (by unfold maxLen; omega)
  have HY := hide hby
  have C2 := hide (b1.trans (b2.mono b1.size))
  clear hby b1 b2 Q hg hsz2 hcc hcm
  go_wp2_with fail
  go_ret
  exact ⟨_, _, _, rfl, HY.out, C2.out⟩
end Go.Proofs.YtdohebhbiokljaaDoor

/- The contract of the program's Write, of a Ueb that may be. -/
namespace Go.Proofs.YtdohebhbiokljaaDoor
open Go.RowKit
attribute [local go_sem ↓] Go.wp_at_zero Go.wp_at_succ

theorem by_mid {W : World} {g o : Nat} {cs : Array Value} {t : TypeId} {f : Nat × Nat} {l : List UInt8} {n : Nat} (hn : n = l.length) (hh : W.heap[g]? = some (.cells cs t f)) (hcs : ∀ j, j < l.length → cs[o + j]? = (bcells l)[j]?) (hm : l.length ≤ 1000) : By W (.slice (some ⟨g, o, none⟩) n n) l := by
  subst hn
  refine ⟨by simp, _, l.length, rfl, Nat.le_refl _, by unfold maxLen; omega, fun _ => ⟨g, o, rfl, ?_, fun j hj => ?_⟩⟩
  · rcases Nat.lt_or_ge g W.heap.size with h | h
    · exact h
    · rw [Array.getElem?_eq_none h] at hh; cases hh
  · rw [cell_of_row W g (o + j) cs t f hh]
    exact hcs j (by omega)

theorem pack_ueb (k n seg size : Int) (sh sg : List UInt8) (w w1 W : World) (g : Nat) (v1 v2 v3 v4 : Value) (hk : -9223372036854775808 ≤ k ∧ k ≤ 9223372036854775807) (hn : -9223372036854775808 ≤ n ∧ n ≤ 9223372036854775807) (hs : -9223372036854775808 ≤ seg ∧ seg ≤ 9223372036854775807) (hz : -9223372036854775808 ≤ size ∧ size ≤ 9223372036854775807) (h1 : sh.length = 32) (h2 : sg.length = 32)
    (hww : w.heap.size ≤ w1.heap.size) (hy1 : By w1 (.slice (some ⟨w.heap.size, 36, none⟩) 32 32) sg) (hy2 : By w1 (.slice (some ⟨w.heap.size, 4, none⟩) 32 32) sh) (ht : Tab w1)
    (hh : ∃ e f, W.heap[g]? = some (.cells #[.string ⟨#[107]⟩, v1, .string ⟨#[110]⟩, v2, .string ⟨#[115, 101, 103]⟩, v3, .string ⟨#[115, 101, 103, 109, 101, 110, 116, 115]⟩, .slice (some ⟨w.heap.size, 36, none⟩) 32 32, .string ⟨#[115, 104, 97, 114, 101, 115]⟩, .slice (some ⟨w.heap.size, 4, none⟩) 32 32, .string ⟨#[115, 105, 122, 101]⟩, v4] e f)) (a1 : By W v1 (lst (numS k))) (a2 : By W v2 (lst (numS n))) (a3 : By W v3 (lst (numS seg))) (a4 : By W v4 (lst (numS size))) (hW : Below w1.heap.size w1 W) :
    Calls Tryd.prog 28 #[.slice (some ⟨g, 0, none⟩) 6 6] W fun e w' => ∃ A n' c, e = .returned (.tuple #[.slice A n' c, .int .i64 0]) ∧ Own w' w.heap.size 5 (.slice A n' c) (encs (uebRows k n seg size sh sg)) ∧ Below W.heap.size W w' := by
  obtain ⟨e, f, hh⟩ := hh
  have hr : Rws W (.slice (some ⟨g, 0, none⟩) 6 6) [(⟨#[107]⟩, v1, lst (numS k)), (⟨#[110]⟩, v2, lst (numS n)), (⟨#[115, 101, 103]⟩, v3, lst (numS seg)), (⟨#[115, 101, 103, 109, 101, 110, 116, 115]⟩, .slice (some ⟨w.heap.size, 36, none⟩) 32 32, sg), (⟨#[115, 104, 97, 114, 101, 115]⟩, .slice (some ⟨w.heap.size, 4, none⟩) 32 32, sh), (⟨#[115, 105, 122, 101]⟩, v4, lst (numS size))] := by
    refine ⟨⟨by simp, _, 6, rfl, Nat.le_refl _, by unfold maxLen; omega, fun _ => ⟨g, 0, rfl, ?_, fun j hj => ?_⟩⟩, ?_⟩
    · rcases Nat.lt_or_ge g W.heap.size with h | h
      · exact h
      · rw [Array.getElem?_eq_none h] at hh; cases hh
    · rw [Nat.zero_add, cell_of_row W g j _ e f hh]
      simp [rcells]
    · intro y hy
      simp only [List.mem_cons, List.mem_nil_iff, or_false] at hy
      rcases hy with rfl | rfl | rfl | rfl | rfl | rfl
      · exact a1
      · exact a2
      · exact a3
      · exact hy1.below hW
      · exact hy2.below hW
      · exact a4
  refine (pack_any _ _ W hr (ht.below hW)).mono ?_
  rintro e w' ⟨hb, h⟩
  have hm := uebRows_may k n seg size sh sg hk hn hs hz h1 h2
  rcases h with ⟨-, v', he, ho⟩ | ⟨hno, -⟩
  · obtain ⟨A, c, rfl, _⟩ := ho.by_.form
    exact ⟨A, _, c, he, ho.base (Nat.le_trans hww hW.size), hb⟩
  · exact absurd hm hno

set_option maxRecDepth 100000 in
set_option maxHeartbeats 40000000 in
theorem write_ok (k n seg size : Int) (sh sg : List UInt8) (w : World) (hk : -9223372036854775808 ≤ k ∧ k ≤ 9223372036854775807) (hn : -9223372036854775808 ≤ n ∧ n ≤ 9223372036854775807) (hs : -9223372036854775808 ≤ seg ∧ seg ≤ 9223372036854775807) (hz : -9223372036854775808 ≤ size ∧ size ≤ 9223372036854775807) (h1 : sh.length = 32) (h2 : sg.length = 32) (ht : Tab w) (hag : agOK k n seg size) :
    Calls Tryd.prog 17 #[.agg (uebC k n seg size (bcells sh ++ bcells sg))] w fun e w' => Below w.heap.size w w' ∧ ∃ A n' c, e = .returned (.tuple #[.slice A n' c, .int .i64 0]) ∧ Own w' w.heap.size 5 (.slice A n' c) (encs (uebRows k n seg size sh sg)) := by
  have q := fun w => check_any_ueb k n seg size (bcells sh ++ bcells sg) w hk hn hs hz
  simp only [if_pos hag] at q
  have Q := hide q
  have HP := hide (fun w1 W g v1 v2 v3 v4 => pack_ueb k n seg size sh sg w w1 W g v1 v2 v3 v4 hk hn hs hz h1 h2)
  have hb := Blk.new w 37 (uebC k n seg size (bcells sh ++ bcells sg))
  have hsz : (uebC k n seg size (bcells sh ++ bcells sg)).size = 68 := by simp [uebC, h1, h2]
  have hal := (Below.refl w.heap.size w).alloc (Nat.le_refl _) (.cells (uebC k n seg size (bcells sh ++ bcells sg)) 37)
  have m1 : ∀ W t f, W.heap[w.heap.size]? = some (.cells (uebC k n seg size (bcells sh ++ bcells sg)) t f) → By W (.slice (some ⟨w.heap.size, 36, none⟩) 32 32) sg := fun W t f hh => by_mid h2.symm hh (fun j hj => by
    simp only [uebC, List.getElem?_toArray]
    rw [show 36 + j = (32 + j) + 4 by omega]
    simp only [List.getElem?_cons_succ]
    rw [List.getElem?_append_right (by simp [h1])]
    simp [h1]) (by omega)
  have m2 : ∀ W t f, W.heap[w.heap.size]? = some (.cells (uebC k n seg size (bcells sh ++ bcells sg)) t f) → By W (.slice (some ⟨w.heap.size, 4, none⟩) 32 32) sh := fun W t f hh => by_mid h1.symm hh (fun j hj => by
    simp only [uebC, List.getElem?_toArray]
    rw [show 4 + j = j + 4 by omega]
    simp only [List.getElem?_cons_succ]
    rw [List.getElem?_append_left (by simp; omega)]) (by omega)
  have f0 : (uebC k n seg size (bcells sh ++ bcells sg))[0]? = some (.int .i64 k) := rfl
  have f1 : (uebC k n seg size (bcells sh ++ bcells sg))[1]? = some (.int .i64 n) := rfl
  have f2 : (uebC k n seg size (bcells sh ++ bcells sg))[2]? = some (.int .i64 seg) := rfl
  have f3 : (uebC k n seg size (bcells sh ++ bcells sg))[3]? = some (.int .i64 size) := rfl
  have M1 := hide m1
  have M2 := hide m2
  have HF := hide (And.intro f0 (And.intro f1 (And.intro f2 f3)))
  have HB := hide hb
  have HAL := hide hal
  have HT := hide ht
  have HSZ := hide hsz
  clear q hb hal m1 m2 f0 f1 f2 f3 ht hag hsz
  generalize uebC k n seg size (bcells sh ++ bcells sg) = cs at *
  go_enter Tryd.func17, Tryd.ntmps17
  go_wp2_with (refine wpList_load_row (o := ⟨some 6, .load _ _, _, _, _, _⟩) rfl 37 _ rfl w.heap.size rfl 37 cs (0, 0) _ HB.out Tryd.underlying37 rfl (by rw [HSZ.out]; kernel_rfl) ?_)
  refine (Q.out _).mono ?_
  rintro e w1 ⟨b1, rfl⟩
  have B1 := hide (HAL.out.trans (b1.mono HAL.out.size))
  have HB1 : Hid (Blk w1 w.heap.size 37 cs) := HB.out.below' b1
  have N1 : Hid (∀ W, Below w1.heap.size w1 W → _) := fun W hW => number_any k W hk ((HT.out.below B1.out).below hW)
  have N2 : Hid (∀ W, Below w1.heap.size w1 W → _) := fun W hW => number_any n W hn ((HT.out.below B1.out).below hW)
  have N3 : Hid (∀ W, Below w1.heap.size w1 W → _) := fun W hW => number_any seg W hs ((HT.out.below B1.out).below hW)
  have N4 : Hid (∀ W, Below w1.heap.size w1 W → _) := fun W hW => number_any size W hz ((HT.out.below B1.out).below hW)
  have HK := hide (fun W g v1 v2 v3 v4 => HP.out w1 W g v1 v2 v3 v4 B1.out.size (M1.out w1 _ _ HB1.out) (M2.out w1 _ _ HB1.out) (HT.out.below B1.out))
  have HS : Hid (∀ W, Below w1.heap.size w1 W → W.cell? ⟨w.heap.size, 0, none⟩ = some (.int .i64 k) ∧ W.cell? ⟨w.heap.size, 1, none⟩ = some (.int .i64 n) ∧ W.cell? ⟨w.heap.size, 2, none⟩ = some (.int .i64 seg) ∧ W.cell? ⟨w.heap.size, 3, none⟩ = some (.int .i64 size)) := fun W hW => by
    have hbW := HB1.out.below' hW
    exact ⟨(hbW.cell 0).trans HF.out.1, (hbW.cell 1).trans HF.out.2.1, (hbW.cell 2).trans HF.out.2.2.1, (hbW.cell 3).trans HF.out.2.2.2⟩
  have s := HS.out w1 (Below.refl _ _)
  obtain ⟨s0, s1, s2, s3⟩ := s
  clear b1 HB HAL M1 M2 HF HP Q hk hn hs hz
  go_wp2_with fail
  go_region_held3 (fun w' => w'.cell? ⟨w.heap.size, 0, none⟩ = some (.int .i64 k) ∧ w'.cell? ⟨w.heap.size, 1, none⟩ = some (.int .i64 n) ∧ w'.cell? ⟨w.heap.size, 2, none⟩ = some (.int .i64 seg) ∧ w'.cell? ⟨w.heap.size, 3, none⟩ = some (.int .i64 size))
          (first | go_keep | exact HS.out _ (by (repeat (first | with_reducible exact Below.refl _ _ | with_reducible refine Below.drew ?_ | with_reducible refine Below.al0 ?_ _ | with_reducible refine Below.step ?_ q1 | with_reducible refine Below.step ?_ q2 | with_reducible refine Below.step ?_ q3 | with_reducible refine Below.step ?_ q4 | with_reducible refine Below.step ?_ q5))))
          (first
            | (go_at_call 46; (with_reducible refine (N1.out _ ?bb).mono ?_); (case bb => (repeat (first | with_reducible exact Below.refl _ _ | with_reducible refine Below.drew ?_ | with_reducible refine Below.al0 ?_ _ | with_reducible refine Below.step ?_ q1 | with_reducible refine Below.step ?_ q2 | with_reducible refine Below.step ?_ q3 | with_reducible refine Below.step ?_ q4 | with_reducible refine Below.step ?_ q5))); rintro e w2 ⟨A1, n1, c1, rfl, p1, q1⟩)
            | (go_at_call 46; (with_reducible refine (N2.out _ ?bb).mono ?_); (case bb => (repeat (first | with_reducible exact Below.refl _ _ | with_reducible refine Below.drew ?_ | with_reducible refine Below.al0 ?_ _ | with_reducible refine Below.step ?_ q1 | with_reducible refine Below.step ?_ q2 | with_reducible refine Below.step ?_ q3 | with_reducible refine Below.step ?_ q4 | with_reducible refine Below.step ?_ q5))); rintro e w3 ⟨A2, n2, c2, rfl, p2, q2⟩)
            | (go_at_call 46; (with_reducible refine (N3.out _ ?bb).mono ?_); (case bb => (repeat (first | with_reducible exact Below.refl _ _ | with_reducible refine Below.drew ?_ | with_reducible refine Below.al0 ?_ _ | with_reducible refine Below.step ?_ q1 | with_reducible refine Below.step ?_ q2 | with_reducible refine Below.step ?_ q3 | with_reducible refine Below.step ?_ q4 | with_reducible refine Below.step ?_ q5))); rintro e w4 ⟨A3, n3, c3, rfl, p3, q3⟩)
            | (go_at_call 46; (with_reducible refine (N4.out _ ?bb).mono ?_); (case bb => (repeat (first | with_reducible exact Below.refl _ _ | with_reducible refine Below.drew ?_ | with_reducible refine Below.al0 ?_ _ | with_reducible refine Below.step ?_ q1 | with_reducible refine Below.step ?_ q2 | with_reducible refine Below.step ?_ q3 | with_reducible refine Below.step ?_ q4 | with_reducible refine Below.step ?_ q5))); rintro e w5 ⟨A4, n4, c4, rfl, p4, q4⟩)
            | (go_at_call 28; (with_reducible refine (HK.out _ _ _ _ _ _ ⟨_, _, heap_alloc_new w2 _⟩ ?a1 ?a2 ?a3 ?a4 ?bb).mono ?_); (case a1 => exact By.below p1 (by (repeat (first | with_reducible exact Below.refl _ _ | with_reducible refine Below.drew ?_ | with_reducible refine Below.al0 ?_ _ | with_reducible refine Below.step ?_ q1 | with_reducible refine Below.step ?_ q2 | with_reducible refine Below.step ?_ q3 | with_reducible refine Below.step ?_ q4 | with_reducible refine Below.step ?_ q5)))); (case a2 => exact By.below p2 (by (repeat (first | with_reducible exact Below.refl _ _ | with_reducible refine Below.drew ?_ | with_reducible refine Below.al0 ?_ _ | with_reducible refine Below.step ?_ q1 | with_reducible refine Below.step ?_ q2 | with_reducible refine Below.step ?_ q3 | with_reducible refine Below.step ?_ q4 | with_reducible refine Below.step ?_ q5)))); (case a3 => exact By.below p3 (by (repeat (first | with_reducible exact Below.refl _ _ | with_reducible refine Below.drew ?_ | with_reducible refine Below.al0 ?_ _ | with_reducible refine Below.step ?_ q1 | with_reducible refine Below.step ?_ q2 | with_reducible refine Below.step ?_ q3 | with_reducible refine Below.step ?_ q4 | with_reducible refine Below.step ?_ q5)))); (case a4 => exact By.below p4 (by (repeat (first | with_reducible exact Below.refl _ _ | with_reducible refine Below.drew ?_ | with_reducible refine Below.al0 ?_ _ | with_reducible refine Below.step ?_ q1 | with_reducible refine Below.step ?_ q2 | with_reducible refine Below.step ?_ q3 | with_reducible refine Below.step ?_ q4 | with_reducible refine Below.step ?_ q5)))); (case bb => (repeat (first | with_reducible exact Below.refl _ _ | with_reducible refine Below.drew ?_ | with_reducible refine Below.al0 ?_ _ | with_reducible refine Below.step ?_ q1 | with_reducible refine Below.step ?_ q2 | with_reducible refine Below.step ?_ q3 | with_reducible refine Below.step ?_ q4 | with_reducible refine Below.step ?_ q5))); rintro e w6 ⟨A5, n5, c5, rfl, p5, q5⟩)
            | (go_at_call 28; (with_reducible refine (HK.out _ _ _ _ _ _ ⟨_, _, heap_alloc_new w3 _⟩ ?a1 ?a2 ?a3 ?a4 ?bb).mono ?_); (case a1 => exact By.below p1 (by (repeat (first | with_reducible exact Below.refl _ _ | with_reducible refine Below.drew ?_ | with_reducible refine Below.al0 ?_ _ | with_reducible refine Below.step ?_ q1 | with_reducible refine Below.step ?_ q2 | with_reducible refine Below.step ?_ q3 | with_reducible refine Below.step ?_ q4 | with_reducible refine Below.step ?_ q5)))); (case a2 => exact By.below p2 (by (repeat (first | with_reducible exact Below.refl _ _ | with_reducible refine Below.drew ?_ | with_reducible refine Below.al0 ?_ _ | with_reducible refine Below.step ?_ q1 | with_reducible refine Below.step ?_ q2 | with_reducible refine Below.step ?_ q3 | with_reducible refine Below.step ?_ q4 | with_reducible refine Below.step ?_ q5)))); (case a3 => exact By.below p3 (by (repeat (first | with_reducible exact Below.refl _ _ | with_reducible refine Below.drew ?_ | with_reducible refine Below.al0 ?_ _ | with_reducible refine Below.step ?_ q1 | with_reducible refine Below.step ?_ q2 | with_reducible refine Below.step ?_ q3 | with_reducible refine Below.step ?_ q4 | with_reducible refine Below.step ?_ q5)))); (case a4 => exact By.below p4 (by (repeat (first | with_reducible exact Below.refl _ _ | with_reducible refine Below.drew ?_ | with_reducible refine Below.al0 ?_ _ | with_reducible refine Below.step ?_ q1 | with_reducible refine Below.step ?_ q2 | with_reducible refine Below.step ?_ q3 | with_reducible refine Below.step ?_ q4 | with_reducible refine Below.step ?_ q5)))); (case bb => (repeat (first | with_reducible exact Below.refl _ _ | with_reducible refine Below.drew ?_ | with_reducible refine Below.al0 ?_ _ | with_reducible refine Below.step ?_ q1 | with_reducible refine Below.step ?_ q2 | with_reducible refine Below.step ?_ q3 | with_reducible refine Below.step ?_ q4 | with_reducible refine Below.step ?_ q5))); rintro e w6 ⟨A5, n5, c5, rfl, p5, q5⟩)
            | (go_at_call 28; (with_reducible refine (HK.out _ _ _ _ _ _ ⟨_, _, heap_alloc_new w4 _⟩ ?a1 ?a2 ?a3 ?a4 ?bb).mono ?_); (case a1 => exact By.below p1 (by (repeat (first | with_reducible exact Below.refl _ _ | with_reducible refine Below.drew ?_ | with_reducible refine Below.al0 ?_ _ | with_reducible refine Below.step ?_ q1 | with_reducible refine Below.step ?_ q2 | with_reducible refine Below.step ?_ q3 | with_reducible refine Below.step ?_ q4 | with_reducible refine Below.step ?_ q5)))); (case a2 => exact By.below p2 (by (repeat (first | with_reducible exact Below.refl _ _ | with_reducible refine Below.drew ?_ | with_reducible refine Below.al0 ?_ _ | with_reducible refine Below.step ?_ q1 | with_reducible refine Below.step ?_ q2 | with_reducible refine Below.step ?_ q3 | with_reducible refine Below.step ?_ q4 | with_reducible refine Below.step ?_ q5)))); (case a3 => exact By.below p3 (by (repeat (first | with_reducible exact Below.refl _ _ | with_reducible refine Below.drew ?_ | with_reducible refine Below.al0 ?_ _ | with_reducible refine Below.step ?_ q1 | with_reducible refine Below.step ?_ q2 | with_reducible refine Below.step ?_ q3 | with_reducible refine Below.step ?_ q4 | with_reducible refine Below.step ?_ q5)))); (case a4 => exact By.below p4 (by (repeat (first | with_reducible exact Below.refl _ _ | with_reducible refine Below.drew ?_ | with_reducible refine Below.al0 ?_ _ | with_reducible refine Below.step ?_ q1 | with_reducible refine Below.step ?_ q2 | with_reducible refine Below.step ?_ q3 | with_reducible refine Below.step ?_ q4 | with_reducible refine Below.step ?_ q5)))); (case bb => (repeat (first | with_reducible exact Below.refl _ _ | with_reducible refine Below.drew ?_ | with_reducible refine Below.al0 ?_ _ | with_reducible refine Below.step ?_ q1 | with_reducible refine Below.step ?_ q2 | with_reducible refine Below.step ?_ q3 | with_reducible refine Below.step ?_ q4 | with_reducible refine Below.step ?_ q5))); rintro e w6 ⟨A5, n5, c5, rfl, p5, q5⟩)
            | (go_at_call 28; (with_reducible refine (HK.out _ _ _ _ _ _ ⟨_, _, heap_alloc_new w5 _⟩ ?a1 ?a2 ?a3 ?a4 ?bb).mono ?_); (case a1 => exact By.below p1 (by (repeat (first | with_reducible exact Below.refl _ _ | with_reducible refine Below.drew ?_ | with_reducible refine Below.al0 ?_ _ | with_reducible refine Below.step ?_ q1 | with_reducible refine Below.step ?_ q2 | with_reducible refine Below.step ?_ q3 | with_reducible refine Below.step ?_ q4 | with_reducible refine Below.step ?_ q5)))); (case a2 => exact By.below p2 (by (repeat (first | with_reducible exact Below.refl _ _ | with_reducible refine Below.drew ?_ | with_reducible refine Below.al0 ?_ _ | with_reducible refine Below.step ?_ q1 | with_reducible refine Below.step ?_ q2 | with_reducible refine Below.step ?_ q3 | with_reducible refine Below.step ?_ q4 | with_reducible refine Below.step ?_ q5)))); (case a3 => exact By.below p3 (by (repeat (first | with_reducible exact Below.refl _ _ | with_reducible refine Below.drew ?_ | with_reducible refine Below.al0 ?_ _ | with_reducible refine Below.step ?_ q1 | with_reducible refine Below.step ?_ q2 | with_reducible refine Below.step ?_ q3 | with_reducible refine Below.step ?_ q4 | with_reducible refine Below.step ?_ q5)))); (case a4 => exact By.below p4 (by (repeat (first | with_reducible exact Below.refl _ _ | with_reducible refine Below.drew ?_ | with_reducible refine Below.al0 ?_ _ | with_reducible refine Below.step ?_ q1 | with_reducible refine Below.step ?_ q2 | with_reducible refine Below.step ?_ q3 | with_reducible refine Below.step ?_ q4 | with_reducible refine Below.step ?_ q5)))); (case bb => (repeat (first | with_reducible exact Below.refl _ _ | with_reducible refine Below.drew ?_ | with_reducible refine Below.al0 ?_ _ | with_reducible refine Below.step ?_ q1 | with_reducible refine Below.step ?_ q2 | with_reducible refine Below.step ?_ q3 | with_reducible refine Below.step ?_ q4 | with_reducible refine Below.step ?_ q5))); rintro e w6 ⟨A5, n5, c5, rfl, p5, q5⟩))
  all_goals
    go_wp2
    go_ret2
    exact ⟨B1.out.trans (Below.mono (by (repeat (first | with_reducible exact Below.refl _ _ | with_reducible refine Below.drew ?_ | with_reducible refine Below.al0 ?_ _ | with_reducible refine Below.step ?_ q1 | with_reducible refine Below.step ?_ q2 | with_reducible refine Below.step ?_ q3 | with_reducible refine Below.step ?_ q4 | with_reducible refine Below.step ?_ q5))) B1.out.size), _, _, _, rfl, p5⟩
end Go.Proofs.YtdohebhbiokljaaDoor

/- The contracts of the program's Write and Length, of whatever Ueb. -/
namespace Go.Proofs.YtdohebhbiokljaaDoor
open Go.RowKit

set_option maxRecDepth 100000 in
set_option maxHeartbeats 1000000 in
theorem write_bad (k n seg size : Int) (d : List Value) (w : World) (hk : -9223372036854775808 ≤ k ∧ k ≤ 9223372036854775807) (hn : -9223372036854775808 ≤ n ∧ n ≤ 9223372036854775807) (hs : -9223372036854775808 ≤ seg ∧ seg ≤ 9223372036854775807) (hz : -9223372036854775808 ≤ size ∧ size ≤ 9223372036854775807) (hd : d.length = 64) (hag : ¬ agOK k n seg size) :
    Calls Tryd.prog 17 #[.agg (uebC k n seg size d)] w fun e w' => Below w.heap.size w w' ∧ e = .returned (.tuple #[.slice none 0 0, .int .i64 133]) := by
  have q := fun w => check_any_ueb k n seg size d w hk hn hs hz
  simp only [if_neg hag] at q
  have Q := hide q
  have HB := hide (Blk.new w 37 (uebC k n seg size d))
  have hsz : (uebC k n seg size d).size = 68 := by simp [uebC, hd]
  have HAL := hide ((Below.refl w.heap.size w).alloc (Nat.le_refl _) (.cells (uebC k n seg size d) 37))
  have HSZ := hide hsz
  clear q hag hsz
  generalize uebC k n seg size d = cs at *
  go_enter Tryd.func17, Tryd.ntmps17
  go_wp2_with (refine wpList_load_row (o := ⟨some 6, .load _ _, _, _, _, _⟩) rfl 37 _ rfl w.heap.size rfl 37 cs (0, 0) _ HB.out Tryd.underlying37 rfl (by rw [HSZ.out]; kernel_rfl) ?_)
  refine (Q.out _).mono ?_
  rintro e w1 ⟨b1, rfl⟩
  have B1 := hide (HAL.out.trans (b1.mono HAL.out.size))
  clear b1
  go_wp2_with fail
  go_ret2
  exact ⟨B1.out, rfl⟩

/-- How many bytes a Ueb has. -/
def uebLen (k n seg size : Int) (sh sg : List UInt8) : Int := ((encs (uebRows k n seg size sh sg)).length : Int)

set_option maxRecDepth 100000 in
set_option maxHeartbeats 1000000 in
theorem length_any (k n seg size : Int) (sh sg : List UInt8) (w : World) (hk : -9223372036854775808 ≤ k ∧ k ≤ 9223372036854775807) (hn : -9223372036854775808 ≤ n ∧ n ≤ 9223372036854775807) (hs : -9223372036854775808 ≤ seg ∧ seg ≤ 9223372036854775807) (hz : -9223372036854775808 ≤ size ∧ size ≤ 9223372036854775807) (h1 : sh.length = 32) (h2 : sg.length = 32) (ht : Tab w) :
    Calls Tryd.prog 18 #[.agg (uebC k n seg size (bcells sh ++ bcells sg))] w fun e w' => Below w.heap.size w w' ∧
      e = .returned (if agOK k n seg size then .tuple #[.int .i64 (uebLen k n seg size sh sg), .int .i64 0] else .tuple #[.int .i64 0, .int .i64 133]) := by
  have HB := hide (Blk.new w 37 (uebC k n seg size (bcells sh ++ bcells sg)))
  have hsz : (uebC k n seg size (bcells sh ++ bcells sg)).size = 68 := by simp [uebC, h1, h2]
  have HAL := hide ((Below.refl w.heap.size w).alloc (Nat.le_refl _) (.cells (uebC k n seg size (bcells sh ++ bcells sg)) 37))
  have HSZ := hide hsz
  clear hsz
  by_cases hag : agOK k n seg size
  · have Q := hide (write_ok k n seg size sh sg _ hk hn hs hz h1 h2 (ht.below HAL.out) hag)
    rw [if_pos hag]
    clear hag ht hk hn hs hz h1 h2
    unfold uebLen
    generalize uebC k n seg size (bcells sh ++ bcells sg) = cs at *
    generalize encs (uebRows k n seg size sh sg) = l at *
    go_enter Tryd.func18, Tryd.ntmps18
    go_wp2_with (refine wpList_load_row (o := ⟨some 7, .load _ _, _, _, _, _⟩) rfl 37 _ rfl w.heap.size rfl 37 cs (0, 0) _ HB.out Tryd.underlying37 rfl (by rw [HSZ.out]; kernel_rfl) ?_)
    refine Q.out.mono ?_
    rintro e w1 ⟨b1, A, n', c, rfl, o1⟩
    have hn' : n' = l.length := by
      obtain ⟨A', c', hv, _⟩ := o1.by_.form
      injection hv
    subst hn'
    have B1 := hide (HAL.out.trans (b1.mono HAL.out.size))
    clear b1 Q o1
    go_wp2_with fail
    go_ret2
    exact ⟨B1.out, rfl⟩
  · have Q := hide (write_bad k n seg size (bcells sh ++ bcells sg) _ hk hn hs hz (by simp [h1, h2]) hag : Calls _ _ _ (w.alloc (.cells (uebC k n seg size (bcells sh ++ bcells sg)) 37)) _)
    rw [if_neg hag]
    clear hag ht hk hn hs hz h1 h2
    generalize uebC k n seg size (bcells sh ++ bcells sg) = cs at *
    go_enter Tryd.func18, Tryd.ntmps18
    go_wp2_with (refine wpList_load_row (o := ⟨some 7, .load _ _, _, _, _, _⟩) rfl 37 _ rfl w.heap.size rfl 37 cs (0, 0) _ HB.out Tryd.underlying37 rfl (by rw [HSZ.out]; kernel_rfl) ?_)
    refine Q.out.mono ?_
    rintro e w1 ⟨b1, rfl⟩
    have B1 := hide (HAL.out.trans (b1.mono HAL.out.size))
    clear b1 Q
    go_wp2_with fail
    go_ret2
    exact ⟨B1.out, rfl⟩
end Go.Proofs.YtdohebhbiokljaaDoor

/- Plain: what a Ueb's bytes are read as. -/
namespace Go.Proofs.YtdohebhbiokljaaDoor
open Go.RowKit

structure US where
  k : Int
  n : Int
  seg : Int
  size : Int
  sh : List UInt8
  sg : List UInt8
deriving DecidableEq
def US.zero : US := ⟨0, 0, 0, 0, List.replicate 32 0, List.replicate 32 0⟩
def US.wf (u : US) : Prop := u.sh.length = 32 ∧ u.sg.length = 32
def US.cells (u : US) : Array Value := uebC u.k u.n u.seg u.size (bcells u.sh ++ bcells u.sg)
def US.may (u : US) : Prop := agOK u.k u.n u.seg u.size
def US.in (u : US) : Prop := (0 ≤ u.k ∧ u.k ≤ 2147483647) ∧ (0 ≤ u.n ∧ u.n ≤ 2147483647) ∧ (0 ≤ u.seg ∧ u.seg ≤ 2147483647) ∧ (0 ≤ u.size ∧ u.size ≤ 2147483647)
theorem US.zero_wf : US.zero.wf := by unfold US.wf US.zero; simp
theorem US.zero_in : US.zero.in := by unfold US.in US.zero; simp
theorem US.size_ {u : US} (h : u.wf) : u.cells.size = 68 := by unfold US.cells uebC; simp [h.1, h.2]
theorem rdN_in (l : List UInt8) : 0 ≤ rdN l 2147483647 ∧ rdN l 2147483647 ≤ 2147483647 := by
  unfold rdN rd
  split
  · rename_i x hx
    split at hx
    · rename_i y _
      split at hx
      · cases hx; omega
      · cases hx
    · cases hx
  · omega

/-- Which of the six names it is; 6 where it is none. -/
def kx (s : List UInt8) : Nat := if s = tK then 0 else if s = tN then 1 else if s = tSeg then 2 else if s = tSize then 3 else if s = tSegments then 4 else if s = tShares then 5 else 6
theorem kx_key : ∀ k, k < 6 → kx (keyB k).data.toList = k := by decide
theorem key_kx {s : List UInt8} {k : Nat} (h : kx s = k) (hk : k < 6) : s = (keyB k).data.toList := by
  unfold kx at h
  repeat' split at h
  all_goals subst h
  all_goals first
    | omega
    | (rename_i h; exact h)
theorem key_no {s : List UInt8} (h : ¬ kx s < 6) : ∀ k, k < 6 → s ≠ (keyB k).data.toList := fun k hk he => by
  rw [he, kx_key k hk] at h
  omega

def okV (k : Nat) (v : List UInt8) : Bool := if k < 4 then decide (rdE v 2147483647 = 0) else decide (v.length = 32)
def putU (u : US) (k : Nat) (v : List UInt8) : US := match k with
  | 0 => { u with k := rdN v 2147483647 }
  | 1 => { u with n := rdN v 2147483647 }
  | 2 => { u with seg := rdN v 2147483647 }
  | 3 => { u with size := rdN v 2147483647 }
  | 4 => { u with sg := v }
  | _ => { u with sh := v }
def stepU (u : US) (x : Rw) : Option US := if kx x.1 < 6 ∧ okV (kx x.1) x.2 = true then some (putU u (kx x.1) x.2) else none
def foldU : US → List Rw → Option US
  | u, [] => some u
  | u, x :: r => match stepU u x with
    | none => none
    | some u' => foldU u' r
theorem putU_wf {u : US} {k : Nat} {v : List UInt8} (h : u.wf) (hk : k < 6) (hv : okV k v = true) : (putU u k v).wf := by
  have hc : k = 0 ∨ k = 1 ∨ k = 2 ∨ k = 3 ∨ k = 4 ∨ k = 5 := by omega
  unfold okV at hv
  unfold US.wf at *
  rcases hc with rfl | rfl | rfl | rfl | rfl | rfl
  all_goals simp [putU] at hv ⊢
  all_goals first | exact h | exact ⟨h.1, hv⟩ | exact ⟨hv, h.2⟩
theorem putU_in {u : US} {k : Nat} {v : List UInt8} (h : u.in) (hk : k < 6) : (putU u k v).in := by
  have hc : k = 0 ∨ k = 1 ∨ k = 2 ∨ k = 3 ∨ k = 4 ∨ k = 5 := by omega
  have hr := rdN_in v
  unfold US.in at *
  rcases hc with rfl | rfl | rfl | rfl | rfl | rfl
  all_goals simp only [putU]
  all_goals omega
theorem putU_num {u : US} {k : Nat} {v : List UInt8} (hk : k < 4) : (putU u k v).cells = u.cells.setIfInBounds k (.int .i64 (rdN v 2147483647)) := by
  have hc : k = 0 ∨ k = 1 ∨ k = 2 ∨ k = 3 := by omega
  rcases hc with rfl | rfl | rfl | rfl
  all_goals simp [putU, US.cells, uebC]
theorem putU_dig {u : US} {k : Nat} {v : List UInt8} (h : u.wf) (hk : k < 6) (h4 : ¬ k < 4) (hv : v.length = 32) : (putU u k v).cells = (u.cells.toList.take (tgt 0 k).off ++ bcells v ++ u.cells.toList.drop ((tgt 0 k).off + (bcells v).length)).toArray := by
  have hc : k = 4 ∨ k = 5 := by omega
  unfold US.wf at h
  have e1 : (bcells u.sh).length = 32 := by simp [h.1]
  have e2 : (bcells u.sg).length = 32 := by simp [h.2]
  have e3 : (bcells v).length = 32 := by simp [hv]
  have d1 : (bcells u.sh).drop 32 = [] := List.drop_eq_nil_of_le (by omega)
  have d2 : (bcells u.sg).drop 32 = [] := List.drop_eq_nil_of_le (by omega)
  have t1 : (bcells u.sh).take 32 = bcells u.sh := List.take_of_length_le (by omega)
  rcases hc with rfl | rfl
  · simp [putU, US.cells, uebC, tgt, e3, List.take_append, List.drop_append, e1, e2, d1, d2, t1, hv]
  · simp [putU, US.cells, uebC, tgt, e3, List.take_append, List.drop_append, e1, e2, d1, d2, t1, hv]

theorem fold_some : ∀ (R : List Rw) (u u' : US), foldU u R = some u' → ∀ x ∈ R, kx x.1 < 6 ∧ okV (kx x.1) x.2 = true
  | [], _, _, _ => by simp
  | x :: r, u, u', h => by
    unfold foldU stepU at h
    intro y hy
    by_cases hx : kx x.1 < 6 ∧ okV (kx x.1) x.2 = true
    · rw [if_pos hx] at h
      rcases List.mem_cons.1 hy with rfl | hy
      · exact hx
      · exact fold_some r _ _ h y hy
    · rw [if_neg hx] at h; cases h
theorem fold_in : ∀ (R : List Rw) (u u' : US), u.wf → u.in → foldU u R = some u' → u'.wf ∧ u'.in
  | [], u, u', hw, hi, h => by cases h; exact ⟨hw, hi⟩
  | x :: r, u, u', hw, hi, h => by
    unfold foldU stepU at h
    by_cases hx : kx x.1 < 6 ∧ okV (kx x.1) x.2 = true
    · rw [if_pos hx] at h
      exact fold_in r _ _ (putU_wf hw hx.1 hx.2) (putU_in hi hx.1) h
    · rw [if_neg hx] at h; cases h

def rk : Nat → Nat
  | 3 => 5
  | 4 => 3
  | 5 => 4
  | k => k
theorem rk_lt : ∀ i, i < 6 → ∀ j, j < 6 → leB (keyB j).data.toList (keyB i).data.toList = false → rk i < rk j := by decide
theorem rk_6 : ∀ i, i < 6 → rk i < 6 := by decide
theorem rk_inj : ∀ i, i < 6 → ∀ j, j < 6 → rk i = rk j → i = j := by decide

/-- Six rows that may be, of known names: the six names in their order. -/
theorem six {R : List Rw} (hm : may R) (hl : R.length = 6) (hk : ∀ x ∈ R, kx x.1 < 6) : ∃ v0 v1 v2 v3 v4 v5, R = [(tK, v0), (tN, v1), (tSeg, v2), (tSegments, v3), (tShares, v4), (tSize, v5)] := by
  match R, hl with
  | [x0, x1, x2, x3, x4, x5], _ =>
    have h1 := hm 1 (by simp)
    have h2 := hm 2 (by simp)
    have h3 := hm 3 (by simp)
    have h4 := hm 4 (by simp)
    have h5 := hm 5 (by simp)
    have k0 := hk x0 (by simp)
    have k1 := hk x1 (by simp)
    have k2 := hk x2 (by simp)
    have k3 := hk x3 (by simp)
    have k4 := hk x4 (by simp)
    have k5 := hk x5 (by simp)
    obtain ⟨a0, v0⟩ := x0
    obtain ⟨a1, v1⟩ := x1
    obtain ⟨a2, v2⟩ := x2
    obtain ⟨a3, v3⟩ := x3
    obtain ⟨a4, v4⟩ := x4
    obtain ⟨a5, v5⟩ := x5
    simp [rowB] at h1 h2 h3 h4 h5
    simp only at k0 k1 k2 k3 k4 k5
    have e0 := key_kx rfl k0
    have e1 := key_kx rfl k1
    have e2 := key_kx rfl k2
    have e3 := key_kx rfl k3
    have e4 := key_kx rfl k4
    have e5 := key_kx rfl k5
    have r1 := rk_lt _ k0 _ k1 (by rw [← e0, ← e1]; exact h1.2)
    have r2 := rk_lt _ k1 _ k2 (by rw [← e1, ← e2]; exact h2.2)
    have r3 := rk_lt _ k2 _ k3 (by rw [← e2, ← e3]; exact h3.2)
    have r4 := rk_lt _ k3 _ k4 (by rw [← e3, ← e4]; exact h4.2)
    have r5 := rk_lt _ k4 _ k5 (by rw [← e4, ← e5]; exact h5.2)
    have s5 := rk_6 _ k5
    have g0 : kx a0 = 0 := rk_inj _ k0 0 (by omega) (by show _ = 0; omega)
    have g1 : kx a1 = 1 := rk_inj _ k1 1 (by omega) (by show _ = 1; omega)
    have g2 : kx a2 = 2 := rk_inj _ k2 2 (by omega) (by show _ = 2; omega)
    have g3 : kx a3 = 4 := rk_inj _ k3 4 (by omega) (by show _ = 3; omega)
    have g4 : kx a4 = 5 := rk_inj _ k4 5 (by omega) (by show _ = 4; omega)
    have g5 : kx a5 = 3 := rk_inj _ k5 3 (by omega) (by show _ = 5; omega)
    refine ⟨v0, v1, v2, v3, v4, v5, ?_⟩
    rw [key_kx g0 (by omega), key_kx g1 (by omega), key_kx g2 (by omega), key_kx g3 (by omega), key_kx g4 (by omega), key_kx g5 (by omega)]
    rfl

def goodV (v0 v1 v2 v3 v4 v5 : List UInt8) : Prop := rdE v0 2147483647 = 0 ∧ rdE v1 2147483647 = 0 ∧ rdE v2 2147483647 = 0 ∧ rdE v5 2147483647 = 0 ∧ v3.length = 32 ∧ v4.length = 32
instance (v0 v1 v2 v3 v4 v5 : List UInt8) : Decidable (goodV v0 v1 v2 v3 v4 v5) := by unfold goodV; infer_instance
theorem stepU_k (u : US) (k : Nat) (s v : List UInt8) (h : kx s = k) (hk : k < 6) : stepU u (s, v) = if okV k v = true then some (putU u k v) else none := by
  unfold stepU
  simp only [h]
  by_cases h2 : okV k v = true
  · rw [if_pos ⟨hk, h2⟩, if_pos h2]
  · rw [if_neg (fun h3 => h2 h3.2), if_neg h2]
theorem fold_six (v0 v1 v2 v3 v4 v5 : List UInt8) : foldU US.zero [(tK, v0), (tN, v1), (tSeg, v2), (tSegments, v3), (tShares, v4), (tSize, v5)] = if goodV v0 v1 v2 v3 v4 v5 then some ⟨rdN v0 2147483647, rdN v1 2147483647, rdN v2 2147483647, rdN v5 2147483647, v4, v3⟩ else none := by
  have e0 : kx tK = 0 := by decide
  have e1 : kx tN = 1 := by decide
  have e2 : kx tSeg = 2 := by decide
  have e3 : kx tSegments = 4 := by decide
  have e4 : kx tShares = 5 := by decide
  have e5 : kx tSize = 3 := by decide
  simp only [foldU, stepU_k _ _ _ _ e0 (by omega), stepU_k _ _ _ _ e1 (by omega), stepU_k _ _ _ _ e2 (by omega), stepU_k _ _ _ _ e3 (by omega), stepU_k _ _ _ _ e4 (by omega), stepU_k _ _ _ _ e5 (by omega)]
  unfold goodV okV
  by_cases h0 : rdE v0 2147483647 = 0 <;> by_cases h1 : rdE v1 2147483647 = 0 <;> by_cases h2 : rdE v2 2147483647 = 0 <;> by_cases h3 : v3.length = 32 <;> by_cases h4 : v4.length = 32 <;> by_cases h5 : rdE v5 2147483647 = 0 <;> simp [h0, h1, h2, h3, h4, h5, putU]

def readU (b : List UInt8) : US × Nat × Nat :=
  if (unpack b).2.2 = 0 then
    match (if (unpack b).1.length = 6 then foldU US.zero (unpack b).1 else none) with
    | none => (US.zero, 0, 132)
    | some u => if agOK u.k u.n u.seg u.size then (u, 0, 0) else (US.zero, 0, 133)
  else (US.zero, (unpack b).2.1, (unpack b).2.2)
def readV (r : US × Nat × Nat) : Ending := .returned (.tuple #[.agg r.1.cells, .int .i64 (r.2.1 : Int), .int .i64 (r.2.2 : Int)])
theorem readU_form {b : List UInt8} {p : Nat} (h : unpack b = ([], p, 131)) : readU b = (US.zero, p, 131) := by unfold readU; rw [h]; rfl
theorem readU_len {b : List UInt8} {R : List Rw} (h : unpack b = (R, 0, 0)) (hl : R.length ≠ 6) : readU b = (US.zero, 0, 132) := by unfold readU; rw [h]; simp [hl]
theorem readU_no {b : List UInt8} {R : List Rw} (h : unpack b = (R, 0, 0)) (hf : foldU US.zero R = none) : readU b = (US.zero, 0, 132) := by unfold readU; rw [h]; simp [hf]
theorem readU_some {b : List UInt8} {R : List Rw} {u : US} (h : unpack b = (R, 0, 0)) (hl : R.length = 6) (hf : foldU US.zero R = some u) : readU b = if agOK u.k u.n u.seg u.size then (u, 0, 0) else (US.zero, 0, 133) := by unfold readU; rw [h]; simp [hf, hl]
end Go.Proofs.YtdohebhbiokljaaDoor

/- Joined texts: RdM, RdP, RdQ. -/

/- Plain: a Ueb's digests, byte by byte. -/
namespace Go.Proofs.YtdohebhbiokljaaDoor
open Go.RowKit

def mix (i : Nat) (v : List UInt8) : List UInt8 := v.take i ++ List.replicate (32 - i) 0
theorem mix_zero (v : List UInt8) : mix 0 v = List.replicate 32 0 := by simp [mix]
theorem mix_all {v : List UInt8} (h : v.length = 32) : mix 32 v = v := by
  unfold mix; rw [List.take_of_length_le (by omega)]; simp
theorem mix_len {v : List UInt8} (h : v.length = 32) {i : Nat} (hi : i ≤ 32) : (mix i v).length = 32 := by
  unfold mix; simp; omega
theorem mix_set {v : List UInt8} (h : v.length = 32) {i : Nat} (hi : i < 32) {x : UInt8} (hx : v[i]? = some x) : (mix i v).set i x = mix (i + 1) v := by
  unfold mix
  rw [List.set_append_right _ _ (by rw [List.length_take]; omega), List.length_take, show i - min i v.length = 0 by omega, show 32 - i = (32 - (i + 1)) + 1 by omega, List.replicate_succ, List.set_cons_zero, List.take_add_one, hx]
  simp
theorem bcells_set (l : List UInt8) (i : Nat) (x : UInt8) : (bcells l).set i (.int .u8 (x.toNat : Int)) = bcells (l.set i x) := by
  unfold bcells
  rw [List.map_set]
theorem sh_set (k n seg size : Int) (sh sg : List UInt8) (h : sh.length = 32) (i : Nat) (hi : i < 32) (x : UInt8) :
    (US.cells ⟨k, n, seg, size, sh, sg⟩).setIfInBounds (4 + i) (.int .u8 (x.toNat : Int)) = US.cells ⟨k, n, seg, size, sh.set i x, sg⟩ := by
  unfold US.cells uebC
  simp only [List.setIfInBounds_toArray]
  congr 1
  rw [show 4 + i = i + 1 + 1 + 1 + 1 by omega]
  simp only [List.set_cons_succ]
  rw [List.set_append_left _ _ (by simp; omega), bcells_set]
theorem sg_set (k n seg size : Int) (sh sg : List UInt8) (h : sh.length = 32) (i : Nat) (hi : i < 32) (x : UInt8) :
    (US.cells ⟨k, n, seg, size, sh, sg⟩).setIfInBounds (36 + i) (.int .u8 (x.toNat : Int)) = US.cells ⟨k, n, seg, size, sh, sg.set i x⟩ := by
  unfold US.cells uebC
  simp only [List.setIfInBounds_toArray]
  congr 1
  rw [show 36 + i = (32 + i) + 1 + 1 + 1 + 1 by omega]
  simp only [List.set_cons_succ]
  rw [List.set_append_right _ _ (by simp; omega), bcells_length, h, show 32 + i - 32 = i by omega, bcells_set]

/-- The struct after i rounds. -/
def mixU (n0 n1 n2 n5 : Int) (w3 w4 : List UInt8) (i : Nat) : US := ⟨n0, n1, n2, n5, mix i w4, mix i w3⟩
theorem mixU_step {n0 n1 n2 n5 : Int} {w3 w4 : List UInt8} (h3 : w3.length = 32) (h4 : w4.length = 32) {i : Nat} (hi : i < 32) {x y : UInt8} (hx : w3[i]? = some x) (hy : w4[i]? = some y) :
    ((mixU n0 n1 n2 n5 w3 w4 i).cells.setIfInBounds (36 + i) (.int .u8 (x.toNat : Int))).setIfInBounds (4 + i) (.int .u8 (y.toNat : Int)) = (mixU n0 n1 n2 n5 w3 w4 (i + 1)).cells := by
  unfold mixU
  rw [sg_set _ _ _ _ _ _ (mix_len h4 (by omega)) i hi, sh_set _ _ _ _ _ _ (mix_len h4 (by omega)) i hi, mix_set h3 hi hx, mix_set h4 hi hy]
theorem mixU_zero (n0 n1 n2 n5 : Int) (w3 w4 : List UInt8) : (mixU n0 n1 n2 n5 w3 w4 0).cells = uebC n0 n1 n2 n5 (bcells (List.replicate 32 0) ++ bcells (List.replicate 32 0)) := by
  unfold mixU US.cells; rw [mix_zero, mix_zero]
theorem mixU_all (n0 n1 n2 n5 : Int) {w3 w4 : List UInt8} (h3 : w3.length = 32) (h4 : w4.length = 32) : mixU n0 n1 n2 n5 w3 w4 32 = ⟨n0, n1, n2, n5, w4, w3⟩ := by
  unfold mixU; rw [mix_all h3, mix_all h4]
theorem mixU_wf (n0 n1 n2 n5 : Int) {w3 w4 : List UInt8} (h3 : w3.length = 32) (h4 : w4.length = 32) {i : Nat} (hi : i ≤ 32) : (mixU n0 n1 n2 n5 w3 w4 i).wf := ⟨mix_len h4 hi, mix_len h3 hi⟩
theorem storeVar_one {ty : TypeId} {a : Addr} {v : Value} (h : v.oneCell' = true) : storeVar ty a v = storeVar ty a (.agg #[v]) := by
  have hc : v.cells = #[v] := by cases v <;> first | rfl | cases h
  unfold storeVar
  rw [hc]
  rfl
/-- A cell of a block is stored. -/
theorem wpList_store_blk {P : Program} {ops : Array Oper} {rest : List Oper} {o : Oper} {a : Act} {w : World} {Q : Exit → Act → World → Prop} {g : Nat} {t : TypeId} {old : Array Value} (hb : Blk w g t old) (j : Nat) (hj : j < old.size) (v : Value)
    (h1 : v.oneCell' = true) (hgd : o.guard = none) (ty : TypeId) (x y : Operand) (ho : o.op = .store ty x y)
    (hi : (P.info? ty).map (·.size) = some 1) (hx : a.eval x = .pointer (some ⟨g, j, none⟩)) (hy : a.eval y = v)
    (h : ∀ w', Blk w' g t (old.setIfInBounds j v) → w.grownBy w' (some g) → wpList P ops Q rest (a.put o.dst undef) w') : wpList P ops Q (o :: rest) a w := by
  refine wpList_plain hgd fun K hK => ?_
  have ht : w.there g j (#[v] : Array Value).size := fun k hk => by
    have hk0 : k = 0 := by simp at hk; omega
    subst hk0
    refine ⟨?_, hb.frozen _⟩
    rw [Nat.add_zero, hb.cell]; simp; omega
  unfold Oper.wp execOp
  simp only [ho, hx, hy, Instr.storeAt, Instr.sureAddr, Sem.run_bind, Sem.run_pure, Result.andThen_ok, storeVar_one h1, run_storeVar_mid (P := P) w g j ty #[v] ht hi (by simp [h1])]
  exact hK _ _ (h _ (hb.set_ j v) (store_grown w g j v))
end Go.Proofs.YtdohebhbiokljaaDoor

/- Plain: a Ueb's bytes, there and back. -/
namespace Go.Proofs.YtdohebhbiokljaaDoor
open Go.RowKit

def writeU (u : US) : List UInt8 := encs (uebRows u.k u.n u.seg u.size u.sh u.sg)
theorem agOK_in {k n seg size : Int} (h : agOK k n seg size) : (0 ≤ k ∧ k ≤ 2147483647) ∧ (0 ≤ n ∧ n ≤ 2147483647) ∧ (0 ≤ seg ∧ seg ≤ 2147483647) ∧ (0 ≤ size ∧ size ≤ 2147483647) := by
  obtain ⟨⟨h1, h2, h3, h4, h5⟩, h6, h7, h8, h9, _⟩ := h
  have hu : upN 65536 k.toNat ≤ 65791 := by
    unfold upN
    exact Nat.le_trans (Nat.div_le_self _ _) (by omega)
  have hd : seg = k * (seg / k) := by
    have := Int.mul_ediv_add_emod seg k
    omega
  have hq0 : 0 ≤ seg / k := Int.ediv_nonneg (by omega) (by omega)
  have hq : k * (seg / k) ≤ 255 * 65791 := Int.mul_le_mul (by omega) (by omega) hq0 (by omega)
  omega
theorem lst_numS {x : Int} (h : 0 ≤ x) : lst (numS x) = Lib.itoa x := by
  unfold numS
  rw [if_neg (by omega)]
  exact lst_itoaS x
theorem rd_num {x : Int} (h : 0 ≤ x ∧ x ≤ 2147483647) : rdN (lst (numS x)) 2147483647 = x ∧ rdE (lst (numS x)) 2147483647 = 0 := by
  have := rd_ok h.1 h.2 (by omega) (lst_numS h.1)
  unfold rdN rdE
  rw [this]
  refine ⟨?_, rfl⟩
  show (x.toNat : Int) = x
  omega
theorem num_rd {l : List UInt8} (h : rdE l 2147483647 = 0) : l = lst (numS (rdN l 2147483647)) := by
  unfold rdE at h
  cases hr : rd l 2147483647 with
  | none => rw [hr] at h; simp at h
  | some x =>
    have := (rd_some hr (by omega)).2.2
    unfold rdN
    rw [hr]
    simp only
    rw [lst_numS (by omega)]
    exact this

theorem writeU_unpack {u : US} (hw : u.wf) (hi : u.in) : unpack (writeU u) = (uebRows u.k u.n u.seg u.size u.sh u.sg, 0, 0) := by
  unfold US.in at hi
  exact unpack_encs _ (uebRows_may _ _ _ _ _ _ (by omega) (by omega) (by omega) (by omega) hw.1 hw.2)
theorem writeU_fold {u : US} (hw : u.wf) (hi : u.in) : foldU US.zero (uebRows u.k u.n u.seg u.size u.sh u.sg) = some u := by
  unfold US.in at hi
  unfold uebRows
  rw [fold_six, if_pos ⟨(rd_num hi.1).2, (rd_num hi.2.1).2, (rd_num hi.2.2.1).2, (rd_num hi.2.2.2).2, hw.2, hw.1⟩, (rd_num hi.1).1, (rd_num hi.2.1).1, (rd_num hi.2.2.1).1, (rd_num hi.2.2.2).1]
/-- There and back. -/
theorem readU_write {u : US} (hw : u.wf) (ha : u.may) : readU (writeU u) = (u, 0, 0) := by
  have hi : u.in := agOK_in ha
  rw [readU_some (writeU_unpack hw hi) rfl (writeU_fold hw hi), if_pos (show agOK _ _ _ _ from ha)]
/-- What is read is the bytes of what it is read as. -/
theorem readU_one {b : List UInt8} {u : US} (h : readU b = (u, 0, 0)) : b = writeU u ∧ u.wf ∧ u.may := by
  rcases unpack_cases b with ⟨R, h1, h2, h3⟩ | ⟨p, _, h1⟩
  · by_cases h6 : R.length = 6
    · rcases hf : foldU US.zero R with _ | u'
      · rw [readU_no h1 hf] at h; simp at h
      · rw [readU_some h1 h6 hf] at h
        by_cases ha : agOK u'.k u'.n u'.seg u'.size
        · rw [if_pos ha] at h
          simp only [Prod.mk.injEq, and_true] at h
          subst h
          have hwi := fold_in R _ _ US.zero_wf US.zero_in hf
          obtain ⟨v0, v1, v2, v3, v4, v5, rfl⟩ := six h3 h6 fun x hx => (fold_some _ _ _ hf x hx).1
          rw [fold_six] at hf
          by_cases hg : goodV v0 v1 v2 v3 v4 v5
          · rw [if_pos hg] at hf
            cases hf
            refine ⟨?_, hwi.1, ha⟩
            rw [h2]
            unfold writeU uebRows
            simp only
            rw [← num_rd hg.1, ← num_rd hg.2.1, ← num_rd hg.2.2.1, ← num_rd hg.2.2.2.1]
          · rw [if_neg hg] at hf; cases hf
        · rw [if_neg ha] at h; simp at h
    · rw [readU_len h1 h6] at h; simp at h
  · rw [readU_form h1] at h; simp at h
theorem readU_cases (b : List UInt8) : (∃ u, readU b = (u, 0, 0)) ∨ ∃ p e, readU b = (US.zero, p, e) ∧ e ≠ 0 ∧ p ≤ b.length ∧ e ≤ 133 := by
  rcases unpack_cases b with ⟨R, h1, h2, h3⟩ | ⟨p, hp, h1⟩
  · by_cases h6 : R.length = 6
    · rcases hf : foldU US.zero R with _ | u'
      · exact .inr ⟨0, 132, readU_no h1 hf, by omega, by omega, by omega⟩
      · by_cases ha : agOK u'.k u'.n u'.seg u'.size
        · exact .inl ⟨u', by rw [readU_some h1 h6 hf, if_pos ha]⟩
        · exact .inr ⟨0, 133, by rw [readU_some h1 h6 hf, if_neg ha], by omega, by omega, by omega⟩
    · exact .inr ⟨0, 132, readU_len h1 h6, by omega, by omega, by omega⟩
  · exact .inr ⟨p, 131, readU_form h1, by omega, by omega, by omega⟩
theorem readU_wf (b : List UInt8) : (readU b).1.wf := by
  rcases readU_cases b with ⟨u, h⟩ | ⟨p, e, h, _⟩
  · rw [h]; exact (readU_one h).2.1
  · rw [h]; exact US.zero_wf
end Go.Proofs.YtdohebhbiokljaaDoor

/- Two Uebs are compared. -/
namespace Go.Proofs.YtdohebhbiokljaaDoor
open Go.RowKit

theorem dig_size (w : World) : (sizeOf 35).run Tryd.prog w = .ok 32 w := by
  have h : (Tryd.prog.info? 35).map (·.size) = some 32 := by kernel_rfl
  rcases hi : Tryd.prog.info? 35 with _ | i
  · rw [hi] at h; cases h
  · rw [hi] at h
    simp only [Option.map_some, Option.some.injEq] at h
    simp [sizeOf, typeInfo, run_program, hi, h]
theorem byte_size (w : World) : (sizeOf 5).run Tryd.prog w = .ok 1 w := by
  have h : (Tryd.prog.info? 5).map (·.size) = some 1 := by kernel_rfl
  rcases hi : Tryd.prog.info? 5 with _ | i
  · rw [hi] at h; cases h
  · rw [hi] at h
    simp only [Option.map_some, Option.some.injEq] at h
    simp [sizeOf, typeInfo, run_program, hi, h]
theorem part_dig (u : US) (hu : u.wf) (w : World) :
    (Go.part 35 u.cells 4).run Tryd.prog w = .ok (.agg (u.sh.map Extern.Stop.cell).toArray) w ∧ (Go.part 35 u.cells 36).run Tryd.prog w = .ok (.agg (u.sg.map Extern.Stop.cell).toArray) w := by
  have e1 : u.cells.extract 4 36 = (u.sh.map Extern.Stop.cell).toArray := by
    apply Array.ext'
    unfold US.cells uebC
    have := hu.1
    simp [bcells, List.drop, List.take_append, this]
    intro a _; rfl
  have e2 : u.cells.extract 36 68 = (u.sg.map Extern.Stop.cell).toArray := by
    apply Array.ext'
    unfold US.cells uebC
    have := hu.1
    have := hu.2
    simp [bcells, List.drop, List.take_append, *]
    rw [List.take_of_length_le (by simp; omega)]
    rfl
  constructor
  · simp [Go.part, isAgg, run_underlying Tryd.underlying35, dig_size, e1]
  · simp [Go.part, isAgg, run_underlying Tryd.underlying35, dig_size, e2]
theorem part_int (u : US) (w : World) :
    (Go.part 3 u.cells 0).run Tryd.prog w = .ok (.int .i64 u.k) w ∧ (Go.part 3 u.cells 1).run Tryd.prog w = .ok (.int .i64 u.n) w ∧ (Go.part 3 u.cells 2).run Tryd.prog w = .ok (.int .i64 u.seg) w ∧ (Go.part 3 u.cells 3).run Tryd.prog w = .ok (.int .i64 u.size) w := by
  refine ⟨?_, ?_, ?_, ?_⟩ <;> simp [Go.part, isAgg, run_underlying Tryd.underlying3, US.cells, uebC]
theorem ueb_fields : ((Tryd.prog.fieldsOf 37).toList.map fun f => (f.name == "_", f.type, f.offset)) = [(false, 3, 0), (false, 3, 1), (false, 3, 2), (false, 3, 3), (false, 35, 4), (false, 35, 36)] := by kernel_rfl
theorem fields_six {l : List Field} {a b c d e f : TypeId} (h : (l.map fun f => (f.name == "_", f.type, f.offset)) = [(false, a, 0), (false, b, 1), (false, c, 2), (false, d, 3), (false, e, 4), (false, f, 36)]) :
    ∃ x0 x1 x2 x3 x4 x5 : Field, l = [x0, x1, x2, x3, x4, x5] ∧ (x0.name ≠ "_" ∧ x1.name ≠ "_" ∧ x2.name ≠ "_" ∧ x3.name ≠ "_" ∧ x4.name ≠ "_" ∧ x5.name ≠ "_") ∧ (x0.type = a ∧ x1.type = b ∧ x2.type = c ∧ x3.type = d ∧ x4.type = e ∧ x5.type = f) ∧ (x0.offset = 0 ∧ x1.offset = 1 ∧ x2.offset = 2 ∧ x3.offset = 3 ∧ x4.offset = 4 ∧ x5.offset = 36) := by
  have hl : l.length = 6 := by simpa using congrArg List.length h
  match l, hl with
  | [x0, x1, x2, x3, x4, x5], _ =>
    simp only [List.map_cons, List.map_nil, List.cons.injEq, Prod.mk.injEq, and_true, beq_eq_false_iff_ne] at h
    exact ⟨x0, x1, x2, x3, x4, x5, rfl, by simp [h], by simp [h], by simp [h]⟩
theorem eqFields_step {P : Program} {w : World} {d : Nat} {xs ys : Array Value} {f : Field} {fs : List Field} {a b : Value} {r : Bool} {t : TypeId} {o : Nat} (hn : f.name ≠ "_") (ht : f.type = t) (ho : f.offset = o)
    (ha : (Go.part t xs o).run P w = .ok a w) (hb : (Go.part t ys o).run P w = .ok b w) (he : (Op.equalIn d t a b).run P w = .ok r w) :
    (Op.eqFields d xs ys (f :: fs)).run P w = if r = true then (Op.eqFields d xs ys fs).run P w else .ok false w := by
  subst ht ho
  simp only [Op.eqFields, ne_eq, hn, not_false_eq_true, if_true, Sem.run_bind, ha, hb, he, Result.andThen_ok]
  cases r <;> simp
theorem eqFields_nil {P : Program} {w : World} {d : Nat} {xs ys : Array Value} : (Op.eqFields d xs ys []).run P w = .ok true w := by simp [Op.eqFields]
theorem ueb_eqlF (d : Nat) (u v : US) (hu : u.wf) (hv : v.wf) (w : World) : (Op.eqFields (d + 2) u.cells v.cells (Tryd.prog.fieldsOf 37).toList).run Tryd.prog w = .ok (decide (u = v)) w := by
  obtain ⟨x0, x1, x2, x3, x4, x5, hl, ⟨n0, n1, n2, n3, n4, n5⟩, ⟨t0, t1, t2, t3, t4, t5⟩, o0, o1, o2, o3, o4, o5⟩ := fields_six ueb_fields
  obtain ⟨p0, p1, p2, p3⟩ := part_int u w
  obtain ⟨q0, q1, q2, q3⟩ := part_int v w
  obtain ⟨p4, p5⟩ := part_dig u hu w
  obtain ⟨q4, q5⟩ := part_dig v hv w
  have e4 := run_equalIn_bytes w d 35 5 32 Tryd.underlying35 Tryd.underlying5 byte_size u.sh v.sh hu.1 hv.1
  have e5 := run_equalIn_bytes w d 35 5 32 Tryd.underlying35 Tryd.underlying5 byte_size u.sg v.sg hu.2 hv.2
  have ei := fun a b => run_equalIn_int (P := Tryd.prog) w (d + 1) 3 .i64 .i64 a b Tryd.underlying3
  rw [hl, eqFields_step n0 t0 o0 p0 q0 (ei _ _), eqFields_step n1 t1 o1 p1 q1 (ei _ _), eqFields_step n2 t2 o2 p2 q2 (ei _ _), eqFields_step n3 t3 o3 p3 q3 (ei _ _), eqFields_step n4 t4 o4 p4 q4 e4, eqFields_step n5 t5 o5 p5 q5 e5, eqFields_nil]
  clear hl n0 n1 n2 n3 n4 n5 t0 t1 t2 t3 t4 t5 o0 o1 o2 o3 o4 o5 p0 p1 p2 p3 p4 p5 q0 q1 q2 q3 q4 q5 e4 e5 ei hu hv
  obtain ⟨k, n, seg, size, sh, sg⟩ := u
  obtain ⟨k', n', seg', size', sh', sg'⟩ := v
  simp only [US.mk.injEq, beq_iff_eq]
  by_cases h0 : k = k'
  rotate_left
  · simp [h0]
  by_cases h1 : n = n'
  rotate_left
  · simp [h1]
  by_cases h2 : seg = seg'
  rotate_left
  · simp [h2]
  by_cases h3 : size = size'
  rotate_left
  · simp [h3]
  by_cases h4 : sh = sh'
  rotate_left
  · simp [h4]
  by_cases h5 : sg = sg'
  rotate_left
  · simp [h5]
  simp [h0, h1, h2, h3, h4, h5]
theorem ueb_eql (u v : US) (hu : u.wf) (hv : v.wf) (w : World) : (binOp .eql 37 (.agg u.cells) (.agg v.cells)).run Tryd.prog w = .ok (.bool (decide (u = v))) w := by
  rw [run_eql_struct, run_equalIn_agg w 9999 37 _ _ (by kernel_rfl) (by kernel_rfl), ueb_eqlF 9997 u v hu hv w]
  rfl
theorem wpList_eqlU {ops : Array Oper} {rest : List Oper} {o : Oper} {a : Act} {w : World} {Q : Exit → Act → World → Prop} (hgd : Region.wanted o (yielded ops a.tmps) = true) (x y : Operand) (ho : o.op = .binOp .eql 37 x y 37) (u v : US) (hu : u.wf) (hv : v.wf)
    (r : Bool) (hr : decide (u = v) = r) (hx : a.eval x = .agg u.cells) (hy : a.eval y = .agg v.cells) (h : wpList Tryd.prog ops Q rest (a.put o.dst (.bool r)) w) : wpList Tryd.prog ops Q (o :: rest) a w := by
  refine BigFrame.wpList_want hgd fun K hK => ?_
  subst hr
  unfold Oper.wp execOp
  simp only [ho, hx, hy, Sem.run_bind, run_eqGuard_agg w _ _ _ _ _ _ (show Tryd.prog.eqGuardType Tryd.prog.depth 37 = false by kernel_rfl), Result.andThen_ok, ueb_eql u v hu hv w]
  exact hK _ _ h
theorem wpList_loadU {ops : Array Oper} {rest : List Oper} {o : Oper} {a : Act} {w : World} {Q : Exit → Act → World → Prop} (hgd : Region.wanted o (yielded ops a.tmps) = true) (x : Operand) (ho : o.op = .load 37 x)
    (g : Nat) (hx : a.eval x = .pointer (some ⟨g, 0, none⟩)) (u : US) (hu : u.wf) (hg : Blk w g 37 u.cells)
    (h : wpList Tryd.prog ops Q rest (a.put o.dst (.agg u.cells)) w) : wpList Tryd.prog ops Q (o :: rest) a w := by
  refine BigFrame.wpList_want hgd fun K hK => ?_
  exact wp_load_row 37 x ho g hx 37 u.cells (0, 0) _ hg Tryd.underlying37 rfl (by rw [US.size_ hu]; kernel_rfl) (hK _ _ h)
theorem wpList_storeU {ops : Array Oper} {rest : List Oper} {o : Oper} {a : Act} {w : World} {Q : Exit → Act → World → Prop} {g : Nat} {old : Array Value} (hb : Blk w g 37 old) (hs : old.size = 68) (u : US) (hu : u.wf)
    (h1 : u.cells.all (·.oneCell') = true) (hgd : o.guard = none) (x y : Operand) (ho : o.op = .store 37 x y)
    (hx : a.eval x = .pointer (some ⟨g, 0, none⟩)) (hy : a.eval y = .agg u.cells)
    (h : ∀ w', Blk w' g 37 u.cells → w.grownBy w' (some g) → wpList Tryd.prog ops Q rest (a.put o.dst undef) w') : wpList Tryd.prog ops Q (o :: rest) a w :=
  wpList_store_row hb u.cells (by rw [US.size_ hu, hs]) h1 hgd 37 x y ho (by rw [US.size_ hu]; kernel_rfl) hx hy h
theorem zcells_size : (Tryd.zeroCells37).size = 68 := by kernel_rfl
end Go.Proofs.YtdohebhbiokljaaDoor

/- Joined texts: ShrA, ShrB, ShrC, ShrD. -/

/- Contracts of the program's trees' widths, of the nodes beside the way from leaf 0 up, which is a range over a function. -/
namespace Go.Proofs.YtdohebhbiokljaaDoor
open Go.RowKit Go.Shelf

def wd : Nat → Nat → Nat → Nat
  | 0, x, _ => x
  | f + 1, x, n => if x < n then wd f (x * 2) n else x
def wid (n : Nat) : Nat := wd 9 1 n
theorem wd_le : ∀ (f x n : Nat), wd f x n ≤ x * 2 ^ f
  | 0, x, n => by simp [wd]
  | f + 1, x, n => by
    unfold wd
    split
    · have := wd_le f (x * 2) n
      rw [Nat.mul_assoc, ← Nat.pow_succ'] at this
      exact this
    · exact Nat.le_mul_of_pos_right _ (Nat.pow_pos (by omega))
theorem wd_pos : ∀ (f x n : Nat), 1 ≤ x → 1 ≤ wd f x n
  | 0, x, n, h => by simpa [wd] using h
  | f + 1, x, n, h => by
    unfold wd
    split
    · exact wd_pos f (x * 2) n (by omega)
    · exact h
theorem wid_le (n : Nat) : wid n ≤ 512 := wd_le 9 1 n
theorem wid_pos (n : Nat) : 1 ≤ wid n := wd_pos 9 1 n (by omega)

set_option maxRecDepth 100000 in
set_option maxHeartbeats 400000 in
theorem width_any (n : Nat) (w : World) (h : 1 ≤ n ∧ n ≤ 512) :
    Calls Tryd.prog 98 #[.int .i64 (n : Int)] w fun e w' => e = .returned (.tuple #[.int .i64 (wid n : Int), .int .i64 0]) ∧ w = w' := by
  have h1 : ¬ (n : Int) < 1 := by omega
  have h2 : ¬ 512 < (n : Int) := by omega
  go_enter Tryd.func98, Tryd.ntmps98
  go_wp2
  go_loopw [4] (fun u4 wr => ∃ f x : Nat, u4 = .int .i64 (x : Int) ∧ x * 2 ^ f = 512 ∧ 1 ≤ x ∧ wd f x n = wid n ∧ wr = w) (fun i _ => 1024 - (intOf i).toNat)
  case atStart => exact ⟨9, 1, rfl, by decide, by omega, rfl, rfl⟩
  case round =>
    obtain ⟨f, x, rfl, hf, hx, hw, rfl⟩ := hrel
    by_cases hlt : x < n
    · obtain ⟨g, rfl⟩ : ∃ g, f = g + 1 := by
        rcases f with _ | g
        · rw [Nat.pow_zero] at hf; omega
        · exact ⟨g, rfl⟩
      have i1 : (x : Int) < (n : Int) := by omega
      have e2 : IntKind.i64.wrap ((x : Int) * 2) = ((x * 2 : Nat) : Int) := by rw [IntWalk.i64_in _ (by omega)]; omega
      go_wp2
      go_roundw
      case rel => exact ⟨g, x * 2, by go_num, by rw [Nat.mul_assoc, ← Nat.pow_succ']; exact hf, by omega, by rw [← hw]; simp [wd, hlt], trivial⟩
      case measure => simp [intOf]; omega
    · have i1 : (n : Int) ≤ (x : Int) := by omega
      have e2 : x = wid n := by
        rw [← hw]
        rcases f with _ | f
        · rfl
        · simp [wd, hlt]
      go_wp2
      go_ret2
      exact ⟨by rw [e2]; rfl, rfl⟩

set_option maxRecDepth 100000 in
set_option maxHeartbeats 400000 in
theorem nodes_any (n : Nat) (w : World) (h : 1 ≤ n ∧ n ≤ 512) :
    Calls Tryd.prog 64 #[.int .i64 (n : Int)] w fun e w' => e = .returned (.int .i64 (2 * (wid n : Int) - 1)) ∧ w = w' := by
  have Q := hide (width_any n w h)
  have h1 := wid_le n
  have h2 := wid_pos n
  generalize wid n = m at *
  go_enter Tryd.func64, Tryd.ntmps64
  go_wp2_with fail
  refine Q.out.mono ?_
  rintro e w1 ⟨rfl, rfl⟩
  go_wp2
  go_ret
  exact ⟨by go_num, rfl⟩

set_option maxRecDepth 100000 in
set_option maxHeartbeats 400000 in
theorem node_any (n : Nat) (w : World) (h : 1 ≤ n ∧ n ≤ 512) :
    Calls Tryd.prog 96 #[.int .i64 (n : Int), .int .i64 0] w fun e w' => e = .returned (.tuple #[.int .i64 (wid n : Int), .int .i64 0]) ∧ w = w' := by
  have Q := hide (width_any n w h)
  have h1 := wid_le n
  have h2 := wid_pos n
  have i1 : ¬ (n : Int) ≤ 0 := by omega
  have i2 : 0 < (n : Int) := by omega
  generalize wid n = m at *
  go_enter Tryd.func96, Tryd.ntmps96
  go_wp2_with fail
  refine Q.out.mono ?_
  rintro e w1 ⟨rfl, rfl⟩
  go_wp2
  go_ret2
  exact ⟨rfl, rfl⟩

set_option maxRecDepth 100000 in
set_option maxHeartbeats 400000 in
theorem up_tree (n : Nat) (w : World) (h : 1 ≤ n ∧ n ≤ 512) :
    Calls Tryd.prog 97 #[.int .i64 (n : Int), .int .i64 0] w fun e w' => e = .returned (.func (.func 109) #[] #[.pointer (some ⟨w.heap.size, 0, none⟩)]) ∧ w' = w.alloc (.cells #[.int .i64 (wid n : Int)] 3) := by
  have Q := hide (node_any n w h)
  have h1 := wid_le n
  have h2 := wid_pos n
  generalize wid n = m at *
  go_enter Tryd.func97, Tryd.ntmps97
  go_wp2_with fail
  refine Q.out.mono ?_
  rintro e w1 ⟨rfl, rfl⟩
  go_wp2
  go_ret
  exact ⟨rfl, rfl⟩
end Go.Proofs.YtdohebhbiokljaaDoor

/- The contract of the program's Chain for leaf 0: a range over a function. -/
namespace Go.Proofs.YtdohebhbiokljaaDoor
open Go.RowKit Go.Shelf
attribute [local go_sem] Oper.semAt_some

def ups : Nat → Nat → List Nat
  | 0, _ => []
  | f + 1, x => if 1 ≤ x then x :: ups f (x / 2) else []
theorem ups_length : ∀ (f x : Nat), (ups f x).length ≤ f
  | 0, _ => Nat.le_refl _
  | f + 1, x => by
    unfold ups
    split
    · have := ups_length f (x / 2)
      simp only [List.length_cons]
      omega
    · simp

set_option maxRecDepth 100000 in
set_option maxHeartbeats 1000000 in
theorem up1_in (F : Fence) (n : Nat) (h6 : F.fn 109) (hro : F.round = none) (hn : 1 ≤ n) (l Bn n₀ : Nat) (from_ : Nat) (hfrom : from_ < 2 ^ 10) (U : List Nat) (hU : U = ups 10 from_) (J Jx : List Nat → World → Prop)
    (hY : ∀ (pre : List Nat) (x : Nat) (W : World), J pre W → pre.length < (U).length → YieldAt F (n - 1) Tryd.prog l #[.int .i64 (x : Int)] W fun e W' =>
      (e = .returned (.bool true) ∧ J (pre ++ [x]) W' ∧ Below n₀ W W') ∨ (e = .returned (.bool false) ∧ Jx (pre ++ [x]) W'))
    (W : World) (hBn : W.cell? ⟨Bn, 0, none⟩ = some (.int .i64 (from_ : Int))) (h0 : J [] W) :
    CallsIn F n Tryd.prog 109 #[.func (.yield l) #[] #[], .pointer (some ⟨Bn, 0, none⟩)] W fun e W' => (∃ v, e = .returned v) ∧
      ((∃ ys, ys = U ∧ J ys W') ∨ (∃ pre, pre <+: U ∧ Jx pre W')) := by
  refine callsIn_of_wp Tryd.func109 rfl h6 ?_ hro
  simp only [Tryd.ntmps109, List.size_toArray, List.length_cons, List.length_nil, Nat.reduceAdd, Nat.reduceSub, Array.replicate_succ, Array.replicate_zero, List.push_toArray, List.append_toArray, List.nil_append, List.cons_append]
  gi_wp2
  gi_loopw [3] (fun p wr => ∃ (pre : List Nat) (f x : Nat), p = .int .i64 (x : Int) ∧ U = pre ++ ups f x ∧ x < 2 ^ f ∧ f ≤ 10 ∧ J pre wr)
    (fun p _ => (intOf p).toNat)
  case atStart =>
    exact ⟨[], 10, from_, rfl, by rw [List.nil_append]; exact hU, hfrom, Nat.le_refl _, h0⟩
  case round =>
    obtain ⟨pre, f, x, rfl, hx, hxf, hf10, hJs⟩ := hrel
    by_cases h1 : 1 ≤ x
    · obtain ⟨g, rfl⟩ : ∃ g, f = g + 1 := by
        rcases f with _ | g
        · rw [Nat.pow_zero] at hxf; omega
        · exact ⟨g, rfl⟩
      have hx2 : U = (pre ++ [x]) ++ ups g (x / 2) := by
        rw [hx, show ups (g + 1) x = x :: ups g (x / 2) by simp [ups, h1], List.append_assoc]; rfl
      have hx3 : x / 2 < 2 ^ g := by rw [Nat.pow_succ] at hxf; omega
      have hx4 : 2 ^ (g + 1) ≤ 2 ^ 10 := Nat.pow_le_pow_right (by omega) hf10
      have i1 : 1 ≤ (x : Int) := by omega
      have e2 : wrap64 ((x : Int) / 2) = ((x / 2 : Nat) : Int) := by
        rw [show (x : Int) / 2 = ((x / 2 : Nat) : Int) by omega]
        exact wrap64_nat (x / 2) (by omega)
      have HE := hide e2
      obtain ⟨fn, tmps, assign, body, hy, hR⟩ := hY pre x wr hJs (by rw [hx2]; simp)
      have HX := hide (And.intro hx (And.intro hx2 (And.intro hx3 (And.intro hxf hx4))))
      clear hx hx2 hx3 hxf hx4
      gi_wp2
      refine hR.mono ?_
      rintro e W3 (⟨rfl, hJ3, hk3⟩ | ⟨rfl, hJx3⟩)
      · gi_wp2
        go_roundw
        case rel => exact ⟨pre ++ [x], g, x / 2, by simp only [HE.out], HX.out.2.1, HX.out.2.2.1, by omega, hJ3⟩
        case measure =>
          have HM : ∀ y : Int, y = ((x / 2 : Nat) : Int) → (intOf (.int .i64 y)).toNat < (intOf (.int .i64 (x : Int))).toNat := fun y hy => by
            subst hy
            simp only [intOf]
            omega
          exact HM _ HE.out
      · gi_wp2
        refine bodyPost_ret (results_none rfl _ _ _) rfl ?_
        exact ⟨⟨_, rfl⟩, .inr ⟨pre ++ [x], ⟨ups g (x / 2), HX.out.2.1.symm⟩, hJx3⟩⟩
    · have i1 : ¬ 1 ≤ (x : Int) := by omega
      have hx0 : x = 0 := by omega
      subst hx0
      clear hY
      have hnil : ups f 0 = [] := by rcases f with _ | f <;> simp [ups]
      rw [hnil, List.append_nil] at hx
      gi_wp2
      go_end0
      exact ⟨⟨_, rfl⟩, .inl (by rw [← hU, hx]; exact hJs)⟩

theorem up1_stops (F : Fence) (n : Nat) (h6 : F.fn 109) (hro : F.round = none) (hn : 1 ≤ n) (Bn n₀ : Nat) (from_ : Nat) (hfrom : from_ < 2 ^ 10) (w : World) (hBn : Bn < w.heap.size)
    (hc : w.cell? ⟨Bn, 0, none⟩ = some (.int .i64 (from_ : Int))) :
    SeqStopsK F n Tryd.prog 109 #[.pointer (some ⟨Bn, 0, none⟩)] (fun x : Nat => #[Value.int .i64 (x : Int)]) (Below n₀) (fun ys => ys = ups 10 from_) (fun pre => pre <+: ups 10 from_) (ups 10 from_).length w := fun l J Jx W hW _ _ hY h0 =>
  up1_in F n h6 hro hn l Bn n₀ from_ hfrom _ rfl J Jx hY W ((hW.cell (p := ⟨Bn, 0, none⟩) hBn).trans hc) h0
end Go.Proofs.YtdohebhbiokljaaDoor

/- The contract of the program's Chain for leaf 0: a range over a function. -/
namespace Go.Proofs.YtdohebhbiokljaaDoor
open Go.RowKit Go.Shelf
attribute [local go_sem] Oper.semAt_some

/-- The numbers above 1. -/
def abv (l : List Nat) : List Nat := l.filter fun x => decide (1 < x)
theorem abv_hit (pre : List Nat) {x : Nat} (h : 1 < x) : abv (pre ++ [x]) = abv pre ++ [x] := by simp [abv, h]
theorem abv_miss (pre : List Nat) {x : Nat} (h : ¬ 1 < x) : abv (pre ++ [x]) = abv pre := by simp [abv, h]
def chainLen (n : Nat) : Nat := (abv (ups 10 (wid n))).length
theorem chainLen_le (n : Nat) : chainLen n ≤ 10 := Nat.le_trans (List.length_filter_le _ _) (ups_length _ _)
/-- The brother's number. -/
def xr (x : Nat) : Value := .int .i64 (bits BinOp.xor IntKind.i64 (x : Int) 1)
theorem infoInt : (Tryd.prog.info? 3).map (fun i => (i.zero, i.size, i.bytes)) = some (some (.int .i64 0), 1, 8) := by kernel_rfl

set_option maxRecDepth 100000 in
set_option maxHeartbeats 1000000 in
theorem chain_in (F : Fence) (hF : F = Fence.wide) (n : Nat) (h : 1 ≤ n ∧ n ≤ 512) (w : World) :
    CallsIn F 5 Tryd.prog 63 #[.int .i64 (n : Int), .int .i64 0] w fun e W' => ∃ A c, e = .returned (.tuple #[.slice A (chainLen n) c, .int .i64 0]) ∧ Below w.heap.size w W' := by
  have hch : F.fn 63 := by rw [hF]; trivial
  have hnode : F.fn 96 := by rw [hF]; trivial
  have hup : F.fn 97 := by rw [hF]; trivial
  have hup1 : F.fn 109 := by rw [hF]; trivial
  have hro : F.round = none := by rw [hF]; rfl
  have q1 : ∀ m w, CallsIn F m Tryd.prog 96 #[.int .i64 (n : Int), .int .i64 0] w fun e w' => e = .returned (.tuple #[.int .i64 (wid n : Int), .int .i64 0]) ∧ w = w' := by
    subst hF; exact fun m w => callsIn_wide.2 (node_any n w h)
  have q2 : ∀ m w, CallsIn F m Tryd.prog 97 #[.int .i64 (n : Int), .int .i64 0] w fun e w' => e = .returned (.func (.func 109) #[] #[.pointer (some ⟨w.heap.size, 0, none⟩)]) ∧ w' = w.alloc (.cells #[.int .i64 (wid n : Int)] 3) := by
    subst hF; exact fun m w => callsIn_wide.2 (up_tree n w h)
  clear hF
  have hw1 := wid_le n
  have hw2 := wid_pos n
  unfold chainLen
  generalize wid n = m at *
  obtain ⟨i0, hi, hz0, hz1, hz2⟩ := info_parts infoInt
  refine callsIn_of_wp_marks Tryd.func63 rfl hch ?_ hro
  simp only [Tryd.ntmps63, List.size_toArray, List.length_cons, List.length_nil, Nat.reduceAdd, Nat.reduceSub, Array.replicate_succ, Array.replicate_zero, List.push_toArray, List.append_toArray, List.nil_append, List.cons_append]
  gi_wp2_with (gi_at_call 96; refine (q1 _ _).mono ?_; rintro e w' ⟨rfl, rfl⟩)
  gi_wp2_with (gi_at_call 97; refine (q2 _ _).mono ?_; rintro e w' ⟨rfl, rfl⟩)
  have bO := Boxed.new w 103 (.slice none 0 0)
  have bN := Boxed.new (w.alloc (.cells #[.slice none 0 0] 103)) 3 (.int .i64 (m : Int))
  rw [World.size_alloc] at bN
  have hB0 : Below w.heap.size w ((w.alloc (.cells #[.slice none 0 0] 103)).alloc (.cells #[.int .i64 (m : Int)] 3)) := ((Below.refl _ w).alloc (Nat.le_refl _) _).alloc (by simp) _
  have hlen := ups_length 10 m
  have hml : 20 ≤ maxLen := by unfold maxLen; omega
  refine wpIn_rangeFunc_ownG hro (by omega) (gf := 109) (lb := #[.pointer (some ⟨w.heap.size + 1, 0, none⟩)]) rfl hup1 (enters_of Tryd.func109 (by kernel_rfl) rfl)
    (up1_stops F 4 hup1 hro (by omega) (w.heap.size + 1) w.heap.size m (by omega) _ (by simp) bN.cell) belowK_t (belowK_b (by simp; omega)) (Below.refl _ _) (fun _ => rfl)
    (fun pre W => (∃ v, Boxed W w.heap.size 103 v ∧ W.ownsRow w.heap.size 3 1 v (abv pre).length ((abv pre).map xr) ∧ True) ∧ Below w.heap.size w W)
    (fun _ _ _ => False)
    (OwnFrom.and (Own.from (holdsRow_own w.heap.size w.heap.size 103 3 1 (fun pre => (abv pre).length) (fun pre => (abv pre).map xr) (fun _ _ => True)) _) (ownFrom_below (Nat.le_refl _) (by simp; omega)))
    (fun _ _ _ _ _ hs _ _ => hs)
    ⟨⟨_, bO.alloc _, World.ownsRow_nil _ _ _ _, trivial⟩, hB0⟩
    (fun x => { tmps := #[.int .i64 (n : Int), .int .i64 0, undef, undef, .slice none 0 0, .int .i64 0, .int .i64 (m : Int), .int .i64 0, .pointer (some ⟨w.heap.size, 0, none⟩), .int .i64 (x : Int), .tuple #[.int .i64 (m : Int), .int .i64 0], .int .i64 (n : Int), .int .i64 0, .tuple #[.int .i64 (m : Int), .int .i64 0], .int .i64 (m : Int), .int .i64 0, .int .i64 0, .bool false, undef, .int .i64 (n : Int), .int .i64 0, .func (.func 109) #[] #[.pointer (some ⟨w.heap.size + 1, 0, none⟩)], .int .i64 (x : Int), undef, undef, undef, undef, undef, undef, undef, undef], defers := [] }) ?assign ?body ?done ?stop
  case assign =>
    intro l x W K hK
    gi_wp2
    exact hK
  case body =>
    rintro l pre x W ⟨⟨v, hv, hrow, -⟩, hB⟩ hlt
    have hc := hv.cell
    have hpl : (abv pre).length ≤ pre.length := List.length_filter_le _ _
    gi_wp2_with (gi_at_builtin; refine wpListIn_append_own _ rfl _ _ 103 rfl w.heap.size 3 i0 (.int .i64 0) 1 8 Tryd.underlying103 hi hz0 hz1 hz2 rfl (by decide) _ _ _ rfl (hrow.alloc _) ⟨W.heap.size, 0, none⟩ 1 1 [xr x] rfl rfl (cell_one_new _ _ _) (by simp [Value.oneCell', xr]) (by omega) (by omega) (by have := hB.size; simp; omega) ?_; intro v' w1 hown' hgrow _; obtain ⟨g', cap', rfl⟩ := ownsRow_succ hown'; obtain ⟨hv1, hv2, hr2, hk2, hb2⟩ := hv.appended (by decide) hrow hB.size (Nat.le_refl _) hown' hgrow; have hc1 := hv1.cell; have hf1 := hv1.frozen)
    · have hx : 1 < x := by omega
      exact ⟨hk2.from _, hb2, ⟨_, hv2, by rw [abv_hit pre hx]; simpa using hr2, trivial⟩, hB.trans hb2⟩
    · have hx : ¬ 1 < x := by omega
      exact ⟨KeepsFrom.refl _ _, Below.refl _ _, ⟨v, hv, by rw [abv_miss pre hx]; exact hrow, trivial⟩, hB⟩
  case done =>
    rintro D ys W hD rfl ⟨⟨v, hv, hrow, -⟩, hB⟩ hK
    have hc := hv.cell
    gi_wp2
    refine ⟨by simp, .inl ⟨_, _, rfl, run_takeDeferred hK, ?_⟩⟩
    have hv' : ∃ A c, v = .slice A (abv (ups 10 m)).length c := by
      rcases hrow.2 with ⟨rfl, h0⟩ | ⟨g, cap, cur, rfl, _⟩
      · exact ⟨none, 0, by rw [h0]⟩
      · exact ⟨_, _, rfl⟩
    obtain ⟨A, c, rfl⟩ := hv'
    exact ⟨_, results_tmp2 rfl _ _ _, A, c, rfl, hB.trans (belowK_b (w := w) (Nat.le_refl _) W D _ _ (by simp at hD; omega) hK rfl rfl)⟩
  case stop =>
    rintro D c pre W _ _ h _
    exact h.elim

theorem chain_any (n : Nat) (w : World) (h : 1 ≤ n ∧ n ≤ 512) :
    Calls Tryd.prog 63 #[.int .i64 (n : Int), .int .i64 0] w fun e W' => ∃ A c, e = .returned (.tuple #[.slice A (chainLen n) c, .int .i64 0]) ∧ Below w.heap.size w W' :=
  callsIn_wide.1 (chain_in Fence.wide rfl n h w)
end Go.Proofs.YtdohebhbiokljaaDoor

/- Contracts of Fits, size and BlockSize, at shapes that fit and at the shape of noughts. -/
namespace Go.Proofs.YtdohebhbiokljaaDoor
open Go.RowKit

/-- A shape's value. -/
def shV (a b c d e f g h : Int) : Value := .agg #[.int .i64 a, .int .i64 b, .int .i64 c, .int .i64 d, .int .i64 e, .int .i64 f, .int .i64 g, .int .i64 h]
/-- A shape that Again gives back. -/
def Sits (a b c d e f g h : Int) : Prop := ∀ w, Calls Tryd.prog 49 #[.int .i64 a, .int .i64 b, .int .i64 c, .int .i64 d] w fun x w' => Below w.heap.size w w' ∧ x = .returned (.tuple #[.agg #[.int .i64 a, .int .i64 b, .int .i64 c, .int .i64 d, .int .i64 e, .int .i64 f, .int .i64 g, .int .i64 h], .int .i64 0])

set_option maxRecDepth 100000 in
set_option maxHeartbeats 1000000 in
theorem fits_ok (a b c d e f g h : Int) (w : World) (q : Sits a b c d e f g h) :
    Calls Tryd.prog 72 #[.agg #[.int .i64 a, .int .i64 b, .int .i64 c, .int .i64 d, .int .i64 e, .int .i64 f, .int .i64 g, .int .i64 h]] w fun x w' => Below w.heap.size w w' ∧ x = .returned (.bool true) := by
  have Q := hide q
  clear q
  go_enter Tryd.func72, Tryd.ntmps72
  go_wp2_with fail
  refine (Q.out _).mono ?_
  rintro x w1 ⟨b1, rfl⟩
  have B1 := hide (((Below.refl w.heap.size w).alloc (Nat.le_refl _) _).trans (b1.mono (by simp)))
  have HB := (Blk.new w 24 #[.int .i64 a, .int .i64 b, .int .i64 c, .int .i64 d, .int .i64 e, .int .i64 f, .int .i64 g, .int .i64 h]).below' b1
  have c0 : w1.cell? ⟨w.heap.size, 0, none⟩ = some (.int .i64 a) := HB.cell 0
  have c1 : w1.cell? ⟨w.heap.size, 1, none⟩ = some (.int .i64 b) := HB.cell 1
  have c2 : w1.cell? ⟨w.heap.size, 2, none⟩ = some (.int .i64 c) := HB.cell 2
  have c3 : w1.cell? ⟨w.heap.size, 3, none⟩ = some (.int .i64 d) := HB.cell 3
  have c4 : w1.cell? ⟨w.heap.size, 4, none⟩ = some (.int .i64 e) := HB.cell 4
  have c5 : w1.cell? ⟨w.heap.size, 5, none⟩ = some (.int .i64 f) := HB.cell 5
  have c6 : w1.cell? ⟨w.heap.size, 6, none⟩ = some (.int .i64 g) := HB.cell 6
  have c7 : w1.cell? ⟨w.heap.size, 7, none⟩ = some (.int .i64 h) := HB.cell 7
  clear b1
  have hlt := HB.lt
  have hne : ¬ w.heap.size = w1.heap.size := by omega
  have HBB := hide HB
  clear HB
  go_wp2
  go_ret
  exact ⟨B1.out.alloc B1.out.size _, rfl⟩

set_option maxRecDepth 100000 in
set_option maxHeartbeats 1000000 in
theorem fits_no (w : World) :
    Calls Tryd.prog 72 #[.agg #[.int .i64 0, .int .i64 0, .int .i64 0, .int .i64 0, .int .i64 0, .int .i64 0, .int .i64 0, .int .i64 0]] w fun x w' => Below w.heap.size w w' ∧ x = .returned (.bool false) := by
  have q : ∀ w, Calls Tryd.prog 49 #[.int .i64 0, .int .i64 0, .int .i64 0, .int .i64 0] w fun x w' => Below w.heap.size w w' ∧ x = .returned (.tuple #[.agg #[.int .i64 0, .int .i64 0, .int .i64 0, .int .i64 0, .int .i64 0, .int .i64 0, .int .i64 0, .int .i64 0], .int .i64 92]) := fun w => by
    have := again_any 0 0 0 0 w (by omega) (by omega) (by omega) (by omega)
    rwa [if_neg (by unfold agOK; omega)] at this
  have Q := hide q
  clear q
  go_enter Tryd.func72, Tryd.ntmps72
  go_wp2_with fail
  refine (Q.out _).mono ?_
  rintro x w1 ⟨b1, rfl⟩
  have B1 := hide (((Below.refl w.heap.size w).alloc (Nat.le_refl _) _).trans (b1.mono (by simp)))
  clear b1
  go_wp2
  go_ret
  exact ⟨B1.out.alloc B1.out.size _, rfl⟩

/-- What size answers at the place j of a shape that fits. -/
def szV (j n u l : Int) : Value := if n ≤ j then .tuple #[.int .i64 0, .int .i64 90] else if j = n - 1 then .tuple #[.int .i64 l, .int .i64 0] else .tuple #[.int .i64 u, .int .i64 0]

set_option maxRecDepth 100000 in
set_option maxHeartbeats 1000000 in
theorem size_ok (a b c d e f g h j u l : Int) (w : World) (q : Sits a b c d e f g h) (hj : 0 ≤ j) (he : 1 ≤ e ∧ e ≤ 512) :
    Calls Tryd.prog 73 #[.agg #[.int .i64 a, .int .i64 b, .int .i64 c, .int .i64 d, .int .i64 e, .int .i64 f, .int .i64 g, .int .i64 h], .int .i64 j, .int .i64 u, .int .i64 l] w fun x w' => Below w.heap.size w w' ∧ x = .returned (szV j e u l) := by
  have HQ := hide (fun w => fits_ok a b c d e f g h w q)
  clear q
  have i1 : ¬ j < 0 := by omega
  have e1 : IntKind.i64.wrap (e - 1) = e - 1 := IntWalk.i64_in _ (by omega)
  unfold szV
  have hcase : e ≤ j ∨ (¬ e ≤ j ∧ j = e - 1) ∨ (¬ e ≤ j ∧ ¬ j = e - 1) := by omega
  have hB1 := fun w' (hb : Below (w.alloc (.cells #[.int .i64 a, .int .i64 b, .int .i64 c, .int .i64 d, .int .i64 e, .int .i64 f, .int .i64 g, .int .i64 h] 24)).heap.size (w.alloc (.cells #[.int .i64 a, .int .i64 b, .int .i64 c, .int .i64 d, .int .i64 e, .int .i64 f, .int .i64 g, .int .i64 h] 24)) w') => And.intro (((Below.refl w.heap.size w).alloc (Nat.le_refl _) _).trans (hb.mono (by simp))) (show w'.cell? ⟨w.heap.size, 4, none⟩ = some (.int .i64 e) from ((Blk.new w 24 #[.int .i64 a, .int .i64 b, .int .i64 c, .int .i64 d, .int .i64 e, .int .i64 f, .int .i64 g, .int .i64 h]).below' hb).cell 4)
  have HB1 := hide hB1
  clear hB1
  rcases hcase with h1 | ⟨h1, h2⟩ | ⟨h1, h2⟩
  · rw [if_pos h1]
    go_enter Tryd.func73, Tryd.ntmps73
    go_wp2_with fail
    refine (HQ.out _).mono ?_
    rintro x w1 ⟨b1, rfl⟩
    obtain ⟨b2, c4⟩ := HB1.out _ b1
    have B1 := hide b2
    clear b1 b2
    go_wp2
    go_ret2
    exact ⟨B1.out, rfl⟩
  · rw [if_neg h1, if_pos h2]
    go_enter Tryd.func73, Tryd.ntmps73
    go_wp2_with fail
    refine (HQ.out _).mono ?_
    rintro x w1 ⟨b1, rfl⟩
    obtain ⟨b2, c4⟩ := HB1.out _ b1
    have B1 := hide b2
    clear b1 b2
    go_wp2
    go_ret2
    exact ⟨B1.out, rfl⟩
  · rw [if_neg h1, if_neg h2]
    go_enter Tryd.func73, Tryd.ntmps73
    go_wp2_with fail
    refine (HQ.out _).mono ?_
    rintro x w1 ⟨b1, rfl⟩
    obtain ⟨b2, c4⟩ := HB1.out _ b1
    have B1 := hide b2
    clear b1 b2
    go_wp2
    go_ret2
    exact ⟨B1.out, rfl⟩

set_option maxRecDepth 100000 in
set_option maxHeartbeats 1000000 in
theorem blockSize_ok (a b c d e f g h j : Int) (w : World) (q : Sits a b c d e f g h) (hj : 0 ≤ j) (he : 1 ≤ e ∧ e ≤ 512) :
    Calls Tryd.prog 40 #[.agg #[.int .i64 a, .int .i64 b, .int .i64 c, .int .i64 d, .int .i64 e, .int .i64 f, .int .i64 g, .int .i64 h], .int .i64 j] w fun x w' => Below w.heap.size w w' ∧ x = .returned (szV j e g h) := by
  have HQ := hide (fun w => size_ok a b c d e f g h j g h w q hj he)
  have hv : ∃ m s, szV j e g h = .tuple #[.int .i64 m, .int .i64 s] := by
    unfold szV; split
    · exact ⟨_, _, rfl⟩
    · split <;> exact ⟨_, _, rfl⟩
  obtain ⟨m, s, hv⟩ := hv
  rw [hv] at HQ
  rw [hv]
  clear q hv hj he
  go_enter Tryd.func40, Tryd.ntmps40
  go_wp2_with fail
  refine (HQ.out _).mono ?_
  rintro x w1 ⟨b1, rfl⟩
  have B1 := hide (((Below.refl w.heap.size w).alloc (Nat.le_refl _) _).trans (b1.mono (by simp)))
  clear b1
  go_wp2
  go_ret2
  exact ⟨B1.out, rfl⟩
end Go.Proofs.YtdohebhbiokljaaDoor

/- The contract of lay: the places of a share's parts. -/
namespace Go.Proofs.YtdohebhbiokljaaDoor
open Go.RowKit

theorem idx0 (a b c d e : Value) (w : World) : Sem.run Tryd.prog (Instr.index 144 (.agg #[a, b, c, d, e]) (.int .i64 0)) w = .ok a w := by
  kernel_rfl
theorem idx1 (a b c d e : Value) (w : World) : Sem.run Tryd.prog (Instr.index 144 (.agg #[a, b, c, d, e]) (.int .i64 1)) w = .ok b w := by
  kernel_rfl
theorem idx2 (a b c d e : Value) (w : World) : Sem.run Tryd.prog (Instr.index 144 (.agg #[a, b, c, d, e]) (.int .i64 2)) w = .ok c w := by
  kernel_rfl
theorem idx3 (a b c d e : Value) (w : World) : Sem.run Tryd.prog (Instr.index 144 (.agg #[a, b, c, d, e]) (.int .i64 3)) w = .ok d w := by
  kernel_rfl
theorem idx4 (a b c d e : Value) (w : World) : Sem.run Tryd.prog (Instr.index 144 (.agg #[a, b, c, d, e]) (.int .i64 4)) w = .ok e w := by
  kernel_rfl
attribute [local go_sem] idx0 idx1 idx2 idx3 idx4

set_option maxRecDepth 100000 in
set_option maxHeartbeats 8000000 in
theorem lay_any (a c d f : Int) (n segs blk last L : Nat) (w : World) (hn : 1 ≤ n ∧ n ≤ 512) (hs : 1 ≤ segs ∧ segs ≤ 512) (hb : blk ≤ 1048576) (hl : last ≤ 1048576) (hL : L ≤ 1048576) :
    Calls Tryd.prog 66 #[.agg #[.int .i64 a, .int .i64 n, .int .i64 c, .int .i64 d, .int .i64 segs, .int .i64 f, .int .i64 blk, .int .i64 last], .int .i64 L] w fun x w' => Below w.heap.size w w' ∧
      x = .returned (.agg #[.int .i64 36, .int .i64 (36 + (L : Int)), .int .i64 (36 + (L : Int) + 32 * (chainLen n : Int)), .int .i64 (36 + (L : Int) + 32 * (chainLen n : Int) + 32 * (2 * (wid segs : Int) - 1)), .int .i64 (36 + (L : Int) + 32 * (chainLen n : Int) + 32 * (2 * (wid segs : Int) - 1) + 32 * (2 * (wid segs : Int) - 1)),
        .int .i64 (36 + (L : Int) + 32 * (chainLen n : Int) + 32 * (2 * (wid segs : Int) - 1) + 32 * (2 * (wid segs : Int) - 1) + (((segs : Int) - 1) * (blk : Int) + (last : Int)))]) := by
  have hc := chainLen_le n
  have hm := wid_le segs
  have hm2 := wid_pos segs
  have q1 := fun w => chain_any n w hn
  have q2 := fun w => nodes_any segs w hs
  generalize chainLen n = cl at *
  generalize wid segs = m at *
  obtain ⟨B, hB⟩ : ∃ B : Nat, B = (segs - 1) * blk := ⟨_, rfl⟩
  have hBl : B ≤ 511 * 1048576 := by rw [hB]; exact Nat.mul_le_mul (by omega) hb
  have e1 : ((segs : Int) - 1) * (blk : Int) = (B : Int) := by rw [hB, Int.natCast_mul]; congr 1; omega
  rw [e1]
  clear hB
  obtain ⟨s2, hs2⟩ : ∃ s2, s2 = 32 * (cl : Int) := ⟨_, rfl⟩
  obtain ⟨s3, hs3⟩ : ∃ s3, s3 = 32 * (2 * (m : Int) - 1) := ⟨_, rfl⟩
  obtain ⟨s5, hs5⟩ : ∃ s5, s5 = (B : Int) + (last : Int) := ⟨_, rfl⟩
  have Q1 := hide q1
  have Q2 := hide q2
  rw [← hs2, ← hs3, ← hs5]
  have HS := hide (And.intro hs2 (And.intro hs3 hs5))
  have r2 : 0 ≤ s2 ∧ s2 ≤ 1048576 := by omega
  have r3 : 0 ≤ s3 ∧ s3 ≤ 1048576 := by omega
  have r5 : 0 ≤ s5 ∧ s5 ≤ 1073741824 := by omega
  clear q1 q2 hs2 hs3 hs5
  go_enter Tryd.func66, Tryd.ntmps66
  go_wp2_with fail
  refine (Q1.out _).mono ?_
  rintro x w1 ⟨A, cc, rfl, b1⟩
  have HB := (((Blk.new w 24 #[.int .i64 a, .int .i64 n, .int .i64 c, .int .i64 d, .int .i64 segs, .int .i64 f, .int .i64 blk, .int .i64 last]).alloc (.cells (Array.replicate 6 (.int .i64 0)) 78))).below' b1
  have c4 : w1.cell? ⟨w.heap.size, 4, none⟩ = some (.int .i64 segs) := HB.cell 4
  have c6 : w1.cell? ⟨w.heap.size, 6, none⟩ = some (.int .i64 blk) := HB.cell 6
  have c7 : w1.cell? ⟨w.heap.size, 7, none⟩ = some (.int .i64 last) := HB.cell 7
  have hB2 := (Blk.new (w.alloc (.cells #[.int .i64 a, .int .i64 n, .int .i64 c, .int .i64 d, .int .i64 segs, .int .i64 f, .int .i64 blk, .int .i64 last] 24)) 78 (Array.replicate 6 (.int .i64 0))).below' b1
  have HB2 := hide hB2
  clear hB2
  have hsz := b1.size
  simp only [World.size_alloc] at hsz
  have B1 := hide (((Below.refl w.heap.size w).alloc (Nat.le_refl _) _).alloc (by simp) _ |>.trans (b1.mono (by simp; omega)))
  clear b1 HB
  go_wp2
  go_region_held3 (fun w' => w'.cell? ⟨w.heap.size, 4, none⟩ = some (.int .i64 segs) ∧ w'.cell? ⟨w.heap.size, 6, none⟩ = some (.int .i64 blk) ∧ w'.cell? ⟨w.heap.size, 7, none⟩ = some (.int .i64 last)) (go_keep) ((go_at_call 64; (with_reducible refine (Q2.out _).mono ?_); rintro e w1 ⟨rfl, rfl⟩))
  all_goals
    have e2 : IntKind.i64.wrap (32 * (cl : Int)) = s2 := by rw [HS.out.1]; exact IntWalk.i64_in _ (by omega)
    have e3 : IntKind.i64.wrap (32 * (2 * (m : Int) - 1)) = s3 := by rw [HS.out.2.1]; exact IntWalk.i64_in _ (by omega)
    have e4 : IntKind.i64.wrap ((segs : Int) - 1) = (segs : Int) - 1 := IntWalk.i64_in _ (by omega)
    have e5 : IntKind.i64.wrap (B : Int) = (B : Int) := IntWalk.i64_in _ (by omega)
    have e6 : IntKind.i64.wrap ((B : Int) + (last : Int)) = s5 := by rw [HS.out.2.2]; exact IntWalk.i64_in _ (by omega)
    simp only [e2, e3, e4, e1, e5, e6]
    have k7 := (Blk.new w1 144 #[.int .i64 (L : Int), .int .i64 s2, .int .i64 s3, .int .i64 s3, .int .i64 s5]).drew
    have k4 := (HB2.out.alloc (.cells #[.int .i64 (L : Int), .int .i64 s2, .int .i64 s3, .int .i64 s3, .int .i64 s5] 144)).drew
    have b7 : Below w.heap.size w (World.drew (w1.alloc (.cells #[.int .i64 (L : Int), .int .i64 s2, .int .i64 s3, .int .i64 s3, .int .i64 s5] 144))) := (B1.out.alloc B1.out.size (.cells #[.int .i64 (L : Int), .int .i64 s2, .int .i64 s3, .int .i64 s3, .int .i64 s5] 144)).drew
    simp only [World.size_alloc] at k4
    clear HB2 B1 e2 e3 e4 e5 e6 e1 Q1 Q2 HS
    have hlt := k7.lt
    generalize World.drew (w1.alloc (.cells #[.int .i64 (L : Int), .int .i64 s2, .int .i64 s3, .int .i64 s3, .int .i64 s5] 144)) = W at *
    generalize w1.heap.size = g7 at *
    have d0 : W.cell? ⟨g7, 0, none⟩ = some (.int .i64 (L : Int)) := k7.cell 0
    have d1 : W.cell? ⟨g7, 1, none⟩ = some (.int .i64 s2) := k7.cell 1
    have d2 : W.cell? ⟨g7, 2, none⟩ = some (.int .i64 s3) := k7.cell 2
    have d3 : W.cell? ⟨g7, 3, none⟩ = some (.int .i64 s3) := k7.cell 3
    have d4 : W.cell? ⟨g7, 4, none⟩ = some (.int .i64 s5) := k7.cell 4
    have hlt4 := k4.lt
    have hne4 : ¬ w.heap.size + 1 = W.heap.size := by omega
    have t1 : IntKind.i64.wrap (36 + (L : Int)) = 36 + (L : Int) := IntWalk.i64_in _ (by omega)
    have T1 := hide t1
    clear t1
    have t2 : IntKind.i64.wrap (36 + (L : Int) + s2) = 36 + (L : Int) + s2 := IntWalk.i64_in _ (by omega)
    have T2 := hide t2
    clear t2
    have t3 : IntKind.i64.wrap (36 + (L : Int) + s2 + s3) = 36 + (L : Int) + s2 + s3 := IntWalk.i64_in _ (by omega)
    have T3 := hide t3
    clear t3
    have t4 : IntKind.i64.wrap (36 + (L : Int) + s2 + s3 + s3) = 36 + (L : Int) + s2 + s3 + s3 := IntWalk.i64_in _ (by omega)
    have T4 := hide t4
    clear t4
    have t5 : IntKind.i64.wrap (36 + (L : Int) + s2 + s3 + s3 + s5) = 36 + (L : Int) + s2 + s3 + s3 + s5 := IntWalk.i64_in _ (by omega)
    have T5 := hide t5
    clear t5
    have K4 := hide k4
    have B7 := hide b7
    clear k7 k4 b7
    go_wp2
    clear d0 d1 d2 d3 d4 c4 c6 c7 r2 r3 r5 hL hb hl hBl hm hm2 hc hn hs
    go_loopw [9, 41] (fun u9 u41 wr => (u41 = .int .i64 0 ∧ u9 = .int .i64 (36) ∧ wr = W.alloc (.cells #[.int .i64 0, .int .i64 0, .int .i64 0, .int .i64 0, .int .i64 0, .int .i64 0] 78)) ∨ (u41 = .int .i64 1 ∧ u9 = .int .i64 (36 + (L : Int)) ∧ wr = W.alloc (.cells #[.int .i64 (36), .int .i64 0, .int .i64 0, .int .i64 0, .int .i64 0, .int .i64 0] 78)) ∨ (u41 = .int .i64 2 ∧ u9 = .int .i64 (36 + (L : Int) + s2) ∧ wr = W.alloc (.cells #[.int .i64 (36), .int .i64 (36 + (L : Int)), .int .i64 0, .int .i64 0, .int .i64 0, .int .i64 0] 78)) ∨ (u41 = .int .i64 3 ∧ u9 = .int .i64 (36 + (L : Int) + s2 + s3) ∧ wr = W.alloc (.cells #[.int .i64 (36), .int .i64 (36 + (L : Int)), .int .i64 (36 + (L : Int) + s2), .int .i64 0, .int .i64 0, .int .i64 0] 78)) ∨ (u41 = .int .i64 4 ∧ u9 = .int .i64 (36 + (L : Int) + s2 + s3 + s3) ∧ wr = W.alloc (.cells #[.int .i64 (36), .int .i64 (36 + (L : Int)), .int .i64 (36 + (L : Int) + s2), .int .i64 (36 + (L : Int) + s2 + s3), .int .i64 0, .int .i64 0] 78)) ∨ (u41 = .int .i64 5 ∧ u9 = .int .i64 (36 + (L : Int) + s2 + s3 + s3 + s5) ∧ wr = W.alloc (.cells #[.int .i64 (36), .int .i64 (36 + (L : Int)), .int .i64 (36 + (L : Int) + s2), .int .i64 (36 + (L : Int) + s2 + s3), .int .i64 (36 + (L : Int) + s2 + s3 + s3), .int .i64 0] 78))) (fun _ u41 _ => 5 - (intOf u41).toNat)
    case atStart => exact .inl ⟨rfl, rfl, rfl⟩
    case round =>
      rcases hrel with ⟨rfl, rfl, rfl⟩ | ⟨rfl, rfl, rfl⟩ | ⟨rfl, rfl, rfl⟩ | ⟨rfl, rfl, rfl⟩ | ⟨rfl, rfl, rfl⟩ | ⟨rfl, rfl, rfl⟩
      · have t1 := T1.out
        clear T1 T2 T3 T4 T5
        go_wp2
        go_roundw
        case rel => exact (.inr (.inl ⟨rfl, by simp, by simp⟩))
        case measure => simp [intOf]
      · have t2 := T2.out
        clear T1 T2 T3 T4 T5
        go_wp2
        go_roundw
        case rel => exact (.inr (.inr (.inl ⟨rfl, by simp, by simp⟩)))
        case measure => simp [intOf]
      · have t3 := T3.out
        clear T1 T2 T3 T4 T5
        go_wp2
        go_roundw
        case rel => exact (.inr (.inr (.inr (.inl ⟨rfl, by simp, by simp⟩))))
        case measure => simp [intOf]
      · have t4 := T4.out
        clear T1 T2 T3 T4 T5
        go_wp2
        go_roundw
        case rel => exact (.inr (.inr (.inr (.inr (.inl ⟨rfl, by simp, by simp⟩)))))
        case measure => simp [intOf]
      · have t5 := T5.out
        clear T1 T2 T3 T4 T5
        go_wp2
        go_roundw
        case rel => exact (.inr (.inr (.inr (.inr (.inr ⟨rfl, by simp, by simp⟩)))))
        case measure => simp [intOf]
      · clear T1 T2 T3 T4 T5
        go_wp2_with (refine wpList_store_row (o := ⟨none, .store _ _ _, _, _, _, _⟩) (K4.out.alloc _) #[.int .i64 (36), .int .i64 (36 + (L : Int)), .int .i64 (36 + (L : Int) + s2), .int .i64 (36 + (L : Int) + s2 + s3), .int .i64 (36 + (L : Int) + s2 + s3 + s3), .int .i64 (36 + (L : Int) + s2 + s3 + s3 + s5)] rfl (by simp [Value.oneCell']) rfl 78 _ _ rfl (by kernel_rfl) rfl rfl ?_; intro wf hb1 hg1)
        exact bodyPost_ret (results_cell_row rfl _ _ (w.heap.size + 1) 78 #[.int .i64 (36), .int .i64 (36 + (L : Int)), .int .i64 (36 + (L : Int) + s2), .int .i64 (36 + (L : Int) + s2 + s3), .int .i64 (36 + (L : Int) + s2 + s3 + s3), .int .i64 (36 + (L : Int) + s2 + s3 + s3 + s5)] (0, 0) _ rfl hb1 Tryd.underlying78 rfl (by kernel_rfl)) rfl ⟨(B7.out.alloc B7.out.size _).grown hg1 (by simp; omega) (fun k hk => by cases hk; omega), rfl⟩
end Go.Proofs.YtdohebhbiokljaaDoor

/- Contracts of the law's sameRows, of the helper Pick. -/
namespace Go.Proofs.YtdohebhbiokljaaDoor
open Go.RowKit
attribute [local go_sem ↓] Go.wp_at_zero Go.wp_at_succ

theorem lst_inj {a b : ByteArray} (h : lst a = lst b) : a = b := by
  apply ByteArray.ext
  exact Array.toList_inj.1 h

set_option maxRecDepth 100000 in
set_option maxHeartbeats 4000000 in
theorem sameRows_eq (va vb : Value) (L M : List RowV) (w : World) (ha : Rws w va L) (hb : Rws w vb M) (heq : rws L = rws M) :
    Calls Tryd.prog 30 #[va, vb] w fun e w' => e = .returned (.bool true) ∧ Below w.heap.size w w' := by
  have HA := hide ha
  have HB := hide hb
  have hlen : L.length = M.length := by have := congrArg List.length heq; simpa using this
  have HE := hide heq
  obtain ⟨A, c, rfl, hc, hm, hca⟩ := ha.form
  obtain ⟨B, d, rfl, hd, hmd, hcb⟩ := hb.form
  have HCA := hide hca
  have HCB := hide hcb
  unfold maxLen at hm hmd
  have g1 : ((L.length : Int) != (M.length : Int)) = false := by simp [hlen]
  have HLEN := hide hlen
  clear ha hb heq hca hcb hlen
  go_enter Tryd.func30, Tryd.ntmps30
  go_wp2
  go_loopw [5] (fun u5 wr => ∃ k : Nat, k ≤ L.length ∧ u5 = .int .i64 k ∧ Below w.heap.size w wr) (fun i _ => L.length - (intOf i).toNat)
  case atStart => exact ⟨0, by omega, rfl, Below.refl _ _⟩
  case round =>
    obtain ⟨k, hk, rfl, hw⟩ := hrel
    by_cases hlt : k < L.length
    · obtain ⟨x, hx⟩ : ∃ x, L[k]? = some x := ⟨_, List.getElem?_eq_getElem hlt⟩
      obtain ⟨y, hy⟩ : ∃ y, M[k]? = some y := ⟨_, List.getElem?_eq_getElem (by have := HLEN.out; omega)⟩
      obtain ⟨b, o, rfl, hbl, h1, h2⟩ := HCA.out k x hx
      obtain ⟨b2, o2, rfl, hbl2, h3, h4⟩ := HCB.out k y hy
      have hxy : (lst x.1, x.2.2) = (lst y.1, y.2.2) := by
        have e1 := rws_get hx
        rw [HE.out, rws_get hy] at e1
        exact (Option.some.inj e1).symm
      have hn : x.1 = y.1 := lst_inj (Prod.mk.inj hxy).1
      have hv : x.2.2 = y.2.2 := (Prod.mk.inj hxy).2
      rw [← hn] at h3
      have hy1 := HA.out.2 x (List.mem_of_getElem? hx)
      have hy2 := HB.out.2 y (List.mem_of_getElem? hy)
      obtain ⟨A3, c3, hv3, _⟩ := hy1.form
      obtain ⟨A4, c4, hv4, _⟩ := hy2.form
      rw [hv3] at h2 hy1
      rw [hv4] at h4 hy2
      have HS : Hid (∀ W, Below w.heap.size w W → W.cell? ⟨b, o + k * 2, none⟩ = some (.string x.1) ∧ W.cell? ⟨b, o + k * 2 + 1, none⟩ = some (.slice A3 x.2.2.length c3) ∧ W.cell? ⟨b2, o2 + k * 2, none⟩ = some (.string x.1) ∧ W.cell? ⟨b2, o2 + k * 2 + 1, none⟩ = some (.slice A4 y.2.2.length c4)) := fun W hW =>
        ⟨(hW.cell (p := ⟨b, o + k * 2, none⟩) hbl).trans h1, (hW.cell (p := ⟨b, o + k * 2 + 1, none⟩) hbl).trans h2, (hW.cell (p := ⟨b2, o2 + k * 2, none⟩) hbl2).trans h3, (hW.cell (p := ⟨b2, o2 + k * 2 + 1, none⟩) hbl2).trans h4⟩
      have HC : Hid (∀ W, Below w.heap.size w W → Calls Tryd.prog 21 #[.slice A3 x.2.2.length c3, .slice A4 y.2.2.length c4] W fun e w' => e = .returned (.bool true) ∧ Below w.heap.size w w') := fun W hW => by
        have q := same_any _ _ x.2.2 y.2.2 W (hy1.below hW) (hy2.below hW)
        rw [decide_eq_true hv] at q
        exact q.mono fun e w' ⟨h1, h2⟩ => ⟨h1, hW.trans (h2.mono hW.size)⟩
      obtain ⟨s1, s2, s3, s4⟩ := HS.out wr hw
      have i1 : (k : Int) < (L.length : Int) := by omega
      have i2 : (0 : Int) ≤ (k : Int) := by omega
      have i3 : (k : Int) < (M.length : Int) := by have := HLEN.out; omega
      clear hx hy h1 h2 h3 h4 hxy hv hy1 hy2 hv3 hv4 hn
      have g2 : (x.1.toList == x.1.toList) = true := by simp
      go_wp2_with fail
      go_region_held3 (fun w' => w'.cell? ⟨b, o + k * 2, none⟩ = some (.string x.1) ∧ w'.cell? ⟨b, o + k * 2 + 1, none⟩ = some (.slice A3 x.2.2.length c3) ∧ w'.cell? ⟨b2, o2 + k * 2, none⟩ = some (.string x.1) ∧ w'.cell? ⟨b2, o2 + k * 2 + 1, none⟩ = some (.slice A4 y.2.2.length c4))
        (first | go_keep | exact HS.out _ q1)
        ((go_at_call 21; (with_reducible refine (HC.out _ ?bb).mono ?_); (case bb => (repeat (first | with_reducible exact hw | with_reducible refine Below.drew ?_))); rintro e w2 ⟨rfl, q1⟩))
      all_goals
        go_wp2
        go_roundw
        case rel => exact ⟨k + 1, by omega, by go_num, q1⟩
        case measure => simp [intOf]; omega
    · have hge : ¬ (k : Int) < (L.length : Int) := by omega
      go_wp2
      go_ret
      exact ⟨rfl, hw⟩

end Go.Proofs.YtdohebhbiokljaaDoor

/- The law's awake: its length, and a table of one row. -/
namespace Go.Proofs.YtdohebhbiokljaaDoor
open Go.RowKit

def z32 : List UInt8 := List.replicate 32 0
set_option maxRecDepth 100000 in
set_option maxHeartbeats 400000 in
theorem known_cells : ((((Tryd.zeroCells37.setIfInBounds 0 (Value.int IntKind.i64 3)).setIfInBounds 1 (Value.int IntKind.i64 10)).setIfInBounds 2 (Value.int IntKind.i64 66)).setIfInBounds 3 (Value.int IntKind.i64 1000)) = uebC 3 10 66 1000 (bcells z32 ++ bcells z32) := by kernel_rfl
theorem known_one : (uebC 3 10 66 1000 (bcells z32 ++ bcells z32)).all (·.oneCell') = true := by kernel_rfl
theorem known_size : (uebC 3 10 66 1000 (bcells z32 ++ bcells z32)).size = (Tryd.zeroCells37).size := by kernel_rfl
theorem known_info : (Tryd.prog.info? 37).map (·.size) = some (uebC 3 10 66 1000 (bcells z32 ++ bcells z32)).size := by kernel_rfl
set_option maxRecDepth 100000 in
set_option maxHeartbeats 400000 in
theorem known_any (w : World) : Calls Tryd.prog 54 #[] w fun e w' => e = .returned (.agg (uebC 3 10 66 1000 (bcells z32 ++ bcells z32))) ∧ Below w.heap.size w w' := by
  have hkc := known_cells
  have h1 := known_one
  have h2 := known_size
  have h3 := known_info
  have H := hide (And.intro h1 (And.intro h2 h3))
  clear h1 h2 h3
  generalize uebC 3 10 66 1000 (bcells z32 ++ bcells z32) = cs at *
  go_enter Tryd.func54, Tryd.ntmps54
  go_wp2_with (refine wpList_store_row (o := ⟨none, .store _ _ _, _, _, _, _⟩) (Blk.new w _ _) cs H.out.2.1 H.out.1 rfl 37 _ _ rfl H.out.2.2 rfl (by first | rfl | exact congrArg Value.agg hkc) ?_; intro w1 hb1 hg1)
  exact bodyPost_ret (results_cell_row rfl _ _ w.heap.size 37 cs (0, 0) _ rfl hb1 Tryd.underlying37 rfl H.out.2.2) rfl ⟨rfl, ((Below.refl _ w).alloc (Nat.le_refl _) _).grown hg1 (by simp) (fun k hk => by cases hk; exact Nat.le_refl _)⟩

theorem known_ok : agOK 3 10 66 1000 := by unfold agOK upN; decide
theorem known_len : uebLen 3 10 66 1000 z32 z32 = 134 := by unfold uebLen; decide +kernel
def tOne : List RowV → List Rw := rws
theorem one_may : may [([97], [120, 121, 122])] := by
  intro i hi
  simp only [List.length_cons, List.length_nil] at hi
  obtain rfl : i = 0 := by omega
  decide
theorem one_encs : encs [([97], [120, 121, 122])] = [49, 58, 97, 44, 51, 58, 120, 121, 122, 44] := by decide +kernel

set_option maxRecDepth 100000 in
set_option maxHeartbeats 4000000 in
theorem awake_yes (w : World) (ht : Tab w) : Calls Tryd.prog 27 #[] w fun e w' => e = .returned (.bool true) ∧ Below w.heap.size w w' := by
  have q1 := known_any w
  have q2 := fun w ht => length_any 3 10 66 1000 z32 z32 w (by omega) (by omega) (by omega) (by omega) rfl rfl ht
  simp only [if_pos known_ok, known_len] at q2
  have HT := hide ht
  have Q1 := hide q1
  have Q2 := hide q2
  clear q1 q2 ht
  generalize uebC 3 10 66 1000 (bcells z32 ++ bcells z32) = cs at *
  have kc := fun (w : World) (C : Array Value) (n c : Nat) => Lib.run_convert_bytes_const (P := Tryd.prog) w 38 5 C n c Tryd.underlying38 Tryd.underlying5
  go_enter Tryd.func27, Tryd.ntmps27
  go_wp2_with fail
  refine Q1.out.mono ?_
  rintro e w0 ⟨rfl, b0⟩
  have B0 := hide b0
  clear b0
  go_wp2_with fail
  refine (Q2.out w0 (HT.out.below B0.out)).mono ?_
  rintro e w1 ⟨b1, rfl⟩
  have B1 := hide (B0.out.trans (b1.mono B0.out.size))
  clear b1 Q1 Q2
  go_wp2_with fail
  have al1 : Below w1.heap.size w1 (w1.alloc (.cells #[.int .u8 120, .int .u8 121, .int .u8 122] 5 (3, 4))) := (Below.refl _ w1).alloc (Nat.le_refl _) _
  have al2 := al1.alloc (by simp) (.cells #[.string ⟨#[97]⟩, .slice (some ⟨w1.heap.size, 0, none⟩) 3 3] 87)
  have hrow : Rws ((w1.alloc (.cells #[.int .u8 120, .int .u8 121, .int .u8 122] 5 (3, 4))).alloc (.cells #[.string ⟨#[97]⟩, .slice (some ⟨w1.heap.size, 0, none⟩) 3 3] 87)) (.slice (some ⟨w1.heap.size + 1, 0, none⟩) 1 1) [(⟨#[97]⟩, .slice (some ⟨w1.heap.size, 0, none⟩) 3 3, [120, 121, 122])] := by
    have hb := blk_new' (w1.alloc (.cells #[.int .u8 120, .int .u8 121, .int .u8 122] 5 (3, 4))) (w1.heap.size + 1) 87 #[.string ⟨#[97]⟩, .slice (some ⟨w1.heap.size, 0, none⟩) 3 3] (by simp)
    have := hb.own (base := 0) (e := 87) (n := 1) (cap := 1) (sz := 2) rfl (Nat.zero_le _) rfl (Nat.le_refl _) (by unfold maxLen; omega)
    refine ⟨Sl.of_own this, fun x hx => ?_⟩
    simp only [List.mem_singleton] at hx
    subst hx
    exact (by_marked w1 5 (3, 4) [120, 121, 122] (by simp)).alloc _
  have q3 := pack_any _ _ _ hrow ((HT.out.below B1.out).below al2)
  have hrws : rws [((⟨#[97]⟩, .slice (some ⟨w1.heap.size, 0, none⟩) 3 3, [120, 121, 122]) : RowV)] = [([97], [120, 121, 122])] := rfl
  rw [hrws, one_encs] at q3
  have Q3 := hide q3
  have AL := hide (B1.out.trans (al2.mono B1.out.size))
  clear q3 hrow hrws al1 al2
  refine Q3.out.mono ?_
  rintro e w2 ⟨b2, ⟨-, v', rfl, o2⟩ | ⟨hno, -⟩⟩
  · have B2 := hide (AL.out.trans (b2.mono AL.out.size))
    obtain ⟨A2, c2, hv2, _⟩ := o2.by_.form
    subst hv2
    have O2 := hide o2
    clear Q3 AL b2 o2
    have q4 := same_any _ _ [49, 58, 97, 44, 51, 58, 120, 121, 122, 44] [49, 58, 97, 44, 51, 58, 120, 121, 122, 44] _ (O2.out.by_.alloc (.cells (bcells [49, 58, 97, 44, 51, 58, 120, 121, 122, 44]).toArray 5 (10, 11))) (by_marked w2 5 (10, 11) [49, 58, 97, 44, 51, 58, 120, 121, 122, 44] (by simp))
    rw [decide_eq_true rfl] at q4
    have Q4 := hide q4
    clear q4
    go_wp2_with fail
    refine Q4.out.mono ?_
    rintro e w3 ⟨rfl, b3⟩
    have B3 := hide ((B2.out.alloc B2.out.size (.cells (bcells [49, 58, 97, 44, 51, 58, 120, 121, 122, 44]).toArray 5 (10, 11))).trans (b3.mono (by have := B2.out.size; simp; omega)))
    clear b3
    go_wp2_with fail
    go_ret
    exact ⟨rfl, B3.out⟩
  · exact absurd one_may hno
end Go.Proofs.YtdohebhbiokljaaDoor

/- Contracts of laid, FrontLen, Len and Place, at shapes that fit. -/
namespace Go.Proofs.YtdohebhbiokljaaDoor
open Go.RowKit

theorem uebLen_le (k n seg size : Int) (sh sg : List UInt8) (hk : -9223372036854775808 ≤ k ∧ k ≤ 9223372036854775807) (hn : -9223372036854775808 ≤ n ∧ n ≤ 9223372036854775807) (hs : -9223372036854775808 ≤ seg ∧ seg ≤ 9223372036854775807) (hz : -9223372036854775808 ≤ size ∧ size ≤ 9223372036854775807)
    (h1 : sh.length = 32) (h2 : sg.length = 32) : (encs (uebRows k n seg size sh sg)).length ≤ 400 := by
  have l1 := numS_len k hk
  have l2 := numS_len n hn
  have l3 := numS_len seg hs
  have l4 := numS_len size hz
  have f1 := fld_len _ (show (lst (numS k)).length ≤ 65536 by omega)
  have f2 := fld_len _ (show (lst (numS n)).length ≤ 65536 by omega)
  have f3 := fld_len _ (show (lst (numS seg)).length ≤ 65536 by omega)
  have f4 := fld_len _ (show (lst (numS size)).length ≤ 65536 by omega)
  have f5 := fld_len sh (by omega)
  have f6 := fld_len sg (by omega)
  have g1 := fld_len tK (by decide)
  have g2 := fld_len tN (by decide)
  have g3 := fld_len tSeg (by decide)
  have g4 := fld_len tSegments (by decide)
  have g5 := fld_len tShares (by decide)
  have g6 := fld_len tSize (by decide)
  have k1 : tK.length = 1 := rfl
  have k2 : tN.length = 1 := rfl
  have k3 : tSeg.length = 3 := rfl
  have k4 : tSegments.length = 8 := rfl
  have k5 : tShares.length = 6 := rfl
  have k6 : tSize.length = 4 := rfl
  simp only [encs, uebRows, List.flatMap_cons, List.flatMap_nil, enc, List.length_append, List.length_nil]
  omega

theorem results_row_tmp {P : Program} {fn : Func} {p u : Tmp} {ty : TypeId} (h : fn.results = #[.cell p ty, .tmp u]) (tmps : Array Value) (w : World) (g : Nat) (t : TypeId) (cs : Array Value) (fr : Nat × Nat) (d : TypeDesc)
    (hp : tmps.getD p undef = .pointer (some ⟨g, 0, none⟩)) (hg : w.heap[g]? = some (.cells cs t fr))
    (hu : P.underlying ty = some d) (hd : (match d with | .struct _ | .array _ _ => true | _ => false) = true) (hi : (P.info? ty).map (·.size) = some cs.size) :
    (results fn tmps).run P w = .ok (.tuple #[.agg cs, tmps.getD u undef]) w := by
  rw [results_cell_tmp h, hp]
  simp [asAddr, run_loadVar_row w g t ty cs fr d hg hu hd hi, Result.andThen]

/-- The places of the parts of a share whose Ueb has so many bytes. -/
def lays (n segs blk last L : Nat) : Array Value := #[.int .i64 36, .int .i64 (36 + (L : Int)), .int .i64 (36 + (L : Int) + 32 * (chainLen n : Int)), .int .i64 (36 + (L : Int) + 32 * (chainLen n : Int) + 32 * (2 * (wid segs : Int) - 1)), .int .i64 (36 + (L : Int) + 32 * (chainLen n : Int) + 32 * (2 * (wid segs : Int) - 1) + 32 * (2 * (wid segs : Int) - 1)),
        .int .i64 (36 + (L : Int) + 32 * (chainLen n : Int) + 32 * (2 * (wid segs : Int) - 1) + 32 * (2 * (wid segs : Int) - 1) + (((segs : Int) - 1) * (blk : Int) + (last : Int)))]

set_option maxRecDepth 100000 in
set_option maxHeartbeats 400000 in
theorem ueb_cells (k n seg size : Int) : ((((Tryd.zeroCells37.setIfInBounds 0 (Value.int IntKind.i64 k)).setIfInBounds 1 (Value.int IntKind.i64 n)).setIfInBounds 2 (Value.int IntKind.i64 seg)).setIfInBounds 3 (Value.int IntKind.i64 size)) = uebC k n seg size (bcells z32 ++ bcells z32) := by kernel_rfl

set_option maxRecDepth 100000 in
set_option maxHeartbeats 2000000 in
theorem laid_ok (K N G Z segs tail blk last : Nat) (w : World) (q : Sits K N G Z segs tail blk last) (hag : agOK K N G Z) (hn : 1 ≤ N ∧ N ≤ 255) (hs : 1 ≤ segs ∧ segs ≤ 512) (hb : blk ≤ 1048576) (hl : last ≤ 1048576) (hz : K ≤ 1048576 ∧ N ≤ 1048576 ∧ G ≤ 1048576 ∧ Z ≤ 1048576 * 1048576) (L : Nat) (hL : uebLen K N G Z z32 z32 = (L : Int)) (ht : Tab w) :
    Calls Tryd.prog 39 #[.agg #[.int .i64 K, .int .i64 N, .int .i64 G, .int .i64 Z, .int .i64 segs, .int .i64 tail, .int .i64 blk, .int .i64 last]] w fun x w' => Below w.heap.size w w' ∧
      x = .returned (.tuple #[.agg (lays N segs blk last L), .int .i64 0]) := by
  have hL4 : L ≤ 400 := by
    have := uebLen_le K N G Z z32 z32 (by omega) (by omega) (by omega) (by omega) rfl rfl
    unfold uebLen at hL
    omega
  have q1 := fun w => fits_ok K N G Z segs tail blk last w q
  have q2 : ∀ w, Tab w → Calls Tryd.prog 18 #[.agg (uebC K N G Z (bcells z32 ++ bcells z32))] w fun e w' => Below w.heap.size w w' ∧ e = .returned (.tuple #[.int .i64 (L : Int), .int .i64 0]) := fun w ht => by
    have := length_any K N G Z z32 z32 w (by omega) (by omega) (by omega) (by omega) rfl rfl ht
    rwa [if_pos hag, hL] at this
  have q3 : ∀ w, Calls Tryd.prog 66 #[.agg #[.int .i64 K, .int .i64 N, .int .i64 G, .int .i64 Z, .int .i64 segs, .int .i64 tail, .int .i64 blk, .int .i64 last], .int .i64 (L : Int)] w fun x w' => Below w.heap.size w w' ∧ x = .returned (.agg (lays N segs blk last L)) := fun w => lay_any K G Z tail N segs blk last L w (by omega) hs hb hl (by omega)
  have hsize : (lays N segs blk last L).size = 6 := rfl
  have hone : (lays N segs blk last L).all (·.oneCell') = true := by simp [lays, Value.oneCell']
  have hkc := ueb_cells K N G Z
  have Q1 := hide q1
  have Q2 := hide q2
  have Q3 := hide q3
  have HT := hide ht
  clear q q1 q2 q3 hag hL hn hs hb hl hz hL4 ht
  generalize lays N segs blk last L = ls at *
  have HO := hide (And.intro hsize hone)
  clear hsize hone
  generalize uebC K N G Z (bcells z32 ++ bcells z32) = cs at *
  go_enter Tryd.func39, Tryd.ntmps39
  go_wp2_with fail
  refine (Q1.out _).mono ?_
  rintro x w1 ⟨b1, rfl⟩
  have HB := ((Blk.new w 24 #[.int .i64 K, .int .i64 N, .int .i64 G, .int .i64 Z, .int .i64 segs, .int .i64 tail, .int .i64 blk, .int .i64 last]).alloc (.cells (Array.replicate 6 (.int .i64 0)) 78)).below' b1
  have c0 : w1.cell? ⟨w.heap.size, 0, none⟩ = some (.int .i64 K) := HB.cell 0
  have c1 : w1.cell? ⟨w.heap.size, 1, none⟩ = some (.int .i64 N) := HB.cell 1
  have c2 : w1.cell? ⟨w.heap.size, 2, none⟩ = some (.int .i64 G) := HB.cell 2
  have c3 : w1.cell? ⟨w.heap.size, 3, none⟩ = some (.int .i64 Z) := HB.cell 3
  have hB2 := (Blk.new (w.alloc (.cells #[.int .i64 K, .int .i64 N, .int .i64 G, .int .i64 Z, .int .i64 segs, .int .i64 tail, .int .i64 blk, .int .i64 last] 24)) 78 (Array.replicate 6 (.int .i64 0))).below' b1
  have B1 := hide (((Below.refl w.heap.size w).alloc (Nat.le_refl _) _).alloc (by simp) _ |>.trans (b1.mono (by simp; omega)))
  have HB1 := hide HB
  have HB2 := hide hB2
  clear b1 HB hB2
  go_wp2_with fail
  refine (Q2.out _ (HT.out.below B1.out)).mono ?_
  rintro x w2 ⟨b2, rfl⟩
  have c8 : ∀ i, w2.cell? ⟨w.heap.size, i, none⟩ = #[.int .i64 K, .int .i64 N, .int .i64 G, .int .i64 Z, .int .i64 segs, .int .i64 tail, .int .i64 blk, .int .i64 last][i]? := fun i => ((HB1.out).below' b2).cell i
  have d0 : w2.cell? ⟨w.heap.size, 0, none⟩ = some (.int .i64 K) := c8 0
  have d1 : w2.cell? ⟨w.heap.size, 1, none⟩ = some (.int .i64 N) := c8 1
  have d2 : w2.cell? ⟨w.heap.size, 2, none⟩ = some (.int .i64 G) := c8 2
  have d3 : w2.cell? ⟨w.heap.size, 3, none⟩ = some (.int .i64 Z) := c8 3
  have d4 : w2.cell? ⟨w.heap.size, 4, none⟩ = some (.int .i64 segs) := c8 4
  have d5 : w2.cell? ⟨w.heap.size, 5, none⟩ = some (.int .i64 tail) := c8 5
  have d6 : w2.cell? ⟨w.heap.size, 6, none⟩ = some (.int .i64 blk) := c8 6
  have d7 : w2.cell? ⟨w.heap.size, 7, none⟩ = some (.int .i64 last) := c8 7
  have B2 := hide (B1.out.trans (b2.mono B1.out.size))
  have HB3 := hide (HB2.out.below' b2)
  clear c0 c1 c2 c3 b2 HB2 HB1 c8
  go_wp2_with fail
  refine (Q3.out _).mono ?_
  rintro x w3 ⟨b3, rfl⟩
  have B3 := hide (B2.out.trans (b3.mono B2.out.size))
  have HB4 := hide (HB3.out.below' b3)
  clear d0 d1 d2 d3 d4 d5 d6 d7 b3
  go_wp2_with (refine wpList_store_row (o := ⟨none, .store _ _ _, _, _, _, _⟩) HB4.out ls (by rw [HO.out.1]; rfl) HO.out.2 rfl 78 _ _ rfl (by rw [HO.out.1]; kernel_rfl) (by simp only [World.size_alloc]; rfl) rfl ?_; intro wf hb1 hg1)
  simp only [World.size_alloc] at hb1 hg1
  exact bodyPost_ret (results_row_tmp rfl _ _ (w.heap.size + 1) 78 ls (0, 0) _ rfl hb1 Tryd.underlying78 rfl (by rw [HO.out.1]; kernel_rfl)) rfl ⟨B3.out.grown hg1 (by have := B3.out.size; have := HB4.out.lt; simp at this; omega) (fun k hk => by cases hk; omega), rfl⟩

set_option maxRecDepth 100000 in
set_option maxHeartbeats 1000000 in
theorem laid_no (w : World) :
    Calls Tryd.prog 39 #[.agg #[.int .i64 0, .int .i64 0, .int .i64 0, .int .i64 0, .int .i64 0, .int .i64 0, .int .i64 0, .int .i64 0]] w fun x w' => Below w.heap.size w w' ∧ x = .returned (.tuple #[.agg #[.int .i64 0, .int .i64 0, .int .i64 0, .int .i64 0, .int .i64 0, .int .i64 0], .int .i64 3]) := by
  have Q1 := hide (fun w => fits_no w)
  go_enter Tryd.func39, Tryd.ntmps39
  go_wp2_with fail
  refine (Q1.out _).mono ?_
  rintro x w1 ⟨b1, rfl⟩
  have hB2 := (Blk.new (w.alloc (.cells #[.int .i64 0, .int .i64 0, .int .i64 0, .int .i64 0, .int .i64 0, .int .i64 0, .int .i64 0, .int .i64 0] 24)) 78 #[.int .i64 0, .int .i64 0, .int .i64 0, .int .i64 0, .int .i64 0, .int .i64 0]).below' b1
  have B1 := hide (((Below.refl w.heap.size w).alloc (Nat.le_refl _) _).alloc (by simp) _ |>.trans (b1.mono (by simp; omega)))
  have HB2 := hide hB2
  clear b1 hB2
  go_wp2_with (refine wpList_store_row (o := ⟨none, .store _ _ _, _, _, _, _⟩) HB2.out #[.int .i64 0, .int .i64 0, .int .i64 0, .int .i64 0, .int .i64 0, .int .i64 0] rfl (by simp [Value.oneCell']) rfl 78 _ _ rfl (by kernel_rfl) (by simp only [World.size_alloc]; rfl) (by kernel_rfl) ?_; intro wf hb1 hg1)
  simp only [World.size_alloc] at hb1 hg1
  exact bodyPost_ret (results_row_tmp rfl _ _ (w.heap.size + 1) 78 #[.int .i64 0, .int .i64 0, .int .i64 0, .int .i64 0, .int .i64 0, .int .i64 0] (0, 0) _ rfl hb1 Tryd.underlying78 rfl (by kernel_rfl)) rfl ⟨B1.out.grown hg1 (by have := HB2.out.lt; simp at this; omega) (fun k hk => by cases hk; omega), rfl⟩

set_option maxRecDepth 100000 in
set_option maxHeartbeats 1000000 in
theorem frontLen_any (v0 v1 v2 v3 v4 v5 v6 v7 a0 a1 a2 a3 a4 a5 err : Int) (w : World)
    (q : ∀ w1, Below w.heap.size w w1 → Calls Tryd.prog 39 #[.agg #[.int .i64 v0, .int .i64 v1, .int .i64 v2, .int .i64 v3, .int .i64 v4, .int .i64 v5, .int .i64 v6, .int .i64 v7]] w1 fun x w' => Below w1.heap.size w1 w' ∧ x = .returned (.tuple #[.agg #[.int .i64 a0, .int .i64 a1, .int .i64 a2, .int .i64 a3, .int .i64 a4, .int .i64 a5], .int .i64 err])) :
    Calls Tryd.prog 11 #[.agg #[.int .i64 v0, .int .i64 v1, .int .i64 v2, .int .i64 v3, .int .i64 v4, .int .i64 v5, .int .i64 v6, .int .i64 v7]] w fun x w' => Below w.heap.size w w' ∧ x = .returned (.tuple #[.int .i64 a4, .int .i64 err]) := by
  have Q := hide q
  clear q
  go_enter Tryd.func11, Tryd.ntmps11
  go_wp2_with fail
  refine (Q.out _ ((Below.refl w.heap.size w).alloc (Nat.le_refl _) _)).mono ?_
  rintro x w1 ⟨b1, rfl⟩
  have B1 := hide (((Below.refl w.heap.size w).alloc (Nat.le_refl _) _).trans (b1.mono (by simp)))
  clear b1
  go_wp2
  go_ret2
  exact ⟨B1.out.alloc B1.out.size _, rfl⟩

set_option maxRecDepth 100000 in
set_option maxHeartbeats 1000000 in
theorem len_any (v0 v1 v2 v3 v4 v5 v6 v7 a0 a1 a2 a3 a4 a5 err : Int) (w : World)
    (q : ∀ w1, Below w.heap.size w w1 → Calls Tryd.prog 39 #[.agg #[.int .i64 v0, .int .i64 v1, .int .i64 v2, .int .i64 v3, .int .i64 v4, .int .i64 v5, .int .i64 v6, .int .i64 v7]] w1 fun x w' => Below w1.heap.size w1 w' ∧ x = .returned (.tuple #[.agg #[.int .i64 a0, .int .i64 a1, .int .i64 a2, .int .i64 a3, .int .i64 a4, .int .i64 a5], .int .i64 err])) :
    Calls Tryd.prog 12 #[.agg #[.int .i64 v0, .int .i64 v1, .int .i64 v2, .int .i64 v3, .int .i64 v4, .int .i64 v5, .int .i64 v6, .int .i64 v7]] w fun x w' => Below w.heap.size w w' ∧ x = .returned (.tuple #[.int .i64 a5, .int .i64 err]) := by
  have Q := hide q
  clear q
  go_enter Tryd.func12, Tryd.ntmps12
  go_wp2_with fail
  refine (Q.out _ ((Below.refl w.heap.size w).alloc (Nat.le_refl _) _)).mono ?_
  rintro x w1 ⟨b1, rfl⟩
  have B1 := hide (((Below.refl w.heap.size w).alloc (Nat.le_refl _) _).trans (b1.mono (by simp)))
  clear b1
  go_wp2
  go_ret2
  exact ⟨B1.out.alloc B1.out.size _, rfl⟩

set_option maxRecDepth 100000 in
set_option maxHeartbeats 1000000 in
theorem place_in (v0 v1 v2 v3 v4 v5 v6 v7 a0 a1 a2 a3 a4 a5 j m at_ : Int) (w : World) (hj : 0 ≤ j ∧ j < v4) (h4 : 1 ≤ v4 ∧ v4 ≤ 512) (qs : Sits v0 v1 v2 v3 v4 v5 v6 v7)
    (hm : szV j v4 v6 v7 = .tuple #[.int .i64 m, .int .i64 0]) (e1 : IntKind.i64.wrap (j * v6) = j * v6) (e2 : IntKind.i64.wrap (a4 + j * v6) = at_)
    (q : ∀ w1, Below w.heap.size w w1 → Calls Tryd.prog 39 #[.agg #[.int .i64 v0, .int .i64 v1, .int .i64 v2, .int .i64 v3, .int .i64 v4, .int .i64 v5, .int .i64 v6, .int .i64 v7]] w1 fun x w' => Below w1.heap.size w1 w' ∧ x = .returned (.tuple #[.agg #[.int .i64 a0, .int .i64 a1, .int .i64 a2, .int .i64 a3, .int .i64 a4, .int .i64 a5], .int .i64 0])) :
    Calls Tryd.prog 13 #[.agg #[.int .i64 v0, .int .i64 v1, .int .i64 v2, .int .i64 v3, .int .i64 v4, .int .i64 v5, .int .i64 v6, .int .i64 v7], .int .i64 j] w fun x w' => Below w.heap.size w w' ∧ x = .returned (.tuple #[.int .i64 at_, .int .i64 m, .int .i64 0]) := by
  have q2 := fun w => blockSize_ok v0 v1 v2 v3 v4 v5 v6 v7 j w qs hj.1 h4
  rw [hm] at q2
  have Q := hide q
  have Q2 := hide q2
  clear q q2 qs hm
  go_enter Tryd.func13, Tryd.ntmps13
  go_wp2_with fail
  refine (Q.out _ ((Below.refl w.heap.size w).alloc (Nat.le_refl _) _)).mono ?_
  rintro x w1 ⟨b1, rfl⟩
  have B1 := hide (((Below.refl w.heap.size w).alloc (Nat.le_refl _) _).trans (b1.mono (by simp)))
  have HB := hide ((Blk.new w 24 #[.int .i64 v0, .int .i64 v1, .int .i64 v2, .int .i64 v3, .int .i64 v4, .int .i64 v5, .int .i64 v6, .int .i64 v7]).below' b1)
  have hlt := HB.out.lt
  have hne : ¬ w.heap.size = w1.heap.size := by omega
  have c0 : w1.cell? ⟨w.heap.size, 0, none⟩ = some (.int .i64 v0) := HB.out.cell 0
  have c1 : w1.cell? ⟨w.heap.size, 1, none⟩ = some (.int .i64 v1) := HB.out.cell 1
  have c2 : w1.cell? ⟨w.heap.size, 2, none⟩ = some (.int .i64 v2) := HB.out.cell 2
  have c3 : w1.cell? ⟨w.heap.size, 3, none⟩ = some (.int .i64 v3) := HB.out.cell 3
  have c4 : w1.cell? ⟨w.heap.size, 4, none⟩ = some (.int .i64 v4) := HB.out.cell 4
  have c5 : w1.cell? ⟨w.heap.size, 5, none⟩ = some (.int .i64 v5) := HB.out.cell 5
  have c6 : w1.cell? ⟨w.heap.size, 6, none⟩ = some (.int .i64 v6) := HB.out.cell 6
  have c7 : w1.cell? ⟨w.heap.size, 7, none⟩ = some (.int .i64 v7) := HB.out.cell 7
  clear b1
  go_wp2_with fail
  refine (Q2.out _).mono ?_
  rintro x w2 ⟨b2, rfl⟩
  have hp := hide ((Blk.new w1 78 #[.int .i64 a0, .int .i64 a1, .int .i64 a2, .int .i64 a3, .int .i64 a4, .int .i64 a5]).below' b2)
  have d4 : w2.cell? ⟨w1.heap.size, 4, none⟩ = some (.int .i64 a4) := hp.out.cell 4
  have d6 : w2.cell? ⟨w.heap.size, 6, none⟩ = some (.int .i64 v6) := ((HB.out.alloc _).below' b2).cell 6
  have B2 := hide ((B1.out.alloc B1.out.size _).trans (b2.mono (by have := B1.out.size; simp; omega)))
  clear b2 c0 c1 c2 c3 c4 c5 c6 c7
  go_wp2
  go_ret3
  exact ⟨B2.out, rfl⟩
end Go.Proofs.YtdohebhbiokljaaDoor
