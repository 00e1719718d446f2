/- Joined texts: UebC, UebD, UebE. -/
import Derived.Test.YteaagngikiaokaaDoorCutM
import Derived.Test.YteaagngikiaokaaDoorUebN

/- The contracts of the program's Write and Length. -/
namespace Go.Proofs.YteaagngikiaokaaDoor
open Go.RowKit
attribute [local go_sem ↓] Go.wp_at_zero Go.wp_at_succ

theorem Below.al {B : Nat} {w W : World} (h : Below B w W) (hB : B ≤ w.heap.size) (o : Obj) : Below B w (W.alloc o) := h.alloc (Nat.le_trans hB h.size) o
theorem Below.step {w W W' : World} (h : Below w.heap.size w W) (h' : Below W.heap.size W W') : Below w.heap.size w W' := h.trans (h'.mono h.size)
theorem Below.al0 {w W : World} (h : Below w.heap.size w W) (o : Obj) : Below w.heap.size w (W.alloc o) := h.alloc h.size o

def tK : List UInt8 := [107]
def tN : List UInt8 := [110]
def tSeg : List UInt8 := [115, 101, 103]
def tSegments : List UInt8 := [115, 101, 103, 109, 101, 110, 116, 115]
def tShares : List UInt8 := [115, 104, 97, 114, 101, 115]
def tSize : List UInt8 := [115, 105, 122, 101]
/-- The table of a Ueb. -/
def uebRows (k n seg size : Int) (sh sg : List UInt8) : List Rw := [(tK, lst (numS k)), (tN, lst (numS n)), (tSeg, lst (numS seg)), (tSegments, sg), (tShares, sh), (tSize, lst (numS size))]
theorem numS_len (x : Int) (h : -9223372036854775808 ≤ x ∧ x ≤ 9223372036854775807) : (lst (numS x)).length ≤ 21 := by
  unfold numS
  split
  · simp [lst]
  · rw [lst_itoaS]
    exact Lib.itoa_length_le x h.1 h.2
theorem uebRows_may (k n seg size : Int) (sh sg : List UInt8) (hk : -9223372036854775808 ≤ k ∧ k ≤ 9223372036854775807) (hn : -9223372036854775808 ≤ n ∧ n ≤ 9223372036854775807) (hs : -9223372036854775808 ≤ seg ∧ seg ≤ 9223372036854775807) (hz : -9223372036854775808 ≤ size ∧ size ≤ 9223372036854775807)
    (h1 : sh.length = 32) (h2 : sg.length = 32) : may (uebRows k n seg size sh sg) := by
  have l1 := numS_len k hk
  have l2 := numS_len n hn
  have l3 := numS_len seg hs
  have l4 := numS_len size hz
  unfold uebRows
  generalize lst (numS k) = a1 at *
  generalize lst (numS n) = a2 at *
  generalize lst (numS seg) = a3 at *
  generalize lst (numS size) = a4 at *
  have c1 : leB tN tK = false := by decide
  have c2 : leB tSeg tN = false := by decide
  have c3 : leB tSegments tSeg = false := by decide
  have c4 : leB tShares tSegments = false := by decide
  have c5 : leB tSize tShares = false := by decide
  intro i hi
  simp only [List.length_cons, List.length_nil] at hi
  rcases i with _ | _ | _ | _ | _ | _ | i
  · simp [rowB]; exact ⟨by decide, by omega⟩
  · simp [rowB, c1]; exact ⟨by decide, by omega⟩
  · simp [rowB, c2]; exact ⟨by decide, by omega⟩
  · simp [rowB, c3, h2]; decide
  · simp [rowB, c4, h1]; decide
  · simp [rowB, c5]; exact ⟨by decide, by omega⟩
  · omega

set_option maxRecDepth 100000 in
set_option maxHeartbeats 1000000 in
theorem number_any (x : Int) (w : World) (hx : -9223372036854775808 ≤ x ∧ x ≤ 9223372036854775807) (ht : Tab w) :
    Calls Tryd.prog 52 #[.int .i64 x] w fun e w' => ∃ A n c, e = .returned (.slice A n c) ∧ By w' (.slice A n c) (lst (numS x)) ∧ Below w.heap.size w w' := by
  have hsz := numS_len x hx
  rw [lst_len] at hsz
  have Q := hide (bnumber_any x w hx ht)
  generalize numS x = s at *
  generalize numE x = y at *
  go_enter Tryd.func52, Tryd.ntmps52
  go_wp2_with fail
  refine Q.out.mono ?_
  rintro e w1 ⟨rfl, b1⟩
  obtain ⟨g, cc, w2, hr, hby, b2, hg, hsz2, hcc, hcm⟩ := run_bytes_str 9 27 5 s w1 Tryd.underlying9 Tryd.underlying27 Tryd.underlying5 (by unfold maxLen; omega)
  have HY := hide hby
  have C2 := hide (b1.trans (b2.mono b1.size))
  clear hby b1 b2 Q hg hsz2 hcc hcm
  go_wp2_with fail
  go_ret
  exact ⟨_, _, _, rfl, HY.out, C2.out⟩
end Go.Proofs.YteaagngikiaokaaDoor

/- The contract of the program's Write, of a Ueb that may be. -/
namespace Go.Proofs.YteaagngikiaokaaDoor
open Go.RowKit
attribute [local go_sem ↓] Go.wp_at_zero Go.wp_at_succ

theorem by_mid {W : World} {g o : Nat} {cs : Array Value} {t : TypeId} {f : Nat × Nat} {l : List UInt8} {n : Nat} (hn : n = l.length) (hh : W.heap[g]? = some (.cells cs t f)) (hcs : ∀ j, j < l.length → cs[o + j]? = (bcells l)[j]?) (hm : l.length ≤ 1000) : By W (.slice (some ⟨g, o, none⟩) n n) l := by
  subst hn
  refine ⟨by simp, _, l.length, rfl, Nat.le_refl _, by unfold maxLen; omega, fun _ => ⟨g, o, rfl, ?_, fun j hj => ?_⟩⟩
  · rcases Nat.lt_or_ge g W.heap.size with h | h
    · exact h
    · rw [Array.getElem?_eq_none h] at hh; cases hh
  · rw [cell_of_row W g (o + j) cs t f hh]
    exact hcs j (by omega)

theorem pack_ueb (k n seg size : Int) (sh sg : List UInt8) (w w1 W : World) (g : Nat) (v1 v2 v3 v4 : Value) (hk : -9223372036854775808 ≤ k ∧ k ≤ 9223372036854775807) (hn : -9223372036854775808 ≤ n ∧ n ≤ 9223372036854775807) (hs : -9223372036854775808 ≤ seg ∧ seg ≤ 9223372036854775807) (hz : -9223372036854775808 ≤ size ∧ size ≤ 9223372036854775807) (h1 : sh.length = 32) (h2 : sg.length = 32)
    (hww : w.heap.size ≤ w1.heap.size) (hy1 : By w1 (.slice (some ⟨w.heap.size, 36, none⟩) 32 32) sg) (hy2 : By w1 (.slice (some ⟨w.heap.size, 4, none⟩) 32 32) sh) (ht : Tab w1)
    (hh : ∃ e f, W.heap[g]? = some (.cells #[.string ⟨#[107]⟩, v1, .string ⟨#[110]⟩, v2, .string ⟨#[115, 101, 103]⟩, v3, .string ⟨#[115, 101, 103, 109, 101, 110, 116, 115]⟩, .slice (some ⟨w.heap.size, 36, none⟩) 32 32, .string ⟨#[115, 104, 97, 114, 101, 115]⟩, .slice (some ⟨w.heap.size, 4, none⟩) 32 32, .string ⟨#[115, 105, 122, 101]⟩, v4] e f)) (a1 : By W v1 (lst (numS k))) (a2 : By W v2 (lst (numS n))) (a3 : By W v3 (lst (numS seg))) (a4 : By W v4 (lst (numS size))) (hW : Below w1.heap.size w1 W) :
    Calls Tryd.prog 13 #[.slice (some ⟨g, 0, none⟩) 6 6] W fun e w' => ∃ A n' c, e = .returned (.tuple #[.slice A n' c, .int .i64 0]) ∧ Own w' w.heap.size 5 (.slice A n' c) (encs (uebRows k n seg size sh sg)) ∧ Below W.heap.size W w' := by
  obtain ⟨e, f, hh⟩ := hh
  have hr : Rws W (.slice (some ⟨g, 0, none⟩) 6 6) [(⟨#[107]⟩, v1, lst (numS k)), (⟨#[110]⟩, v2, lst (numS n)), (⟨#[115, 101, 103]⟩, v3, lst (numS seg)), (⟨#[115, 101, 103, 109, 101, 110, 116, 115]⟩, .slice (some ⟨w.heap.size, 36, none⟩) 32 32, sg), (⟨#[115, 104, 97, 114, 101, 115]⟩, .slice (some ⟨w.heap.size, 4, none⟩) 32 32, sh), (⟨#[115, 105, 122, 101]⟩, v4, lst (numS size))] := by
    refine ⟨⟨by simp, _, 6, rfl, Nat.le_refl _, by unfold maxLen; omega, fun _ => ⟨g, 0, rfl, ?_, fun j hj => ?_⟩⟩, ?_⟩
    · rcases Nat.lt_or_ge g W.heap.size with h | h
      · exact h
      · rw [Array.getElem?_eq_none h] at hh; cases hh
    · rw [Nat.zero_add, cell_of_row W g j _ e f hh]
      simp [rcells]
    · intro y hy
      simp only [List.mem_cons, List.mem_nil_iff, or_false] at hy
      rcases hy with rfl | rfl | rfl | rfl | rfl | rfl
      · exact a1
      · exact a2
      · exact a3
      · exact hy1.below hW
      · exact hy2.below hW
      · exact a4
  refine (pack_any _ _ W hr (ht.below hW)).mono ?_
  rintro e w' ⟨hb, h⟩
  have hm := uebRows_may k n seg size sh sg hk hn hs hz h1 h2
  rcases h with ⟨-, v', he, ho⟩ | ⟨hno, -⟩
  · obtain ⟨A, c, rfl, _⟩ := ho.by_.form
    exact ⟨A, _, c, he, ho.base (Nat.le_trans hww hW.size), hb⟩
  · exact absurd hm hno

set_option maxRecDepth 100000 in
set_option maxHeartbeats 40000000 in
theorem write_ok (k n seg size : Int) (sh sg : List UInt8) (w : World) (hk : -9223372036854775808 ≤ k ∧ k ≤ 9223372036854775807) (hn : -9223372036854775808 ≤ n ∧ n ≤ 9223372036854775807) (hs : -9223372036854775808 ≤ seg ∧ seg ≤ 9223372036854775807) (hz : -9223372036854775808 ≤ size ∧ size ≤ 9223372036854775807) (h1 : sh.length = 32) (h2 : sg.length = 32) (ht : Tab w) (hag : agOK k n seg size) :
    Calls Tryd.prog 30 #[.agg (uebC k n seg size (bcells sh ++ bcells sg))] w fun e w' => Below w.heap.size w w' ∧ ∃ A n' c, e = .returned (.tuple #[.slice A n' c, .int .i64 0]) ∧ Own w' w.heap.size 5 (.slice A n' c) (encs (uebRows k n seg size sh sg)) := by
  have q := fun w => check_any_ueb k n seg size (bcells sh ++ bcells sg) w hk hn hs hz
  simp only [if_pos hag] at q
  have Q := hide q
  have HP := hide (fun w1 W g v1 v2 v3 v4 => pack_ueb k n seg size sh sg w w1 W g v1 v2 v3 v4 hk hn hs hz h1 h2)
  have hb := Blk.new w 44 (uebC k n seg size (bcells sh ++ bcells sg))
  have hsz : (uebC k n seg size (bcells sh ++ bcells sg)).size = 68 := by simp [uebC, h1, h2]
  have hal := (Below.refl w.heap.size w).alloc (Nat.le_refl _) (.cells (uebC k n seg size (bcells sh ++ bcells sg)) 44)
  have m1 : ∀ W t f, W.heap[w.heap.size]? = some (.cells (uebC k n seg size (bcells sh ++ bcells sg)) t f) → By W (.slice (some ⟨w.heap.size, 36, none⟩) 32 32) sg := fun W t f hh => by_mid h2.symm hh (fun j hj => by
    simp only [uebC, List.getElem?_toArray]
    rw [show 36 + j = (32 + j) + 4 by omega]
    simp only [List.getElem?_cons_succ]
    rw [List.getElem?_append_right (by simp [h1])]
    simp [h1]) (by omega)
  have m2 : ∀ W t f, W.heap[w.heap.size]? = some (.cells (uebC k n seg size (bcells sh ++ bcells sg)) t f) → By W (.slice (some ⟨w.heap.size, 4, none⟩) 32 32) sh := fun W t f hh => by_mid h1.symm hh (fun j hj => by
    simp only [uebC, List.getElem?_toArray]
    rw [show 4 + j = j + 4 by omega]
    simp only [List.getElem?_cons_succ]
    rw [List.getElem?_append_left (by simp; omega)]) (by omega)
  have f0 : (uebC k n seg size (bcells sh ++ bcells sg))[0]? = some (.int .i64 k) := rfl
  have f1 : (uebC k n seg size (bcells sh ++ bcells sg))[1]? = some (.int .i64 n) := rfl
  have f2 : (uebC k n seg size (bcells sh ++ bcells sg))[2]? = some (.int .i64 seg) := rfl
  have f3 : (uebC k n seg size (bcells sh ++ bcells sg))[3]? = some (.int .i64 size) := rfl
  have M1 := hide m1
  have M2 := hide m2
  have HF := hide (And.intro f0 (And.intro f1 (And.intro f2 f3)))
  have HB := hide hb
  have HAL := hide hal
  have HT := hide ht
  have HSZ := hide hsz
  clear q hb hal m1 m2 f0 f1 f2 f3 ht hag hsz
  generalize uebC k n seg size (bcells sh ++ bcells sg) = cs at *
  go_enter Tryd.func30, Tryd.ntmps30
  go_wp2_with (refine wpList_load_row (o := ⟨some 6, .load _ _, _, _, _, _⟩) rfl 44 _ rfl w.heap.size rfl 44 cs (0, 0) _ HB.out Tryd.underlying44 rfl (by rw [HSZ.out]; kernel_rfl) ?_)
  refine (Q.out _).mono ?_
  rintro e w1 ⟨b1, rfl⟩
  have B1 := hide (HAL.out.trans (b1.mono HAL.out.size))
  have HB1 : Hid (Blk w1 w.heap.size 44 cs) := HB.out.below' b1
  have N1 : Hid (∀ W, Below w1.heap.size w1 W → _) := fun W hW => number_any k W hk ((HT.out.below B1.out).below hW)
  have N2 : Hid (∀ W, Below w1.heap.size w1 W → _) := fun W hW => number_any n W hn ((HT.out.below B1.out).below hW)
  have N3 : Hid (∀ W, Below w1.heap.size w1 W → _) := fun W hW => number_any seg W hs ((HT.out.below B1.out).below hW)
  have N4 : Hid (∀ W, Below w1.heap.size w1 W → _) := fun W hW => number_any size W hz ((HT.out.below B1.out).below hW)
  have HK := hide (fun W g v1 v2 v3 v4 => HP.out w1 W g v1 v2 v3 v4 B1.out.size (M1.out w1 _ _ HB1.out) (M2.out w1 _ _ HB1.out) (HT.out.below B1.out))
  have HS : Hid (∀ W, Below w1.heap.size w1 W → W.cell? ⟨w.heap.size, 0, none⟩ = some (.int .i64 k) ∧ W.cell? ⟨w.heap.size, 1, none⟩ = some (.int .i64 n) ∧ W.cell? ⟨w.heap.size, 2, none⟩ = some (.int .i64 seg) ∧ W.cell? ⟨w.heap.size, 3, none⟩ = some (.int .i64 size)) := fun W hW => by
    have hbW := HB1.out.below' hW
    exact ⟨(hbW.cell 0).trans HF.out.1, (hbW.cell 1).trans HF.out.2.1, (hbW.cell 2).trans HF.out.2.2.1, (hbW.cell 3).trans HF.out.2.2.2⟩
  have s := HS.out w1 (Below.refl _ _)
  obtain ⟨s0, s1, s2, s3⟩ := s
  clear b1 HB HAL M1 M2 HF HP Q hk hn hs hz
  go_wp2_with fail
  go_region_held3 (fun w' => w'.cell? ⟨w.heap.size, 0, none⟩ = some (.int .i64 k) ∧ w'.cell? ⟨w.heap.size, 1, none⟩ = some (.int .i64 n) ∧ w'.cell? ⟨w.heap.size, 2, none⟩ = some (.int .i64 seg) ∧ w'.cell? ⟨w.heap.size, 3, none⟩ = some (.int .i64 size))
          (first | go_keep | exact HS.out _ (by (repeat (first | with_reducible exact Below.refl _ _ | with_reducible refine Below.drew ?_ | with_reducible refine Below.al0 ?_ _ | with_reducible refine Below.step ?_ q1 | with_reducible refine Below.step ?_ q2 | with_reducible refine Below.step ?_ q3 | with_reducible refine Below.step ?_ q4 | with_reducible refine Below.step ?_ q5))))
          (first
            | (go_at_call 52; (with_reducible refine (N1.out _ ?bb).mono ?_); (case bb => (repeat (first | with_reducible exact Below.refl _ _ | with_reducible refine Below.drew ?_ | with_reducible refine Below.al0 ?_ _ | with_reducible refine Below.step ?_ q1 | with_reducible refine Below.step ?_ q2 | with_reducible refine Below.step ?_ q3 | with_reducible refine Below.step ?_ q4 | with_reducible refine Below.step ?_ q5))); rintro e w2 ⟨A1, n1, c1, rfl, p1, q1⟩)
            | (go_at_call 52; (with_reducible refine (N2.out _ ?bb).mono ?_); (case bb => (repeat (first | with_reducible exact Below.refl _ _ | with_reducible refine Below.drew ?_ | with_reducible refine Below.al0 ?_ _ | with_reducible refine Below.step ?_ q1 | with_reducible refine Below.step ?_ q2 | with_reducible refine Below.step ?_ q3 | with_reducible refine Below.step ?_ q4 | with_reducible refine Below.step ?_ q5))); rintro e w3 ⟨A2, n2, c2, rfl, p2, q2⟩)
            | (go_at_call 52; (with_reducible refine (N3.out _ ?bb).mono ?_); (case bb => (repeat (first | with_reducible exact Below.refl _ _ | with_reducible refine Below.drew ?_ | with_reducible refine Below.al0 ?_ _ | with_reducible refine Below.step ?_ q1 | with_reducible refine Below.step ?_ q2 | with_reducible refine Below.step ?_ q3 | with_reducible refine Below.step ?_ q4 | with_reducible refine Below.step ?_ q5))); rintro e w4 ⟨A3, n3, c3, rfl, p3, q3⟩)
            | (go_at_call 52; (with_reducible refine (N4.out _ ?bb).mono ?_); (case bb => (repeat (first | with_reducible exact Below.refl _ _ | with_reducible refine Below.drew ?_ | with_reducible refine Below.al0 ?_ _ | with_reducible refine Below.step ?_ q1 | with_reducible refine Below.step ?_ q2 | with_reducible refine Below.step ?_ q3 | with_reducible refine Below.step ?_ q4 | with_reducible refine Below.step ?_ q5))); rintro e w5 ⟨A4, n4, c4, rfl, p4, q4⟩)
            | (go_at_call 13; (with_reducible refine (HK.out _ _ _ _ _ _ ⟨_, _, heap_alloc_new w2 _⟩ ?a1 ?a2 ?a3 ?a4 ?bb).mono ?_); (case a1 => exact By.below p1 (by (repeat (first | with_reducible exact Below.refl _ _ | with_reducible refine Below.drew ?_ | with_reducible refine Below.al0 ?_ _ | with_reducible refine Below.step ?_ q1 | with_reducible refine Below.step ?_ q2 | with_reducible refine Below.step ?_ q3 | with_reducible refine Below.step ?_ q4 | with_reducible refine Below.step ?_ q5)))); (case a2 => exact By.below p2 (by (repeat (first | with_reducible exact Below.refl _ _ | with_reducible refine Below.drew ?_ | with_reducible refine Below.al0 ?_ _ | with_reducible refine Below.step ?_ q1 | with_reducible refine Below.step ?_ q2 | with_reducible refine Below.step ?_ q3 | with_reducible refine Below.step ?_ q4 | with_reducible refine Below.step ?_ q5)))); (case a3 => exact By.below p3 (by (repeat (first | with_reducible exact Below.refl _ _ | with_reducible refine Below.drew ?_ | with_reducible refine Below.al0 ?_ _ | with_reducible refine Below.step ?_ q1 | with_reducible refine Below.step ?_ q2 | with_reducible refine Below.step ?_ q3 | with_reducible refine Below.step ?_ q4 | with_reducible refine Below.step ?_ q5)))); (case a4 => exact By.below p4 (by (repeat (first | with_reducible exact Below.refl _ _ | with_reducible refine Below.drew ?_ | with_reducible refine Below.al0 ?_ _ | with_reducible refine Below.step ?_ q1 | with_reducible refine Below.step ?_ q2 | with_reducible refine Below.step ?_ q3 | with_reducible refine Below.step ?_ q4 | with_reducible refine Below.step ?_ q5)))); (case bb => (repeat (first | with_reducible exact Below.refl _ _ | with_reducible refine Below.drew ?_ | with_reducible refine Below.al0 ?_ _ | with_reducible refine Below.step ?_ q1 | with_reducible refine Below.step ?_ q2 | with_reducible refine Below.step ?_ q3 | with_reducible refine Below.step ?_ q4 | with_reducible refine Below.step ?_ q5))); rintro e w6 ⟨A5, n5, c5, rfl, p5, q5⟩)
            | (go_at_call 13; (with_reducible refine (HK.out _ _ _ _ _ _ ⟨_, _, heap_alloc_new w3 _⟩ ?a1 ?a2 ?a3 ?a4 ?bb).mono ?_); (case a1 => exact By.below p1 (by (repeat (first | with_reducible exact Below.refl _ _ | with_reducible refine Below.drew ?_ | with_reducible refine Below.al0 ?_ _ | with_reducible refine Below.step ?_ q1 | with_reducible refine Below.step ?_ q2 | with_reducible refine Below.step ?_ q3 | with_reducible refine Below.step ?_ q4 | with_reducible refine Below.step ?_ q5)))); (case a2 => exact By.below p2 (by (repeat (first | with_reducible exact Below.refl _ _ | with_reducible refine Below.drew ?_ | with_reducible refine Below.al0 ?_ _ | with_reducible refine Below.step ?_ q1 | with_reducible refine Below.step ?_ q2 | with_reducible refine Below.step ?_ q3 | with_reducible refine Below.step ?_ q4 | with_reducible refine Below.step ?_ q5)))); (case a3 => exact By.below p3 (by (repeat (first | with_reducible exact Below.refl _ _ | with_reducible refine Below.drew ?_ | with_reducible refine Below.al0 ?_ _ | with_reducible refine Below.step ?_ q1 | with_reducible refine Below.step ?_ q2 | with_reducible refine Below.step ?_ q3 | with_reducible refine Below.step ?_ q4 | with_reducible refine Below.step ?_ q5)))); (case a4 => exact By.below p4 (by (repeat (first | with_reducible exact Below.refl _ _ | with_reducible refine Below.drew ?_ | with_reducible refine Below.al0 ?_ _ | with_reducible refine Below.step ?_ q1 | with_reducible refine Below.step ?_ q2 | with_reducible refine Below.step ?_ q3 | with_reducible refine Below.step ?_ q4 | with_reducible refine Below.step ?_ q5)))); (case bb => (repeat (first | with_reducible exact Below.refl _ _ | with_reducible refine Below.drew ?_ | with_reducible refine Below.al0 ?_ _ | with_reducible refine Below.step ?_ q1 | with_reducible refine Below.step ?_ q2 | with_reducible refine Below.step ?_ q3 | with_reducible refine Below.step ?_ q4 | with_reducible refine Below.step ?_ q5))); rintro e w6 ⟨A5, n5, c5, rfl, p5, q5⟩)
            | (go_at_call 13; (with_reducible refine (HK.out _ _ _ _ _ _ ⟨_, _, heap_alloc_new w4 _⟩ ?a1 ?a2 ?a3 ?a4 ?bb).mono ?_); (case a1 => exact By.below p1 (by (repeat (first | with_reducible exact Below.refl _ _ | with_reducible refine Below.drew ?_ | with_reducible refine Below.al0 ?_ _ | with_reducible refine Below.step ?_ q1 | with_reducible refine Below.step ?_ q2 | with_reducible refine Below.step ?_ q3 | with_reducible refine Below.step ?_ q4 | with_reducible refine Below.step ?_ q5)))); (case a2 => exact By.below p2 (by (repeat (first | with_reducible exact Below.refl _ _ | with_reducible refine Below.drew ?_ | with_reducible refine Below.al0 ?_ _ | with_reducible refine Below.step ?_ q1 | with_reducible refine Below.step ?_ q2 | with_reducible refine Below.step ?_ q3 | with_reducible refine Below.step ?_ q4 | with_reducible refine Below.step ?_ q5)))); (case a3 => exact By.below p3 (by (repeat (first | with_reducible exact Below.refl _ _ | with_reducible refine Below.drew ?_ | with_reducible refine Below.al0 ?_ _ | with_reducible refine Below.step ?_ q1 | with_reducible refine Below.step ?_ q2 | with_reducible refine Below.step ?_ q3 | with_reducible refine Below.step ?_ q4 | with_reducible refine Below.step ?_ q5)))); (case a4 => exact By.below p4 (by (repeat (first | with_reducible exact Below.refl _ _ | with_reducible refine Below.drew ?_ | with_reducible refine Below.al0 ?_ _ | with_reducible refine Below.step ?_ q1 | with_reducible refine Below.step ?_ q2 | with_reducible refine Below.step ?_ q3 | with_reducible refine Below.step ?_ q4 | with_reducible refine Below.step ?_ q5)))); (case bb => (repeat (first | with_reducible exact Below.refl _ _ | with_reducible refine Below.drew ?_ | with_reducible refine Below.al0 ?_ _ | with_reducible refine Below.step ?_ q1 | with_reducible refine Below.step ?_ q2 | with_reducible refine Below.step ?_ q3 | with_reducible refine Below.step ?_ q4 | with_reducible refine Below.step ?_ q5))); rintro e w6 ⟨A5, n5, c5, rfl, p5, q5⟩)
            | (go_at_call 13; (with_reducible refine (HK.out _ _ _ _ _ _ ⟨_, _, heap_alloc_new w5 _⟩ ?a1 ?a2 ?a3 ?a4 ?bb).mono ?_); (case a1 => exact By.below p1 (by (repeat (first | with_reducible exact Below.refl _ _ | with_reducible refine Below.drew ?_ | with_reducible refine Below.al0 ?_ _ | with_reducible refine Below.step ?_ q1 | with_reducible refine Below.step ?_ q2 | with_reducible refine Below.step ?_ q3 | with_reducible refine Below.step ?_ q4 | with_reducible refine Below.step ?_ q5)))); (case a2 => exact By.below p2 (by (repeat (first | with_reducible exact Below.refl _ _ | with_reducible refine Below.drew ?_ | with_reducible refine Below.al0 ?_ _ | with_reducible refine Below.step ?_ q1 | with_reducible refine Below.step ?_ q2 | with_reducible refine Below.step ?_ q3 | with_reducible refine Below.step ?_ q4 | with_reducible refine Below.step ?_ q5)))); (case a3 => exact By.below p3 (by (repeat (first | with_reducible exact Below.refl _ _ | with_reducible refine Below.drew ?_ | with_reducible refine Below.al0 ?_ _ | with_reducible refine Below.step ?_ q1 | with_reducible refine Below.step ?_ q2 | with_reducible refine Below.step ?_ q3 | with_reducible refine Below.step ?_ q4 | with_reducible refine Below.step ?_ q5)))); (case a4 => exact By.below p4 (by (repeat (first | with_reducible exact Below.refl _ _ | with_reducible refine Below.drew ?_ | with_reducible refine Below.al0 ?_ _ | with_reducible refine Below.step ?_ q1 | with_reducible refine Below.step ?_ q2 | with_reducible refine Below.step ?_ q3 | with_reducible refine Below.step ?_ q4 | with_reducible refine Below.step ?_ q5)))); (case bb => (repeat (first | with_reducible exact Below.refl _ _ | with_reducible refine Below.drew ?_ | with_reducible refine Below.al0 ?_ _ | with_reducible refine Below.step ?_ q1 | with_reducible refine Below.step ?_ q2 | with_reducible refine Below.step ?_ q3 | with_reducible refine Below.step ?_ q4 | with_reducible refine Below.step ?_ q5))); rintro e w6 ⟨A5, n5, c5, rfl, p5, q5⟩))
  all_goals
    go_wp2
    go_ret2
    exact ⟨B1.out.trans (Below.mono (by (repeat (first | with_reducible exact Below.refl _ _ | with_reducible refine Below.drew ?_ | with_reducible refine Below.al0 ?_ _ | with_reducible refine Below.step ?_ q1 | with_reducible refine Below.step ?_ q2 | with_reducible refine Below.step ?_ q3 | with_reducible refine Below.step ?_ q4 | with_reducible refine Below.step ?_ q5))) B1.out.size), _, _, _, rfl, p5⟩
end Go.Proofs.YteaagngikiaokaaDoor

/- The contracts of the program's Write and Length, of whatever Ueb. -/
namespace Go.Proofs.YteaagngikiaokaaDoor
open Go.RowKit

set_option maxRecDepth 100000 in
set_option maxHeartbeats 1000000 in
theorem write_bad (k n seg size : Int) (d : List Value) (w : World) (hk : -9223372036854775808 ≤ k ∧ k ≤ 9223372036854775807) (hn : -9223372036854775808 ≤ n ∧ n ≤ 9223372036854775807) (hs : -9223372036854775808 ≤ seg ∧ seg ≤ 9223372036854775807) (hz : -9223372036854775808 ≤ size ∧ size ≤ 9223372036854775807) (hd : d.length = 64) (hag : ¬ agOK k n seg size) :
    Calls Tryd.prog 30 #[.agg (uebC k n seg size d)] w fun e w' => Below w.heap.size w w' ∧ e = .returned (.tuple #[.slice none 0 0, .int .i64 133]) := by
  have q := fun w => check_any_ueb k n seg size d w hk hn hs hz
  simp only [if_neg hag] at q
  have Q := hide q
  have HB := hide (Blk.new w 44 (uebC k n seg size d))
  have hsz : (uebC k n seg size d).size = 68 := by simp [uebC, hd]
  have HAL := hide ((Below.refl w.heap.size w).alloc (Nat.le_refl _) (.cells (uebC k n seg size d) 44))
  have HSZ := hide hsz
  clear q hag hsz
  generalize uebC k n seg size d = cs at *
  go_enter Tryd.func30, Tryd.ntmps30
  go_wp2_with (refine wpList_load_row (o := ⟨some 6, .load _ _, _, _, _, _⟩) rfl 44 _ rfl w.heap.size rfl 44 cs (0, 0) _ HB.out Tryd.underlying44 rfl (by rw [HSZ.out]; kernel_rfl) ?_)
  refine (Q.out _).mono ?_
  rintro e w1 ⟨b1, rfl⟩
  have B1 := hide (HAL.out.trans (b1.mono HAL.out.size))
  clear b1
  go_wp2_with fail
  go_ret2
  exact ⟨B1.out, rfl⟩

/-- How many bytes a Ueb has. -/
def uebLen (k n seg size : Int) (sh sg : List UInt8) : Int := ((encs (uebRows k n seg size sh sg)).length : Int)

set_option maxRecDepth 100000 in
set_option maxHeartbeats 1000000 in
theorem length_any (k n seg size : Int) (sh sg : List UInt8) (w : World) (hk : -9223372036854775808 ≤ k ∧ k ≤ 9223372036854775807) (hn : -9223372036854775808 ≤ n ∧ n ≤ 9223372036854775807) (hs : -9223372036854775808 ≤ seg ∧ seg ≤ 9223372036854775807) (hz : -9223372036854775808 ≤ size ∧ size ≤ 9223372036854775807) (h1 : sh.length = 32) (h2 : sg.length = 32) (ht : Tab w) :
    Calls Tryd.prog 51 #[.agg (uebC k n seg size (bcells sh ++ bcells sg))] w fun e w' => Below w.heap.size w w' ∧
      e = .returned (if agOK k n seg size then .tuple #[.int .i64 (uebLen k n seg size sh sg), .int .i64 0] else .tuple #[.int .i64 0, .int .i64 133]) := by
  have HB := hide (Blk.new w 44 (uebC k n seg size (bcells sh ++ bcells sg)))
  have hsz : (uebC k n seg size (bcells sh ++ bcells sg)).size = 68 := by simp [uebC, h1, h2]
  have HAL := hide ((Below.refl w.heap.size w).alloc (Nat.le_refl _) (.cells (uebC k n seg size (bcells sh ++ bcells sg)) 44))
  have HSZ := hide hsz
  clear hsz
  by_cases hag : agOK k n seg size
  · have Q := hide (write_ok k n seg size sh sg _ hk hn hs hz h1 h2 (ht.below HAL.out) hag)
    rw [if_pos hag]
    clear hag ht hk hn hs hz h1 h2
    unfold uebLen
    generalize uebC k n seg size (bcells sh ++ bcells sg) = cs at *
    generalize encs (uebRows k n seg size sh sg) = l at *
    go_enter Tryd.func51, Tryd.ntmps51
    go_wp2_with (refine wpList_load_row (o := ⟨some 7, .load _ _, _, _, _, _⟩) rfl 44 _ rfl w.heap.size rfl 44 cs (0, 0) _ HB.out Tryd.underlying44 rfl (by rw [HSZ.out]; kernel_rfl) ?_)
    refine Q.out.mono ?_
    rintro e w1 ⟨b1, A, n', c, rfl, o1⟩
    have hn' : n' = l.length := by
      obtain ⟨A', c', hv, _⟩ := o1.by_.form
      injection hv
    subst hn'
    have B1 := hide (HAL.out.trans (b1.mono HAL.out.size))
    clear b1 Q o1
    go_wp2_with fail
    go_ret2
    exact ⟨B1.out, rfl⟩
  · have Q := hide (write_bad k n seg size (bcells sh ++ bcells sg) _ hk hn hs hz (by simp [h1, h2]) hag : Calls _ _ _ (w.alloc (.cells (uebC k n seg size (bcells sh ++ bcells sg)) 44)) _)
    rw [if_neg hag]
    clear hag ht hk hn hs hz h1 h2
    generalize uebC k n seg size (bcells sh ++ bcells sg) = cs at *
    go_enter Tryd.func51, Tryd.ntmps51
    go_wp2_with (refine wpList_load_row (o := ⟨some 7, .load _ _, _, _, _, _⟩) rfl 44 _ rfl w.heap.size rfl 44 cs (0, 0) _ HB.out Tryd.underlying44 rfl (by rw [HSZ.out]; kernel_rfl) ?_)
    refine Q.out.mono ?_
    rintro e w1 ⟨b1, rfl⟩
    have B1 := hide (HAL.out.trans (b1.mono HAL.out.size))
    clear b1 Q
    go_wp2_with fail
    go_ret2
    exact ⟨B1.out, rfl⟩
end Go.Proofs.YteaagngikiaokaaDoor
