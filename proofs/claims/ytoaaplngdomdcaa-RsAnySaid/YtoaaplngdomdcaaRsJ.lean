/- Contracts of the code: Odd of blocks that go together; numbers that are chosen. -/
import Derived.Test.YtoaaplngdomdcaaRsI
namespace Go.Proofs.Ytoaaplngdomdcaa
open Go.RowKit

set_option maxRecDepth 100000 in
set_option maxHeartbeats 4000000 in
theorem odd_all (gc k n m : Nat) (va : Value) (D : Nat → Nat → UInt8) (w : World) (hc : Cd w gc k n) (h1 : 1 ≤ k) (h2 : k ≤ n) (h3 : n ≤ 255) (ha : Ls w va (rowsOf m (encE k D) n)) (hm : m ≤ 140737488355328) :
    Calls Try.prog 56 #[.pointer (some ⟨gc, 0, none⟩), va] w fun e w' => e = .returned (.tuple #[.int .i64 (n : Int), .int .i64 0]) ∧ Below w.heap.size w w' := by
  have q1 := cmade_any gc k n w hc
  have q2 := cn_any gc k n w hc
  have q3 := even_any va _ w ha
  rw [evenB_rows] at q3
  have HA := hide ha
  have HC := hide hc
  obtain ⟨g, base, hg1, hg2⟩ := hc
  have hcg : w.cell? ⟨gc, 0, none⟩ = some (.pointer (some ⟨g, 0, none⟩)) := by rw [hg1.cell]; rfl
  have hgl := hg1.lt
  have HG := hide hg2
  obtain ⟨A, c, rfl, hnc, hcm, hrow⟩ := ha.rows
  have HR := hide hrow
  unfold maxLen at hcm
  have hne : ((n : Int) != (n : Int)) = false := by simp
  have n1 : (k : Int) ≤ (c : Int) := by omega
  have n2 : ¬ (c : Int) = 0 := by omega
  clear ha hg1 hg2 hrow
  go_enter Try.func56, Try.ntmps56
  go_wp2_with fail
  refine q1.mono ?_
  rintro e w' ⟨rfl, rfl⟩
  go_wp2_with fail
  refine q2.mono ?_
  rintro e w' ⟨rfl, rfl⟩
  go_wp2_with fail
  refine q3.mono ?_
  rintro e w1 ⟨rfl, hb1⟩
  have q4 := ck_any gc k n w1 (HC.out.below hb1) (by omega)
  clear q1 q2 q3
  go_wp2_with fail
  refine q4.mono ?_
  rintro e w' ⟨rfl, rfl⟩
  clear q4
  go_wp2_with fail
  go_loopw [6] (fun u6 wr => ∃ i : Nat, k ≤ i ∧ i ≤ n ∧ u6 = .int .i64 (i : Int) ∧ Below w.heap.size w wr) (fun u6 _ => n - (intOf u6).toNat)
  case atStart => exact ⟨k, Nat.le_refl _, h2, rfl, hb1⟩
  case round =>
    clear hb1
    obtain ⟨i, hki, hi, rfl, hbel⟩ := hrel
    have q5 := cn_any gc k n wr (HC.out.below hbel)
    by_cases hlt : i < n
    · have i1 : (i : Int) < (n : Int) := by omega
      have i2 : (0 : Int) ≤ (i : Int) := by omega
      obtain ⟨b, o, B, d, rfl, hbl, hcx, hmd, hdm, hby, _⟩ := HR.out i hlt
      have HS : Hid (∀ W, Below wr.heap.size wr W → W.cell? ⟨b, o + i, none⟩ = some (.slice B m d) ∧ W.cell? ⟨gc, 0, none⟩ = some (.pointer (some ⟨g, 0, none⟩))) := fun W hW => by
        have hW2 := hbel.trans (hW.mono hbel.size)
        exact ⟨(hW2.cell (p := ⟨b, o + i, none⟩) hbl).trans hcx, (hW2.cell (p := ⟨gc, 0, none⟩) hgl).trans hcg⟩
      obtain ⟨s1, s2⟩ := HS.out wr (Below.refl _ _)
      have QR : Hid (∀ W, Below wr.heap.size wr W → Calls Try.prog 73 #[.pointer (some ⟨g, 0, none⟩), .int .i64 (i : Int)] W fun e w' => ∃ v, e = .returned v ∧ By w' v ((List.range k).map (ent k i)) ∧ Below wr.heap.size wr w') := fun W hW =>
        (row_any base g n k (ent k) i W (HG.out.below (hbel.trans (hW.mono hbel.size))) hlt (by omega)).mono fun e w' ⟨v, a, b, c⟩ => ⟨v, a, b.by_, hW.trans (c.mono hW.size)⟩
      have QK : Hid (∀ W, Below wr.heap.size wr W → Calls Try.prog 69 #[.pointer (some ⟨gc, 0, none⟩)] W fun e w' => e = .returned (.int .i64 (k : Int)) ∧ W = w') := fun W hW =>
        ck_any gc k n W (HC.out.below (hbel.trans (hW.mono hbel.size))) (by omega)
      have QM : Hid (∀ v W W1, By W1 v ((List.range k).map (ent k i)) → Below W1.heap.size W1 W → Below wr.heap.size wr W → Calls Try.prog 72 #[v, .slice (some ⟨b, o, none⟩) k c] W fun e w' => ∃ A1 c1, e = .returned (.slice A1 m c1) ∧ By w' (.slice A1 m c1) ((List.range m).map fun t => encE k D i t) ∧ Below wr.heap.size wr w') := fun v W W1 hv hvW hW => by
        refine (mixed_any v _ k m (ent k i) (encE k D) W (hv.below hvW) (((HA.out.below (hbel.trans (hW.mono hbel.size))).front h1 h2)) ⟨h1, by omega⟩ hm).mono ?_
        rintro e w' ⟨vx, rfl, a, b⟩
        have hb := a.by_
        have e2 : (List.range m).map (mixs (ent k i) (encE k D) k) = (List.range m).map fun t => encE k D i t := List.map_congr_left fun t _ => by
          show sm (List.range k) (fun j => bmul (ent k i j) (encE k D j t)) = encv k i fun j => D j t
          exact sm_congr fun j hj => by rw [show encE k D j t = D j t from encv_sys _ (List.mem_range.1 hj)]
        rw [e2] at hb
        obtain ⟨A1, c1, hv1, _⟩ := hb.form
        rw [List.length_map, List.length_range] at hv1
        subst hv1
        exact ⟨A1, c1, rfl, hb, hW.trans (b.mono hW.size)⟩
      have QE : Hid (∀ A1 c1 W, By W (.slice A1 m c1) ((List.range m).map fun t => encE k D i t) → Below wr.heap.size wr W → Calls Try.prog 102 #[.slice B m d, .slice A1 m c1] W fun e w' => e = .returned (.bool true) ∧ Below wr.heap.size wr w') := fun A1 c1 W h hW => by
        refine (eq_by B A1 d c1 m (encE k D i) (fun t => encE k D i t) W hm ((hby.below (hbel.trans (hW.mono hbel.size)))) h).mono fun e w' ⟨a, b⟩ => ⟨?_, hW.trans (b.below.mono hW.size)⟩
        rw [a, MB.soB_true fun j _ => rfl]
      clear hby hcx
      go_wp2_with fail
      refine q5.mono ?_
      rintro e w' ⟨rfl, rfl⟩
      clear q5
      go_wp2_with fail
      go_region_held3 (fun w' => w'.cell? ⟨b, o + i, none⟩ = some (.slice B m d) ∧ w'.cell? ⟨gc, 0, none⟩ = some (.pointer (some ⟨g, 0, none⟩))) (first | go_keep | exact HS.out _ (by assumption))
        (first
          | (go_at_call 73; (with_reducible refine (QR.out _ ?bb).mono ?_); (case bb => (repeat (first | with_reducible exact Below.refl _ _ | with_reducible assumption | with_reducible refine Below.drew ?_))); rintro e w2 ⟨vr, rfl, hor, qa⟩)
          | (go_at_call 69; (with_reducible refine (QK.out _ ?bb).mono ?_); (case bb => (repeat (first | with_reducible exact Below.refl _ _ | with_reducible assumption | with_reducible refine Below.drew ?_))); rintro e w3 ⟨rfl, rfl⟩)
          | (go_at_call 72; (with_reducible refine (QM.out _ _ _ hor ?bb ?cc).mono ?_); (case bb => (repeat (first | with_reducible exact Below.refl _ _ | with_reducible assumption | with_reducible refine Below.drew ?_))); (case cc => (repeat (first | with_reducible exact Below.refl _ _ | with_reducible assumption | with_reducible refine Below.drew ?_))); rintro e w4 ⟨A1, c1, rfl, hox, qb⟩)
          | (go_at_call 102; (with_reducible refine (QE.out _ _ _ hox ?bb).mono ?_); (case bb => (repeat (first | with_reducible exact Below.refl _ _ | with_reducible assumption | with_reducible refine Below.drew ?_))); rintro e w5 ⟨rfl, qc⟩))
      all_goals
        have HB := hide (hbel.trans (qc.mono hbel.size))
        clear QR QK QM QE HS
        go_wp2
        go_roundw
        case rel => exact ⟨i + 1, by omega, by omega, by go_num, HB.out⟩
        case measure => simp [intOf]; omega
    · have hin : i = n := by omega
      subst hin
      go_wp2_with fail
      refine q5.mono ?_
      rintro e w' ⟨rfl, rfl⟩
      have q6 := cn_any gc k i wr (HC.out.below hbel)
      clear q5
      go_wp2_with fail
      refine q6.mono ?_
      rintro e w' ⟨rfl, rfl⟩
      clear q6
      go_wp2
      go_ret2
      exact ⟨rfl, hbel⟩
end Go.Proofs.Ytoaaplngdomdcaa
