/- The contract of Encode; lists of lists that are the same; numbers brought into a range. -/
import Derived.Test.YtoaaplngdomdcaaRsB
namespace Go.Proofs.Ytoaaplngdomdcaa
open Go.RowKit

/-- What block i holds at place t. -/
def encE (k : Nat) (D : Nat → Nat → UInt8) (i t : Nat) : UInt8 := encv k i fun j => D j t

set_option maxRecDepth 100000 in
set_option maxHeartbeats 3200000 in
theorem encode_any (gc k n m : Nat) (vb : Value) (D : Nat → Nat → UInt8) (w : World) (hc : Cd w gc k n) (h1 : 1 ≤ k) (h2 : k ≤ n) (h3 : n ≤ 255) (hb : Ls w vb (rowsOf m D k)) (hm : m ≤ 140737488355328) :
    Calls Try.prog 28 #[.pointer (some ⟨gc, 0, none⟩), vb] w fun e w' => ∃ v, e = .returned (.tuple #[v, .int .i64 0]) ∧ OwnL w' w.heap.size 5 38 v (rowsOf m (encE k D) n) ∧ Below w.heap.size w w' := by
  have q1 := cmade_any gc k n w hc
  have q2 := ck_any gc k n w hc (by omega)
  have q3 := even_any vb (rowsOf m D k) w hb
  rw [evenB_rows] at q3
  have HC := hide (And.intro hc hb)
  obtain ⟨g, base, hg1, hg2⟩ := hc
  have hcg : w.cell? ⟨gc, 0, none⟩ = some (.pointer (some ⟨g, 0, none⟩)) := by rw [hg1.cell]; rfl
  have hgl := hg1.lt
  have HG := hide hg2
  obtain ⟨B, d, rfl, _, _, _⟩ := hb.form
  rw [rowsOf_length] at *
  clear hb hg1 hg2
  have e1 : ((k : Int) != (k : Int)) = false := by simp
  go_enter Try.func28, Try.ntmps28
  go_wp2_with fail
  refine q1.mono ?_
  rintro e w' ⟨rfl, rfl⟩
  go_wp2_with fail
  refine q2.mono ?_
  rintro e w' ⟨rfl, rfl⟩
  go_wp2_with fail
  refine q3.mono ?_
  rintro e w1 ⟨rfl, hb1⟩
  have q4 := cn_any gc k n w1 (HC.out.1.below hb1)
  clear q1 q2 q3
  go_wp2_with fail
  refine q4.mono ?_
  rintro e w' ⟨rfl, rfl⟩
  clear q4
  go_wp2
  go_loopw [6, 7, 24] (fun u6 _ u24 wr => ∃ i : Nat, i ≤ n ∧ u24 = .int .i64 (i : Int) ∧ OwnL wr w.heap.size 5 38 u6 (rowsOf m (encE k D) i) ∧ Below w.heap.size w wr) (fun _ _ u24 _ => n - (intOf u24).toNat)
  case atStart => exact ⟨0, by omega, rfl, OwnL.nil _ _ _ _, hb1⟩
  case round =>
    clear hb1
    obtain ⟨i, hi, rfl, hown, hbel⟩ := hrel
    have HO := hide hown
    clear hown
    by_cases hlt : i < n
    · have i1 : (i : Int) < (n : Int) := by omega
      have hcg2 : wr.cell? ⟨gc, 0, none⟩ = some (.pointer (some ⟨g, 0, none⟩)) := (hbel.cell (p := ⟨gc, 0, none⟩) hgl).trans hcg
      have q := row_any base g n k (ent k) i wr (HG.out.below hbel) hlt (by omega)
      go_wp2_with fail
      refine q.mono ?_
      rintro e w2 ⟨vr, rfl, hor, hb2⟩
      have hbw2 := hbel.trans (hb2.mono hbel.size)
      have q5 := mixed_any vr _ k m (ent k i) D w2 hor.by_ (HC.out.2.below hbw2) ⟨h1, by omega⟩ hm
      go_wp2_with fail
      refine q5.mono ?_
      rintro e w3 ⟨vx, rfl, hox, hb3⟩
      have hbw3 := hbw2.trans (hb3.mono hbw2.size)
      obtain ⟨xs, hxs, hxl⟩ := (HO.out.below hb2).below hb3
      obtain ⟨A1, c1, hv1, _⟩ := hox.by_.form
      rw [List.length_map, List.length_range] at hv1
      subst hv1
      have H3 := hide (And.intro hxs (And.intro hxl (hox.mono_ hbw2.size)))
      have HLR := hide (rowsOf_length m (encE k D) i)
      clear hxs hxl hox q5 hb2 hb3 hor q
      go_wp2_with (at_builtin; go_loud (refine wpList_push1 elemL H3.out.1 hbw3 hbw3.size (by rw [HLR.out]; unfold maxLen; omega) (by rw [HLR.out]; omega) (.slice A1 m c1) rfl rfl _ _ rfl rfl rfl ?_); intro v1 w4 ho4 hb4 _ hg4 _; have HP4 := hide (OwnL.pushed (by decide) H3.out.1 H3.out.2.1 H3.out.2.2 ho4 hg4); clear ho4 hg4)
      go_roundw
      case rel => exact ⟨i + 1, by omega, by go_num, by rw [rowsOf_succ]; exact HP4.out, hb4⟩
      case measure => simp [intOf]; omega
    · have hin : i = n := by omega
      have hO := HO.out
      rw [hin] at hO
      clear HO hin
      have HO := hide hO
      clear hO
      go_wp2
      go_ret2
      exact ⟨_, rfl, HO.out, hbel⟩

set_option maxHeartbeats 400000 in
theorem same_q (va vb : Value) (l m : List UInt8) (w : World) (ha : By w va l) (hb : By w vb m) :
    Calls Try.prog 29 #[va, vb] w fun e w' => e = .returned (.bool (decide (l = m))) ∧ ∃ q, w' = w.drewN q := by
  obtain ⟨A, c, rfl, hc, hm, hca⟩ := ha.form
  obtain ⟨B, d, rfl, hd, hmd, hcb⟩ := hb.form
  unfold maxLen at hm hmd
  by_cases hl : l.length = m.length
  · have hne : ((l.length : Int) != (m.length : Int)) = false := by simp [hl]
    have HL : Hid (l.length = m.length) := hl
    clear hl
    go_enter Try.func29, Try.ntmps29
    go_wp2
    go_loopw [5] (fun i wr => ∃ k n : Nat, k ≤ l.length ∧ i = .int .i64 k ∧ l.take k = m.take k ∧ wr = w.drewN n) (fun i _ => l.length - (intOf i).toNat)
    case atStart => exact ⟨0, 0, by omega, rfl, by simp, rfl⟩
    case round =>
      obtain ⟨k, nd, hk, rfl, hq, rfl⟩ := hrel
      have HQ := hide hq
      clear hq
      by_cases hlt : k < l.length
      · have hlt2 : k < m.length := by have := HL.out; omega
        obtain ⟨x, hx⟩ : ∃ x, l[k]? = some x := ⟨_, List.getElem?_eq_getElem hlt⟩
        obtain ⟨y, hy⟩ : ∃ y, m[k]? = some y := ⟨_, List.getElem?_eq_getElem hlt2⟩
        obtain ⟨b, o, rfl, hbl, hcx⟩ := hca k x hx
        obtain ⟨b2, o2, rfl, hbl2, hcy⟩ := hcb k y hy
        have HX := hide hx
        have HY := hide hy
        clear hx hy hca hcb
        have i1 : (k : Int) < (l.length : Int) := by omega
        have i2 : (k : Int) < (m.length : Int) := by omega
        have i3 : (0 : Int) ≤ (k : Int) := by omega
        by_cases hxy : x = y
        · have hd : ((x.toNat : Int) != (y.toNat : Int)) = false := by simp [hxy]
          go_wp2
          go_quiet (fail)
          go_wp2
          go_roundw
          case rel => exact ⟨k + 1, _, by omega, by go_num, (same_step l m k x y HX.out HY.out HQ.out).2 hxy, rfl⟩
          case measure => simp [intOf]; omega
        · have hd : ((x.toNat : Int) != (y.toNat : Int)) = true := by
            rw [bne_iff_ne]; intro h; exact hxy (u8_int.1 h)
          go_wp2
          go_quiet (fail)
          go_wp2
          go_ret
          refine ⟨ret_bool ?_, _, World.drewN_drewN _ _ _⟩
          refine (decide_eq_false fun h => hxy ((same_step l m k x y HX.out HY.out HQ.out).1 (by rw [h]))).symm
      · have hge : ¬ ((k : Int) < (l.length : Int)) := by omega
        go_wp2
        go_ret
        refine ⟨ret_bool ?_, _, rfl⟩
        refine (decide_eq_true ?_).symm
        have := HQ.out
        rwa [List.take_of_length_le (by omega), List.take_of_length_le (by have := HL.out; omega)] at this
  · have hne : ((l.length : Int) != (m.length : Int)) = true := by rw [bne_iff_ne]; omega
    go_enter Try.func29, Try.ntmps29
    go_wp2
    go_ret
    exact ⟨ret_bool (decide_eq_false fun h => hl (by rw [h])).symm, 0, rfl⟩

/-- Nothing has turned but what is drawn. -/
def Dr (w w' : World) : Prop := ∃ n, w' = w.drewN n
theorem Dr.refl (w : World) : Dr w w := ⟨0, rfl⟩
theorem Dr.drewN {w w' : World} (h : Dr w w') (n : Nat) : Dr w (w'.drewN n) := by
  obtain ⟨m, rfl⟩ := h
  exact ⟨m + n, World.drewN_drewN _ _ _⟩
theorem Dr.cell {w w' : World} (h : Dr w w') (a : Addr) : w'.cell? a = w.cell? a := by
  obtain ⟨m, rfl⟩ := h
  rfl
theorem Dr.below {w w' : World} (h : Dr w w') : Below w.heap.size w w' := by
  obtain ⟨m, rfl⟩ := h
  exact below_drewN (Below.refl _ _) _

theorem lsame_step (L M : List (List UInt8)) (k : Nat) (x y : List UInt8) (hx : L[k]? = some x) (hy : M[k]? = some y) (h : L.take k = M.take k) :
    (L.take (k + 1) = M.take (k + 1)) ↔ x = y := by
  rw [List.take_add_one, List.take_add_one, hx, hy, h]
  simp

set_option maxHeartbeats 800000 in
theorem slists_any (va vb : Value) (l m : List (List UInt8)) (w : World) (ha : Ls w va l) (hb : Ls w vb m) :
    Calls Try.prog 30 #[va, vb] w fun e w' => e = .returned (.bool (decide (l = m))) ∧ Dr w w' := by
  obtain ⟨A, c, rfl, hc, hm, hca⟩ := ha.form
  obtain ⟨B, d, rfl, hd, hmd, hcb⟩ := hb.form
  unfold maxLen at hm hmd
  clear ha hb
  by_cases hl : l.length = m.length
  · have hne : ((l.length : Int) != (m.length : Int)) = false := by simp [hl]
    have HL : Hid (l.length = m.length) := hl
    clear hl
    go_enter Try.func30, Try.ntmps30
    go_wp2
    go_loopw [5] (fun i wr => ∃ k : Nat, k ≤ l.length ∧ i = .int .i64 k ∧ l.take k = m.take k ∧ Dr w wr) (fun i _ => l.length - (intOf i).toNat)
    case atStart => exact ⟨0, by omega, rfl, by simp, Dr.refl _⟩
    case round =>
      obtain ⟨k, hk, rfl, hq, hwr⟩ := hrel
      have HQ := hide hq
      clear hq
      by_cases hlt : k < l.length
      · have hlt2 : k < m.length := by have := HL.out; omega
        obtain ⟨x, hx⟩ : ∃ x, l[k]? = some x := ⟨_, List.getElem?_eq_getElem hlt⟩
        obtain ⟨y, hy⟩ : ∃ y, m[k]? = some y := ⟨_, List.getElem?_eq_getElem hlt2⟩
        obtain ⟨b, o, vx, rfl, hbl, hcx0, hbx⟩ := hca k x hx
        obtain ⟨b2, o2, vy, rfl, hbl2, hcy0, hby⟩ := hcb k y hy
        have hcx : wr.cell? ⟨b, o + k, none⟩ = some vx := (hwr.cell _).trans hcx0
        have hcy : wr.cell? ⟨b2, o2 + k, none⟩ = some vy := (hwr.cell _).trans hcy0
        have q := fun n => same_q vx vy x y (wr.drewN n) ((hbx.below hwr.below).below (below_drewN (Below.refl _ _) n)) ((hby.below hwr.below).below (below_drewN (Below.refl _ _) n))
        obtain ⟨A3, c3, rfl, _⟩ := hbx.form
        obtain ⟨A4, c4, rfl, _⟩ := hby.form
        have HX := hide hx
        have HY := hide hy
        clear hx hy hca hcb hbx hby hcx0 hcy0
        have i1 : (k : Int) < (l.length : Int) := by omega
        have i2 : (k : Int) < (m.length : Int) := by omega
        have i3 : (0 : Int) ≤ (k : Int) := by omega
        by_cases hxy : x = y
        · rw [decide_eq_true hxy] at q
          have HXY := hide hxy
          clear hxy
          go_wp2
          go_quiet ((go_at_call 29; with_reducible exact Calls.quiet_of (q _)))
          go_wp2
          go_roundw
          case rel => exact ⟨k + 1, by omega, by go_num, (lsame_step l m k x y HX.out HY.out HQ.out).2 HXY.out, hwr.drewN _⟩
          case measure => simp [intOf]; omega
        · rw [decide_eq_false hxy] at q
          have HXY := hide hxy
          clear hxy
          go_wp2
          go_quiet ((go_at_call 29; with_reducible exact Calls.quiet_of (q _)))
          go_wp2
          go_ret
          refine ⟨ret_bool ?_, hwr.drewN _⟩
          refine (decide_eq_false fun h => HXY.out ((lsame_step l m k x y HX.out HY.out HQ.out).1 (by rw [h]))).symm
      · have hge : ¬ ((k : Int) < (l.length : Int)) := by omega
        go_wp2
        go_ret
        refine ⟨ret_bool ?_, hwr⟩
        refine (decide_eq_true ?_).symm
        have := HQ.out
        rwa [List.take_of_length_le (by omega), List.take_of_length_le (by have := HL.out; omega)] at this
  · have hne : ((l.length : Int) != (m.length : Int)) = true := by rw [bne_iff_ne]; omega
    go_enter Try.func30, Try.ntmps30
    go_wp2
    go_ret
    exact ⟨ret_bool (decide_eq_false fun h => hl (by rw [h])).symm, Dr.refl _⟩

/-- A number brought into 0 to n - 1. -/
def pickN (x : Int) (n : Nat) : Nat := (x % (n : Int)).toNat
theorem pickN_lt {x : Int} {n : Nat} (h : 1 ≤ n) : pickN x n < n := by
  unfold pickN
  have h1 := Int.emod_nonneg x (b := (n : Int)) (by omega)
  have h2 := Int.emod_lt_of_pos x (b := (n : Int)) (by omega)
  omega
theorem pick_any (x : Int) (n : Nat) (w : World) (hn : 1 ≤ n) (hn2 : n ≤ 140737488355328) (hx : (Lit.int .i64 x).wf = true) :
    Calls Try.prog 31 #[.int .i64 x, .int .i64 (n : Int)] w fun e w' => e = .returned (.int .i64 ((pickN x n : Nat) : Int)) ∧ w = w' := by
  have hx2 : -9223372036854775808 ≤ x ∧ x ≤ 9223372036854775807 := by simpa [Lit.wf, IntKind.min, IntKind.max, IntKind.bits, IntKind.signed] using hx
  have hp : ((pickN x n : Nat) : Int) = x % (n : Int) := by
    unfold pickN
    have h1 := Int.emod_nonneg x (b := (n : Int)) (by omega)
    omega
  rw [hp]
  clear hp hx
  have i1 : ¬ (n : Int) < 1 := by omega
  have i0 : ((n : Int) == 0) = false := by simp; omega
  have i00 : ¬ n = 0 := by omega
  have hlt : x % (n : Int) < (n : Int) := Int.emod_lt_of_pos x (by omega)
  have hge : 0 ≤ x % (n : Int) := Int.emod_nonneg x (by omega)
  have ht : x.tmod (n : Int) = if 0 ≤ x ∨ x % (n : Int) = 0 then x % (n : Int) else x % (n : Int) - n := by
    rcases Int.le_total 0 x with h | h
    · rw [if_pos (.inl h), Int.tmod_eq_emod_of_nonneg h]
    · rw [Int.tmod_eq_emod]
      have hd : ((n : Int) ∣ x) ↔ x % (n : Int) = 0 := Int.dvd_iff_emod_eq_zero
      by_cases hz : x % (n : Int) = 0
      · have h1 : 0 ≤ x ∨ (n : Int) ∣ x := .inr (hd.2 hz)
        have h2 : 0 ≤ x ∨ x % (n : Int) = 0 := .inr hz
        simp only [if_pos h1, if_pos h2]; omega
      · by_cases h0 : 0 ≤ x
        · have h1 : 0 ≤ x ∨ (n : Int) ∣ x := .inl h0
          have h2 : 0 ≤ x ∨ x % (n : Int) = 0 := .inl h0
          simp only [if_pos h1, if_pos h2]; omega
        · have h1 : ¬ (0 ≤ x ∨ (n : Int) ∣ x) := by rw [hd]; omega
          have h2 : ¬ (0 ≤ x ∨ x % (n : Int) = 0) := by omega
          simp only [if_neg h1, if_neg h2]; omega
  generalize x % (n : Int) = r at *
  generalize hy : x.tmod (n : Int) = y at *
  by_cases hy0 : y < 0
  · have hyr : y + (n : Int) = r := by split at ht <;> omega
    have hw : IntKind.i64.wrap r = r := by simp [IntKind.wrap, IntKind.bits, IntKind.signed]; omega
    have hw2 : IntKind.i64.wrap y = y := by simp [IntKind.wrap, IntKind.bits, IntKind.signed]; omega
    clear ht
    go_enter Try.func31, Try.ntmps31
    go_wp2
    go_ret
    exact ⟨rfl, rfl⟩
  · have hyr : y = r := by split at ht <;> omega
    clear ht
    go_enter Try.func31, Try.ntmps31
    go_wp2
    go_ret
    exact ⟨rfl, rfl⟩
end Go.Proofs.Ytoaaplngdomdcaa
