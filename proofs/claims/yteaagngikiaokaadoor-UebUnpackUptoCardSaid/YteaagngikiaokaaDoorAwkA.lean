/- Contracts of the law's sameRows, of the helper Pick. -/
import Derived.Test.YteaagngikiaokaaDoorUnpA
namespace Go.Proofs.YteaagngikiaokaaDoor
open Go.RowKit
attribute [local go_sem ↓] Go.wp_at_zero Go.wp_at_succ

theorem lst_inj {a b : ByteArray} (h : lst a = lst b) : a = b := by
  apply ByteArray.ext
  exact Array.toList_inj.1 h

set_option maxRecDepth 100000 in
set_option maxHeartbeats 4000000 in
theorem sameRows_eq (va vb : Value) (L M : List RowV) (w : World) (ha : Rws w va L) (hb : Rws w vb M) (heq : rws L = rws M) :
    Calls Tryd.prog 24 #[va, vb] w fun e w' => e = .returned (.bool true) ∧ Below w.heap.size w w' := by
  have HA := hide ha
  have HB := hide hb
  have hlen : L.length = M.length := by have := congrArg List.length heq; simpa using this
  have HE := hide heq
  obtain ⟨A, c, rfl, hc, hm, hca⟩ := ha.form
  obtain ⟨B, d, rfl, hd, hmd, hcb⟩ := hb.form
  have HCA := hide hca
  have HCB := hide hcb
  unfold maxLen at hm hmd
  have g1 : ((L.length : Int) != (M.length : Int)) = false := by simp [hlen]
  have HLEN := hide hlen
  clear ha hb heq hca hcb hlen
  go_enter Tryd.func24, Tryd.ntmps24
  go_wp2
  go_loopw [5] (fun u5 wr => ∃ k : Nat, k ≤ L.length ∧ u5 = .int .i64 k ∧ Below w.heap.size w wr) (fun i _ => L.length - (intOf i).toNat)
  case atStart => exact ⟨0, by omega, rfl, Below.refl _ _⟩
  case round =>
    obtain ⟨k, hk, rfl, hw⟩ := hrel
    by_cases hlt : k < L.length
    · obtain ⟨x, hx⟩ : ∃ x, L[k]? = some x := ⟨_, List.getElem?_eq_getElem hlt⟩
      obtain ⟨y, hy⟩ : ∃ y, M[k]? = some y := ⟨_, List.getElem?_eq_getElem (by have := HLEN.out; omega)⟩
      obtain ⟨b, o, rfl, hbl, h1, h2⟩ := HCA.out k x hx
      obtain ⟨b2, o2, rfl, hbl2, h3, h4⟩ := HCB.out k y hy
      have hxy : (lst x.1, x.2.2) = (lst y.1, y.2.2) := by
        have e1 := rws_get hx
        rw [HE.out, rws_get hy] at e1
        exact (Option.some.inj e1).symm
      have hn : x.1 = y.1 := lst_inj (Prod.mk.inj hxy).1
      have hv : x.2.2 = y.2.2 := (Prod.mk.inj hxy).2
      rw [← hn] at h3
      have hy1 := HA.out.2 x (List.mem_of_getElem? hx)
      have hy2 := HB.out.2 y (List.mem_of_getElem? hy)
      obtain ⟨A3, c3, hv3, _⟩ := hy1.form
      obtain ⟨A4, c4, hv4, _⟩ := hy2.form
      rw [hv3] at h2 hy1
      rw [hv4] at h4 hy2
      have HS : Hid (∀ W, Below w.heap.size w W → W.cell? ⟨b, o + k * 2, none⟩ = some (.string x.1) ∧ W.cell? ⟨b, o + k * 2 + 1, none⟩ = some (.slice A3 x.2.2.length c3) ∧ W.cell? ⟨b2, o2 + k * 2, none⟩ = some (.string x.1) ∧ W.cell? ⟨b2, o2 + k * 2 + 1, none⟩ = some (.slice A4 y.2.2.length c4)) := fun W hW =>
        ⟨(hW.cell (p := ⟨b, o + k * 2, none⟩) hbl).trans h1, (hW.cell (p := ⟨b, o + k * 2 + 1, none⟩) hbl).trans h2, (hW.cell (p := ⟨b2, o2 + k * 2, none⟩) hbl2).trans h3, (hW.cell (p := ⟨b2, o2 + k * 2 + 1, none⟩) hbl2).trans h4⟩
      have HC : Hid (∀ W, Below w.heap.size w W → Calls Tryd.prog 17 #[.slice A3 x.2.2.length c3, .slice A4 y.2.2.length c4] W fun e w' => e = .returned (.bool true) ∧ Below w.heap.size w w') := fun W hW => by
        have q := same_any _ _ x.2.2 y.2.2 W (hy1.below hW) (hy2.below hW)
        rw [decide_eq_true hv] at q
        exact q.mono fun e w' ⟨h1, h2⟩ => ⟨h1, hW.trans (h2.mono hW.size)⟩
      obtain ⟨s1, s2, s3, s4⟩ := HS.out wr hw
      have i1 : (k : Int) < (L.length : Int) := by omega
      have i2 : (0 : Int) ≤ (k : Int) := by omega
      have i3 : (k : Int) < (M.length : Int) := by have := HLEN.out; omega
      clear hx hy h1 h2 h3 h4 hxy hv hy1 hy2 hv3 hv4 hn
      have g2 : (x.1.toList == x.1.toList) = true := by simp
      go_wp2_with fail
      go_region_held3 (fun w' => w'.cell? ⟨b, o + k * 2, none⟩ = some (.string x.1) ∧ w'.cell? ⟨b, o + k * 2 + 1, none⟩ = some (.slice A3 x.2.2.length c3) ∧ w'.cell? ⟨b2, o2 + k * 2, none⟩ = some (.string x.1) ∧ w'.cell? ⟨b2, o2 + k * 2 + 1, none⟩ = some (.slice A4 y.2.2.length c4))
        (first | go_keep | exact HS.out _ q1)
        ((go_at_call 17; (with_reducible refine (HC.out _ ?bb).mono ?_); (case bb => (repeat (first | with_reducible exact hw | with_reducible refine Below.drew ?_))); rintro e w2 ⟨rfl, q1⟩))
      all_goals
        go_wp2
        go_roundw
        case rel => exact ⟨k + 1, by omega, by go_num, q1⟩
        case measure => simp [intOf]; omega
    · have hge : ¬ (k : Int) < (L.length : Int) := by omega
      go_wp2
      go_ret
      exact ⟨rfl, hw⟩

set_option maxRecDepth 100000 in
set_option maxHeartbeats 1000000 in
theorem pick_any (x : Int) (n : Nat) (w : World) (hx : -9223372036854775808 ≤ x ∧ x ≤ 9223372036854775807) (hn : 1 ≤ n) (hn2 : n ≤ 1099511627776) :
    Calls Tryd.prog 29 #[.int .i64 x, .int .i64 (n : Int)] w fun e w' => (∃ k : Nat, k < n ∧ e = .returned (.int .i64 (k : Int))) ∧ w = w' := by
  obtain ⟨y, hy⟩ : ∃ y : Int, y = x.tmod (n : Int) := ⟨_, rfl⟩
  have h1 : y < (n : Int) := by rw [hy]; exact Int.tmod_lt_of_pos x (by omega)
  have h2 : -(n : Int) < y := by
    have := Int.tmod_lt_of_pos (-x) (show (0 : Int) < (n : Int) by omega)
    rw [Int.neg_tmod, ← hy] at this
    omega
  have e1 : x.tmod (n : Int) = y := hy.symm
  have e2 : ¬ (n : Int) = 0 := by omega
  have e3 : ¬ n = 0 := by omega
  have jw : IntKind.i64.wrap y = y := IntWalk.i64_in _ (by omega)
  have g1 : ((n : Int) < 1) = False := by simp; omega
  clear hy
  by_cases h0 : y < 0
  · obtain ⟨k, hk⟩ : ∃ k : Nat, y + (n : Int) = (k : Int) := ⟨(y + (n : Int)).toNat, by omega⟩
    have jw2 : IntKind.i64.wrap (y + (n : Int)) = (k : Int) := by rw [hk]; exact IntWalk.i64_in _ (by omega)
    go_enter Tryd.func29, Tryd.ntmps29
    go_wp2
    go_ret
    exact ⟨⟨k, by omega, rfl⟩, rfl⟩
  · obtain ⟨k, hk⟩ : ∃ k : Nat, y = (k : Int) := ⟨y.toNat, by omega⟩
    go_enter Tryd.func29, Tryd.ntmps29
    go_wp2
    go_ret
    exact ⟨⟨k, by omega, rfl⟩, rfl⟩
end Go.Proofs.YteaagngikiaokaaDoor
