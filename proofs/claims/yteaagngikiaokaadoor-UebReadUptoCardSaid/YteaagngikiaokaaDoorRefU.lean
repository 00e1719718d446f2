/- Contracts of the document's May, digits and Pack. -/
import Derived.Test.YteaagngikiaokaaDoorUebN
import Derived.Test.YteaagngikiaokaaDoorNumR
import Derived.Test.YteaagngikiaokaaDoorDr
import Derived.Laws.Cover1
import Derived.BigQuiet
import Derived.Deep.QuietTactic
namespace Go.Proofs.YteaagngikiaokaaDoor
open Go.RowKit

instance (rs : List Rw) : Decidable (may rs) := by unfold may; exact Nat.decidableBallLT rs.length fun i _ => rowB rs i = true

set_option maxRecDepth 100000 in
set_option maxHeartbeats 8000000 in
theorem rmay_any (v : Value) (L : List RowV) (w : World) (h : Rws w v L) :
    Calls Tryd.prog 42 #[v] w fun e w' => e = .returned (.bool (decide (may (rws L)))) ∧ Drn w w' := by
  have HR := hide h
  obtain ⟨A, c, rfl, hc, hm, hcell⟩ := h.form
  have HC := hide hcell
  unfold maxLen at hm
  clear h hcell
  by_cases h64 : L.length ≤ 64
  · have g64 : decide ((64 : Int) < (L.length : Int)) = false := decide_eq_false (by omega)
    go_enter Tryd.func42, Tryd.ntmps42
    go_wp2
    go_loopw [3] (fun u3 wr => ∃ k : Nat, k ≤ L.length ∧ u3 = .int .i64 k ∧ (∀ j, j < k → rowB (rws L) j = true) ∧ Drn w wr) (fun i _ => L.length - (intOf i).toNat)
    case atStart => exact ⟨0, by omega, rfl, fun j hj => absurd hj (Nat.not_lt_zero _), Drn.refl _⟩
    case round =>
      obtain ⟨k, hk, rfl, hr, hw⟩ := hrel
      have HM := hide hr
      clear hr
      by_cases hlt : k < L.length
      · obtain ⟨x, hx⟩ : ∃ x, L[k]? = some x := ⟨_, List.getElem?_eq_getElem hlt⟩
        obtain ⟨b, o, rfl, hbl, h1, h2⟩ := HC.out k x hx
        have hby := HR.out.2 x (List.mem_of_getElem? hx)
        obtain ⟨A2, c2, hv2, _⟩ := hby.form
        rw [hv2] at h2
        have e1 : (rws L)[k]? = some (lst x.1, x.2.2) := rws_get hx
        have hxs : (lst x.1).length = x.1.size := lst_len _
        have s1 : wr.cell? ⟨b, o + k * 2, none⟩ = some (.string x.1) := (hw.cell _).trans h1
        have s2 : wr.cell? ⟨b, o + k * 2 + 1, none⟩ = some (.slice A2 x.2.2.length c2) := (hw.cell _).trans h2
        have i1 : (k : Int) < (L.length : Int) := by omega
        have i2 : (0 : Int) ≤ (k : Int) := by omega
        have hrow : rowB (rws L) k = (decide (1 ≤ x.1.size) && decide (x.1.size ≤ 64) && decide (x.2.2.length ≤ 65536) && (k == 0 || match (rws L)[k - 1]? with | none => false | some p => !leB (lst x.1) p.1)) := by
          unfold rowB
          rw [e1]
          simp only [hxs]
          rw [decide_eq_true (show k < 64 by omega), Bool.true_and]
          rfl
        have HX := hide hx
        clear hby h1 h2 hv2 e1 hxs hx
        by_cases c1 : x.1.size < 1
        · have HB : Hid (rowB (rws L) k = false) := by show _ = _; rw [hrow, decide_eq_false (show ¬ 1 ≤ x.1.size by omega)]; rfl
          have g1 : decide ((x.1.size : Int) < 1) = true := decide_eq_true (by omega)
          clear hrow
          go_wp2_with fail
          go_quiet (fail)
          go_wp2
          go_ret
          refine ⟨ret_bool (decide_eq_false fun hmay => ?_).symm, hw.drewN _⟩
          have := hmay (k) (by simpa using hlt)
          rw [HB.out] at this
          cases this
        · have g1 : decide ((x.1.size : Int) < 1) = false := decide_eq_false (by omega)
          by_cases c2' : 64 < x.1.size
          · have HB : Hid (rowB (rws L) k = false) := by show _ = _; rw [hrow, decide_eq_false (show ¬ x.1.size ≤ 64 by omega), Bool.and_false]; rfl
            have g2 : decide ((64 : Int) < (x.1.size : Int)) = true := decide_eq_true (by omega)
            clear hrow
            go_wp2_with fail
            go_quiet (fail)
            go_wp2
            go_ret
            refine ⟨ret_bool (decide_eq_false fun hmay => ?_).symm, hw.drewN _⟩
            have := hmay (k) (by simpa using hlt)
            rw [HB.out] at this
            cases this
          · have g2 : decide ((64 : Int) < (x.1.size : Int)) = false := decide_eq_false (by omega)
            by_cases c3 : 65536 < x.2.2.length
            · have HB : Hid (rowB (rws L) k = false) := by show _ = _; rw [hrow, decide_eq_false (show ¬ x.2.2.length ≤ 65536 by omega), Bool.and_false]; rfl
              have g3 : decide ((65536 : Int) < (x.2.2.length : Int)) = true := decide_eq_true (by omega)
              clear hrow
              go_wp2_with fail
              go_quiet (fail)
              go_wp2
              go_ret
              refine ⟨ret_bool (decide_eq_false fun hmay => ?_).symm, hw.drewN _⟩
              have := hmay (k) (by simpa using hlt)
              rw [HB.out] at this
              cases this
            · have g3 : decide ((65536 : Int) < (x.2.2.length : Int)) = false := decide_eq_false (by omega)
              rw [decide_eq_true (show 1 ≤ x.1.size by omega), decide_eq_true (show x.1.size ≤ 64 by omega), decide_eq_true (show x.2.2.length ≤ 65536 by omega), Bool.true_and, Bool.true_and, Bool.true_and] at hrow
              by_cases hk0 : k = 0
              · have HB : Hid (rowB (rws L) k = true) := by show _ = _; rw [hrow, hk0]; rfl
                have g4 : decide ((0 : Int) < (k : Int)) = false := decide_eq_false (by omega)
                have g5 : decide (0 < k) = false := decide_eq_false (by omega)
                clear hrow hk0
                go_wp2_with fail
                go_quiet (fail)
                go_wp2
                go_roundw
                case rel =>
                  refine ⟨k + 1, by omega, by go_num, fun j hj => ?_, hw.drewN _⟩
                  rcases Nat.lt_or_ge j (k) with hjk | hjk
                  · exact HM.out j hjk
                  · rw [show j = k by omega]; exact HB.out
                case measure => simp [intOf]; omega
              · obtain ⟨m, rfl⟩ : ∃ m, k = m + 1 := ⟨k - 1, by omega⟩
                obtain ⟨y, hy⟩ : ∃ y, L[m]? = some y := ⟨_, List.getElem?_eq_getElem (by omega)⟩
                obtain ⟨b', o', hbo, -, h3, -⟩ := HC.out m y hy
                cases hbo
                have s3 : wr.cell? ⟨b, o + m * 2, none⟩ = some (.string y.1) := (hw.cell _).trans h3
                have e2 : (rws L)[m + 1 - 1]? = some (lst y.1, y.2.2) := by rw [Nat.add_sub_cancel]; exact rws_get hy
                rw [e2] at hrow
                have hleb : leB (lst x.1) (lst y.1) = (Op.bytesLess x.1.toList y.1.toList || x.1.toList == y.1.toList) := by
                  unfold leB
                  rw [str_toList, str_toList]
                simp only [hleb] at hrow
                rw [show ((m + 1 == 0) = false) from rfl, Bool.false_or] at hrow
                have g4 : decide ((0 : Int) < (m : Int) + 1) = true := decide_eq_true (by omega)
                have k1 : (m : Int) + 1 < (L.length : Int) := by omega
                have k2 : (0 : Int) ≤ (m : Int) + 1 := by omega
                have k3 : (m : Int) < (L.length : Int) := by omega
                have k4 : (0 : Int) ≤ (m : Int) := by omega
                have k5 : ((m : Int) + 1).toNat = m + 1 := by omega
                clear h3 hy e2 hleb i1 i2 hk0
                rcases hl : (Op.bytesLess x.1.toList y.1.toList || x.1.toList == y.1.toList) with _ | _
                · rw [hl] at hrow
                  have HB := hide hrow
                  clear hrow
                  go_wp2_with fail
                  go_quiet (fail)
                  go_wp2
                  go_roundw
                  case rel =>
                    refine ⟨m + 1 + 1, by omega, by go_num, fun j hj => ?_, hw.drewN _⟩
                    rcases Nat.lt_or_ge j (m + 1) with hjk | hjk
                    · exact HM.out j hjk
                    · rw [show j = m + 1 by omega]; exact HB.out
                  case measure => simp [intOf]; omega
                · rw [hl] at hrow
                  have HB := hide hrow
                  clear hrow
                  go_wp2_with fail
                  go_quiet (fail)
                  go_wp2
                  go_ret
                  refine ⟨ret_bool (decide_eq_false fun hmay => ?_).symm, hw.drewN _⟩
                  have := hmay (m + 1) (by simpa using hlt)
                  rw [HB.out] at this
                  cases this
      · have hge : ¬ (k : Int) < (L.length : Int) := by omega
        have hmay : may (rws L) := fun j hj => HM.out j (by rw [rws_length] at hj; omega)
        have HY := hide hmay
        clear hmay
        go_wp2
        go_ret
        exact ⟨ret_bool (decide_eq_true HY.out).symm, hw⟩
  · have g64 : decide ((64 : Int) < (L.length : Int)) = true := decide_eq_true (by omega)
    have hno : Hid (¬ may (rws L)) := fun hmay => by have := may_len hmay; rw [rws_length] at this; omega
    clear h64
    go_enter Tryd.func42, Tryd.ntmps42
    go_wp2
    go_ret
    exact ⟨ret_bool (decide_eq_false hno.out).symm, Drn.refl _⟩

set_option maxRecDepth 100000 in
set_option maxHeartbeats 1000000 in
theorem rdigits_any (n : Nat) (w : World) (hn : n ≤ 1099511627776) :
    Calls Tryd.prog 43 #[.int .i64 (n : Int)] w fun e w' => e = .returned (.string (itoaS (n : Int))) ∧ Below w.heap.size w w' := by
  have q := rnumber_any (n : Int) w ⟨by omega, by omega⟩
  rw [show numS (n : Int) = itoaS (n : Int) by unfold numS; rw [if_neg (by omega)], show numE (n : Int) = 0 by unfold numE; rw [if_neg (by omega)]] at q
  generalize itoaS (n : Int) = s at *
  go_enter Tryd.func43, Tryd.ntmps43
  go_wp2_with fail
  refine q.mono ?_
  rintro e w1 ⟨rfl, hb⟩
  go_wp2_with fail
  go_ret
  exact ⟨rfl, hb⟩
end Go.Proofs.YteaagngikiaokaaDoor
