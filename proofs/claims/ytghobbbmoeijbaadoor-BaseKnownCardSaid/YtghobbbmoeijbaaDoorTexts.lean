/- The contract of the helper that compares lists of texts. -/
import Derived.Test.YtghobbbmoeijbaaDoorFld
import Derived.Test.YtghobbbmoeijbaaDoorDr
import Derived.BigQuiet
import Derived.Deep.QuietTactic
namespace Go.Proofs.YtghobbbmoeijbaaDoor
open Go.RowKit

theorem tsame_step (L M : List ByteArray) (k : Nat) (x y : ByteArray) (hx : L[k]? = some x) (hy : M[k]? = some y) (h : L.take k = M.take k) :
    (L.take (k + 1) = M.take (k + 1)) ↔ x = y := by
  rw [List.take_add_one, List.take_add_one, hx, hy, h]
  simp
theorem map_lst_inj {ts us : List ByteArray} (h : ts.map lst = us.map lst) : ts = us := by
  induction ts generalizing us with
  | nil => cases us with
    | nil => rfl
    | cons a r => simp at h
  | cons a r ih =>
    cases us with
    | nil => simp at h
    | cons b q =>
      simp only [List.map_cons, List.cons.injEq] at h
      have hab : a = b := by
        cases a; cases b
        have := h.1
        simp only [lst] at this
        congr
        exact Array.toList_inj.1 this
      rw [hab, ih h.2]

set_option maxHeartbeats 800000 in
theorem stexts_any (va vb : Value) (b1 b2 : Nat) (l m : List ByteArray) (w : World) (ha : OwnT w b1 va l) (hb : OwnT w b2 vb m) :
    Calls Tryd.prog 11 #[va, vb] w fun e w' => e = .returned (.bool (decide (l = m))) ∧ Drn w w' := by
  obtain ⟨A, c, rfl, hc, hm, hca⟩ := ha.form
  obtain ⟨B, d, rfl, hd, hmd, hcb⟩ := hb.form
  unfold maxLen at hm hmd
  clear ha hb
  by_cases hl : l.length = m.length
  · have hne : ((l.length : Int) != (m.length : Int)) = false := by simp [hl]
    have HL : Hid (l.length = m.length) := hl
    clear hl
    go_enter Tryd.func11, Tryd.ntmps11
    go_wp2
    go_loopw [5] (fun i wr => ∃ k : Nat, k ≤ l.length ∧ i = .int .i64 k ∧ l.take k = m.take k ∧ Drn w wr) (fun i _ => l.length - (intOf i).toNat)
    case atStart => exact ⟨0, by omega, rfl, by simp, Drn.refl _⟩
    case round =>
      obtain ⟨k, hk, rfl, hq, hwr⟩ := hrel
      have HQ := hide hq
      clear hq
      by_cases hlt : k < l.length
      · have hlt2 : k < m.length := by have := HL.out; omega
        obtain ⟨x, hx⟩ : ∃ x, l[k]? = some x := ⟨_, List.getElem?_eq_getElem hlt⟩
        obtain ⟨y, hy⟩ : ∃ y, m[k]? = some y := ⟨_, List.getElem?_eq_getElem hlt2⟩
        obtain ⟨b, o, rfl, hbl, hcx0⟩ := hca k x hx
        obtain ⟨b2, o2, rfl, hbl2, hcy0⟩ := hcb k y hy
        have hcx : wr.cell? ⟨b, o + k, none⟩ = some (.string x) := (hwr.cell _).trans hcx0
        have hcy : wr.cell? ⟨b2, o2 + k, none⟩ = some (.string y) := (hwr.cell _).trans hcy0
        have HX := hide hx
        have HY := hide hy
        clear hx hy hca hcb hcx0 hcy0
        have i1 : (k : Int) < (l.length : Int) := by omega
        have i2 : (k : Int) < (m.length : Int) := by omega
        have i3 : (0 : Int) ≤ (k : Int) := by omega
        by_cases hxy : x = y
        · subst hxy
          go_wp2
          go_quiet (fail)
          go_wp2
          go_roundw
          case rel => exact ⟨k + 1, by omega, by go_num, (tsame_step l m k x x HX.out HY.out HQ.out).2 rfl, hwr.drewN _⟩
          case measure => simp [intOf]; omega
        · have h1 : (x.toList == y.toList) = false := by
            rw [beq_eq_false_iff_ne, str_toList, str_toList]
            intro h
            refine hxy ?_
            cases x; cases y
            congr
            exact Array.toList_inj.1 h
          go_wp2
          go_quiet (fail)
          go_wp2
          go_ret
          refine ⟨ret_bool ?_, hwr.drewN _⟩
          refine (decide_eq_false fun h => hxy ((tsame_step l m k x y HX.out HY.out HQ.out).1 (by rw [h]))).symm
      · have hge : ¬ ((k : Int) < (l.length : Int)) := by omega
        go_wp2
        go_ret
        refine ⟨ret_bool ?_, hwr⟩
        refine (decide_eq_true ?_).symm
        have := HQ.out
        rwa [List.take_of_length_le (by omega), List.take_of_length_le (by have := HL.out; omega)] at this
  · have hne : ((l.length : Int) != (m.length : Int)) = true := by rw [bne_iff_ne]; omega
    go_enter Tryd.func11, Tryd.ntmps11
    go_wp2
    go_ret
    exact ⟨ret_bool (decide_eq_false fun h => hl (by rw [h])).symm, Drn.refl _⟩
end Go.Proofs.YtghobbbmoeijbaaDoor
