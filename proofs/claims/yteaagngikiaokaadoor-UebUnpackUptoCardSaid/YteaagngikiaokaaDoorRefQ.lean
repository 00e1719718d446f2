/- The contract of the document's piece. -/
import Derived.Test.YteaagngikiaokaaDoorTakA
import Derived.Test.YteaagngikiaokaaDoorNumR
import Derived.Test.YteaagngikiaokaaDoorMem3
namespace Go.Proofs.YteaagngikiaokaaDoor
open Go.RowKit

theorem rd_short {l : List UInt8} {most : Nat} (hm : most ≤ 65536) (h : 7 ≤ l.length) : rd l (most : Int) = none := by
  cases hr : rd l (most : Int) with
  | none => rfl
  | some n =>
    obtain ⟨-, h1, h2⟩ := rd_some hr (by omega)
    have := itoa_len n (by omega)
    rw [← h2] at this
    omega
theorem takeF_at {r : List UInt8} {most p : Nat} (hp : p = (r.takeWhile (· != 58)).length) (h : p < r.length) (hm : most ≤ 65536) :
    takeF r most = match rd (r.take p) (most : Int) with
      | none => none
      | some n => if (r.drop (p + 1))[n]? = some 44 then some ((r.drop (p + 1)).take n, (r.drop (p + 1)).drop (n + 1)) else none := by
  by_cases h7 : p < 7
  · exact takeF_yes hp ⟨h7, h⟩
  · rw [rd_short hm (by rw [List.length_take]; omega), takeF_no (by rw [← hp]; omega)]
theorem tw_pre (r : List UInt8) (q : Nat) (h : q < (r.takeWhile (· != 58)).length) : ∃ c, r[q]? = some c ∧ c ≠ 58 := by
  induction r generalizing q with
  | nil => simp at h
  | cons x r ih =>
    rw [List.takeWhile_cons] at h
    split at h
    · rename_i hx
      cases q with
      | zero => exact ⟨x, rfl, by simpa using hx⟩
      | succ q => exact ih q (by simpa using h)
    · simp at h
theorem tw_colon (r : List UInt8) (h : (r.takeWhile (· != 58)).length < r.length) : r[(r.takeWhile (· != 58)).length]? = some 58 := by
  have := tw_at r h
  have h2 := congrArg (fun l => l[0]?) this
  simpa [List.getElem?_drop] using h2

set_option maxRecDepth 100000 in
set_option maxHeartbeats 4000000 in
theorem rpiece_any (g o c : Nat) (b : List UInt8) (a most : Nat) (w : World) (h : By w (.slice (some ⟨g, o, none⟩) b.length c) b) (ha : a ≤ b.length) (hb : b.length ≤ 1099511627776) (hm : most ≤ 65536) :
    Calls Tryd.prog 46 #[.slice (some ⟨g, o, none⟩) b.length c, .int .i64 (a : Int), .int .i64 (most : Int)] w fun e w' => Below w.heap.size w w' ∧
      ((takeF (b.drop a) most = none ∧ e = .returned (.tuple #[.slice none 0 0, .int .i64 (-1)])) ∨
       (∃ x r v', takeF (b.drop a) most = some (x, r) ∧ e = .returned (.tuple #[v', .int .i64 ((b.length - r.length : Nat) : Int)]) ∧ Own w' w.heap.size 5 v' x ∧ r.length ≤ b.length ∧ b.drop (b.length - r.length) = r)) := by
  have HB := hide h
  obtain ⟨A0, c0, hv, hc, hcm, hcell⟩ := h.form
  injection hv with hA0 _ hcc
  subst hcc
  subst hA0
  unfold maxLen at hcm
  obtain ⟨p, hp⟩ : ∃ p, p = ((b.drop a).takeWhile (· != 58)).length := ⟨_, rfl⟩
  have hpl : a + p ≤ b.length := by have := tw_len (b.drop a); rw [← hp, List.length_drop] at this; omega
  have HCELL : Hid (∀ i y, b[i]? = some y → w.cell? ⟨g, o + i, none⟩ = some (.int .u8 (y.toNat : Int))) := fun i y hy => by
    obtain ⟨g4, o4, hgo, _, hcy⟩ := hcell i y hy
    cases hgo
    exact hcy
  have HP := hide hp
  clear h hcell hp
  go_enter Tryd.func46, Tryd.ntmps46
  go_wp2_with fail
  go_loopw [8] (fun u8 wr => ∃ i : Nat, a ≤ i ∧ i ≤ a + p ∧ i ≤ a + 8 ∧ u8 = .int .i64 (i : Int) ∧ w = wr) (fun i _ => b.length + 1 - (intOf i).toNat)
  case atStart => exact ⟨a, by omega, by omega, by omega, rfl, rfl⟩
  case round =>
    obtain ⟨i, hai, hip, hi8, rfl, rfl⟩ := hrel
    by_cases hlt : i < a + p
    · obtain ⟨y, hy, hy58⟩ := tw_pre (b.drop a) (i - a) (by rw [← HP.out]; omega)
      rw [List.getElem?_drop, show a + (i - a) = i by omega] at hy
      have hcy := HCELL.out i y hy
      have g1 : ((y.toNat : Int) == 58) = false := by
        rw [beq_eq_false_iff_ne]
        intro h
        exact hy58 (UInt8.toNat_inj.1 (by simpa using (by omega : y.toNat = 58)))
      have g2 : ¬ (y.toNat : Int) = 58 := by simpa using g1
      have g3 : ¬ y.toNat = 58 := by omega
      have g4 : ((y.toNat : Int) != 58) = true := by rw [bne_iff_ne]; exact g2
      have g5 : ¬ y = 58 := hy58
      have i1 : (i : Int) < (b.length : Int) := by omega
      have i2 : (0 : Int) ≤ (i : Int) := by omega
      by_cases h8 : i < a + 8
      · have i3 : decide ((i : Int) - (a : Int) < 8) = true := decide_eq_true (by omega)
        clear hy hy58
        go_wp2_with fail
        go_roundw
        case rel => exact ⟨i + 1, by omega, by omega, by omega, by go_num, trivial⟩
        case measure => simp [intOf]; omega
      · have i3 : decide ((i : Int) - (a : Int) < 8) = false := decide_eq_false (by omega)
        have hno := takeF_no (b := b.drop a) (most := most) (by rw [← HP.out]; omega)
        have HN := hide hno
        clear hy hy58 hno
        go_wp2_with fail
        go_ret2
        exact ⟨Below.refl _ _, .inl ⟨HN.out, rfl⟩⟩
    · have hjp : i = a + p := by omega
      by_cases hend : i < b.length
      · have hdl : p < (b.drop a).length := by rw [List.length_drop]; omega
        have hcol := tw_colon (b.drop a) (by rw [← HP.out]; exact hdl)
        rw [← HP.out, List.getElem?_drop, show a + p = i by omega] at hcol
        have hcy : w.cell? ⟨g, o + i, none⟩ = some (.int .u8 58) := HCELL.out i 58 hcol
        have i1 : (i : Int) < (b.length : Int) := by omega
        have i2 : (0 : Int) ≤ (i : Int) := by omega
        have hF := takeF_at (r := b.drop a) (most := most) HP.out hdl hm
        rw [List.drop_drop, show a + (p + 1) = i + 1 by omega, show p = i - a by omega] at hF
        have HF := hide hF
        have hsp := HB.out.sub a (i - a) (c - a) (by omega) (by omega) (by unfold maxLen; omega)
        obtain ⟨s, hs, hr⟩ := run_str (P := Tryd.prog) hsp 27 9 5 Tryd.underlying27 Tryd.underlying5 Tryd.underlying9
        have hls : lst s = (b.drop a).take (i - a) := hs
        have hss : s.size ≤ 8 := by rw [← lst_len, hls, List.length_take]; omega
        have q3 := rread_any s (most : Int) w (by omega) ⟨by omega, by omega⟩
        rw [hls] at q3
        have Q3 := hide q3
        have k1 : (a : Int) ≤ (i : Int) := by omega
        have k2 : (0 : Int) ≤ (a : Int) := by omega
        have k3 : (i : Int) ≤ (c : Int) := by omega
        have k4 : ¬ c = a := by omega
        have k5 : decide ((b.length : Int) ≤ (i : Int)) = false := decide_eq_false (by omega)
        clear hF hsp hs hls q3 hjp hcol hdl hlt hip
        go_wp2_with fail
        refine Q3.out.mono ?_
        rintro e w1 ⟨rfl, hww⟩
        obtain rfl : w = w1 := by first | exact hww | exact hww.symm
        clear Q3
        rcases hrd : rd ((b.drop a).take (i - a)) (most : Int) with _ | n
        · have hn : rdN ((b.drop a).take (i - a)) (most : Int) = 0 := by unfold rdN; rw [hrd]
          have he : rdE ((b.drop a).take (i - a)) (most : Int) = 102 := by unfold rdE; rw [hrd]
          rw [hn, he]
          go_wp2_with fail
          go_ret2
          refine ⟨Below.refl _ _, .inl ⟨?_, rfl⟩⟩
          rw [HF.out, hrd]
        · have hn : rdN ((b.drop a).take (i - a)) (most : Int) = (n : Int) := by unfold rdN; rw [hrd]
          have he : rdE ((b.drop a).take (i - a)) (most : Int) = 0 := by unfold rdE; rw [hrd]
          rw [hn, he]
          have hnm := (rd_some hrd (by omega)).2.1
          have HRD := hide hrd
          clear hrd hn he
          by_cases hlt : i + 1 + n < b.length
          · have j1 : decide ((b.length : Int) - (i : Int) - 1 < (n : Int) + 1) = false := decide_eq_false (by omega)
            obtain ⟨y, hy⟩ : ∃ y, b[i + 1 + n]? = some y := ⟨_, List.getElem?_eq_getElem hlt⟩
            have hcy2 := HCELL.out _ _ hy
            have hy' : (b.drop (i + 1))[n]? = some y := by rw [List.getElem?_drop, hy]
            have HY := hide hy'
            have j2 : (0 : Int) ≤ (i : Int) + 1 + (n : Int) := by omega
            have j3 : (i : Int) + 1 + (n : Int) < (b.length : Int) := by omega
            have j4 : ((i : Int) + 1 + (n : Int)).toNat = i + 1 + n := by omega
            clear hy hy'
            by_cases h44 : y = 44
            · have g4 : ((y.toNat : Int) == 44) = true := by rw [h44]; rfl
              have HY4 := hide h44
              clear h44
              have j5 : (0 : Int) ≤ (i : Int) + 1 := by omega
              have j6 : (i : Int) + 1 ≤ (i : Int) + 1 + (n : Int) := by omega
              have j7 : (i : Int) + 1 + (n : Int) ≤ (c : Int) := by omega
              have j8 : ((i : Int) + 1).toNat = i + 1 := by omega
              have j9 : ¬ c = i + 1 := by omega
              have hsub := HB.out.sub (i + 1) n (c - (i + 1)) (by omega) (by omega) (by unfold maxLen; omega)
              have HSUB := hide hsub
              have HL : Hid (([] : List UInt8).length + ((b.drop (i + 1)).take n).length ≤ 140737488355328) := by show _ ≤ _; simp; omega
              clear hsub
              go_wp2_with (at_builtin; go_loud (refine wpList_pushV elem8 (Own.nil w w.heap.size _) (Below.refl _ w) (Nat.le_refl _) HSUB.out HL.out rfl _ _ rfl rfl rfl ?_); intro v1 w1 hown1 hbel1 hgr1 _)
              go_ret2
              have hlr : ((b.drop (i + 1)).drop (n + 1)).length = b.length - (i + 1) - (n + 1) := by simp; omega
              refine ⟨hbel1, .inr ⟨(b.drop (i + 1)).take n, (b.drop (i + 1)).drop (n + 1), v1, ?_, ?_, hown1, by omega, ?_⟩⟩
              · rw [HF.out, HRD.out]
                simp only
                rw [HY.out, HY4.out, if_pos rfl]
              · have e1 : ((b.length - ((b.drop (i + 1)).drop (n + 1)).length : Nat) : Int) = (i : Int) + (n : Int) + 2 := by omega
                rw [e1]
                rfl
              · rw [List.drop_drop]
                congr 1
                rw [List.length_drop]
                omega
            · have g4 : ((y.toNat : Int) == 44) = false := by
                rw [beq_eq_false_iff_ne]
                intro h
                exact h44 (UInt8.toNat_inj.1 (by simpa using (by omega : y.toNat = 44)))
              have g6 : ¬ (y.toNat : Int) = 44 := by simpa using g4
              have HY4 := hide h44
              clear h44
              go_wp2_with fail
              go_ret2
              refine ⟨Below.refl _ _, .inl ⟨?_, rfl⟩⟩
              rw [HF.out, HRD.out]
              simp only
              rw [HY.out, if_neg]
              intro h
              injection h with h
              exact HY4.out h
          · have j1 : decide ((b.length : Int) - (i : Int) - 1 < (n : Int) + 1) = true := decide_eq_true (by omega)
            go_wp2_with fail
            go_ret2
            refine ⟨Below.refl _ _, .inl ⟨?_, rfl⟩⟩
            rw [HF.out, HRD.out]
            simp only
            rw [if_neg]
            rw [List.getElem?_eq_none (by simp; omega)]
            simp
      · have i1 : ¬ (i : Int) < (b.length : Int) := by omega
        have i2 : decide ((i : Int) < (b.length : Int)) = false := decide_eq_false i1
        have i3 : decide ((b.length : Int) ≤ (i : Int)) = true := decide_eq_true (by omega)
        have hno := takeF_no (b := b.drop a) (most := most) (by rw [← HP.out, List.length_drop]; omega)
        have HN := hide hno
        clear hno
        go_wp2_with fail
        go_ret2
        exact ⟨Below.refl _ _, .inl ⟨HN.out, rfl⟩⟩
end Go.Proofs.YteaagngikiaokaaDoor
