/- The contract of the program's taken. -/
import Derived.Test.YteaagngikiaokaaDoorUebN
namespace Go.Proofs.YteaagngikiaokaaDoor
open Go.RowKit
attribute [local go_sem ↓] Go.wp_at_zero Go.wp_at_succ

theorem idx_tw (l : List UInt8) : Lib.indexByte l 58 = if (l.takeWhile (· != 58)).length < l.length then ((l.takeWhile (· != 58)).length : Int) else -1 := by
  induction l with
  | nil => rfl
  | cons b l ih =>
    rw [Lib.indexByte]
    by_cases h : b = 58
    · subst h
      simp
    · have h1 : (b == 58) = false := beq_eq_false_iff_ne.2 h
      have h2 : (b != 58) = true := by simp [h]
      rw [h1, ih, List.takeWhile_cons, if_pos h2]
      simp only [Bool.false_eq_true, if_false, List.length_cons]
      generalize (l.takeWhile (· != 58)).length = t
      by_cases h3 : t < l.length
      · have h4 : t + 1 < l.length + 1 := by omega
        have h5 : ¬ (((t : Int) == -1) = true) := by rw [beq_iff_eq]; omega
        rw [if_pos h3, if_pos h4, if_neg h5]
        simp
      · have h4 : ¬ t + 1 < l.length + 1 := by omega
        simp [h3]
theorem tw_take (l : List UInt8) (n : Nat) : ((l.take n).takeWhile (· != 58)).length = min n (l.takeWhile (· != 58)).length := by
  induction l generalizing n with
  | nil => simp
  | cons b l ih =>
    cases n with
    | zero => simp
    | succ n =>
      rw [List.take_succ_cons, List.takeWhile_cons, List.takeWhile_cons]
      split
      · simp only [List.length_cons, ih]; omega
      · simp
theorem tw_len (l : List UInt8) : (l.takeWhile (· != 58)).length ≤ l.length := by
  induction l with
  | nil => simp
  | cons b l ih => rw [List.takeWhile_cons]; split <;> simp <;> omega
theorem tw_eq (l : List UInt8) : l.take (l.takeWhile (· != 58)).length = l.takeWhile (· != 58) := by
  induction l with
  | nil => simp
  | cons b l ih => rw [List.takeWhile_cons]; split <;> simp [ih]
theorem tw_at (l : List UInt8) (h : (l.takeWhile (· != 58)).length < l.length) : l.drop (l.takeWhile (· != 58)).length = 58 :: l.drop ((l.takeWhile (· != 58)).length + 1) := by
  induction l with
  | nil => simp at h
  | cons b l ih =>
    rw [List.takeWhile_cons] at h ⊢
    split
    · rename_i hb
      rw [if_pos hb] at h
      simp only [List.length_cons] at h ⊢
      rw [List.drop_succ_cons, List.drop_succ_cons]
      exact ih (by omega)
    · rename_i hb
      have hb : b = 58 := by simpa using hb
      rw [hb]; rfl

theorem By.sub {w : World} {g o c : Nat} {l : List UInt8} (h : By w (.slice (some ⟨g, o, none⟩) l.length c) l) (i j c' : Nat) (hij : i + j ≤ l.length) (hc' : j ≤ c') (hm : c' ≤ maxLen) :
    By w (.slice (some ⟨g, o + i, none⟩) j c') ((l.drop i).take j) := by
  obtain ⟨h0, A, c0, hv, hc0, hm0, hcell⟩ := h
  injection hv with e1 e2 e3
  have hlen : ((l.drop i).take j).length = j := by rw [List.length_take, List.length_drop]; omega
  refine ⟨by simp, _, c', by rw [hlen], by rw [hlen]; exact hc', hm, fun hp => ?_⟩
  rw [hlen] at hp
  obtain ⟨b, o2, hA, hb, hcs⟩ := hcell (by omega)
  rw [← e1] at hA
  cases hA
  refine ⟨g, o + i, rfl, hb, fun q hq => ?_⟩
  rw [hlen] at hq
  rw [Nat.add_assoc, hcs (i + q) (by omega), bcells_get, bcells_get, List.getElem?_take_of_lt (by omega), List.getElem?_drop]
theorem by_ints {w : World} {g o n c : Nat} {l : List UInt8} (h : By w (.slice (some ⟨g, o, none⟩) n c) l) : ∀ i, i < n → w.cell? ⟨g, o + i, none⟩ = some (.int .u8 ((l.map fun x => (x.toNat : Int)).getD i 0)) := by
  obtain ⟨h0, A, c0, hv, hc0, hm0, hcell⟩ := h
  injection hv with e1 e2 e3
  subst e2
  intro i hi
  obtain ⟨b, o2, hA, hb, hcs⟩ := hcell (by omega)
  rw [← e1] at hA
  cases hA
  rw [hcs i (by omega), bcells_get]
  simp [List.getD, List.getElem?_eq_getElem hi]
theorem bytesOf_map (l : List UInt8) : Lib.bytesOf (l.map fun x => (x.toNat : Int)) = l := by
  unfold Lib.bytesOf
  rw [List.map_map]
  conv => rhs; rw [← List.map_id l]
  apply List.map_congr_left
  intro x _
  simp

theorem takeF_no {b : List UInt8} {most : Nat} (h : ¬ ((b.takeWhile (· != 58)).length < 7 ∧ (b.takeWhile (· != 58)).length < b.length)) : takeF b most = none := by
  unfold takeF
  split
  · rfl
  · rw [List.drop_of_length_le (by omega)]
theorem takeF_yes {b : List UInt8} {most p : Nat} (hp : p = (b.takeWhile (· != 58)).length) (h : p < 7 ∧ p < b.length) :
    takeF b most = match rd (b.take p) (most : Int) with
      | none => none
      | some n => if (b.drop (p + 1))[n]? = some 44 then some ((b.drop (p + 1)).take n, (b.drop (p + 1)).drop (n + 1)) else none := by
  subst hp
  unfold takeF
  rw [if_neg (by omega), tw_at b h.2, tw_eq]
  rfl

set_option maxRecDepth 100000 in
set_option maxHeartbeats 2000000 in
theorem taken_any (g o c : Nat) (b : List UInt8) (most : Nat) (w : World) (h : By w (.slice (some ⟨g, o, none⟩) b.length c) b) (hm : most ≤ 65536) (ht : Tab w) (he : Err w) :
    Calls Tryd.prog 45 #[.slice (some ⟨g, o, none⟩) b.length c, .int .i64 (most : Int)] w fun e w' => Below w.heap.size w w' ∧
      ((takeF b most = none ∧ e = .returned (.tuple #[.slice none 0 0, .slice none 0 0, .bool false])) ∨
       (∃ x r g1 n1 c1 o2 c2, takeF b most = some (x, r) ∧ e = .returned (.tuple #[.slice g1 n1 c1, .slice (some ⟨g, o2, none⟩) r.length c2, .bool true]) ∧ Own w' w.heap.size 5 (.slice g1 n1 c1) x ∧ By w' (.slice (some ⟨g, o2, none⟩) r.length c2) r)) := by
  have HB := hide h
  obtain ⟨A0, c0, hv, hc, hcm, _⟩ := h.form
  injection hv with hA0 _ hcc
  subst hcc
  subst hA0
  unfold maxLen at hcm
  have hpl := tw_len b
  obtain ⟨p, hp⟩ : ∃ p, p = (b.takeWhile (· != 58)).length := ⟨_, rfl⟩
  have hidx : Lib.indexByte (b.take (min b.length 7)) 58 = if p < 7 ∧ p < b.length then (p : Int) else -1 := by
    rw [idx_tw, tw_take, List.length_take, ← hp]
    by_cases h1 : p < 7 ∧ p < b.length
    · rw [if_pos h1, if_pos (by omega)]; omega
    · rw [if_neg h1, if_neg (by omega)]
  have hsub := HB.out.sub 0 (min b.length 7) c (by omega) (by omega) (by unfold maxLen; omega)
  rw [List.drop_zero, Nat.add_zero] at hsub
  have q1 := Tryd.bytes_IndexByte g o (min b.length 7) c ((b.take (min b.length 7)).map fun x => (x.toNat : Int)) 58 w (by simp) (by_ints hsub)
  rw [bytesOf_map] at q1
  have e58 : (58 : Int).toNat.toUInt8 = 58 := rfl
  rw [e58, hidx] at q1
  have Q1 := hide q1
  have HP := hide hp
  have hm1 : ((min b.length 7 : Nat) : Int) ≤ (c : Int) := by omega
  have hm0 : (0 : Int) ≤ ((min b.length 7 : Nat) : Int) := by omega
  clear h hidx hsub q1 hp
  by_cases hpp : p < 7 ∧ p < b.length
  · have Q2 := Q1.out
    rw [if_pos hpp] at Q2
    have Q2 := hide Q2
    have hno := takeF_yes (most := most) HP.out hpp
    have HN := hide hno
    have hsp := HB.out.sub 0 p c (by omega) (by omega) (by unfold maxLen; omega)
    rw [List.drop_zero, Nat.add_zero] at hsp
    obtain ⟨s, hs, hr⟩ := run_str (P := Tryd.prog) (w := w) (v := .slice (some ⟨g, o, none⟩) p c) (l := b.take p) hsp 27 9 5 Tryd.underlying27 Tryd.underlying5 Tryd.underlying9
    have hls : lst s = b.take p := hs
    have hss : s.size ≤ 7 := by rw [← lst_len, hls, List.length_take]; omega
    have q3 := bread_any s (most : Int) w (by omega) ⟨by omega, by omega⟩ ht he
    rw [hls] at q3
    have Q3 := hide q3
    have k1 : decide ((p : Int) < 0) = false := decide_eq_false (by omega)
    have k2 : (0 : Int) ≤ (p : Int) := by omega
    have k3 : (p : Int) ≤ (c : Int) := by omega
    have k4 : (p : Int) < (b.length : Int) := by omega
    have k5 : (p : Int) + 1 ≤ (b.length : Int) := by omega
    have k6 : (0 : Int) ≤ (p : Int) + 1 := by omega
    have k7 : ((p : Int) + 1).toNat = p + 1 := by omega
    have k8 : (b.length : Int) ≤ (c : Int) := by omega
    have hrest := HB.out.sub (p + 1) (b.length - (p + 1)) (c - (p + 1)) (by omega) (by omega) (by unfold maxLen; omega)
    rw [List.take_of_length_le (by simp)] at hrest
    have HR := hide hrest
    clear Q1 hno hsp hs hls q3 hrest ht he
    go_enter Tryd.func45, Tryd.ntmps45
    go_wp2_with fail
    rw [show (min (b.length : Int) 7).toNat = min b.length 7 by omega]
    refine Q2.out.mono ?_
    rintro e w' ⟨rfl, hww⟩
    obtain rfl : w = w' := hww.symm
    clear Q2
    go_wp2_with fail
    refine Q3.out.mono ?_
    rintro e w1 ⟨rfl, b1⟩
    have B1 := hide b1
    clear b1 Q3
    rcases hrd : rd (b.take p) (most : Int) with _ | n
    · have hn : rdN (b.take p) (most : Int) = 0 := by unfold rdN; rw [hrd]
      have he : rdE (b.take p) (most : Int) = 102 := by unfold rdE; rw [hrd]
      rw [hn, he]
      go_wp2_with fail
      all_goals
        go_ret3
        refine ⟨B1.out, .inl ⟨?_, rfl⟩⟩
        rw [HN.out, hrd]
    · have hn : rdN (b.take p) (most : Int) = (n : Int) := by unfold rdN; rw [hrd]
      have he : rdE (b.take p) (most : Int) = 0 := by unfold rdE; rw [hrd]
      rw [hn, he]
      have hnm := (rd_some hrd (by omega)).2.1
      have HRD := hide hrd
      clear hrd hn he
      by_cases hlt : n < b.length - (p + 1)
      · have j1 : decide (((b.length - (p + 1) : Nat) : Int) < (n : Int) + 1) = false := decide_eq_false (by omega)
        obtain ⟨y, hy⟩ : ∃ y, (b.drop (p + 1))[n]? = some y := ⟨_, List.getElem?_eq_getElem (by simp; omega)⟩
        have hcy : w1.cell? ⟨g, o + (p + 1) + n, none⟩ = some (.int .u8 (y.toNat : Int)) := by
          obtain ⟨A4, c4, hv4, hc4, hm4, hcell⟩ := (HR.out.below B1.out).form
          injection hv4 with hA4 _ _
          obtain ⟨g4, o4, hgo, _, hcy⟩ := hcell n y hy
          rw [← hA4] at hgo
          cases hgo
          exact hcy
        have j2 : (n : Int) < ((b.length - (p + 1) : Nat) : Int) := by omega
        have j3 : (0 : Int) ≤ (n : Int) := by omega
        have j4 : ¬ c = p + 1 := by omega
        have j5 : c ≠ p + 1 := by omega
        have HY := hide hy
        clear hy
        by_cases h44 : y = 44
        · have g4 : ((y.toNat : Int) == 44) = true := by rw [h44]; rfl
          have HY4 := hide h44
          have hcn := h44
          clear h44 hcn
          have hn6 : (n : Int) ≤ 65536 := by omega
          have j6 : (n : Int) ≤ ((c - (p + 1) : Nat) : Int) := by omega
          have j7 : (n : Int) + 1 ≤ ((b.length - (p + 1) : Nat) : Int) := by omega
          have j8 : (0 : Int) ≤ (n : Int) + 1 := by omega
          have j9 : ((n : Int) + 1).toNat = n + 1 := by omega
          have j10 : ((b.length - (p + 1) : Nat) : Int) ≤ ((c - (p + 1) : Nat) : Int) := by omega
          have jw : IntKind.i64.wrap ((n : Int) + 1) = (n : Int) + 1 := IntWalk.i64_in _ (by omega)
          have hsubl : (b.drop (p + 1)).length = b.length - (p + 1) := by simp
          have HC : Hid (∀ W, Below w1.heap.size w1 W → Calls Tryd.prog 64 #[.slice (some ⟨g, o + (p + 1), none⟩) n (c - (p + 1))] W fun e w' => ∃ A k c', e = .returned (.slice A k c') ∧ Own w' w.heap.size 5 (.slice A k c') ((b.drop (p + 1)).take n) ∧ Below w1.heap.size w1 w') := fun W hW => by
            have hb1 := (HR.out.below B1.out).below hW
            rw [← hsubl] at hb1
            have hb2 := hb1.sub 0 n (c - (p + 1)) (by omega) (by omega) (by unfold maxLen; omega)
            rw [List.drop_zero, Nat.add_zero] at hb2
            have hl : ((b.drop (p + 1)).take n).length = n := by rw [List.length_take]; omega
            have q := Tryd.bytes_Clone_at ⟨g, o + (p + 1), none⟩ n (c - (p + 1)) (((b.drop (p + 1)).take n).map fun x => (x.toNat : Int)) W (by simp; omega) (by omega) (fun i hi => by
              have ea : (⟨g, o + (p + 1), none⟩ : Addr).add i = ⟨g, o + (p + 1) + i, none⟩ := by simp [Addr.add]
              rw [ea]
              exact by_ints hb2 i hi)
            refine q.mono ?_
            rintro e w' ⟨v', he, ho, -, hbl⟩
            have hb3 : Own w' W.heap.size 5 v' ((b.drop (p + 1)).take n) := by
              unfold Own
              rw [hl]
              have : (((b.drop (p + 1)).take n).map fun x => (x.toNat : Int)).map (Value.int .u8) = bcells ((b.drop (p + 1)).take n) := by rw [List.map_map]; rfl
              rw [← this]
              exact ho
            obtain ⟨A, c', rfl, _⟩ := hb3.by_.form
            exact ⟨_, _, _, he, hb3.base (Nat.le_trans B1.out.size hW.size), hW.trans (hbl.mono hW.size)⟩
          clear hsubl
          by_cases hcap : c - (p + 1) = n + 1
          · have hb0 : ((b.drop (p + 1)).drop (n + 1)).length = 0 := by simp; omega
            have HB0 := hide (List.eq_nil_of_length_eq_zero hb0)
            have hlr : ((b.drop (p + 1)).drop (n + 1)).length = b.length - (p + 1) - (n + 1) := by simp; omega
            have HLR := hide hlr
            rw [hcap] at HC
            clear hb0 hlr
            go_wp2_with fail
            go_region_held (fun _ => True) (trivial)
              ((go_at_call 64; (with_reducible refine (HC.out _ ?bb).mono ?_); (case bb => (repeat (first | with_reducible exact Below.refl _ _ | with_reducible refine Below.drew ?_))); rintro e w2 ⟨A5, n5, c5, rfl, o5, q5⟩))
            all_goals
              go_wp2
              go_ret3
              refine ⟨B1.out.trans (q5.mono B1.out.size), .inr ⟨_, (b.drop (p + 1)).drop (n + 1), _, _, _, _, _, ?_, by rw [HLR.out]; rfl, o5, ?_⟩⟩
              · rw [HN.out, HRD.out]
                simp only
                rw [HY.out, HY4.out, if_pos rfl]
              · rw [HB0.out]
                exact ⟨rfl, _, 0, rfl, Nat.le_refl _, by simp [maxLen], fun h => absurd h (by simp)⟩
          · have hcap2 : ¬ n + 1 = c - (p + 1) := fun h => hcap h.symm
            have hlr : ((b.drop (p + 1)).drop (n + 1)).length = b.length - (p + 1) - (n + 1) := by simp; omega
            have HLR := hide hlr
            clear hlr
            go_wp2_with fail
            go_region_held (fun _ => True) (trivial)
              ((go_at_call 64; (with_reducible refine (HC.out _ ?bb).mono ?_); (case bb => (repeat (first | with_reducible exact Below.refl _ _ | with_reducible refine Below.drew ?_))); rintro e w2 ⟨A5, n5, c5, rfl, o5, q5⟩))
            all_goals
              go_wp2
              go_ret3
              refine ⟨B1.out.trans (q5.mono B1.out.size), .inr ⟨_, (b.drop (p + 1)).drop (n + 1), _, _, _, _, _, ?_, by rw [HLR.out]; rfl, o5, ?_⟩⟩
              · rw [HN.out, HRD.out]
                simp only
                rw [HY.out, HY4.out, if_pos rfl]
              · have hb1 := (HR.out.below B1.out).below q5
                have hsubl : (b.drop (p + 1)).length = b.length - (p + 1) := by simp
                rw [← hsubl] at hb1
                have hb2 := hb1.sub (n + 1) ((b.drop (p + 1)).length - (n + 1)) (c - (p + 1) - (n + 1)) (by omega) (by omega) (by unfold maxLen; omega)
                rw [List.take_of_length_le (by rw [List.length_drop]; exact Nat.le_refl _)] at hb2
                rw [HLR.out, ← hsubl]
                exact hb2
        · have g4 : ((y.toNat : Int) == 44) = false := by
            rw [beq_eq_false_iff_ne]
            intro h
            exact h44 (UInt8.toNat_inj.1 (by simpa using (by omega : y.toNat = 44)))
          have HY4 := hide h44
          clear h44
          go_wp2_with fail
          go_ret3
          refine ⟨B1.out, .inl ⟨?_, rfl⟩⟩
          rw [HN.out, HRD.out]
          simp only
          rw [HY.out, if_neg]
          intro h
          injection h with h
          exact HY4.out h
      · have j1 : decide (((b.length - (p + 1) : Nat) : Int) < (n : Int) + 1) = true := decide_eq_true (by omega)
        go_wp2_with fail
        all_goals
          go_ret3
          refine ⟨B1.out, .inl ⟨?_, rfl⟩⟩
          rw [HN.out, HRD.out]
          simp only
          rw [if_neg]
          rw [List.getElem?_eq_none (by simp; omega)]
          simp
  · have Q2 := Q1.out
    rw [if_neg hpp] at Q2
    have Q2 := hide Q2
    have hno := takeF_no (b := b) (most := most) (by rw [← HP.out]; exact hpp)
    have HN := hide hno
    clear Q1 hpp hno
    go_enter Tryd.func45, Tryd.ntmps45
    go_wp2_with fail
    rw [show (min (b.length : Int) 7).toNat = min b.length 7 by omega]
    refine Q2.out.mono ?_
    rintro e w' ⟨rfl, rfl⟩
    go_wp2_with fail
    go_ret3
    exact ⟨Below.refl _ _, .inl ⟨HN.out, rfl⟩⟩
end Go.Proofs.YteaagngikiaokaaDoor
