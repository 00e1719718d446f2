/- Joined texts: TakA, UnpA, RefQ, Dr, RefV, LayE, CutM. -/
import Derived.Test.YtdohebhbiokljaaDoorJ2
import Derived.Test.YtdohebhbiokljaaDoorJ1
import Derived.Laws.Cover1
import Derived.BigQuiet
import Derived.Deep.QuietTactic
import Derived.Deep.RegionHeld
import Derived.Deep.MidRow
import Derived.Laws.Cover3
import Derived.Handy

/- The contract of the program's taken. -/
namespace Go.Proofs.YtdohebhbiokljaaDoor
open Go.RowKit
attribute [local go_sem ↓] Go.wp_at_zero Go.wp_at_succ

theorem idx_tw (l : List UInt8) : Lib.indexByte l 58 = if (l.takeWhile (· != 58)).length < l.length then ((l.takeWhile (· != 58)).length : Int) else -1 := by
  induction l with
  | nil => rfl
  | cons b l ih =>
    rw [Lib.indexByte]
    by_cases h : b = 58
    · subst h
      simp
    · have h1 : (b == 58) = false := beq_eq_false_iff_ne.2 h
      have h2 : (b != 58) = true := by simp [h]
      rw [h1, ih, List.takeWhile_cons, if_pos h2]
      simp only [Bool.false_eq_true, if_false, List.length_cons]
      generalize (l.takeWhile (· != 58)).length = t
      by_cases h3 : t < l.length
      · have h4 : t + 1 < l.length + 1 := by omega
        have h5 : ¬ (((t : Int) == -1) = true) := by rw [beq_iff_eq]; omega
        rw [if_pos h3, if_pos h4, if_neg h5]
        simp
      · have h4 : ¬ t + 1 < l.length + 1 := by omega
        simp [h3]
theorem tw_take (l : List UInt8) (n : Nat) : ((l.take n).takeWhile (· != 58)).length = min n (l.takeWhile (· != 58)).length := by
  induction l generalizing n with
  | nil => simp
  | cons b l ih =>
    cases n with
    | zero => simp
    | succ n =>
      rw [List.take_succ_cons, List.takeWhile_cons, List.takeWhile_cons]
      split
      · simp only [List.length_cons, ih]; omega
      · simp
theorem tw_len (l : List UInt8) : (l.takeWhile (· != 58)).length ≤ l.length := by
  induction l with
  | nil => simp
  | cons b l ih => rw [List.takeWhile_cons]; split <;> simp <;> omega
theorem tw_eq (l : List UInt8) : l.take (l.takeWhile (· != 58)).length = l.takeWhile (· != 58) := by
  induction l with
  | nil => simp
  | cons b l ih => rw [List.takeWhile_cons]; split <;> simp [ih]
theorem tw_at (l : List UInt8) (h : (l.takeWhile (· != 58)).length < l.length) : l.drop (l.takeWhile (· != 58)).length = 58 :: l.drop ((l.takeWhile (· != 58)).length + 1) := by
  induction l with
  | nil => simp at h
  | cons b l ih =>
    rw [List.takeWhile_cons] at h ⊢
    split
    · rename_i hb
      rw [if_pos hb] at h
      simp only [List.length_cons] at h ⊢
      rw [List.drop_succ_cons, List.drop_succ_cons]
      exact ih (by omega)
    · rename_i hb
      have hb : b = 58 := by simpa using hb
      rw [hb]; rfl

theorem By.sub {w : World} {g o c : Nat} {l : List UInt8} (h : By w (.slice (some ⟨g, o, none⟩) l.length c) l) (i j c' : Nat) (hij : i + j ≤ l.length) (hc' : j ≤ c') (hm : c' ≤ maxLen) :
    By w (.slice (some ⟨g, o + i, none⟩) j c') ((l.drop i).take j) := by
  obtain ⟨h0, A, c0, hv, hc0, hm0, hcell⟩ := h
  injection hv with e1 e2 e3
  have hlen : ((l.drop i).take j).length = j := by rw [List.length_take, List.length_drop]; omega
  refine ⟨by simp, _, c', by rw [hlen], by rw [hlen]; exact hc', hm, fun hp => ?_⟩
  rw [hlen] at hp
  obtain ⟨b, o2, hA, hb, hcs⟩ := hcell (by omega)
  rw [← e1] at hA
  cases hA
  refine ⟨g, o + i, rfl, hb, fun q hq => ?_⟩
  rw [hlen] at hq
  rw [Nat.add_assoc, hcs (i + q) (by omega), bcells_get, bcells_get, List.getElem?_take_of_lt (by omega), List.getElem?_drop]
theorem by_ints {w : World} {g o n c : Nat} {l : List UInt8} (h : By w (.slice (some ⟨g, o, none⟩) n c) l) : ∀ i, i < n → w.cell? ⟨g, o + i, none⟩ = some (.int .u8 ((l.map fun x => (x.toNat : Int)).getD i 0)) := by
  obtain ⟨h0, A, c0, hv, hc0, hm0, hcell⟩ := h
  injection hv with e1 e2 e3
  subst e2
  intro i hi
  obtain ⟨b, o2, hA, hb, hcs⟩ := hcell (by omega)
  rw [← e1] at hA
  cases hA
  rw [hcs i (by omega), bcells_get]
  simp [List.getD, List.getElem?_eq_getElem hi]
theorem bytesOf_map (l : List UInt8) : Lib.bytesOf (l.map fun x => (x.toNat : Int)) = l := by
  unfold Lib.bytesOf
  rw [List.map_map]
  conv => rhs; rw [← List.map_id l]
  apply List.map_congr_left
  intro x _
  simp

theorem takeF_no {b : List UInt8} {most : Nat} (h : ¬ ((b.takeWhile (· != 58)).length < 7 ∧ (b.takeWhile (· != 58)).length < b.length)) : takeF b most = none := by
  unfold takeF
  split
  · rfl
  · rw [List.drop_of_length_le (by omega)]
theorem takeF_yes {b : List UInt8} {most p : Nat} (hp : p = (b.takeWhile (· != 58)).length) (h : p < 7 ∧ p < b.length) :
    takeF b most = match rd (b.take p) (most : Int) with
      | none => none
      | some n => if (b.drop (p + 1))[n]? = some 44 then some ((b.drop (p + 1)).take n, (b.drop (p + 1)).drop (n + 1)) else none := by
  subst hp
  unfold takeF
  rw [if_neg (by omega), tw_at b h.2, tw_eq]
  rfl

set_option maxRecDepth 100000 in
set_option maxHeartbeats 2000000 in
theorem taken_any (g o c : Nat) (b : List UInt8) (most : Nat) (w : World) (h : By w (.slice (some ⟨g, o, none⟩) b.length c) b) (hm : most ≤ 65536) (ht : Tab w) (he : Err w) :
    Calls Tryd.prog 58 #[.slice (some ⟨g, o, none⟩) b.length c, .int .i64 (most : Int)] w fun e w' => Below w.heap.size w w' ∧
      ((takeF b most = none ∧ e = .returned (.tuple #[.slice none 0 0, .slice none 0 0, .bool false])) ∨
       (∃ x r g1 n1 c1 o2 c2, takeF b most = some (x, r) ∧ e = .returned (.tuple #[.slice g1 n1 c1, .slice (some ⟨g, o2, none⟩) r.length c2, .bool true]) ∧ Own w' w.heap.size 5 (.slice g1 n1 c1) x ∧ By w' (.slice (some ⟨g, o2, none⟩) r.length c2) r)) := by
  have HB := hide h
  obtain ⟨A0, c0, hv, hc, hcm, _⟩ := h.form
  injection hv with hA0 _ hcc
  subst hcc
  subst hA0
  unfold maxLen at hcm
  have hpl := tw_len b
  obtain ⟨p, hp⟩ : ∃ p, p = (b.takeWhile (· != 58)).length := ⟨_, rfl⟩
  have hidx : Lib.indexByte (b.take (min b.length 7)) 58 = if p < 7 ∧ p < b.length then (p : Int) else -1 := by
    rw [idx_tw, tw_take, List.length_take, ← hp]
    by_cases h1 : p < 7 ∧ p < b.length
    · rw [if_pos h1, if_pos (by omega)]; omega
    · rw [if_neg h1, if_neg (by omega)]
  have hsub := HB.out.sub 0 (min b.length 7) c (by omega) (by omega) (by unfold maxLen; omega)
  rw [List.drop_zero, Nat.add_zero] at hsub
  have q1 := Tryd.bytes_IndexByte g o (min b.length 7) c ((b.take (min b.length 7)).map fun x => (x.toNat : Int)) 58 w (by simp) (by_ints hsub)
  rw [bytesOf_map] at q1
  have e58 : (58 : Int).toNat.toUInt8 = 58 := rfl
  rw [e58, hidx] at q1
  have Q1 := hide q1
  have HP := hide hp
  have hm1 : ((min b.length 7 : Nat) : Int) ≤ (c : Int) := by omega
  have hm0 : (0 : Int) ≤ ((min b.length 7 : Nat) : Int) := by omega
  clear h hidx hsub q1 hp
  by_cases hpp : p < 7 ∧ p < b.length
  · have Q2 := Q1.out
    rw [if_pos hpp] at Q2
    have Q2 := hide Q2
    have hno := takeF_yes (most := most) HP.out hpp
    have HN := hide hno
    have hsp := HB.out.sub 0 p c (by omega) (by omega) (by unfold maxLen; omega)
    rw [List.drop_zero, Nat.add_zero] at hsp
    obtain ⟨s, hs, hr⟩ := run_str (P := Tryd.prog) (w := w) (v := .slice (some ⟨g, o, none⟩) p c) (l := b.take p) hsp 38 9 5 Tryd.underlying38 Tryd.underlying5 Tryd.underlying9
    have hls : lst s = b.take p := hs
    have hss : s.size ≤ 7 := by rw [← lst_len, hls, List.length_take]; omega
    have q3 := bread_any s (most : Int) w (by omega) ⟨by omega, by omega⟩ ht he
    rw [hls] at q3
    have Q3 := hide q3
    have k1 : decide ((p : Int) < 0) = false := decide_eq_false (by omega)
    have k2 : (0 : Int) ≤ (p : Int) := by omega
    have k3 : (p : Int) ≤ (c : Int) := by omega
    have k4 : (p : Int) < (b.length : Int) := by omega
    have k5 : (p : Int) + 1 ≤ (b.length : Int) := by omega
    have k6 : (0 : Int) ≤ (p : Int) + 1 := by omega
    have k7 : ((p : Int) + 1).toNat = p + 1 := by omega
    have k8 : (b.length : Int) ≤ (c : Int) := by omega
    have hrest := HB.out.sub (p + 1) (b.length - (p + 1)) (c - (p + 1)) (by omega) (by omega) (by unfold maxLen; omega)
    rw [List.take_of_length_le (by simp)] at hrest
    have HR := hide hrest
    clear Q1 hno hsp hs hls q3 hrest ht he
    go_enter Tryd.func58, Tryd.ntmps58
    go_wp2_with fail
    rw [show (min (b.length : Int) 7).toNat = min b.length 7 by omega]
    refine Q2.out.mono ?_
    rintro e w' ⟨rfl, hww⟩
    obtain rfl : w = w' := hww.symm
    clear Q2
    go_wp2_with fail
    refine Q3.out.mono ?_
    rintro e w1 ⟨rfl, b1⟩
    have B1 := hide b1
    clear b1 Q3
    rcases hrd : rd (b.take p) (most : Int) with _ | n
    · have hn : rdN (b.take p) (most : Int) = 0 := by unfold rdN; rw [hrd]
      have he : rdE (b.take p) (most : Int) = 102 := by unfold rdE; rw [hrd]
      rw [hn, he]
      go_wp2_with fail
      all_goals
        go_ret3
        refine ⟨B1.out, .inl ⟨?_, rfl⟩⟩
        rw [HN.out, hrd]
    · have hn : rdN (b.take p) (most : Int) = (n : Int) := by unfold rdN; rw [hrd]
      have he : rdE (b.take p) (most : Int) = 0 := by unfold rdE; rw [hrd]
      rw [hn, he]
      have hnm := (rd_some hrd (by omega)).2.1
      have HRD := hide hrd
      clear hrd hn he
      by_cases hlt : n < b.length - (p + 1)
      · have j1 : decide (((b.length - (p + 1) : Nat) : Int) < (n : Int) + 1) = false := decide_eq_false (by omega)
        obtain ⟨y, hy⟩ : ∃ y, (b.drop (p + 1))[n]? = some y := ⟨_, List.getElem?_eq_getElem (by simp; omega)⟩
        have hcy : w1.cell? ⟨g, o + (p + 1) + n, none⟩ = some (.int .u8 (y.toNat : Int)) := by
          obtain ⟨A4, c4, hv4, hc4, hm4, hcell⟩ := (HR.out.below B1.out).form
          injection hv4 with hA4 _ _
          obtain ⟨g4, o4, hgo, _, hcy⟩ := hcell n y hy
          rw [← hA4] at hgo
          cases hgo
          exact hcy
        have j2 : (n : Int) < ((b.length - (p + 1) : Nat) : Int) := by omega
        have j3 : (0 : Int) ≤ (n : Int) := by omega
        have j4 : ¬ c = p + 1 := by omega
        have j5 : c ≠ p + 1 := by omega
        have HY := hide hy
        clear hy
        by_cases h44 : y = 44
        · have g4 : ((y.toNat : Int) == 44) = true := by rw [h44]; rfl
          have HY4 := hide h44
          have hcn := h44
          clear h44 hcn
          have hn6 : (n : Int) ≤ 65536 := by omega
          have j6 : (n : Int) ≤ ((c - (p + 1) : Nat) : Int) := by omega
          have j7 : (n : Int) + 1 ≤ ((b.length - (p + 1) : Nat) : Int) := by omega
          have j8 : (0 : Int) ≤ (n : Int) + 1 := by omega
          have j9 : ((n : Int) + 1).toNat = n + 1 := by omega
          have j10 : ((b.length - (p + 1) : Nat) : Int) ≤ ((c - (p + 1) : Nat) : Int) := by omega
          have jw : IntKind.i64.wrap ((n : Int) + 1) = (n : Int) + 1 := IntWalk.i64_in _ (by omega)
          have hsubl : (b.drop (p + 1)).length = b.length - (p + 1) := by simp
          have HC : Hid (∀ W, Below w1.heap.size w1 W → Calls Tryd.prog 62 #[.slice (some ⟨g, o + (p + 1), none⟩) n (c - (p + 1))] W fun e w' => ∃ A k c', e = .returned (.slice A k c') ∧ Own w' w.heap.size 5 (.slice A k c') ((b.drop (p + 1)).take n) ∧ Below w1.heap.size w1 w') := fun W hW => by
            have hb1 := (HR.out.below B1.out).below hW
            rw [← hsubl] at hb1
            have hb2 := hb1.sub 0 n (c - (p + 1)) (by omega) (by omega) (by unfold maxLen; omega)
            rw [List.drop_zero, Nat.add_zero] at hb2
            have hl : ((b.drop (p + 1)).take n).length = n := by rw [List.length_take]; omega
            have q := Tryd.bytes_Clone_at ⟨g, o + (p + 1), none⟩ n (c - (p + 1)) (((b.drop (p + 1)).take n).map fun x => (x.toNat : Int)) W (by simp; omega) (by omega) (fun i hi => by
              have ea : (⟨g, o + (p + 1), none⟩ : Addr).add i = ⟨g, o + (p + 1) + i, none⟩ := by simp [Addr.add]
              rw [ea]
              exact by_ints hb2 i hi)
            refine q.mono ?_
            rintro e w' ⟨v', he, ho, -, hbl⟩
            have hb3 : Own w' W.heap.size 5 v' ((b.drop (p + 1)).take n) := by
              unfold Own
              rw [hl]
              have : (((b.drop (p + 1)).take n).map fun x => (x.toNat : Int)).map (Value.int .u8) = bcells ((b.drop (p + 1)).take n) := by rw [List.map_map]; rfl
              rw [← this]
              exact ho
            obtain ⟨A, c', rfl, _⟩ := hb3.by_.form
            exact ⟨_, _, _, he, hb3.base (Nat.le_trans B1.out.size hW.size), hW.trans (hbl.mono hW.size)⟩
          clear hsubl
          by_cases hcap : c - (p + 1) = n + 1
          · have hb0 : ((b.drop (p + 1)).drop (n + 1)).length = 0 := by simp; omega
            have HB0 := hide (List.eq_nil_of_length_eq_zero hb0)
            have hlr : ((b.drop (p + 1)).drop (n + 1)).length = b.length - (p + 1) - (n + 1) := by simp; omega
            have HLR := hide hlr
            rw [hcap] at HC
            clear hb0 hlr
            go_wp2_with fail
            go_region_held (fun _ => True) (trivial)
              ((go_at_call 62; (with_reducible refine (HC.out _ ?bb).mono ?_); (case bb => (repeat (first | with_reducible exact Below.refl _ _ | with_reducible refine Below.drew ?_))); rintro e w2 ⟨A5, n5, c5, rfl, o5, q5⟩))
            all_goals
              go_wp2
              go_ret3
              refine ⟨B1.out.trans (q5.mono B1.out.size), .inr ⟨_, (b.drop (p + 1)).drop (n + 1), _, _, _, _, _, ?_, by rw [HLR.out]; rfl, o5, ?_⟩⟩
              · rw [HN.out, HRD.out]
                simp only
                rw [HY.out, HY4.out, if_pos rfl]
              · rw [HB0.out]
                exact ⟨rfl, _, 0, rfl, Nat.le_refl _, by simp [maxLen], fun h => absurd h (by simp)⟩
          · have hcap2 : ¬ n + 1 = c - (p + 1) := fun h => hcap h.symm
            have hlr : ((b.drop (p + 1)).drop (n + 1)).length = b.length - (p + 1) - (n + 1) := by simp; omega
            have HLR := hide hlr
            clear hlr
            go_wp2_with fail
            go_region_held (fun _ => True) (trivial)
              ((go_at_call 62; (with_reducible refine (HC.out _ ?bb).mono ?_); (case bb => (repeat (first | with_reducible exact Below.refl _ _ | with_reducible refine Below.drew ?_))); rintro e w2 ⟨A5, n5, c5, rfl, o5, q5⟩))
            all_goals
              go_wp2
              go_ret3
              refine ⟨B1.out.trans (q5.mono B1.out.size), .inr ⟨_, (b.drop (p + 1)).drop (n + 1), _, _, _, _, _, ?_, by rw [HLR.out]; rfl, o5, ?_⟩⟩
              · rw [HN.out, HRD.out]
                simp only
                rw [HY.out, HY4.out, if_pos rfl]
              · have hb1 := (HR.out.below B1.out).below q5
                have hsubl : (b.drop (p + 1)).length = b.length - (p + 1) := by simp
                rw [← hsubl] at hb1
                have hb2 := hb1.sub (n + 1) ((b.drop (p + 1)).length - (n + 1)) (c - (p + 1) - (n + 1)) (by omega) (by omega) (by unfold maxLen; omega)
                rw [List.take_of_length_le (by rw [List.length_drop]; exact Nat.le_refl _)] at hb2
                rw [HLR.out, ← hsubl]
                exact hb2
        · have g4 : ((y.toNat : Int) == 44) = false := by
            rw [beq_eq_false_iff_ne]
            intro h
            exact h44 (UInt8.toNat_inj.1 (by simpa using (by omega : y.toNat = 44)))
          have HY4 := hide h44
          clear h44
          go_wp2_with fail
          go_ret3
          refine ⟨B1.out, .inl ⟨?_, rfl⟩⟩
          rw [HN.out, HRD.out]
          simp only
          rw [HY.out, if_neg]
          intro h
          injection h with h
          exact HY4.out h
      · have j1 : decide (((b.length - (p + 1) : Nat) : Int) < (n : Int) + 1) = true := decide_eq_true (by omega)
        go_wp2_with fail
        all_goals
          go_ret3
          refine ⟨B1.out, .inl ⟨?_, rfl⟩⟩
          rw [HN.out, HRD.out]
          simp only
          rw [if_neg]
          rw [List.getElem?_eq_none (by simp; omega)]
          simp
  · have Q2 := Q1.out
    rw [if_neg hpp] at Q2
    have Q2 := hide Q2
    have hno := takeF_no (b := b) (most := most) (by rw [← HP.out]; exact hpp)
    have HN := hide hno
    clear Q1 hpp hno
    go_enter Tryd.func58, Tryd.ntmps58
    go_wp2_with fail
    rw [show (min (b.length : Int) 7).toNat = min b.length 7 by omega]
    refine Q2.out.mono ?_
    rintro e w' ⟨rfl, rfl⟩
    go_wp2_with fail
    go_ret3
    exact ⟨Below.refl _ _, .inl ⟨HN.out, rfl⟩⟩
end Go.Proofs.YtdohebhbiokljaaDoor

/- The contract of the program's Unpack. -/
namespace Go.Proofs.YtdohebhbiokljaaDoor
open Go.RowKit

/-- 'append(rows, row)', rows a row of the call's own with elements of two cells. -/
theorem wpList_push2 {P : Program} {t e : TypeId} {i : TypeInfo} {z : Value} {bytes : Nat} (ht : P.underlying t = some (.slice e)) (hi : P.info? e = some i) (hz : i.zero = some z) (hs : i.size = 2) (hby : i.bytes = bytes) (hzs : z.cells.size = 2)
    {w : World} {base : Nat} {v : Value} {n : Nat} {xs : List Value} (hown : w.ownsRow base e 2 v n xs)
    {w0 : World} (hb : Below base w0 w) (hbase : base ≤ w.heap.size) (c1 c2 : Value) (h1 : c1.oneCell' = true) (h2 : c2.oneCell' = true) (hn : n + 1 ≤ maxLen) (hbytes : (n + 1) * bytes ≤ 140737488355328)
    {ops : Array Oper} {rest : List Oper} {o : Oper} {a : Act} {Q : Exit → Act → World → Prop} (hgd : o.guard = none) (s y : Operand)
    (ho : o.op = .call { callee := .builtin .append, args := #[s, y], argTypes := #[t, t] }) (hs' : a.eval s = v) (hx : a.eval y = .slice (some ⟨w.heap.size, 0, none⟩) 1 1)
    (h : ∀ v' w', w'.ownsRow base e 2 v' (n + 1) (xs ++ [c1, c2]) → Below base w0 w' → w.grownBy w' v.ownBlock → wpList P ops Q rest (a.put o.dst v') w') :
    wpList P ops Q (o :: rest) a (w.alloc (.cells #[c1, c2] e)) := by
  refine wpList_plain hgd fun K hK => ?_
  have hn1 : ∀ j u, [c1, c2][j]? = some u → (w.alloc (.cells #[c1, c2] e)).cell? ((⟨w.heap.size, 0, none⟩ : Addr).add j) = some u :=
    World.news_of_block (w := w.alloc (.cells #[c1, c2] e)) (B := w.heap.size) (cs := #[c1, c2]) (t := e) (fr := (0, 0)) (heap_alloc_new w _)
  obtain ⟨v', w', hrun, h3, h4, _, h6⟩ := run_append_own_at (P := P) (w.alloc (.cells #[c1, c2] e)) base t o.type e i z 2 bytes ht hi hz hs hby hzs (by omega) v n xs (hown.alloc _) ⟨w.heap.size, 0, none⟩ 1 1 [c1, c2] (by simp) hn1 (fun u hu => by
    simp only [List.mem_cons, List.mem_nil_iff, or_false] at hu
    rcases hu with rfl | rfl
    · exact h1
    · exact h2) hn hbytes (by simp; omega)
  have gb : w.grownBy w' v.ownBlock := ⟨h4.os, h4.tape, h4.output, Nat.le_trans (by simp) h4.size, fun k hk hne => (h4.block k (by simp; omega) hne).trans (Below.heap_alloc w _ k hk)⟩
  unfold Oper.wp execOp
  simp only [ho, resolve, invoke, builtin, Sem.run_bind, Sem.run_pure, Result.andThen_ok, List.map_toArray, List.map_cons, List.map_nil, hs', hx, hrun]
  exact hK _ _ (h v' w' h3 (hb.grown gb hbase fun k hk => (hown.lt k hk).1) gb)

theorem Tryd.infoRow : ((Tryd.prog.info? 87).map fun i => (i.zero, i.size, i.bytes)) = some (some (.agg #[.string ByteArray.empty, .slice none 0 0]), 2, 40) := by kernel_rfl

/-- A table of the call's own: its rows' values lie in blocks of the call's own, none of them the table's. -/
def OwnR (w : World) (base : Nat) (v : Value) (L : List RowV) : Prop := w.ownsRow base 87 2 v L.length (rcells L) ∧ ∀ x ∈ L, Own w base 5 x.2.1 x.2.2
theorem OwnR.rws_ {w : World} {base : Nat} {v : Value} {L : List RowV} (h : OwnR w base v L) : Rws w v L := ⟨Sl.of_own h.1, fun x hx => (h.2 x hx).by_⟩
theorem OwnR.nil (w : World) (base : Nat) : OwnR w base (.slice none 0 0) [] := ⟨World.ownsRow_nil w base _ 2, fun x hx => by cases hx⟩
theorem OwnR.below {w w' : World} {base : Nat} {v : Value} {L : List RowV} (h : OwnR w base v L) (hb : Below w.heap.size w w') : OwnR w' base v L := ⟨own_below' h.1 hb, fun x hx => (h.2 x hx).below hb⟩
/-- What is owned as bytes lies elsewhere than a table. -/
theorem own_ne {w : World} {b1 b2 : Nat} {e1 e2 : TypeId} {s1 s2 : Nat} {v1 v2 : Value} {n1 n2 : Nat} {x1 x2 : List Value} (h1 : w.ownsRow b1 e1 s1 v1 n1 x1) (h2 : w.ownsRow b2 e2 s2 v2 n2 x2) (hne : e1 ≠ e2) : ∀ g, v1.ownBlock = some g → v2.ownBlock ≠ some g := by
  intro g hg hg2
  obtain ⟨_, ⟨rfl, _⟩ | ⟨g1, c1, cur1, rfl, _, hh1, _⟩⟩ := h1
  · cases hg
  · obtain ⟨_, ⟨rfl, _⟩ | ⟨g2, c2, cur2, rfl, _, hh2, _⟩⟩ := h2
    · cases hg2
    · cases hg
      cases hg2
      rw [hh1] at hh2
      injection hh2 with hh2
      injection hh2 with _ he _
      exact hne he
theorem own_grown {w w' : World} {base : Nat} {e : TypeId} {sz : Nat} {v : Value} {n : Nat} {xs : List Value} (h : w.ownsRow base e sz v n xs) {row : Option Nat} (hg : w.grownBy w' row) (hne : ∀ g, v.ownBlock = some g → row ≠ some g) : w'.ownsRow base e sz v n xs := by
  have hlt := own_lt h
  obtain ⟨h1, h2 | ⟨g, cap, cur, hv, hg', hh, r⟩⟩ := h
  · exact ⟨h1, .inl h2⟩
  · subst hv
    exact ⟨h1, .inr ⟨g, cap, cur, rfl, hg', (hg.block g (hlt g rfl) (fun he => hne g rfl he.symm)).trans hh, r⟩⟩

/-- What lies in an old block was there. -/
theorem By.back {w w' : World} {g o n c : Nat} {l : List UInt8} (h : By w' (.slice (some ⟨g, o, none⟩) n c) l) (hb : Below w.heap.size w w') (hg : g < w.heap.size) : By w (.slice (some ⟨g, o, none⟩) n c) l := by
  obtain ⟨h0, A, c0, hv, hc, hm, hcell⟩ := h
  injection hv with e1 e2 e3
  subst e1 e2 e3
  refine ⟨h0, _, _, rfl, hc, hm, fun h1 => ?_⟩
  obtain ⟨b, o2, hA, _, hcs⟩ := hcell h1
  cases hA
  exact ⟨g, o, rfl, hg, fun j hj => (hb.cell (p := ⟨g, o + j, none⟩) hg).symm.trans (hcs j hj)⟩

/-- The rows' values share no block. -/
def Apv (L : List RowV) : Prop := L.Pairwise fun a b => a.2.1.ownBlock = none ∨ a.2.1.ownBlock ≠ b.2.1.ownBlock
theorem Apv.snoc {L : List RowV} {x : RowV} (h : Apv L) {w1 w2 : World} {b1 : Nat} {t1 t2 : TypeId} (h1 : ∀ y ∈ L, Own w1 b1 t1 y.2.1 y.2.2) {b2 : Nat} (h2 : Own w2 b2 t2 x.2.1 x.2.2) (hb : w1.heap.size ≤ b2) : Apv (L ++ [x]) := by
  refine List.pairwise_append.2 ⟨h, List.pairwise_singleton _ _, fun a ha b hb' => ?_⟩
  simp only [List.mem_singleton] at hb'
  subst hb'
  rcases hg : a.2.1.ownBlock with _ | g
  · exact .inl rfl
  · refine .inr fun he => ?_
    have e1 := (World.ownsRow.lt (h1 a ha) g hg).2
    have e2 := (World.ownsRow.lt h2 g he.symm).1
    omega

set_option maxRecDepth 100000 in
set_option maxHeartbeats 4000000 in
theorem unpack_apt (v : Value) (b : List UInt8) (w : World) (h : By w v b) (hl : b.length ≤ 9223372036854775807) (ht : Tab w) (he : Err w) :
    Calls Tryd.prog 29 #[v] w fun e w' => Below w.heap.size w w' ∧
      ((∃ L v', unpack b = (rws L, 0, 0) ∧ e = .returned (.tuple #[v', .int .i64 0, .int .i64 0]) ∧ OwnR w' w.heap.size v' L ∧ Apv L) ∨
       (∃ p : Nat, unpack b = ([], p, 131) ∧ e = .returned (.tuple #[.slice none 0 0, .int .i64 (p : Int), .int .i64 131]))) := by
  obtain ⟨i0, hi0, hz0, hz1, hz2⟩ := info_parts Tryd.infoRow
  have HI := hide (And.intro hi0 (And.intro hz0 (And.intro hz1 hz2)))
  have HT := hide (And.intro ht he)
  have HV := hide h
  obtain ⟨A, c, rfl, hc, hm, _⟩ := h.form
  unfold maxLen at hm
  clear h ht he hi0 hz0 hz1 hz2
  go_enter Tryd.func29, Tryd.ntmps29
  go_wp2
  refine wp_scope_jumps 0 (fun _ _ => False) (fun _ _ => 0) rfl ?_ ?_
  rotate_left
  · intro a w1 hf
    exact hf.elim
  go_wp2
  refine wp_label ?_
  go_wp2
  go_loopw [5, 6] (fun u5 u6 wr => ∃ (L : List RowV) (r : List UInt8) (A' : Option Addr) (c' : Nat), u6 = .slice A' r.length c' ∧ By w (.slice A' r.length c') r ∧ OwnR wr w.heap.size u5 L ∧ Apv L ∧ unp b.length [] b = unp b.length (rws L) r ∧ r.length ≤ b.length ∧ L.length ≤ 64 ∧ Below w.heap.size w wr) (fun _ u6 _ => match u6 with | .slice _ n _ => n | _ => 0)
  case atStart => exact ⟨[], b, A, c, rfl, HV.out, OwnR.nil _ _, List.Pairwise.nil, rfl, Nat.le_refl _, by simp, Below.refl _ _⟩
  case round =>
    obtain ⟨L, r, A', c', rfl, hr, hL, hap, hunp, hrb, hL64, hb⟩ := hrel
    have HAP := hide hap
    clear hap
    have HL := hide hL
    have HU := hide hunp
    have hr0 := hr
    obtain ⟨_, A2, c2, hv2, hc2, hm2, hcell⟩ := hr0
    injection hv2 with e1 _ e3
    subst e1 e3
    by_cases h0 : 0 < r.length
    · obtain ⟨g, o, rfl, hgl, _⟩ := hcell h0
      have q1 : Calls Tryd.prog 58 #[.slice (some ⟨g, o, none⟩) r.length c', .int .i64 64] wr _ := taken_any g o c' r 64 wr (hr.below hb) (by omega) (HT.out.1.below hb) (HT.out.2.below hb)
      have Q1 := hide q1
      have h0d : decide ((0 : Int) < (r.length : Int)) = true := decide_eq_true (by omega)
      have hrb' : (r.length : Int) ≤ (b.length : Int) := by omega
      clear q1 hL hunp hr hcell
      go_wp2_with fail
      refine Q1.out.mono ?_
      rintro e w1 ⟨b1, ⟨ht1, rfl⟩ | ⟨x1, r1, G1, n1, c1, o2, d2, ht1, rfl, o1, y1⟩⟩
      · have hR : takeR r = none := by unfold takeR; rw [ht1]
        clear Q1 ht1
        go_wp2_with fail
        simp only [Exit.jump]
        go_ret3
        refine ⟨hb.trans (b1.mono hb.size), .inr ⟨b.length - r.length, ?_, ?_⟩⟩
        · unfold unpack
          rw [HU.out, unp_none h0 hR]
        · rw [show ((b.length - r.length : Nat) : Int) = (b.length : Int) - (r.length : Int) by omega]
          rfl
      · have B1 := hide b1
        have T1 := hide ht1
        have O1 := hide o1
        have hbw1 := hb.trans (b1.mono hb.size)
        have q2 : Calls Tryd.prog 58 #[.slice (some ⟨g, o2, none⟩) r1.length d2, .int .i64 65536] w1 _ := taken_any g o2 d2 r1 65536 w1 y1 (by omega) (HT.out.1.below hbw1) (HT.out.2.below hbw1)
        have Q2 := hide q2
        have HW1 := hide hbw1
        clear q2 Q1 b1 ht1 o1 hbw1 y1
        go_wp2_with fail
        refine Q2.out.mono ?_
        rintro e w2 ⟨b2, ⟨ht2, rfl⟩ | ⟨x2, r2, G2, n2, c3, o3, d3, ht2, rfl, ow2, y2⟩⟩
        · have hR : takeR r = none := by
            unfold takeR
            rw [T1.out]
            simp only
            rw [ht2]
          clear Q2 ht2
          go_wp2_with fail
          simp only [Exit.jump]
          go_ret3
          refine ⟨HW1.out.trans (b2.mono HW1.out.size), .inr ⟨b.length - r.length, ?_, ?_⟩⟩
          · unfold unpack
            rw [HU.out, unp_none h0 hR]
          · rw [show ((b.length - r.length : Nat) : Int) = (b.length : Int) - (r.length : Int) by omega]
            rfl
        · have hR : takeR r = some ((x1, x2), r2) := by
            unfold takeR
            rw [T1.out]
            simp only
            rw [ht2]
          have HR := hide hR
          have hlt := takeR_lt hR
          have hbw2 := HW1.out.trans (b2.mono HW1.out.size)
          have hn1 : n1 = x1.length := by
            obtain ⟨A', c', hv, _⟩ := O1.out.by_.form
            injection hv
          subst hn1
          have hn2 : n2 = x2.length := by
            obtain ⟨A', c', hv, _⟩ := ow2.by_.form
            injection hv
          subst hn2
          have o12 := O1.out.below b2
          obtain ⟨s, hs, hcv⟩ := run_str (P := Tryd.prog) o12.by_ 38 9 5 Tryd.underlying38 Tryd.underlying5 Tryd.underlying9
          have hls : lst s = x1 := hs
          have hL2 := (HL.out.below B1.out).below b2
          have ow2' := ow2.base (show w.heap.size ≤ w1.heap.size from HW1.out.size)
          have HL2 := hide hL2
          have HAP2 := hide (show Apv (L ++ [((s, .slice G2 x2.length c3, x2) : RowV)]) from HAP.out.snoc (fun y hy => (HL.out.below B1.out).2 y hy) ow2 (Nat.le_refl _))
          have HO2 := hide ow2'
          have Y2 := hide y2
          have HLS := hide hls
          have HB2 := hide hbw2
          clear Q2 ht2 hR b2 o12 hs hls hL2 ow2 ow2' y2 hbw2
          go_wp2_with (at_builtin; go_loud (refine wpList_push2 Tryd.underlying53 HI.out.1 HI.out.2.1 HI.out.2.2.1 HI.out.2.2.2 rfl HL2.out.1 HB2.out HB2.out.size (.string s) (.slice G2 x2.length c3) rfl rfl (by unfold maxLen; omega) (by omega) rfl _ _ rfl rfl rfl ?_); intro v3 w3 hown3 hb3 hgr3; obtain ⟨_, A5, c5, hv5, hc5, hm5, _⟩ := Sl.of_own hown3; subst hv5)
          have hel : ∀ x ∈ L ++ [((s, .slice G2 x2.length c3, x2) : RowV)], Own w3 w.heap.size 5 x.2.1 x.2.2 := fun x hx => by
            rcases List.mem_append.1 hx with hx | hx
            · exact own_grown (HL2.out.2 x hx) hgr3 fun g hg he => own_ne (HL2.out.2 x hx) HL2.out.1 (by decide) g hg he
            · simp only [List.mem_singleton] at hx
              subst hx
              exact own_grown HO2.out hgr3 fun g hg he => own_ne HO2.out HL2.out.1 (by decide) g hg he
          have hnew : OwnR w3 w.heap.size (.slice A5 (L.length + 1) c5) (L ++ [((s, .slice G2 x2.length c3, x2) : RowV)]) := by
            refine ⟨?_, hel⟩
            rw [rcells_append, List.length_append]
            exact hown3
          have HNEW := hide hnew
          have q4 := rowMay_any _ _ L.length w3 hnew.rws_ (by simp)
          have hrows : rws (L ++ [((s, .slice G2 x2.length c3, x2) : RowV)]) = rws L ++ [(x1, x2)] := by
            rw [rws_append]; simp [rws, HLS.out]
          rw [hrows] at q4
          have HROWS := hide hrows
          have hlen5 : ((L.length + 1 : Nat) : Int) - 1 = (L.length : Int) := by omega
          have HB3 := hide hb3
          have y3 := By.back Y2.out HB2.out hgl
          rcases hrb2 : rowB (rws L ++ [(x1, x2)]) L.length with _ | _
          · rw [hrb2] at q4
            have Q4 := hide q4
            have HRB : Hid (rowB (rws L ++ [(x1, x2)]) (rws L).length = false) := by rw [rws_length]; exact hrb2
            clear q4 hrb2 hnew hel hown3 hgr3 hb3 hrows
            go_wp2_with fail
            refine Q4.out.mono ?_
            rintro e w4 ⟨rfl, rfl⟩
            go_wp2_with fail
            simp only [Exit.jump]
            go_ret3
            refine ⟨HB3.out, .inr ⟨b.length - r.length, ?_, ?_⟩⟩
            · unfold unpack
              rw [HU.out, unp_some HR.out, if_neg (by rw [HRB.out]; simp)]
            · rw [show ((b.length - r.length : Nat) : Int) = (b.length : Int) - (r.length : Int) by omega]
              rfl
          · rw [hrb2] at q4
            have Q4 := hide q4
            have HRB : Hid (rowB (rws L ++ [(x1, x2)]) (rws L).length = true) := by rw [rws_length]; exact hrb2
            clear q4 hrb2 hnew hel hown3 hgr3 hb3 hrows
            go_wp2_with fail
            refine Q4.out.mono ?_
            rintro e w4 ⟨rfl, rfl⟩
            go_wp2_with fail
            go_roundw
            case rel =>
              refine ⟨L ++ [((s, .slice G2 x2.length c3, x2) : RowV)], r2, _, _, rfl, y3, HNEW.out, HAP2.out, ?_, by omega, ?_, HB3.out⟩
              · rw [HU.out, unp_some HR.out, if_pos HRB.out, HROWS.out]
              · obtain ⟨_, _, h64, _⟩ := rowB_some HRB.out
                rw [rws_length] at h64
                simp
                omega
            case measure => simp; omega
    · have hr00 : r = [] := List.eq_nil_of_length_eq_zero (by omega)
      subst hr00
      have h0d : decide ((0 : Int) < ((0 : Nat) : Int)) = false := rfl
      clear hunp hcell hr
      go_wp2_with fail
      simp only [Exit.jump]
      go_ret3
      refine ⟨hb, .inl ⟨L, u5, ?_, rfl, HL.out, HAP.out⟩⟩
      unfold unpack
      rw [HU.out, unp_nil]

theorem unpack_any (v : Value) (b : List UInt8) (w : World) (h : By w v b) (hl : b.length ≤ 9223372036854775807) (ht : Tab w) (he : Err w) :
    Calls Tryd.prog 29 #[v] w fun e w' => Below w.heap.size w w' ∧
      ((∃ L v', unpack b = (rws L, 0, 0) ∧ e = .returned (.tuple #[v', .int .i64 0, .int .i64 0]) ∧ OwnR w' w.heap.size v' L) ∨
       (∃ p : Nat, unpack b = ([], p, 131) ∧ e = .returned (.tuple #[.slice none 0 0, .int .i64 (p : Int), .int .i64 131]))) :=
  (unpack_apt v b w h hl ht he).mono fun _ _ ⟨hb, hq⟩ => ⟨hb, hq.imp (fun ⟨L, v', h1, h2, h3, _⟩ => ⟨L, v', h1, h2, h3⟩) id⟩
end Go.Proofs.YtdohebhbiokljaaDoor

/- The contract of the document's piece. -/
namespace Go.Proofs.YtdohebhbiokljaaDoor
open Go.RowKit

theorem rd_short {l : List UInt8} {most : Nat} (hm : most ≤ 65536) (h : 7 ≤ l.length) : rd l (most : Int) = none := by
  cases hr : rd l (most : Int) with
  | none => rfl
  | some n =>
    obtain ⟨-, h1, h2⟩ := rd_some hr (by omega)
    have := itoa_len n (by omega)
    rw [← h2] at this
    omega
theorem takeF_at {r : List UInt8} {most p : Nat} (hp : p = (r.takeWhile (· != 58)).length) (h : p < r.length) (hm : most ≤ 65536) :
    takeF r most = match rd (r.take p) (most : Int) with
      | none => none
      | some n => if (r.drop (p + 1))[n]? = some 44 then some ((r.drop (p + 1)).take n, (r.drop (p + 1)).drop (n + 1)) else none := by
  by_cases h7 : p < 7
  · exact takeF_yes hp ⟨h7, h⟩
  · rw [rd_short hm (by rw [List.length_take]; omega), takeF_no (by rw [← hp]; omega)]
theorem tw_pre (r : List UInt8) (q : Nat) (h : q < (r.takeWhile (· != 58)).length) : ∃ c, r[q]? = some c ∧ c ≠ 58 := by
  induction r generalizing q with
  | nil => simp at h
  | cons x r ih =>
    rw [List.takeWhile_cons] at h
    split at h
    · rename_i hx
      cases q with
      | zero => exact ⟨x, rfl, by simpa using hx⟩
      | succ q => exact ih q (by simpa using h)
    · simp at h
theorem tw_colon (r : List UInt8) (h : (r.takeWhile (· != 58)).length < r.length) : r[(r.takeWhile (· != 58)).length]? = some 58 := by
  have := tw_at r h
  have h2 := congrArg (fun l => l[0]?) this
  simpa [List.getElem?_drop] using h2

set_option maxRecDepth 100000 in
set_option maxHeartbeats 4000000 in
theorem rpiece_any (g o c : Nat) (b : List UInt8) (a most : Nat) (w : World) (h : By w (.slice (some ⟨g, o, none⟩) b.length c) b) (ha : a ≤ b.length) (hb : b.length ≤ 1099511627776) (hm : most ≤ 65536) :
    Calls Tryd.prog 87 #[.slice (some ⟨g, o, none⟩) b.length c, .int .i64 (a : Int), .int .i64 (most : Int)] w fun e w' => Below w.heap.size w w' ∧
      ((takeF (b.drop a) most = none ∧ e = .returned (.tuple #[.slice none 0 0, .int .i64 (-1)])) ∨
       (∃ x r v', takeF (b.drop a) most = some (x, r) ∧ e = .returned (.tuple #[v', .int .i64 ((b.length - r.length : Nat) : Int)]) ∧ Own w' w.heap.size 5 v' x ∧ r.length ≤ b.length ∧ b.drop (b.length - r.length) = r)) := by
  have HB := hide h
  obtain ⟨A0, c0, hv, hc, hcm, hcell⟩ := h.form
  injection hv with hA0 _ hcc
  subst hcc
  subst hA0
  unfold maxLen at hcm
  obtain ⟨p, hp⟩ : ∃ p, p = ((b.drop a).takeWhile (· != 58)).length := ⟨_, rfl⟩
  have hpl : a + p ≤ b.length := by have := tw_len (b.drop a); rw [← hp, List.length_drop] at this; omega
  have HCELL : Hid (∀ i y, b[i]? = some y → w.cell? ⟨g, o + i, none⟩ = some (.int .u8 (y.toNat : Int))) := fun i y hy => by
    obtain ⟨g4, o4, hgo, _, hcy⟩ := hcell i y hy
    cases hgo
    exact hcy
  have HP := hide hp
  clear h hcell hp
  go_enter Tryd.func87, Tryd.ntmps87
  go_wp2_with fail
  go_loopw [8] (fun u8 wr => ∃ i : Nat, a ≤ i ∧ i ≤ a + p ∧ i ≤ a + 8 ∧ u8 = .int .i64 (i : Int) ∧ w = wr) (fun i _ => b.length + 1 - (intOf i).toNat)
  case atStart => exact ⟨a, by omega, by omega, by omega, rfl, rfl⟩
  case round =>
    obtain ⟨i, hai, hip, hi8, rfl, rfl⟩ := hrel
    by_cases hlt : i < a + p
    · obtain ⟨y, hy, hy58⟩ := tw_pre (b.drop a) (i - a) (by rw [← HP.out]; omega)
      rw [List.getElem?_drop, show a + (i - a) = i by omega] at hy
      have hcy := HCELL.out i y hy
      have g1 : ((y.toNat : Int) == 58) = false := by
        rw [beq_eq_false_iff_ne]
        intro h
        exact hy58 (UInt8.toNat_inj.1 (by simpa using (by omega : y.toNat = 58)))
      have g2 : ¬ (y.toNat : Int) = 58 := by simpa using g1
      have g3 : ¬ y.toNat = 58 := by omega
      have g4 : ((y.toNat : Int) != 58) = true := by rw [bne_iff_ne]; exact g2
      have g5 : ¬ y = 58 := hy58
      have i1 : (i : Int) < (b.length : Int) := by omega
      have i2 : (0 : Int) ≤ (i : Int) := by omega
      by_cases h8 : i < a + 8
      · have i3 : decide ((i : Int) - (a : Int) < 8) = true := decide_eq_true (by omega)
        clear hy hy58
        go_wp2_with fail
        go_roundw
        case rel => exact ⟨i + 1, by omega, by omega, by omega, by go_num, trivial⟩
        case measure => simp [intOf]; omega
      · have i3 : decide ((i : Int) - (a : Int) < 8) = false := decide_eq_false (by omega)
        have hno := takeF_no (b := b.drop a) (most := most) (by rw [← HP.out]; omega)
        have HN := hide hno
        clear hy hy58 hno
        go_wp2_with fail
        go_ret2
        exact ⟨Below.refl _ _, .inl ⟨HN.out, rfl⟩⟩
    · have hjp : i = a + p := by omega
      by_cases hend : i < b.length
      · have hdl : p < (b.drop a).length := by rw [List.length_drop]; omega
        have hcol := tw_colon (b.drop a) (by rw [← HP.out]; exact hdl)
        rw [← HP.out, List.getElem?_drop, show a + p = i by omega] at hcol
        have hcy : w.cell? ⟨g, o + i, none⟩ = some (.int .u8 58) := HCELL.out i 58 hcol
        have i1 : (i : Int) < (b.length : Int) := by omega
        have i2 : (0 : Int) ≤ (i : Int) := by omega
        have hF := takeF_at (r := b.drop a) (most := most) HP.out hdl hm
        rw [List.drop_drop, show a + (p + 1) = i + 1 by omega, show p = i - a by omega] at hF
        have HF := hide hF
        have hsp := HB.out.sub a (i - a) (c - a) (by omega) (by omega) (by unfold maxLen; omega)
        obtain ⟨s, hs, hr⟩ := run_str (P := Tryd.prog) hsp 38 9 5 Tryd.underlying38 Tryd.underlying5 Tryd.underlying9
        have hls : lst s = (b.drop a).take (i - a) := hs
        have hss : s.size ≤ 8 := by rw [← lst_len, hls, List.length_take]; omega
        have q3 := rread_any s (most : Int) w (by omega) ⟨by omega, by omega⟩
        rw [hls] at q3
        have Q3 := hide q3
        have k1 : (a : Int) ≤ (i : Int) := by omega
        have k2 : (0 : Int) ≤ (a : Int) := by omega
        have k3 : (i : Int) ≤ (c : Int) := by omega
        have k4 : ¬ c = a := by omega
        have k5 : decide ((b.length : Int) ≤ (i : Int)) = false := decide_eq_false (by omega)
        clear hF hsp hs hls q3 hjp hcol hdl hlt hip
        go_wp2_with fail
        refine Q3.out.mono ?_
        rintro e w1 ⟨rfl, hww⟩
        obtain rfl : w = w1 := by first | exact hww | exact hww.symm
        clear Q3
        rcases hrd : rd ((b.drop a).take (i - a)) (most : Int) with _ | n
        · have hn : rdN ((b.drop a).take (i - a)) (most : Int) = 0 := by unfold rdN; rw [hrd]
          have he : rdE ((b.drop a).take (i - a)) (most : Int) = 102 := by unfold rdE; rw [hrd]
          rw [hn, he]
          go_wp2_with fail
          go_ret2
          refine ⟨Below.refl _ _, .inl ⟨?_, rfl⟩⟩
          rw [HF.out, hrd]
        · have hn : rdN ((b.drop a).take (i - a)) (most : Int) = (n : Int) := by unfold rdN; rw [hrd]
          have he : rdE ((b.drop a).take (i - a)) (most : Int) = 0 := by unfold rdE; rw [hrd]
          rw [hn, he]
          have hnm := (rd_some hrd (by omega)).2.1
          have HRD := hide hrd
          clear hrd hn he
          by_cases hlt : i + 1 + n < b.length
          · have j1 : decide ((b.length : Int) - (i : Int) - 1 < (n : Int) + 1) = false := decide_eq_false (by omega)
            obtain ⟨y, hy⟩ : ∃ y, b[i + 1 + n]? = some y := ⟨_, List.getElem?_eq_getElem hlt⟩
            have hcy2 := HCELL.out _ _ hy
            have hy' : (b.drop (i + 1))[n]? = some y := by rw [List.getElem?_drop, hy]
            have HY := hide hy'
            have j2 : (0 : Int) ≤ (i : Int) + 1 + (n : Int) := by omega
            have j3 : (i : Int) + 1 + (n : Int) < (b.length : Int) := by omega
            have j4 : ((i : Int) + 1 + (n : Int)).toNat = i + 1 + n := by omega
            clear hy hy'
            by_cases h44 : y = 44
            · have g4 : ((y.toNat : Int) == 44) = true := by rw [h44]; rfl
              have HY4 := hide h44
              clear h44
              have j5 : (0 : Int) ≤ (i : Int) + 1 := by omega
              have j6 : (i : Int) + 1 ≤ (i : Int) + 1 + (n : Int) := by omega
              have j7 : (i : Int) + 1 + (n : Int) ≤ (c : Int) := by omega
              have j8 : ((i : Int) + 1).toNat = i + 1 := by omega
              have j9 : ¬ c = i + 1 := by omega
              have hsub := HB.out.sub (i + 1) n (c - (i + 1)) (by omega) (by omega) (by unfold maxLen; omega)
              have HSUB := hide hsub
              have HL : Hid (([] : List UInt8).length + ((b.drop (i + 1)).take n).length ≤ 140737488355328) := by show _ ≤ _; simp; omega
              clear hsub
              go_wp2_with (at_builtin; go_loud (refine wpList_pushV elem8 (Own.nil w w.heap.size _) (Below.refl _ w) (Nat.le_refl _) HSUB.out HL.out rfl _ _ rfl rfl rfl ?_); intro v1 w1 hown1 hbel1 hgr1 _)
              go_ret2
              have hlr : ((b.drop (i + 1)).drop (n + 1)).length = b.length - (i + 1) - (n + 1) := by simp; omega
              refine ⟨hbel1, .inr ⟨(b.drop (i + 1)).take n, (b.drop (i + 1)).drop (n + 1), v1, ?_, ?_, hown1, by omega, ?_⟩⟩
              · rw [HF.out, HRD.out]
                simp only
                rw [HY.out, HY4.out, if_pos rfl]
              · have e1 : ((b.length - ((b.drop (i + 1)).drop (n + 1)).length : Nat) : Int) = (i : Int) + (n : Int) + 2 := by omega
                rw [e1]
                rfl
              · rw [List.drop_drop]
                congr 1
                rw [List.length_drop]
                omega
            · have g4 : ((y.toNat : Int) == 44) = false := by
                rw [beq_eq_false_iff_ne]
                intro h
                exact h44 (UInt8.toNat_inj.1 (by simpa using (by omega : y.toNat = 44)))
              have g6 : ¬ (y.toNat : Int) = 44 := by simpa using g4
              have HY4 := hide h44
              clear h44
              go_wp2_with fail
              go_ret2
              refine ⟨Below.refl _ _, .inl ⟨?_, rfl⟩⟩
              rw [HF.out, HRD.out]
              simp only
              rw [HY.out, if_neg]
              intro h
              injection h with h
              exact HY4.out h
          · have j1 : decide ((b.length : Int) - (i : Int) - 1 < (n : Int) + 1) = true := decide_eq_true (by omega)
            go_wp2_with fail
            go_ret2
            refine ⟨Below.refl _ _, .inl ⟨?_, rfl⟩⟩
            rw [HF.out, HRD.out]
            simp only
            rw [if_neg]
            rw [List.getElem?_eq_none (by simp; omega)]
            simp
      · have i1 : ¬ (i : Int) < (b.length : Int) := by omega
        have i2 : decide ((i : Int) < (b.length : Int)) = false := decide_eq_false i1
        have i3 : decide ((b.length : Int) ≤ (i : Int)) = true := decide_eq_true (by omega)
        have hno := takeF_no (b := b.drop a) (most := most) (by rw [← HP.out, List.length_drop]; omega)
        have HN := hide hno
        clear hno
        go_wp2_with fail
        go_ret2
        exact ⟨Below.refl _ _, .inl ⟨HN.out, rfl⟩⟩
end Go.Proofs.YtdohebhbiokljaaDoor

/- Worlds in which nothing has turned but what is drawn. They hold of every program. -/
namespace Go.Proofs.YtdohebhbiokljaaDoor
open Go.RowKit
/-- Nothing has turned but what is drawn. -/
def Drn (w w' : World) : Prop := ∃ n, w' = w.drewN n
theorem Drn.refl (w : World) : Drn w w := ⟨0, rfl⟩
theorem Drn.drewN {w w' : World} (h : Drn w w') (n : Nat) : Drn w (w'.drewN n) := by
  obtain ⟨m, rfl⟩ := h
  exact ⟨m + n, World.drewN_drewN _ _ _⟩
theorem Drn.cell {w w' : World} (h : Drn w w') (a : Addr) : w'.cell? a = w.cell? a := by
  obtain ⟨m, rfl⟩ := h
  rfl
theorem Drn.below {w w' : World} (h : Drn w w') : Below w.heap.size w w' := by
  obtain ⟨m, rfl⟩ := h
  exact below_drewN (Below.refl _ _) _
end Go.Proofs.YtdohebhbiokljaaDoor

/- The contract of the document's Unpack. -/
namespace Go.Proofs.YtdohebhbiokljaaDoor
open Go.RowKit

theorem run_strL {P : Program} {W : World} {v : Value} {l : List UInt8} (h : By W v l) (src dst e : TypeId) (hs : P.underlying src = some (.slice e)) (he : P.underlying e = some (.int .u8)) (hd : P.underlying dst = some .string) :
    (convert src dst v).run P W = .ok (.string ⟨l.toArray⟩) W := by
  obtain ⟨s, h1, h2⟩ := run_str h src dst e hs he hd
  have : s = ⟨l.toArray⟩ := by
    apply ByteArray.ext
    apply Array.toList_inj.1
    rw [h1]
  rw [h2, this]
theorem unp_bad {t : Nat} {done : List Rw} {r : List UInt8} (h0 : 0 < r.length) (h : ∀ x r', takeR r = some (x, r') → rowB (done ++ [x]) done.length = false) : unp t done r = ([], t - r.length, 131) := by
  rcases hr : takeR r with _ | ⟨x, r'⟩
  · exact unp_none h0 hr
  · rw [unp_some hr, if_neg (by rw [h x r' hr]; simp)]
theorem rowB_last (done : List Rw) (x : Rw) : rowB (done ++ [x]) done.length = (decide (done.length < 64) && decide (1 ≤ x.1.length) && decide (x.1.length ≤ 64) && decide (x.2.length ≤ 65536) && (done.length == 0 || match done[done.length - 1]? with
    | none => false
    | some p => !leB x.1 p.1)) := by
  unfold rowB
  have e1 : (done ++ [x])[done.length]? = some x := by simp
  rw [e1]
  by_cases h0 : done.length = 0
  · simp [h0]
  · have e2 : (done ++ [x])[done.length - 1]? = done[done.length - 1]? := List.getElem?_append_left (by omega)
    rw [e2]
    rfl

set_option maxRecDepth 100000 in
set_option maxHeartbeats 8000000 in
theorem runpack_any (v : Value) (b : List UInt8) (w : World) (h : By w v b) (hl : b.length ≤ 1099511627776) :
    Calls Tryd.prog 52 #[v] w fun e w' => Below w.heap.size w w' ∧
      ((∃ L v', unpack b = (rws L, 0, 0) ∧ e = .returned (.tuple #[v', .int .i64 0, .int .i64 0]) ∧ OwnR w' w.heap.size v' L) ∨
       (∃ p : Nat, unpack b = ([], p, 131) ∧ e = .returned (.tuple #[.slice none 0 0, .int .i64 (p : Int), .int .i64 131]))) := by
  obtain ⟨i0, hi0, hz0, hz1, hz2⟩ := info_parts Tryd.infoRow
  have HI := hide (And.intro hi0 (And.intro hz0 (And.intro hz1 hz2)))
  have HV := hide h
  obtain ⟨A, c, rfl, hc, hm, hcell⟩ := h.form
  have HC := hide hcell
  unfold maxLen at hm
  clear h hi0 hz0 hz1 hz2 hcell
  go_enter Tryd.func52, Tryd.ntmps52
  go_wp2
  go_loopw [5, 6] (fun u5 u6 wr => ∃ (L : List RowV) (r : List UInt8) (at_ : Nat), u6 = .int .i64 (at_ : Int) ∧ at_ + r.length = b.length ∧ b.drop at_ = r ∧ OwnR wr w.heap.size u5 L ∧ unp b.length [] b = unp b.length (rws L) r ∧ L.length ≤ 64 ∧ Below w.heap.size w wr) (fun _ i _ => b.length - (intOf i).toNat)
  case atStart => exact ⟨[], b, 0, rfl, by simp, rfl, OwnR.nil _ _, rfl, by simp, Below.refl _ _⟩
  case round =>
    obtain ⟨L, r, at_, rfl, hat, hdr, hL, hunp, hL64, hb⟩ := hrel
    have HL := hide hL
    have HU := hide hunp
    by_cases h0 : 0 < r.length
    · obtain ⟨x0, hx0⟩ : ∃ x, b[0]? = some x := ⟨_, List.getElem?_eq_getElem (by omega)⟩
      obtain ⟨g, o, rfl, hgl, _⟩ := HC.out 0 x0 hx0
      have q1 : Calls Tryd.prog 87 #[.slice (some ⟨g, o, none⟩) b.length c, .int .i64 (at_ : Int), .int .i64 64] wr _ := rpiece_any g o c b at_ 64 wr (HV.out.below hb) (by omega) hl (by omega)
      rw [hdr] at q1
      have Q1 := hide q1
      have i1 : (at_ : Int) < (b.length : Int) := by omega
      obtain ⟨A5, c5, hv5, hc5, hm5, hce5⟩ := (HL.out.rws_).form
      subst hv5
      have HCE := hide hce5
      clear q1 hL hunp hce5 hx0
      go_wp2_with fail
      refine Q1.out.mono ?_
      rintro e w1 ⟨b1, ⟨ht1, rfl⟩ | ⟨x1, r1, v1, ht1, rfl, o1, hr1, hd1⟩⟩
      · have HBAD : Hid (unp b.length (rws L) r = ([], b.length - r.length, 131)) := unp_bad h0 fun x r' hx => by unfold takeR at hx; rw [ht1] at hx; cases hx
        clear Q1 ht1
        go_wp2_with fail
        go_quiet (fail)
        go_wp2
        go_ret3
        refine ⟨below_drewN (hb.trans (b1.mono hb.size)) _, .inr ⟨b.length - r.length, ?_, ?_⟩⟩
        · unfold unpack
          rw [HU.out, HBAD.out]
        · rw [show ((b.length - r.length : Nat) : Int) = (at_ : Int) by omega]
          rfl
      · obtain ⟨A1, c1, hv1, _⟩ := o1.by_.form
        subst hv1
        have B1 := hide (hb.trans (b1.mono hb.size))
        have HL1 := hide (HL.out.below b1)
        have T1 := hide ht1
        have O1 := hide o1
        have ht1s := takeF_some ht1 (by omega)
        have g1 : decide (((b.length - r1.length : Nat) : Int) < 0) = false := decide_eq_false (by omega)
        have hfst : Hid (∀ x r', takeR r = some (x, r') → x.1 = x1 ∧ takeF r1 65536 = some (x.2, r')) := fun x r' hx => by
          unfold takeR at hx
          rw [T1.out] at hx
          simp only at hx
          rcases ht2 : takeF r1 65536 with _ | ⟨v2, r2⟩
          · rw [ht2] at hx; cases hx
          · rw [ht2] at hx
            simp only [Option.some.injEq, Prod.mk.injEq] at hx
            obtain ⟨rfl, rfl⟩ := hx
            exact ⟨rfl, rfl⟩
        have hcv : ∀ q, (convert 38 9 (.slice A1 x1.length c1)).run Tryd.prog (w1.drewN q) = .ok (.string ⟨x1.toArray⟩) (w1.drewN q) := fun q => run_strL (show By (w1.drewN q) _ _ from O1.out.by_) _ _ 5 Tryd.underlying38 Tryd.underlying5 Tryd.underlying9
        have q2 : ∀ q, Calls Tryd.prog 87 #[.slice (some ⟨g, o, none⟩) b.length c, .int .i64 ((b.length - r1.length : Nat) : Int), .int .i64 65536] (w1.drewN q) _ := fun q => rpiece_any g o c b (b.length - r1.length) 65536 (w1.drewN q) (HV.out.below (below_drewN B1.out q)) (by omega) hl (by omega)
        rw [hd1] at q2
        have Q2 := hide q2
        clear q2
        clear Q1 ht1 b1
        by_cases hn0 : x1.length = 0
        · have HBAD : Hid (unp b.length (rws L) r = ([], b.length - r.length, 131)) := unp_bad h0 fun x r' hx => by
            rw [rowB_last, (hfst.out x r' hx).1, hn0]; simp
          have g2 : ((x1.length : Int) == 0) = true := beq_iff_eq.2 (by omega)
          clear hn0
          go_wp2_with fail
          go_quiet (fail)
          go_wp2
          go_ret3
          refine ⟨below_drewN B1.out _, .inr ⟨b.length - r.length, ?_, ?_⟩⟩
          · unfold unpack
            rw [HU.out, HBAD.out]
          · rw [show ((b.length - r.length : Nat) : Int) = (at_ : Int) by omega]
            rfl
        · have g2 : ((x1.length : Int) == 0) = false := beq_eq_false_iff_ne.2 (by omega)
          have g2n : ¬ x1.length = 0 := hn0
          by_cases hl6 : L.length = 64
          · have HBAD : Hid (unp b.length (rws L) r = ([], b.length - r.length, 131)) := unp_bad h0 fun x r' hx => by
              rw [rowB_last, rws_length, hl6]; simp
            have g3 : ((L.length : Int) == 64) = true := beq_iff_eq.2 (by omega)
            clear hl6
            go_wp2_with fail
            go_quiet (fail)
            go_wp2
            go_ret3
            refine ⟨below_drewN B1.out _, .inr ⟨b.length - r.length, ?_, ?_⟩⟩
            · unfold unpack
              rw [HU.out, HBAD.out]
            · rw [show ((b.length - r.length : Nat) : Int) = (at_ : Int) by omega]
              rfl
          · have g3 : ((L.length : Int) == 64) = false := beq_eq_false_iff_ne.2 (by omega)
            by_cases hL0 : L.length = 0
            · have g4 : decide ((0 : Int) < (L.length : Int)) = false := decide_eq_false (by omega)
              have g4n : decide (0 < L.length) = false := decide_eq_false (by omega)
              have HROW : Hid (∀ x2 : List UInt8, x2.length ≤ 65536 → rowB (rws L ++ [(x1, x2)]) (rws L).length = true) := fun x2 hx2 => by
                rw [rowB_last, rws_length, decide_eq_true (show L.length < 64 by omega), decide_eq_true (show 1 ≤ x1.length by omega), decide_eq_true ht1s.2, decide_eq_true hx2, hL0]
                rfl
              clear hL0
              go_wp2_with fail
              go_quiet (fail)
              go_wp2_with fail
              refine (Q2.out _).mono ?_
              rintro e w2 ⟨b2, ⟨ht2, rfl⟩ | ⟨x2, r2, v2, ht2, rfl, o2, hr2, hd2⟩⟩
              · have HBAD : Hid (unp b.length (rws L) r = ([], b.length - r.length, 131)) := unp_bad h0 fun x r' hx => by
                  have := (hfst.out x r' hx).2
                  rw [ht2] at this
                  cases this
                have B2 := hide ((below_drewN B1.out _).trans (b2.mono B1.out.size))
                clear b2 ht2
                go_wp2_with fail
                go_ret3
                refine ⟨B2.out, .inr ⟨b.length - r.length, ?_, ?_⟩⟩
                · unfold unpack
                  rw [HU.out, HBAD.out]
                · rw [show ((b.length - r.length : Nat) : Int) = (at_ : Int) by omega]
                  rfl
              · have B2 := hide ((below_drewN B1.out _).trans (b2.mono B1.out.size))
                obtain ⟨A2, c2, hv2, _⟩ := o2.by_.form
                subst hv2
                have hx2 := (takeF_some ht2 (by omega)).2
                have hR : takeR r = some ((x1, x2), r2) := by
                  unfold takeR
                  rw [T1.out]
                  simp only
                  rw [ht2]
                have HR := hide hR
                have hrb := HROW.out x2 hx2
                have HRB := hide hrb
                have HL2 := hide ((show OwnR (w1.drewN _) _ _ _ from HL1.out).below b2)
                have hby1 := (show By (w1.drewN _) _ _ from O1.out.by_).below b2
                have hcv2 := run_strL hby1 38 9 5 Tryd.underlying38 Tryd.underlying5 Tryd.underlying9
                have HO2 := hide (o2.base (show w.heap.size ≤ (w1.drewN _).heap.size from B1.out.size))
                have HD2 := hide hd2
                have hn64 : L.length < 64 := by
                  obtain ⟨_, _, h64, _⟩ := rowB_some hrb
                  rwa [rws_length] at h64
                have g7 : decide (((b.length - r2.length : Nat) : Int) < 0) = false := decide_eq_false (by omega)
                clear b2 ht2 o2 hrb hR hby1 hd2 hcv Q2
                go_wp2_with (at_builtin; go_loud (refine wpList_push2 Tryd.underlying53 HI.out.1 HI.out.2.1 HI.out.2.2.1 HI.out.2.2.2 rfl HL2.out.1 B2.out B2.out.size (.string ⟨x1.toArray⟩) (.slice A2 x2.length c2) rfl rfl (by unfold maxLen; omega) (by omega) rfl _ _ rfl rfl rfl ?_); intro v3 w3 hown3 hb3 hgr3)
                have hel : ∀ x ∈ L ++ [((⟨x1.toArray⟩, .slice A2 x2.length c2, x2) : RowV)], Own w3 w.heap.size 5 x.2.1 x.2.2 := fun x hx => by
                  rcases List.mem_append.1 hx with hx | hx
                  · exact own_grown (HL2.out.2 x hx) hgr3 fun g hg he => own_ne (HL2.out.2 x hx) HL2.out.1 (by decide) g hg he
                  · simp only [List.mem_singleton] at hx
                    subst hx
                    exact own_grown HO2.out hgr3 fun g hg he => own_ne HO2.out HL2.out.1 (by decide) g hg he
                have hnew : OwnR w3 w.heap.size v3 (L ++ [((⟨x1.toArray⟩, .slice A2 x2.length c2, x2) : RowV)]) := by
                  refine ⟨?_, hel⟩
                  rw [rcells_append, List.length_append]
                  exact hown3
                have hrows : rws (L ++ [((⟨x1.toArray⟩, .slice A2 x2.length c2, x2) : RowV)]) = rws L ++ [(x1, x2)] := by
                  rw [rws_append]; simp [rws, lst]
                go_roundw
                case rel =>
                  refine ⟨L ++ [((⟨x1.toArray⟩, .slice A2 x2.length c2, x2) : RowV)], r2, b.length - r2.length, rfl, by omega, HD2.out, hnew, ?_, by simp; omega, hb3⟩
                  rw [HU.out, unp_some HR.out, if_pos HRB.out, hrows]
                case measure =>
                  have := takeR_lt HR.out
                  simp [intOf]
                  omega
            · obtain ⟨m, hm1⟩ : ∃ m, L.length = m + 1 := ⟨L.length - 1, by omega⟩
              obtain ⟨y, hy⟩ : ∃ y, L[m]? = some y := ⟨_, List.getElem?_eq_getElem (by omega)⟩
              obtain ⟨b', o', hbo, hbl', h3, -⟩ := HCE.out m y hy
              subst hbo
              have s3 : w1.cell? ⟨b', o' + m * 2, none⟩ = some (.string y.1) := by
                obtain ⟨A6, c6, hv6, _, _, hce6⟩ := (HL1.out.rws_).form
                obtain ⟨b6, o6, hbo6, _, h6, _⟩ := hce6 m y hy
                injection hv6 with e6
                rw [← e6] at hbo6
                cases hbo6
                exact h6
              have e2 : (rws L)[m]? = some (lst y.1, y.2.2) := rws_get hy
              have g4 : decide ((0 : Int) < (L.length : Int)) = true := decide_eq_true (by omega)
              have g4n : decide (0 < L.length) = true := decide_eq_true (by omega)
              have g5 : (L.length : Int) - 1 = (m : Int) := by omega
              have k1 : (m : Int) < (L.length : Int) := by omega
              have k2 : (0 : Int) ≤ (m : Int) := by omega
              have hleb : leB x1 (lst y.1) = (Op.bytesLess x1 y.1.toList || x1 == y.1.toList) := by
                unfold leB
                rw [str_toList]
              rcases hf1 : Op.bytesLess x1 y.1.toList with _ | _
              · rcases hf2 : (x1 == y.1.toList) with _ | _
                · have HROW : Hid (∀ x2 : List UInt8, x2.length ≤ 65536 → rowB (rws L ++ [(x1, x2)]) (rws L).length = true) := fun x2 hx2 => by
                    rw [rowB_last, rws_length, decide_eq_true (show L.length < 64 by omega), decide_eq_true (show 1 ≤ x1.length by omega), decide_eq_true ht1s.2, decide_eq_true hx2, show L.length - 1 = m by omega, e2]
                    simp only [hleb, hf1, hf2, Bool.or_false]
                    simp
                  have HM1 := hide hm1
                  clear hleb e2 hy h3 hL0 hm1
                  go_wp2_with fail
                  go_quiet (fail)
                  go_wp2_with fail
                  refine (Q2.out _).mono ?_
                  rintro e w2 ⟨b2, ⟨ht2, rfl⟩ | ⟨x2, r2, v2, ht2, rfl, o2, hr2, hd2⟩⟩
                  · have HBAD : Hid (unp b.length (rws L) r = ([], b.length - r.length, 131)) := unp_bad h0 fun x r' hx => by
                      have := (hfst.out x r' hx).2
                      rw [ht2] at this
                      cases this
                    have B2 := hide ((below_drewN B1.out _).trans (b2.mono B1.out.size))
                    clear b2 ht2
                    go_wp2_with fail
                    go_ret3
                    refine ⟨B2.out, .inr ⟨b.length - r.length, ?_, ?_⟩⟩
                    · unfold unpack
                      rw [HU.out, HBAD.out]
                    · rw [show ((b.length - r.length : Nat) : Int) = (at_ : Int) by omega]
                      rfl
                  · have B2 := hide ((below_drewN B1.out _).trans (b2.mono B1.out.size))
                    obtain ⟨A2, c2, hv2, _⟩ := o2.by_.form
                    subst hv2
                    have hx2 := (takeF_some ht2 (by omega)).2
                    have hR : takeR r = some ((x1, x2), r2) := by
                      unfold takeR
                      rw [T1.out]
                      simp only
                      rw [ht2]
                    have HR := hide hR
                    have hrb := HROW.out x2 hx2
                    have HRB := hide hrb
                    have HL2 := hide ((show OwnR (w1.drewN _) _ _ _ from HL1.out).below b2)
                    have hby1 := (show By (w1.drewN _) _ _ from O1.out.by_).below b2
                    have hcv2 := run_strL hby1 38 9 5 Tryd.underlying38 Tryd.underlying5 Tryd.underlying9
                    have HO2 := hide (o2.base (show w.heap.size ≤ (w1.drewN _).heap.size from B1.out.size))
                    have HD2 := hide hd2
                    have hn64 : L.length < 64 := by
                      obtain ⟨_, _, h64, _⟩ := rowB_some hrb
                      rwa [rws_length] at h64
                    have g7 : decide (((b.length - r2.length : Nat) : Int) < 0) = false := decide_eq_false (by omega)
                    clear b2 ht2 o2 hrb hR hby1 hd2 hcv Q2
                    go_wp2_with (at_builtin; go_loud (refine wpList_push2 Tryd.underlying53 HI.out.1 HI.out.2.1 HI.out.2.2.1 HI.out.2.2.2 rfl HL2.out.1 B2.out B2.out.size (.string ⟨x1.toArray⟩) (.slice A2 x2.length c2) rfl rfl (by unfold maxLen; omega) (by omega) rfl _ _ rfl rfl rfl ?_); intro v3 w3 hown3 hb3 hgr3)
                    have hel : ∀ x ∈ L ++ [((⟨x1.toArray⟩, .slice A2 x2.length c2, x2) : RowV)], Own w3 w.heap.size 5 x.2.1 x.2.2 := fun x hx => by
                      rcases List.mem_append.1 hx with hx | hx
                      · exact own_grown (HL2.out.2 x hx) hgr3 fun g hg he => own_ne (HL2.out.2 x hx) HL2.out.1 (by decide) g hg he
                      · simp only [List.mem_singleton] at hx
                        subst hx
                        exact own_grown HO2.out hgr3 fun g hg he => own_ne HO2.out HL2.out.1 (by decide) g hg he
                    have hnew : OwnR w3 w.heap.size v3 (L ++ [((⟨x1.toArray⟩, .slice A2 x2.length c2, x2) : RowV)]) := by
                      refine ⟨?_, hel⟩
                      rw [rcells_append, List.length_append]
                      exact hown3
                    have hrows : rws (L ++ [((⟨x1.toArray⟩, .slice A2 x2.length c2, x2) : RowV)]) = rws L ++ [(x1, x2)] := by
                      rw [rws_append]; simp [rws, lst]
                    go_roundw
                    case rel =>
                      refine ⟨L ++ [((⟨x1.toArray⟩, .slice A2 x2.length c2, x2) : RowV)], r2, b.length - r2.length, rfl, by omega, HD2.out, hnew, ?_, by simp; omega, hb3⟩
                      rw [HU.out, unp_some HR.out, if_pos HRB.out, hrows]
                    case measure =>
                      have := takeR_lt HR.out
                      simp [intOf]
                      omega
                · have HBAD : Hid (unp b.length (rws L) r = ([], b.length - r.length, 131)) := unp_bad h0 fun x r' hx => by
                    rw [rowB_last, rws_length, show L.length - 1 = m by omega, e2]
                    simp only [(hfst.out x r' hx).1, hleb, hf1, hf2, Bool.or_true]
                    simp [hm1]
                  have HM1 := hide hm1
                  clear hleb e2 hy h3 hL0 hm1
                  go_wp2_with fail
                  go_quiet (fail)
                  go_wp2
                  go_ret3
                  refine ⟨below_drewN B1.out _, .inr ⟨b.length - r.length, ?_, ?_⟩⟩
                  · unfold unpack
                    rw [HU.out, HBAD.out]
                  · rw [show ((b.length - r.length : Nat) : Int) = (at_ : Int) by omega]
                    rfl
              · have HBAD : Hid (unp b.length (rws L) r = ([], b.length - r.length, 131)) := unp_bad h0 fun x r' hx => by
                  rw [rowB_last, rws_length, show L.length - 1 = m by omega, e2]
                  simp only [(hfst.out x r' hx).1, hleb, hf1, Bool.true_or]
                  simp [hm1]
                have HM1 := hide hm1
                clear hleb e2 hy h3 hL0 hm1
                go_wp2_with fail
                go_quiet (fail)
                go_wp2
                go_ret3
                refine ⟨below_drewN B1.out _, .inr ⟨b.length - r.length, ?_, ?_⟩⟩
                · unfold unpack
                  rw [HU.out, HBAD.out]
                · rw [show ((b.length - r.length : Nat) : Int) = (at_ : Int) by omega]
                  rfl
    · have hr0 : r = [] := List.eq_nil_of_length_eq_zero (by omega)
      have i1 : ¬ (at_ : Int) < (b.length : Int) := by omega
      subst hr0
      clear hunp hL
      go_wp2_with fail
      go_ret3
      refine ⟨hb, .inl ⟨L, ?_, u5, rfl, HL.out⟩⟩
      unfold unpack
      rw [HU.out, unp_nil]
end Go.Proofs.YtdohebhbiokljaaDoor

/- The ways to lay: a number, a digest. -/
namespace Go.Proofs.YtdohebhbiokljaaDoor
open Go.RowKit

set_option maxRecDepth 100000 in
set_option maxHeartbeats 1000000 in
theorem num_lay (v : Value) (l : List UInt8) (b : Nat) (q : Addr) (w : World) (h : By w v l) (hl : l.length ≤ 1048576) (ht : Tab w) (he : Err w) (hb : w.cell? ⟨b, 0, none⟩ = some (.pointer (some q))) (old : Value) (hq : w.cell? q = some old) (hf : w.frozen? q = false) (hqn : q.spot = none) :
    Calls Tryd.prog 83 #[v, .pointer (some ⟨b, 0, none⟩)] w fun e w' => e = .returned (.bool (decide (rdE l 2147483647 = 0))) ∧ ∃ w1, Below w.heap.size w w1 ∧ w' = w1.setCell q (.int .i64 (rdN l 2147483647)) := by
  obtain ⟨s, hs, hcv⟩ := run_str (P := Tryd.prog) h 38 9 5 Tryd.underlying38 Tryd.underlying5 Tryd.underlying9
  have hls : lst s = l := hs
  have hsz : s.size = l.length := by rw [← hls]; exact (lst_len s).symm
  have Q := hide (fun W (hW : Below w.heap.size w W) => bread_any s 2147483647 W (by omega) (by omega) (ht.below hW) (he.below hW))
  rw [hls] at Q
  obtain ⟨A, c, rfl, _⟩ := h.form
  have HB := hide (And.intro hb (And.intro hq hf))
  have h1 := World.block_lt_of_cell? _ _ hb
  have h2 := World.block_lt_of_cell? _ _ hq
  obtain ⟨qb, qo, qs⟩ := q
  simp only at hqn
  subst hqn
  generalize rdN l 2147483647 = x at *
  obtain ⟨y, hy⟩ : ∃ y, y = rdE l 2147483647 := ⟨_, rfl⟩
  rw [← hy] at Q ⊢
  have hyb : (decide (y = 0)) = (y == 0) := by
    by_cases h0 : y = 0
    · simp [h0]
    · simp [h0]
  clear h ht he hs hls hsz hb hq hf hy
  go_enter Tryd.func83, Tryd.ntmps83
  go_wp2_with fail
  refine (Q.out _ (Below.refl _ _)).mono ?_
  rintro e w1 ⟨rfl, b1⟩
  have c1 : w1.cell? ⟨b, 0, none⟩ = some (.pointer (some ⟨qb, qo, none⟩)) := (b1.cell (p := ⟨b, 0, none⟩) h1).trans HB.out.1
  have c2 : w1.cell? ⟨qb, qo, none⟩ = some old := (b1.cell (p := ⟨qb, qo, none⟩) h2).trans HB.out.2.1
  have c3 : w1.frozen? ⟨qb, qo, none⟩ = false := by
    have hk := b1.block qb h2
    have h3 := HB.out.2.2
    simp only [World.frozen?] at h3 ⊢
    rw [hk]
    exact h3
  have BB := hide b1
  clear b1
  go_wp2
  go_ret
  exact ⟨ret_bool hyb.symm, w1, BB.out, rfl⟩

set_option maxRecDepth 100000 in
set_option maxHeartbeats 1000000 in
theorem dig_no (A : Option Addr) (n c b : Nat) (w : World) (hn : n ≠ 32) :
    Calls Tryd.prog 86 #[.slice A n c, .pointer (some ⟨b, 0, none⟩)] w fun e w' => e = .returned (.bool false) ∧ w' = w := by
  have i1 : ¬ (n : Int) = 32 := by omega
  go_enter Tryd.func86, Tryd.ntmps86
  go_wp2
  go_ret
  exact ⟨rfl, rfl⟩

/-- What stands while the digest is stored. -/
structure DI (w0 : World) (v pb q pa : Value) (cs : List Value) (gq oq : Nat) (listed : Array Bool) (a : Act) (w : World) : Prop where
  size : listed.size = 6
  tsz : a.tmps.size = 12
  df : a.defers = []
  t0 : a.tmps[0]? = some v
  t1 : a.tmps[1]? = some pb
  s0 : listed.getD 0 false = true → a.tmps[7]? = some q
  s1 : listed.getD 1 false = true → a.tmps[8]? = some v
  s2 : listed.getD 2 false = true → a.tmps[9]? = some pa
  s3 : listed.getD 3 false = true → a.tmps[10]? = some (.agg cs.toArray)
  s4 : listed.getD 4 false = true → a.tmps[11]? = some q
  d5 : listed.getD 5 false = true → ∀ j, j < 5 → listed.getD j false = true
  wd : w = if listed.getD 5 false = true then w0.setCells gq oq cs else w0

theorem DI.put {w0 : World} {v pb q pa : Value} {cs : List Value} {gq oq : Nat} {listed : Array Bool} {a : Act} {w : World} (h : DI w0 v pb q pa cs gq oq listed a w) (i d : Nat) (u : Value) (hi : i < 5) (hd : d = 7 + i) (hf : listed.getD i false = false)
    (hu : (i = 0 → u = q) ∧ (i = 1 → u = v) ∧ (i = 2 → u = pa) ∧ (i = 3 → u = .agg cs.toArray) ∧ (i = 4 → u = q)) : DI w0 v pb q pa cs gq oq (listed.setIfInBounds i true) (a.put (some d) u) w := by
  have hs : i < listed.size := by rw [h.size]; omega
  have hg : ∀ j, j ≠ i → (listed.setIfInBounds i true).getD j false = listed.getD j false := fun j hj => by rw [getD_set hs, if_neg hj]
  have h5 : (listed.setIfInBounds i true).getD 5 false = false := by
    rw [hg 5 (by omega)]
    rcases hb : listed.getD 5 false with _ | _
    · rfl
    · rw [h.d5 hb i hi] at hf; cases hf
  have h5' : listed.getD 5 false = false := by rw [← hg 5 (by omega)]; exact h5
  subst hd
  have sl : ∀ j x, (j = i → u = x) → (listed.getD j false = true → a.tmps[7 + j]? = some x) → (listed.setIfInBounds i true).getD j false = true → (a.put (some (7 + i)) u).tmps[7 + j]? = some x := fun j x h1 h2 hl => by
    by_cases hj : j = i
    · subst hj
      rw [put_same (by rw [h.tsz]; omega), h1 rfl]
    · rw [hg j hj] at hl
      rw [put_other (by omega)]
      exact h2 hl
  refine ⟨by simpa using h.size, by simpa [Act.put] using h.tsz, h.df, (put_other (by omega)).trans h.t0, (put_other (by omega)).trans h.t1, sl 0 _ (fun e => hu.1 e.symm) h.s0, sl 1 _ (fun e => hu.2.1 e.symm) h.s1, sl 2 _ (fun e => hu.2.2.1 e.symm) h.s2, sl 3 _ (fun e => hu.2.2.2.1 e.symm) h.s3, sl 4 _ (fun e => hu.2.2.2.2 e.symm) h.s4, fun hl => ?_, ?_⟩
  · rw [h5] at hl; cases hl
  · rw [h5]; have := h.wd; rw [h5'] at this; exact this

theorem op_store_mid {P : Program} {ops : Array Oper} {Q : Exit → Act → World → Prop} {K : Act → World → Prop} {i : Nat} {a : Act} {w : World} {op : Oper} (hi : ops[i]? = some op) (hg : op.guard = none) (h : op.wp P a w K Q) : wpOp P ops Q i K a w := by
  unfold wpOp
  simp only [hi]
  rw [if_pos (by simp [Region.wanted, hg])]
  exact .inl h

theorem op_load {P : Program} {ops : Array Oper} {Q : Exit → Act → World → Prop} {K : Act → World → Prop} {i : Nat} {a : Act} {w : World} {d s : Tmp} {ty t : TypeId} {p : String} {af : Array Edge} {u v : Value} (hi : ops[i]? = some ⟨some d, .load ty (.tmp s), t, p, af, none⟩) (hs : a.eval (.tmp s) = u) (hr : (Instr.loadAt ty u).run P w = .ok v w) (h : K (a.put (some d) v) w) : wpOp P ops Q i K a w :=
  op_value hi rfl (by simp [execOp, hs, hr, Result.andThen]) h
theorem op_s2a {P : Program} {ops : Array Oper} {Q : Exit → Act → World → Prop} {K : Act → World → Prop} {i : Nat} {a : Act} {w : World} {d s : Tmp} {ty t : TypeId} {p : String} {af : Array Edge} {u v : Value} (hi : ops[i]? = some ⟨some d, .sliceToArrayPointer ty (.tmp s), t, p, af, none⟩) (hs : a.eval (.tmp s) = u) (hr : (Instr.arrayAt ty u).run P w = .ok v w) (h : K (a.put (some d) v) w) : wpOp P ops Q i K a w :=
  op_value hi rfl (by simp [execOp, hs, hr, Result.andThen]) h
theorem load_dig {W : World} {b : Nat} {v : Value} (h : W.cell? ⟨b, 0, none⟩ = some v) : (Instr.loadAt 125 (.pointer (some ⟨b, 0, none⟩))).run Tryd.prog W = .ok v W := by
  go_simp
theorem s2a_dig (gA oA c : Nat) (W : World) (hc : 32 ≤ c) : (Instr.arrayAt 35 (.slice (some ⟨gA, oA, none⟩) 32 c)).run Tryd.prog W = .ok (.pointer (some ⟨gA, oA, none⟩)) W := run_arrayAt W 35 5 32 _ 32 c Tryd.underlying35 (by omega)

set_option maxRecDepth 100000 in
set_option maxHeartbeats 1000000 in
theorem dig_lay (gA oA c : Nat) (l : List UInt8) (b gq oq : Nat) (w : World) (hl : l.length = 32) (hc : 32 ≤ c) (hr : w.rangeAt gA oA (bcells l)) (hb : w.cell? ⟨b, 0, none⟩ = some (.pointer (some ⟨gq, oq, none⟩))) (hq : w.there gq oq 32) :
    Calls Tryd.prog 86 #[.slice (some ⟨gA, oA, none⟩) 32 c, .pointer (some ⟨b, 0, none⟩)] w fun e w' => e = .returned (.bool true) ∧ w' = (w.drew).setCells gq oq (bcells l) := by
  have hi : (Tryd.prog.info? 35).map (·.size) = some (bcells l).length := by rw [bcells_length, hl]; kernel_rfl
  have hl2 : (bcells l).length = 32 := by rw [bcells_length, hl]
  have h1 : ∀ v ∈ bcells l, v.oneCell' = true := fun v hv => by
    obtain ⟨x, _, rfl⟩ := List.mem_map.1 hv
    rfl
  generalize bcells l = cs at *
  have HH := hide (And.intro hi (And.intro hl2 (And.intro h1 (And.intro hr (And.intro hb hq)))))
  clear hi hl2 h1 hr hb hq
  go_enter Tryd.func86, Tryd.ntmps86
  go_wp2
  refine wp_region_any rfl ?_
  refine wpAny_inv (DI w.drew (.slice (some ⟨gA, oA, none⟩) 32 c) (.pointer (some ⟨b, 0, none⟩)) (.pointer (some ⟨gq, oq, none⟩)) (.pointer (some ⟨gA, oA, none⟩)) cs gq oq) (fun listed a W h => h.size.trans rfl) ?step ?fin _ _ _ _ (by simp) ?start
  case start =>
    refine ⟨by simp, by simp, rfl, rfl, rfl, fun hl => ?_, fun hl => ?_, fun hl => ?_, fun hl => ?_, fun hl => ?_, fun hl => ?_, by simp [Array.getD]⟩
    all_goals
      simp [Array.getD] at hl
  case fin =>
    intro listed a W h hr
    have hall : ∀ i, i < 6 → listed.getD i false = true := fun i hi => all_ready (h.size.trans rfl) (by kernel_rfl) hr i hi
    have hW := h.wd
    rw [hall 5 (by omega), if_pos rfl] at hW
    subst hW
    have hts := h.tsz
    have hdf := h.df
    clear h hr hall
    go_wp2
    exact bodyPost_ret (results_tmp rfl _ _ _) rfl ⟨by simp [hts], rfl⟩
  case step =>
    intro listed a W i h hi
    obtain ⟨hlt, hf, o, ho, hdep⟩ := ready_at hi
    have hi39 : i < 6 := hlt
    have hff : listed.getD i false = false := by
      have : i < listed.size := by rw [h.size]; exact hi39
      simpa [Array.getD, this] using hf
    clear hi hlt hf
    have hW : i < 5 → W = w.drew := fun hi5 => by
      have := h.wd
      rcases hb : listed.getD 5 false with _ | _
      · rw [hb] at this; exact this
      · rw [h.d5 hb i hi5] at hff; cases hff
    have hc6 : i = 0 ∨ i = 1 ∨ i = 2 ∨ i = 3 ∨ i = 4 ∨ i = 5 := by omega
    rcases hc6 with rfl | rfl | rfl | rfl | rfl | rfl
    · clear ho hdep
      have hv : a.eval (.tmp 1) = .pointer (some ⟨b, 0, none⟩) := eval_tmp h.t1
      have hW0 := hW (by omega)
      have hcell : W.cell? ⟨b, 0, none⟩ = some (.pointer (some ⟨gq, oq, none⟩)) := by rw [hW0]; exact HH.out.2.2.2.2.1
      refine op_load rfl hv (load_dig hcell) ?_
      exact h.put 0 7 _ (by omega) rfl hff ⟨fun _ => rfl, fun e => by omega, fun e => by omega, fun e => by omega, fun e => by omega⟩
    · clear ho hdep
      exact op_move rfl (eval_tmp h.t0) (h.put 1 8 _ (by omega) rfl hff ⟨fun e => by omega, fun _ => rfl, fun e => by omega, fun e => by omega, fun e => by omega⟩)
    · simp at ho
      subst ho
      simp [Region.binds] at hdep
      have hv : a.eval (.tmp 8) = .slice (some ⟨gA, oA, none⟩) 32 c := eval_tmp (h.s1 (gd hdep))
      refine op_s2a rfl hv (s2a_dig gA oA c W hc) (h.put 2 9 _ (by omega) rfl hff ⟨fun e => by omega, fun e => by omega, fun _ => rfl, fun e => by omega, fun e => by omega⟩)
    · simp at ho
      subst ho
      simp [Region.binds] at hdep
      have hv : a.eval (.tmp 9) = .pointer (some ⟨gA, oA, none⟩) := eval_tmp (h.s2 (gd hdep))
      have hW0 := hW (by omega)
      refine op_store_mid rfl rfl (wp_load_mid 35 (.tmp 9) rfl gA oA hv cs _ (by rw [hW0]; exact HH.out.2.2.2.1) Tryd.underlying35 rfl HH.out.1 ?_)
      exact h.put 3 10 _ (by omega) rfl hff ⟨fun e => by omega, fun e => by omega, fun e => by omega, fun _ => rfl, fun e => by omega⟩
    · simp at ho
      subst ho
      simp [Region.binds] at hdep
      have hv : a.eval (.tmp 7) = .pointer (some ⟨gq, oq, none⟩) := eval_tmp (h.s0 (gd hdep.1))
      exact op_value (v := .pointer (some ⟨gq, oq, none⟩)) rfl rfl (by simp [execOp, hv]) (h.put 4 11 _ (by omega) rfl hff ⟨fun e => by omega, fun e => by omega, fun e => by omega, fun e => by omega, fun _ => rfl⟩)
    · simp at ho
      subst ho
      simp [Region.binds] at hdep
      have hx : a.eval (.tmp 11) = .pointer (some ⟨gq, oq, none⟩) := eval_tmp (h.s4 (gd hdep.1))
      have hy : a.eval (.tmp 10) = .agg cs.toArray := eval_tmp (h.s3 (gd hdep.2.1))
      have hW0 : W = w.drew := by have := h.wd; rw [hff] at this; exact this
      refine op_store_mid rfl rfl (wp_store_mid 35 (.tmp 11) (.tmp 10) rfl gq oq cs.toArray hx hy (by rw [hW0, List.size_toArray, HH.out.2.1]; exact HH.out.2.2.2.2.2) (by rw [List.size_toArray]; exact HH.out.1) (by simpa using HH.out.2.2.1) ?_)
      have hs5 : 5 < listed.size := by rw [h.size]; omega
      have hg : ∀ j, j ≠ 5 → (listed.setIfInBounds 5 true).getD j false = listed.getD j false := fun j hj => by rw [getD_set hs5, if_neg hj]
      refine ⟨by simpa using h.size, h.tsz, h.df, h.t0, h.t1, fun hl => h.s0 (by rwa [hg 0 (by omega)] at hl), fun hl => h.s1 (by rwa [hg 1 (by omega)] at hl), fun hl => h.s2 (by rwa [hg 2 (by omega)] at hl), fun hl => h.s3 (by rwa [hg 3 (by omega)] at hl), fun hl => h.s4 (by rwa [hg 4 (by omega)] at hl), fun _ j hj => ?_, ?_⟩
      · rw [hg j (by omega)]
        have hj5 : j = 0 ∨ j = 1 ∨ j = 2 ∨ j = 3 ∨ j = 4 := by omega
        rcases hj5 with rfl | rfl | rfl | rfl | rfl
        · exact gd hdep.2.2.1
        · exact gd hdep.2.2.2.1
        · exact gd hdep.2.2.2.2.1
        · exact gd hdep.2.1
        · exact gd hdep.1
      · rw [getD_set hs5, if_pos rfl, if_pos rfl, hW0]
end Go.Proofs.YtdohebhbiokljaaDoor

/- Joined texts: CutA, CutB, CutC. -/


/- Contracts of the program's shapes: up, shape, Again. -/
namespace Go.Proofs.YtdohebhbiokljaaDoor
open Go.RowKit
attribute [local go_sem ↓] Go.wp_at_zero Go.wp_at_succ

def upN (a b : Nat) : Nat := (a + b - 1) / b
theorem wrap64_nat (n : Nat) (h : n < 9223372036854775808) : wrap64 (n : Int) = (n : Int) := by unfold wrap64; omega

set_option maxRecDepth 100000 in
set_option maxHeartbeats 400000 in
theorem up_any (a b : Nat) (w : World) (hb : 1 ≤ b) (hb2 : b ≤ 1099511627776) (ha : a ≤ 1099511627776) :
    Calls Tryd.prog 80 #[.int .i64 (a : Int), .int .i64 (b : Int)] w fun e w' => e = .returned (.int .i64 (upN a b : Int)) ∧ w = w' := by
  obtain ⟨c, hc⟩ : ∃ c : Nat, c = a + b - 1 := ⟨_, rfl⟩
  have e1 : (a : Int) + (b : Int) - 1 = (c : Int) := by omega
  have e4 : ¬ (b : Int) = 0 := by omega
  have hcb : c / b ≤ c := Nat.div_le_self _ _
  have hfin : wrap64 ((c : Int) / (b : Int)) = (upN a b : Int) := by
    have h1 : (c : Int) / (b : Int) = ((c / b : Nat) : Int) := rfl
    rw [h1, wrap64_nat _ (by omega)]
    unfold upN
    rw [hc]
  rw [hc] at hfin
  have HF := hide hfin
  clear hcb hfin
  go_enter Tryd.func80, Tryd.ntmps80
  go_wp2
  go_ret
  exact ⟨ret_int HF.out, rfl⟩

def shapeV (k n seg size : Nat) : Value := .agg #[.int .i64 (k : Int), .int .i64 (n : Int), .int .i64 (seg : Int), .int .i64 (size : Int), .int .i64 (upN size seg : Int), .int .i64 ((size - (upN size seg - 1) * seg : Nat) : Int), .int .i64 ((seg / k : Nat) : Int), .int .i64 (upN (size - (upN size seg - 1) * seg) k : Int)]

theorem upN_le (a b : Nat) (hb : 1 ≤ b) : upN a b ≤ a := by
  unfold upN
  rcases Nat.eq_zero_or_pos a with h | h
  · subst h
    rw [Nat.zero_add, Nat.div_eq_of_lt (by omega)]
    exact Nat.le_refl _
  · have : (a + b - 1) / b ≤ (a * b) / b := Nat.div_le_div_right (by
      have := Nat.mul_le_mul (show 1 ≤ a from h) (show 1 ≤ b from hb)
      obtain ⟨a', rfl⟩ : ∃ a', a = a' + 1 := ⟨a - 1, by omega⟩
      obtain ⟨b', rfl⟩ : ∃ b', b = b' + 1 := ⟨b - 1, by omega⟩
      have : (a' + 1) * (b' + 1) = a' * b' + a' + b' + 1 := by rw [Nat.add_mul, Nat.mul_add]; omega
      have := Nat.zero_le (a' * b')
      omega)
    rwa [Nat.mul_div_cancel _ (by omega)] at this
theorem upN_spec (a b : Nat) (hb : 1 ≤ b) (ha : 1 ≤ a) : 1 ≤ upN a b ∧ (upN a b - 1) * b < a ∧ a ≤ upN a b * b := by
  unfold upN
  have h1 := Nat.div_add_mod (a + b - 1) b
  have h2 := Nat.mod_lt (a + b - 1) (show 0 < b by omega)
  generalize (a + b - 1) / b = q at *
  have hq : 1 ≤ q := by
    rcases Nat.eq_zero_or_pos q with h | h
    · subst h; rw [Nat.mul_zero] at h1; omega
    · exact h
  obtain ⟨q', rfl⟩ : ∃ q', q = q' + 1 := ⟨q - 1, by omega⟩
  rw [Nat.mul_add, Nat.mul_comm b q'] at h1
  rw [Nat.add_sub_cancel, Nat.add_mul]
  generalize q' * b = z at *
  omega

set_option maxRecDepth 100000 in
set_option maxHeartbeats 4000000 in
theorem shape_any (k n seg size : Nat) (w : World) (hk : 1 ≤ k) (hk2 : k ≤ 1048576) (hs : 1 ≤ seg) (hs2 : seg ≤ 1048576) (hz : 1 ≤ size) (hz2 : size ≤ 16777216) :
    Calls Tryd.prog 81 #[.int .i64 (k : Int), .int .i64 (n : Int), .int .i64 (seg : Int), .int .i64 (size : Int)] w fun e w' => e = .returned (shapeV k n seg size) ∧ Below w.heap.size w w' := by
  have u1 := fun w => up_any size seg w hs (by omega) (by omega)
  have h1 := upN_spec size seg hs hz
  have h2 := upN_le size seg hs
  have ht : size - (upN size seg - 1) * seg ≤ size := Nat.sub_le _ _
  have u2 := fun w => up_any (size - (upN size seg - 1) * seg) k w hk (by omega) (by omega)
  unfold shapeV
  generalize hA : upN size seg = A at *
  have h3 : ((A - 1) * seg : Nat) ≤ size := by omega
  have e1 : ((A : Int) - 1) * (seg : Int) = (((A - 1) * seg : Nat) : Int) := by rw [Int.natCast_mul]; congr 1; omega
  generalize hB : (A - 1) * seg = B at *
  generalize hC : upN (size - B) k = C at *
  obtain ⟨q, hq⟩ : ∃ q : Nat, q = seg / k := ⟨_, rfl⟩
  have e2 : (seg : Int) / (k : Int) = (q : Int) := by rw [hq]; rfl
  have hq2 : q ≤ 1048576 := by have := Nat.div_le_self seg k; omega
  have e4 : ¬ k = 0 := by omega
  rw [← hq]
  clear h1 hB hA hC hq
  go_enter Tryd.func81, Tryd.ntmps81
  go_wp2_with fail
  go_region_held3 (fun _ => True) (trivial) ((go_at_call 80; (with_reducible refine (u1 _).mono ?_); rintro e w1 ⟨rfl, rfl⟩))
  all_goals
    go_wp2_with fail
    rw [show (size : Int) - (B : Int) = ((size - B : Nat) : Int) by omega]
    refine (u2 _).mono ?_
    rintro e w2 ⟨rfl, rfl⟩
    go_wp2
    go_returns
    refine ⟨rfl, ?_⟩
    go_grown
end Go.Proofs.YtdohebhbiokljaaDoor

/- The contract of the program's Again, and of Check. -/
namespace Go.Proofs.YtdohebhbiokljaaDoor
open Go.RowKit
attribute [local go_sem ↓] Go.wp_at_zero Go.wp_at_succ

/-- The four numbers of a shape that may be. -/
def agOK (k n seg size : Int) : Prop := (1 ≤ n ∧ n ≤ 255 ∧ 1 ≤ k ∧ k ≤ n ∧ 1 ≤ seg) ∧ seg % k = 0 ∧ seg / k ≤ (upN 65536 k.toNat : Int) ∧ 32 < size ∧ size ≤ 16777216 ∧ upN size.toNat seg.toNat ≤ 512
def zeroShape : Value := .agg #[.int .i64 0, .int .i64 0, .int .i64 0, .int .i64 0, .int .i64 0, .int .i64 0, .int .i64 0, .int .i64 0]

def set8 (w : World) (g : Nat) (v0 v1 v2 v3 v4 v5 v6 v7 : Value) : World :=
  (((((((w.setCell ⟨g, 0, none⟩ v0).setCell ⟨g, 1, none⟩ v1).setCell ⟨g, 2, none⟩ v2).setCell ⟨g, 3, none⟩ v3).setCell ⟨g, 4, none⟩ v4).setCell ⟨g, 5, none⟩ v5).setCell ⟨g, 6, none⟩ v6).setCell ⟨g, 7, none⟩ v7
theorem blk_set8 {w : World} {g : Nat} {t : TypeId} {a0 a1 a2 a3 a4 a5 a6 a7 : Value} (h : Blk w g t #[a0, a1, a2, a3, a4, a5, a6, a7]) (v0 v1 v2 v3 v4 v5 v6 v7 : Value) :
    Blk (set8 w g v0 v1 v2 v3 v4 v5 v6 v7) g t #[v0, v1, v2, v3, v4, v5, v6, v7] := by
  have := (((((((h.set_ 0 v0).set_ 1 v1).set_ 2 v2).set_ 3 v3).set_ 4 v4).set_ 5 v5).set_ 6 v6).set_ 7 v7
  simpa [set8] using this
theorem set8_cells {w : World} {g : Nat} {t : TypeId} {a0 a1 a2 a3 a4 a5 a6 a7 : Value} (h : Blk w g t #[a0, a1, a2, a3, a4, a5, a6, a7]) (v0 v1 v2 v3 v4 v5 v6 v7 : Value) :
    (set8 w g v0 v1 v2 v3 v4 v5 v6 v7).cell? ⟨g, 0, none⟩ = some v0 ∧ (set8 w g v0 v1 v2 v3 v4 v5 v6 v7).cell? ⟨g, 1, none⟩ = some v1 ∧ (set8 w g v0 v1 v2 v3 v4 v5 v6 v7).cell? ⟨g, 2, none⟩ = some v2 ∧ (set8 w g v0 v1 v2 v3 v4 v5 v6 v7).cell? ⟨g, 3, none⟩ = some v3 ∧
    (set8 w g v0 v1 v2 v3 v4 v5 v6 v7).cell? ⟨g, 4, none⟩ = some v4 ∧ (set8 w g v0 v1 v2 v3 v4 v5 v6 v7).cell? ⟨g, 5, none⟩ = some v5 ∧ (set8 w g v0 v1 v2 v3 v4 v5 v6 v7).cell? ⟨g, 6, none⟩ = some v6 ∧ (set8 w g v0 v1 v2 v3 v4 v5 v6 v7).cell? ⟨g, 7, none⟩ = some v7 := by
  have hb := blk_set8 h v0 v1 v2 v3 v4 v5 v6 v7
  exact ⟨hb.cell 0, hb.cell 1, hb.cell 2, hb.cell 3, hb.cell 4, hb.cell 5, hb.cell 6, hb.cell 7⟩

set_option maxRecDepth 100000 in
set_option maxHeartbeats 1000000 in
theorem again_early (k n seg size : Int) (w : World) (h : ¬ (1 ≤ n ∧ n ≤ 255 ∧ 1 ≤ k ∧ k ≤ n ∧ 1 ≤ seg)) :
    Calls Tryd.prog 49 #[.int .i64 k, .int .i64 n, .int .i64 seg, .int .i64 size] w fun e w' => Below w.heap.size w w' ∧ e = .returned (.tuple #[zeroShape, .int .i64 92]) := by
  by_cases c1 : n < 1
  · have g1 : decide (n < 1) = true := decide_eq_true c1
    clear h c1
    go_enter Tryd.func49, Tryd.ntmps49
    go_wp2_with fail
    go_quiet (fail)
    go_wp2
    go_returns
    refine ⟨?_, rfl⟩
    go_grown
    exact below_drewN ((Below.refl _ w).alloc (Nat.le_refl _) _) _
  · have g1 : decide (n < 1) = false := decide_eq_false c1
    by_cases c2 : 255 < n
    · have g2 : decide (255 < n) = true := decide_eq_true c2
      clear h c1 c2
      go_enter Tryd.func49, Tryd.ntmps49
      go_wp2_with fail
      go_quiet (fail)
      go_wp2
      go_returns
      refine ⟨?_, rfl⟩
      go_grown
      exact below_drewN ((Below.refl _ w).alloc (Nat.le_refl _) _) _
    · have g2 : decide (255 < n) = false := decide_eq_false c2
      by_cases c3 : k < 1
      · have g3 : decide (k < 1) = true := decide_eq_true c3
        clear h c1 c2 c3
        go_enter Tryd.func49, Tryd.ntmps49
        go_wp2_with fail
        go_quiet (fail)
        go_wp2
        go_returns
        refine ⟨?_, rfl⟩
        go_grown
        exact below_drewN ((Below.refl _ w).alloc (Nat.le_refl _) _) _
      · have g3 : decide (k < 1) = false := decide_eq_false c3
        by_cases c4 : n < k
        · have g4 : decide (n < k) = true := decide_eq_true c4
          clear h c1 c2 c3 c4
          go_enter Tryd.func49, Tryd.ntmps49
          go_wp2_with fail
          go_quiet (fail)
          go_wp2
          go_returns
          refine ⟨?_, rfl⟩
          go_grown
          exact below_drewN ((Below.refl _ w).alloc (Nat.le_refl _) _) _
        · have g4 : decide (n < k) = false := decide_eq_false c4
          have g5 : decide (seg < 1) = true := decide_eq_true (by omega)
          clear h c1 c2 c3 c4
          go_enter Tryd.func49, Tryd.ntmps49
          go_wp2_with fail
          go_quiet (fail)
          go_wp2
          go_returns
          refine ⟨?_, rfl⟩
          go_grown
          exact below_drewN ((Below.refl _ w).alloc (Nat.le_refl _) _) _

set_option maxRecDepth 100000 in
set_option maxHeartbeats 8000000 in
theorem again_late (k n seg : Nat) (size : Int) (w : World) (h : 1 ≤ n ∧ n ≤ 255 ∧ 1 ≤ k ∧ k ≤ n ∧ 1 ≤ seg) (hseg : (seg : Int) ≤ 9223372036854775807) (hsz : -9223372036854775808 ≤ size ∧ size ≤ 9223372036854775807)
    (hbad : ¬ (seg % k = 0 ∧ seg / k ≤ upN 65536 k ∧ 32 < size ∧ size ≤ 16777216)) :
    Calls Tryd.prog 49 #[.int .i64 (k : Int), .int .i64 (n : Int), .int .i64 (seg : Int), .int .i64 size] w fun e w' => Below w.heap.size w w' ∧ e = .returned (.tuple #[zeroShape, .int .i64 92]) := by
  have hu : ∀ w, Calls Tryd.prog 80 #[.int .i64 65536, .int .i64 (k : Int)] w fun e w' => e = .returned (.int .i64 (upN 65536 k : Int)) ∧ w = w' := fun w => up_any 65536 k w (by omega) (by omega) (by omega)
  have hul := upN_le 65536 k (by omega)
  obtain ⟨m, hm⟩ : ∃ m : Nat, m = seg % k := ⟨_, rfl⟩
  obtain ⟨q, hq⟩ : ∃ q : Nat, q = seg / k := ⟨_, rfl⟩
  have e1 : (seg : Int) % (k : Int) = (m : Int) := by rw [hm]; rfl
  have e2 : (seg : Int) / (k : Int) = (q : Int) := by rw [hq]; rfl
  have e3 : (seg : Int).tmod (k : Int) = (m : Int) := by rw [hm]; rfl
  have e4 : (seg : Int).tdiv (k : Int) = (q : Int) := by rw [hq]; rfl
  have hm2 : m < k := by rw [hm]; exact Nat.mod_lt _ (by omega)
  have hq2 : q ≤ seg := by rw [hq]; exact Nat.div_le_self _ _
  have e5 : ¬ k = 0 := by omega
  have e6 : ¬ (k : Int) = 0 := by omega
  rw [← hm, ← hq] at hbad
  generalize upN 65536 k = U at *
  have i1 : decide ((n : Int) < 1) = false := decide_eq_false (by omega)
  have i2 : decide ((255 : Int) < (n : Int)) = false := decide_eq_false (by omega)
  have i3 : decide ((k : Int) < 1) = false := decide_eq_false (by omega)
  have i4 : decide ((n : Int) < (k : Int)) = false := decide_eq_false (by omega)
  have i6 : decide (n < k) = false := decide_eq_false (by omega)
  have wq : IntKind.i64.wrap (q : Int) = (q : Int) := IntWalk.i64_in _ (by omega)
  have i5 : decide ((seg : Int) < 1) = false := decide_eq_false (by omega)
  clear hm hq
  by_cases c1 : m = 0
  · have c1' : ((m : Int) == 0) = true := beq_iff_eq.2 (by omega)
    by_cases c2 : U < q
    · have c2' : decide ((U : Int) < (q : Int)) = true := decide_eq_true (by omega)
      have c2n : decide (U < q) = true := decide_eq_true c2
      clear hbad
      go_enter Tryd.func49, Tryd.ntmps49
      go_wp2_with fail
      go_quiet ((go_at_call 80; exact Calls.quiet_of_same ((hu _).mono fun e w' ⟨h1, h2⟩ => ⟨h1, h2.symm⟩)))
      go_wp2
      go_returns
      refine ⟨?_, rfl⟩
      go_grown
      exact below_drewN ((Below.refl _ w).alloc (Nat.le_refl _) _) _
    · have c2' : decide ((U : Int) < (q : Int)) = false := decide_eq_false (by omega)
      have c2n : decide (U < q) = false := decide_eq_false c2
      by_cases c3 : size ≤ 32
      · have c3' : decide (size ≤ 32) = true := decide_eq_true c3
        clear hbad
        go_enter Tryd.func49, Tryd.ntmps49
        go_wp2_with fail
        go_quiet ((go_at_call 80; exact Calls.quiet_of_same ((hu _).mono fun e w' ⟨h1, h2⟩ => ⟨h1, h2.symm⟩)))
        go_wp2
        go_returns
        refine ⟨?_, rfl⟩
        go_grown
        exact below_drewN ((Below.refl _ w).alloc (Nat.le_refl _) _) _
      · have c3' : decide (size ≤ 32) = false := decide_eq_false c3
        have c4 : decide (16777216 < size) = true := decide_eq_true (by omega)
        clear hbad
        go_enter Tryd.func49, Tryd.ntmps49
        go_wp2_with fail
        go_quiet ((go_at_call 80; exact Calls.quiet_of_same ((hu _).mono fun e w' ⟨h1, h2⟩ => ⟨h1, h2.symm⟩)))
        go_wp2
        go_returns
        refine ⟨?_, rfl⟩
        go_grown
        exact below_drewN ((Below.refl _ w).alloc (Nat.le_refl _) _) _
  · have c1' : ((m : Int) == 0) = false := beq_eq_false_iff_ne.2 (by omega)
    clear hbad
    go_enter Tryd.func49, Tryd.ntmps49
    go_wp2_with fail
    go_quiet ((go_at_call 80; exact Calls.quiet_of_same ((hu _).mono fun e w' ⟨h1, h2⟩ => ⟨h1, h2.symm⟩)))
    go_wp2
    go_returns
    refine ⟨?_, rfl⟩
    go_grown
    exact below_drewN ((Below.refl _ w).alloc (Nat.le_refl _) _) _

set_option maxRecDepth 100000 in
set_option maxHeartbeats 8000000 in
theorem again_shape (k n seg size : Nat) (w : World) (h : 1 ≤ n ∧ n ≤ 255 ∧ 1 ≤ k ∧ k ≤ n ∧ 1 ≤ seg)
    (hok : seg % k = 0 ∧ seg / k ≤ upN 65536 k ∧ 32 < size ∧ size ≤ 16777216) :
    Calls Tryd.prog 49 #[.int .i64 (k : Int), .int .i64 (n : Int), .int .i64 (seg : Int), .int .i64 (size : Int)] w fun e w' => Below w.heap.size w w' ∧
      e = .returned (if upN size seg ≤ 512 then .tuple #[shapeV k n seg size, .int .i64 0] else .tuple #[zeroShape, .int .i64 92]) := by
  have hsg : seg ≤ 1048576 := by
    have h1 := Nat.div_add_mod seg k
    have h2 := upN_spec 65536 k (by omega) (by omega)
    have h3 : k * (seg / k) ≤ k * upN 65536 k := Nat.mul_le_mul_left k hok.2.1
    have h4 : (upN 65536 k - 1) * k < 65536 := h2.2.1
    have h5 : k * upN 65536 k = (upN 65536 k - 1) * k + k := by
      obtain ⟨u, hu⟩ : ∃ u, upN 65536 k = u + 1 := ⟨upN 65536 k - 1, by omega⟩
      rw [hu, Nat.add_sub_cancel, Nat.mul_add, Nat.mul_comm]; omega
    omega
  have hs := fun w => shape_any k n seg size w (by omega) (by omega) (by omega) hsg (by omega) (by omega)
  have hu : ∀ w, Calls Tryd.prog 80 #[.int .i64 65536, .int .i64 (k : Int)] w fun e w' => e = .returned (.int .i64 (upN 65536 k : Int)) ∧ w = w' := fun w => up_any 65536 k w (by omega) (by omega) (by omega)
  have hul := upN_le 65536 k (by omega)
  obtain ⟨m, hm⟩ : ∃ m : Nat, m = seg % k := ⟨_, rfl⟩
  obtain ⟨q, hq⟩ : ∃ q : Nat, q = seg / k := ⟨_, rfl⟩
  have e1 : (seg : Int) % (k : Int) = (m : Int) := by rw [hm]; rfl
  have e2 : (seg : Int) / (k : Int) = (q : Int) := by rw [hq]; rfl
  have e3 : (seg : Int).tmod (k : Int) = (m : Int) := by rw [hm]; rfl
  have e4 : (seg : Int).tdiv (k : Int) = (q : Int) := by rw [hq]; rfl
  have hm2 : m < k := by rw [hm]; exact Nat.mod_lt _ (by omega)
  have hq2 : q ≤ seg := by rw [hq]; exact Nat.div_le_self _ _
  have e5 : ¬ k = 0 := by omega
  have e6 : ¬ (k : Int) = 0 := by omega
  rw [← hm, ← hq] at hok
  have hS := hide hs
  unfold shapeV at hs
  have hQ := upN_le size seg (by omega)
  have HS : Hid (∀ w, Calls Tryd.prog 81 #[.int .i64 (k : Int), .int .i64 (n : Int), .int .i64 (seg : Int), .int .i64 (size : Int)] w fun e w' => ∃ z5 z6 z7 : Int, e = .returned (.agg #[.int .i64 (k : Int), .int .i64 (n : Int), .int .i64 (seg : Int), .int .i64 (size : Int), .int .i64 (upN size seg : Int), .int .i64 z5, .int .i64 z6, .int .i64 z7]) ∧ Below w.heap.size w w' ∧ shapeV k n seg size = .agg #[.int .i64 (k : Int), .int .i64 (n : Int), .int .i64 (seg : Int), .int .i64 (size : Int), .int .i64 (upN size seg : Int), .int .i64 z5, .int .i64 z6, .int .i64 z7]) := fun w =>
    (hs w).mono fun e w' ⟨h1, h2⟩ => ⟨_, _, _, h1, h2, rfl⟩
  clear hs hS
  generalize upN 65536 k = U at *
  generalize upN size seg = Z at *
  have i1 : decide ((n : Int) < 1) = false := decide_eq_false (by omega)
  have i2 : decide ((255 : Int) < (n : Int)) = false := decide_eq_false (by omega)
  have i3 : decide ((k : Int) < 1) = false := decide_eq_false (by omega)
  have i4 : decide ((n : Int) < (k : Int)) = false := decide_eq_false (by omega)
  have i6 : decide (n < k) = false := decide_eq_false (by omega)
  have wq : IntKind.i64.wrap (q : Int) = (q : Int) := IntWalk.i64_in _ (by omega)
  have i5 : decide ((seg : Int) < 1) = false := decide_eq_false (by omega)
  have c1 : m = 0 := hok.1
  have c1' : ((m : Int) == 0) = true := beq_iff_eq.2 (by omega)
  have c2' : decide ((U : Int) < (q : Int)) = false := decide_eq_false (by omega)
  have c2n : decide (U < q) = false := decide_eq_false (by omega)
  have c3n : decide (size ≤ 32) = false := decide_eq_false (by omega)
  have c4n : decide (16777216 < size) = false := decide_eq_false (by omega)
  have c3 : decide ((size : Int) ≤ 32) = false := decide_eq_false (by omega)
  have c4 : decide ((16777216 : Int) < (size : Int)) = false := decide_eq_false (by omega)
  clear hm hq hok
  by_cases c5 : Z ≤ 512
  · rw [if_pos c5]
    have c5' : ¬ (512 : Int) < (Z : Int) := by omega
    go_enter Tryd.func49, Tryd.ntmps49
    go_wp2_with fail
    go_quiet ((go_at_call 80; exact Calls.quiet_of_same ((hu _).mono fun e w' ⟨h1, h2⟩ => ⟨h1, h2.symm⟩)))
    go_wp2_with fail
    refine (HS.out _).mono ?_
    rintro e w2 ⟨z5, z6, z7, rfl, b2, hz⟩
    have hzz := hide hz
    have hbl : Blk w2 w.heap.size 24 #[.int .i64 0, .int .i64 0, .int .i64 0, .int .i64 0, .int .i64 0, .int .i64 0, .int .i64 0, .int .i64 0] := Blk.below' (Blk.drewN (Blk.new w _ _) _) b2
    have B2 : Hid (Below w.heap.size w w2) := (below_drewN ((Below.refl _ w).alloc (Nat.le_refl _) _) _).trans (b2.mono (by simp))
    have f0 : ∀ o, (w2.alloc o).cell? ⟨w.heap.size, 0, none⟩ = some (.int .i64 0) := fun o => (hbl.alloc o).cell 0
    have g0 := fun o => (hbl.alloc o).frozen 0
    have f1 : ∀ o, (w2.alloc o).cell? ⟨w.heap.size, 1, none⟩ = some (.int .i64 0) := fun o => (hbl.alloc o).cell 1
    have g1 := fun o => (hbl.alloc o).frozen 1
    have f2 : ∀ o, (w2.alloc o).cell? ⟨w.heap.size, 2, none⟩ = some (.int .i64 0) := fun o => (hbl.alloc o).cell 2
    have g2 := fun o => (hbl.alloc o).frozen 2
    have f3 : ∀ o, (w2.alloc o).cell? ⟨w.heap.size, 3, none⟩ = some (.int .i64 0) := fun o => (hbl.alloc o).cell 3
    have g3 := fun o => (hbl.alloc o).frozen 3
    have f4 : ∀ o, (w2.alloc o).cell? ⟨w.heap.size, 4, none⟩ = some (.int .i64 0) := fun o => (hbl.alloc o).cell 4
    have g4 := fun o => (hbl.alloc o).frozen 4
    have f5 : ∀ o, (w2.alloc o).cell? ⟨w.heap.size, 5, none⟩ = some (.int .i64 0) := fun o => (hbl.alloc o).cell 5
    have g5 := fun o => (hbl.alloc o).frozen 5
    have f6 : ∀ o, (w2.alloc o).cell? ⟨w.heap.size, 6, none⟩ = some (.int .i64 0) := fun o => (hbl.alloc o).cell 6
    have g6 := fun o => (hbl.alloc o).frozen 6
    have f7 : ∀ o, (w2.alloc o).cell? ⟨w.heap.size, 7, none⟩ = some (.int .i64 0) := fun o => (hbl.alloc o).cell 7
    have g7 := fun o => (hbl.alloc o).frozen 7
    have hc : ∀ o, _ := fun o => set8_cells (hbl.alloc o) (.int .i64 (k : Int)) (.int .i64 (n : Int)) (.int .i64 (seg : Int)) (.int .i64 (size : Int)) (.int .i64 (Z : Int)) (.int .i64 z5) (.int .i64 z6) (.int .i64 z7)
    unfold set8 at hc
    have HC := hide hc
    clear hc
    clear hz hbl b2
    go_wp2
    try simp only [Exit.inBlock, Exit.then]
    refine bodyPost_ret (v := .tuple #[.agg #[.int .i64 (k : Int), .int .i64 (n : Int), .int .i64 (seg : Int), .int .i64 (size : Int), .int .i64 (Z : Int), .int .i64 z5, .int .i64 z6, .int .i64 z7], .int .i64 0]) (by simp [results, Tryd.results49, go_sem, HC.out]) rfl ?_
    refine ⟨?_, by rw [hzz.out]⟩
    have hB2 := B2.out
    have hsz2 : w.heap.size ≤ w2.heap.size := hB2.size
    go_grown
  · rw [if_neg c5]
    have c5' : (512 : Int) < (Z : Int) := by omega
    go_enter Tryd.func49, Tryd.ntmps49
    go_wp2_with fail
    go_quiet ((go_at_call 80; exact Calls.quiet_of_same ((hu _).mono fun e w' ⟨h1, h2⟩ => ⟨h1, h2.symm⟩)))
    go_wp2_with fail
    refine (HS.out _).mono ?_
    rintro e w2 ⟨z5, z6, z7, rfl, b2, hz⟩
    have hzz := hide hz
    have hbl : Blk w2 w.heap.size 24 #[.int .i64 0, .int .i64 0, .int .i64 0, .int .i64 0, .int .i64 0, .int .i64 0, .int .i64 0, .int .i64 0] := Blk.below' (Blk.drewN (Blk.new w _ _) _) b2
    have B2 : Hid (Below w.heap.size w w2) := (below_drewN ((Below.refl _ w).alloc (Nat.le_refl _) _) _).trans (b2.mono (by simp))
    have f0 : ∀ o, (w2.alloc o).cell? ⟨w.heap.size, 0, none⟩ = some (.int .i64 0) := fun o => (hbl.alloc o).cell 0
    have g0 := fun o => (hbl.alloc o).frozen 0
    have f1 : ∀ o, (w2.alloc o).cell? ⟨w.heap.size, 1, none⟩ = some (.int .i64 0) := fun o => (hbl.alloc o).cell 1
    have g1 := fun o => (hbl.alloc o).frozen 1
    have f2 : ∀ o, (w2.alloc o).cell? ⟨w.heap.size, 2, none⟩ = some (.int .i64 0) := fun o => (hbl.alloc o).cell 2
    have g2 := fun o => (hbl.alloc o).frozen 2
    have f3 : ∀ o, (w2.alloc o).cell? ⟨w.heap.size, 3, none⟩ = some (.int .i64 0) := fun o => (hbl.alloc o).cell 3
    have g3 := fun o => (hbl.alloc o).frozen 3
    have f4 : ∀ o, (w2.alloc o).cell? ⟨w.heap.size, 4, none⟩ = some (.int .i64 0) := fun o => (hbl.alloc o).cell 4
    have g4 := fun o => (hbl.alloc o).frozen 4
    have f5 : ∀ o, (w2.alloc o).cell? ⟨w.heap.size, 5, none⟩ = some (.int .i64 0) := fun o => (hbl.alloc o).cell 5
    have g5 := fun o => (hbl.alloc o).frozen 5
    have f6 : ∀ o, (w2.alloc o).cell? ⟨w.heap.size, 6, none⟩ = some (.int .i64 0) := fun o => (hbl.alloc o).cell 6
    have g6 := fun o => (hbl.alloc o).frozen 6
    have f7 : ∀ o, (w2.alloc o).cell? ⟨w.heap.size, 7, none⟩ = some (.int .i64 0) := fun o => (hbl.alloc o).cell 7
    have g7 := fun o => (hbl.alloc o).frozen 7
    have hc : ∀ o, _ := fun o => set8_cells (hbl.alloc o) (.int .i64 0) (.int .i64 0) (.int .i64 0) (.int .i64 0) (.int .i64 0) (.int .i64 0) (.int .i64 0) (.int .i64 0)
    unfold set8 at hc
    have HC := hide hc
    clear hc
    clear hz hbl b2
    go_wp2
    try simp only [Exit.inBlock, Exit.then]
    refine bodyPost_ret (v := .tuple #[.agg #[.int .i64 0, .int .i64 0, .int .i64 0, .int .i64 0, .int .i64 0, .int .i64 0, .int .i64 0, .int .i64 0], .int .i64 92]) (by simp [results, Tryd.results49, go_sem, HC.out]) rfl ?_
    refine ⟨?_, rfl⟩
    have hB2 := B2.out
    have hsz2 : w.heap.size ≤ w2.heap.size := hB2.size
    go_grown
end Go.Proofs.YtdohebhbiokljaaDoor

/- The contract of the program's Again at whatever numbers, and of Check. -/
namespace Go.Proofs.YtdohebhbiokljaaDoor
open Go.RowKit

instance (k n seg size : Int) : Decidable (agOK k n seg size) := by unfold agOK; infer_instance

theorem again_any (k n seg size : Int) (w : World) (hk : -9223372036854775808 ≤ k ∧ k ≤ 9223372036854775807) (hn : -9223372036854775808 ≤ n ∧ n ≤ 9223372036854775807) (hs : -9223372036854775808 ≤ seg ∧ seg ≤ 9223372036854775807) (hz : -9223372036854775808 ≤ size ∧ size ≤ 9223372036854775807) :
    Calls Tryd.prog 49 #[.int .i64 k, .int .i64 n, .int .i64 seg, .int .i64 size] w fun e w' => Below w.heap.size w w' ∧
      e = .returned (if agOK k n seg size then .tuple #[shapeV k.toNat n.toNat seg.toNat size.toNat, .int .i64 0] else .tuple #[zeroShape, .int .i64 92]) := by
  by_cases h : 1 ≤ n ∧ n ≤ 255 ∧ 1 ≤ k ∧ k ≤ n ∧ 1 ≤ seg
  · obtain ⟨k, rfl⟩ : ∃ k' : Nat, k = (k' : Int) := ⟨k.toNat, by omega⟩
    obtain ⟨n, rfl⟩ : ∃ k' : Nat, n = (k' : Int) := ⟨n.toNat, by omega⟩
    obtain ⟨seg, rfl⟩ : ∃ k' : Nat, seg = (k' : Int) := ⟨seg.toNat, by omega⟩
    have hh : 1 ≤ n ∧ n ≤ 255 ∧ 1 ≤ k ∧ k ≤ n ∧ 1 ≤ seg := by omega
    have e1 : (seg : Int) % (k : Int) = ((seg % k : Nat) : Int) := rfl
    have e2 : (seg : Int) / (k : Int) = ((seg / k : Nat) : Int) := rfl
    by_cases hok : seg % k = 0 ∧ seg / k ≤ upN 65536 k ∧ 32 < size ∧ size ≤ 16777216
    · obtain ⟨z, rfl⟩ : ∃ k' : Nat, size = (k' : Int) := ⟨size.toNat, by omega⟩
      refine (again_shape k n seg z w hh (by omega)).mono ?_
      rintro e w' ⟨h1, h2⟩
      refine ⟨h1, ?_⟩
      rw [h2]
      have hag : agOK k n seg z ↔ upN z seg ≤ 512 := by
        unfold agOK
        simp only [Int.toNat_natCast]
        rw [e1, e2]
        omega
      by_cases h5 : upN z seg ≤ 512
      · rw [if_pos h5, if_pos (hag.2 h5)]; simp
      · rw [if_neg h5, if_neg (fun h => h5 (hag.1 h))]
    · refine (again_late k n seg size w hh (by omega) hz hok).mono ?_
      rintro e w' ⟨h1, h2⟩
      refine ⟨h1, ?_⟩
      rw [h2, if_neg]
      intro hag
      unfold agOK at hag
      simp only [Int.toNat_natCast] at hag
      rw [e1, e2] at hag
      omega
  · refine (again_early k n seg size w h).mono ?_
    rintro e w' ⟨h1, h2⟩
    refine ⟨h1, ?_⟩
    rw [h2, if_neg (fun hag => h hag.1)]

/-- A Ueb's value. -/
def uebC (k n seg size : Int) (d : List Value) : Array Value := (.int .i64 k :: .int .i64 n :: .int .i64 seg :: .int .i64 size :: d).toArray


set_option maxRecDepth 100000 in
set_option maxHeartbeats 1000000 in
theorem check_any_ueb (k n seg size : Int) (d : List Value) (w : World) (hk : -9223372036854775808 ≤ k ∧ k ≤ 9223372036854775807) (hn : -9223372036854775808 ≤ n ∧ n ≤ 9223372036854775807) (hs : -9223372036854775808 ≤ seg ∧ seg ≤ 9223372036854775807) (hz : -9223372036854775808 ≤ size ∧ size ≤ 9223372036854775807) :
    Calls Tryd.prog 20 #[.agg (uebC k n seg size d)] w fun e w' => Below w.heap.size w w' ∧ e = .returned (.int .i64 (if agOK k n seg size then 0 else 133)) := by
  have q := fun w => again_any k n seg size w hk hn hs hz
  have f0 : (uebC k n seg size d)[0]? = some (.int .i64 k) := rfl
  have f1 : (uebC k n seg size d)[1]? = some (.int .i64 n) := rfl
  have f2 : (uebC k n seg size d)[2]? = some (.int .i64 seg) := rfl
  have f3 : (uebC k n seg size d)[3]? = some (.int .i64 size) := rfl
  have hal := (Below.refl w.heap.size w).alloc (Nat.le_refl _) (.cells (uebC k n seg size d) 37)
  have Q := hide q
  have HAL := hide hal
  clear q hal
  generalize uebC k n seg size d = cs at *
  by_cases hag : agOK k n seg size
  · rw [if_pos hag]
    have HQ : Hid (∀ w, Calls Tryd.prog 49 #[.int .i64 k, .int .i64 n, .int .i64 seg, .int .i64 size] w fun e w' => Below w.heap.size w w' ∧ e = .returned (.tuple #[shapeV k.toNat n.toNat seg.toNat size.toNat, .int .i64 0])) := fun w => by have := Q.out w; rwa [if_pos hag] at this
    unfold shapeV at HQ
    clear Q
    go_enter Tryd.func20, Tryd.ntmps20
    go_wp2_with fail
    refine (HQ.out _).mono ?_
    rintro e w1 ⟨b1, rfl⟩
    have B1 := hide (HAL.out.trans (b1.mono HAL.out.size))
    clear b1 HQ
    go_wp2
    go_ret
    refine ⟨?_, rfl⟩
    have := B1.out
    have := B1.out.size
    go_grown
  · rw [if_neg hag]
    have HQ : Hid (∀ w, Calls Tryd.prog 49 #[.int .i64 k, .int .i64 n, .int .i64 seg, .int .i64 size] w fun e w' => Below w.heap.size w w' ∧ e = .returned (.tuple #[zeroShape, .int .i64 92])) := fun w => by have := Q.out w; rwa [if_neg hag] at this
    unfold zeroShape at HQ
    clear Q
    go_enter Tryd.func20, Tryd.ntmps20
    go_wp2_with fail
    refine (HQ.out _).mono ?_
    rintro e w1 ⟨b1, rfl⟩
    have B1 := hide (HAL.out.trans (b1.mono HAL.out.size))
    clear b1 HQ
    go_wp2
    go_ret
    refine ⟨?_, rfl⟩
    have := B1.out
    have := B1.out.size
    go_grown
end Go.Proofs.YtdohebhbiokljaaDoor
