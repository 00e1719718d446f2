import Derived.Test.YtdohebhbiokljaaGreatDoorJ5
import Derived.Test.YtdohebhbiokljaaGreatDoorJ4
import Derived.Test.YtdohebhbiokljaaGreatDoorJ1
import Derived.Laws.Cover1
import Derived.BigQuiet
import Derived.Deep.QuietTactic
import Derived.Deep.RegionHeld
import Derived.Deep.MidRow
import Derived.Laws.Cover3
import Derived.Stop.BytesEq
import Derived.RangeFuncBox
import Derived.RangeFuncLeaves
import Derived.Shelf.Abstract
import Derived.WalkKit
import Derived.OwnWalkIn
import Derived.TacticsInMore
import Derived.LoopNIn
import Derived.LoopIn
import Derived.Maps.AppendAt
set_option linter.all false
namespace Go.Proofs.YtdohebhbiokljaaGreatDoor
open Go.RowKit
attribute [local go_sem ↓] Go.wp_at_zero Go.wp_at_succ
theorem idx_tw (l : List UInt8) : Lib.indexByte l 58 = if (l.takeWhile (· != 58)).length < l.length then ((l.takeWhile (· != 58)).length : Int) else -1 := by
 induction l with
 | nil => rfl
 | cons b l ih =>
  rw [Lib.indexByte]
  by_cases h : b = 58
  ·subst h
   simp
  ·have h1 : (b == 58) = false := beq_eq_false_iff_ne.2 h
   have h2 : (b != 58) = true := by simp [h]
   rw [h1, ih, List.takeWhile_cons, if_pos h2]
   simp only [Bool.false_eq_true, if_false, List.length_cons]
   generalize (l.takeWhile (· != 58)).length = t
   by_cases h3 : t < l.length
   ·have h4 : t + 1 < l.length + 1 := by omega
    have h5 : ¬ (((t : Int) == -1) = true) := by rw [beq_iff_eq]; omega
    rw [if_pos h3, if_pos h4, if_neg h5]
    simp
   ·have h4 : ¬ t + 1 < l.length + 1 := by omega
    simp [h3]
theorem tw_take (l : List UInt8) (n : Nat) : ((l.take n).takeWhile (· != 58)).length = min n (l.takeWhile (· != 58)).length := by
 induction l generalizing n with
 | nil => simp
 | cons b l ih =>
  cases n with
  | zero => simp
  | succ n =>
   rw [List.take_succ_cons, List.takeWhile_cons, List.takeWhile_cons]
   split
   ·simp only [List.length_cons, ih]; omega
   ·simp
theorem tw_len (l : List UInt8) : (l.takeWhile (· != 58)).length ≤ l.length := by
 induction l with
 | nil => simp
 | cons b l ih => rw [List.takeWhile_cons]; split <;> simp <;> omega
theorem tw_eq (l : List UInt8) : l.take (l.takeWhile (· != 58)).length = l.takeWhile (· != 58) := by
 induction l with
 | nil => simp
 | cons b l ih => rw [List.takeWhile_cons]; split <;> simp [ih]
theorem tw_at (l : List UInt8) (h : (l.takeWhile (· != 58)).length < l.length) : l.drop (l.takeWhile (· != 58)).length = 58 :: l.drop ((l.takeWhile (· != 58)).length + 1) := by
 induction l with
 | nil => simp at h
 | cons b l ih =>
  rw [List.takeWhile_cons] at h ⊢
  split
  ·rename_i hb
   rw [if_pos hb] at h
   simp only [List.length_cons] at h ⊢
   rw [List.drop_succ_cons, List.drop_succ_cons]
   exact ih (by omega)
  ·rename_i hb
   have hb : b = 58 := by simpa using hb
   rw [hb]; rfl
theorem By.sub {w : World} {g o c : Nat} {l : List UInt8} (h : By w (.slice (some ⟨g, o, none⟩) l.length c) l) (i j c' : Nat) (hij : i + j ≤ l.length) (hc' : j ≤ c') (hm : c' ≤ maxLen) :
  By w (.slice (some ⟨g, o + i, none⟩) j c') ((l.drop i).take j) := by
 obtain ⟨h0, A, c0, hv, hc0, hm0, hcell⟩ := h
 injection hv with e1 e2 e3
 have hlen : ((l.drop i).take j).length = j := by rw [List.length_take, List.length_drop]; omega
 refine ⟨by simp, _, c', by rw [hlen], by rw [hlen]; exact hc', hm, fun hp => ?_⟩
 rw [hlen] at hp
 obtain ⟨b, o2, hA, hb, hcs⟩ := hcell (by omega)
 rw [← e1] at hA
 cases hA
 refine ⟨g, o + i, rfl, hb, fun q hq => ?_⟩
 rw [hlen] at hq
 rw [Nat.add_assoc, hcs (i + q) (by omega), bcells_get, bcells_get, List.getElem?_take_of_lt (by omega), List.getElem?_drop]
theorem by_ints {w : World} {g o n c : Nat} {l : List UInt8} (h : By w (.slice (some ⟨g, o, none⟩) n c) l) : ∀ i, i < n → w.cell? ⟨g, o + i, none⟩ = some (.int .u8 ((l.map fun x => (x.toNat : Int)).getD i 0)) := by
 obtain ⟨h0, A, c0, hv, hc0, hm0, hcell⟩ := h
 injection hv with e1 e2 e3
 subst e2
 intro i hi
 obtain ⟨b, o2, hA, hb, hcs⟩ := hcell (by omega)
 rw [← e1] at hA
 cases hA
 rw [hcs i (by omega), bcells_get]
 simp [List.getD, List.getElem?_eq_getElem hi]
theorem bytesOf_map (l : List UInt8) : Lib.bytesOf (l.map fun x => (x.toNat : Int)) = l := by
 unfold Lib.bytesOf
 rw [List.map_map]
 conv => rhs; rw [← List.map_id l]
 apply List.map_congr_left
 intro x _
 simp
theorem takeF_no {b : List UInt8} {most : Nat} (h : ¬ ((b.takeWhile (· != 58)).length < 7 ∧ (b.takeWhile (· != 58)).length < b.length)) : takeF b most = none := by
 unfold takeF
 split
 ·rfl
 ·rw [List.drop_of_length_le (by omega)]
theorem takeF_yes {b : List UInt8} {most p : Nat} (hp : p = (b.takeWhile (· != 58)).length) (h : p < 7 ∧ p < b.length) :
  takeF b most = match rd (b.take p) (most : Int) with
   | none => none
   | some n => if (b.drop (p + 1))[n]? = some 44 then some ((b.drop (p + 1)).take n, (b.drop (p + 1)).drop (n + 1)) else none := by
 subst hp
 unfold takeF
 rw [if_neg (by omega), tw_at b h.2, tw_eq]
 rfl
set_option maxRecDepth 100000 in
set_option maxHeartbeats 2000000 in
theorem taken_any (g o c : Nat) (b : List UInt8) (most : Nat) (w : World) (h : By w (.slice (some ⟨g, o, none⟩) b.length c) b) (hm : most ≤ 65536) (ht : Tab w) (he : Err w) :
  Calls Tryz.prog 104 #[.slice (some ⟨g, o, none⟩) b.length c, .int .i64 (most : Int)] w fun e w' => Below w.heap.size w w' ∧
   ((takeF b most = none ∧ e = .returned (.tuple #[.slice none 0 0, .slice none 0 0, .bool false])) ∨
    (∃ x r g1 n1 c1 o2 c2, takeF b most = some (x, r) ∧ e = .returned (.tuple #[.slice g1 n1 c1, .slice (some ⟨g, o2, none⟩) r.length c2, .bool true]) ∧ Own w' w.heap.size 5 (.slice g1 n1 c1) x ∧ By w' (.slice (some ⟨g, o2, none⟩) r.length c2) r)) := by
 have HB := hide h
 obtain ⟨A0, c0, hv, hc, hcm, _⟩ := h.form
 injection hv with hA0 _ hcc
 subst hcc
 subst hA0
 unfold maxLen at hcm
 have hpl := tw_len b
 obtain ⟨p, hp⟩ : ∃ p, p = (b.takeWhile (· != 58)).length := ⟨_, rfl⟩
 have hidx : Lib.indexByte (b.take (min b.length 7)) 58 = if p < 7 ∧ p < b.length then (p : Int) else -1 := by
  rw [idx_tw, tw_take, List.length_take, ← hp]
  by_cases h1 : p < 7 ∧ p < b.length
  ·rw [if_pos h1, if_pos (by omega)]; omega
  ·rw [if_neg h1, if_neg (by omega)]
 have hsub := HB.out.sub 0 (min b.length 7) c (by omega) (by omega) (by unfold maxLen; omega)
 rw [List.drop_zero, Nat.add_zero] at hsub
 have q1 := Tryz.bytes_IndexByte g o (min b.length 7) c ((b.take (min b.length 7)).map fun x => (x.toNat : Int)) 58 w (by simp) (by_ints hsub)
 rw [bytesOf_map] at q1
 have e58 : (58 : Int).toNat.toUInt8 = 58 := rfl
 rw [e58, hidx] at q1
 have Q1 := hide q1
 have HP := hide hp
 have hm1 : ((min b.length 7 : Nat) : Int) ≤ (c : Int) := by omega
 have hm0 : (0 : Int) ≤ ((min b.length 7 : Nat) : Int) := by omega
 clear h hidx hsub q1 hp
 by_cases hpp : p < 7 ∧ p < b.length
 ·have Q2 := Q1.out
  rw [if_pos hpp] at Q2
  have Q2 := hide Q2
  have hno := takeF_yes (most := most) HP.out hpp
  have HN := hide hno
  have hsp := HB.out.sub 0 p c (by omega) (by omega) (by unfold maxLen; omega)
  rw [List.drop_zero, Nat.add_zero] at hsp
  obtain ⟨s, hs, hr⟩ := run_str (P := Tryz.prog) (w := w) (v := .slice (some ⟨g, o, none⟩) p c) (l := b.take p) hsp 34 9 5 Tryz.underlying34 Tryz.underlying5 Tryz.underlying9
  have hls : lst s = b.take p := hs
  have hss : s.size ≤ 7 := by rw [← lst_len, hls, List.length_take]; omega
  have q3 := bread_any s (most : Int) w (by omega) ⟨by omega, by omega⟩ ht he
  rw [hls] at q3
  have Q3 := hide q3
  have k1 : decide ((p : Int) < 0) = false := decide_eq_false (by omega)
  have k2 : (0 : Int) ≤ (p : Int) := by omega
  have k3 : (p : Int) ≤ (c : Int) := by omega
  have k4 : (p : Int) < (b.length : Int) := by omega
  have k5 : (p : Int) + 1 ≤ (b.length : Int) := by omega
  have k6 : (0 : Int) ≤ (p : Int) + 1 := by omega
  have k7 : ((p : Int) + 1).toNat = p + 1 := by omega
  have k8 : (b.length : Int) ≤ (c : Int) := by omega
  have hrest := HB.out.sub (p + 1) (b.length - (p + 1)) (c - (p + 1)) (by omega) (by omega) (by unfold maxLen; omega)
  rw [List.take_of_length_le (by simp)] at hrest
  have HR := hide hrest
  clear Q1 hno hsp hs hls q3 hrest ht he
  go_enter Tryz.func104, Tryz.ntmps104
  go_wp2_with fail
  rw [show (min (b.length : Int) 7).toNat = min b.length 7 by omega]
  refine Q2.out.mono ?_
  rintro e w' ⟨rfl, hww⟩
  obtain rfl : w = w' := hww.symm
  clear Q2
  go_wp2_with fail
  refine Q3.out.mono ?_
  rintro e w1 ⟨rfl, b1⟩
  have B1 := hide b1
  clear b1 Q3
  rcases hrd : rd (b.take p) (most : Int) with _ | n
  ·have hn : rdN (b.take p) (most : Int) = 0 := by unfold rdN; rw [hrd]
   have he : rdE (b.take p) (most : Int) = 102 := by unfold rdE; rw [hrd]
   rw [hn, he]
   go_wp2_with fail
   all_goals
    go_ret3
    refine ⟨B1.out, .inl ⟨?_, rfl⟩⟩
    rw [HN.out, hrd]
  ·have hn : rdN (b.take p) (most : Int) = (n : Int) := by unfold rdN; rw [hrd]
   have he : rdE (b.take p) (most : Int) = 0 := by unfold rdE; rw [hrd]
   rw [hn, he]
   have hnm := (rd_some hrd (by omega)).2.1
   have HRD := hide hrd
   clear hrd hn he
   by_cases hlt : n < b.length - (p + 1)
   ·have j1 : decide (((b.length - (p + 1) : Nat) : Int) < (n : Int) + 1) = false := decide_eq_false (by omega)
    obtain ⟨y, hy⟩ : ∃ y, (b.drop (p + 1))[n]? = some y := ⟨_, List.getElem?_eq_getElem (by simp; omega)⟩
    have hcy : w1.cell? ⟨g, o + (p + 1) + n, none⟩ = some (.int .u8 (y.toNat : Int)) := by
     obtain ⟨A4, c4, hv4, hc4, hm4, hcell⟩ := (HR.out.below B1.out).form
     injection hv4 with hA4 _ _
     obtain ⟨g4, o4, hgo, _, hcy⟩ := hcell n y hy
     rw [← hA4] at hgo
     cases hgo
     exact hcy
    have j2 : (n : Int) < ((b.length - (p + 1) : Nat) : Int) := by omega
    have j3 : (0 : Int) ≤ (n : Int) := by omega
    have j4 : ¬ c = p + 1 := by omega
    have j5 : c ≠ p + 1 := by omega
    have HY := hide hy
    clear hy
    by_cases h44 : y = 44
    ·have g4 : ((y.toNat : Int) == 44) = true := by rw [h44]; rfl
     have HY4 := hide h44
     have hcn := h44
     clear h44 hcn
     have hn6 : (n : Int) ≤ 65536 := by omega
     have j6 : (n : Int) ≤ ((c - (p + 1) : Nat) : Int) := by omega
     have j7 : (n : Int) + 1 ≤ ((b.length - (p + 1) : Nat) : Int) := by omega
     have j8 : (0 : Int) ≤ (n : Int) + 1 := by omega
     have j9 : ((n : Int) + 1).toNat = n + 1 := by omega
     have j10 : ((b.length - (p + 1) : Nat) : Int) ≤ ((c - (p + 1) : Nat) : Int) := by omega
     have jw : IntKind.i64.wrap ((n : Int) + 1) = (n : Int) + 1 := IntWalk.i64_in _ (by omega)
     have hsubl : (b.drop (p + 1)).length = b.length - (p + 1) := by simp
     have HC : Hid (∀ W, Below w1.heap.size w1 W → Calls Tryz.prog 41 #[.slice (some ⟨g, o + (p + 1), none⟩) n (c - (p + 1))] W fun e w' => ∃ A k c', e = .returned (.slice A k c') ∧ Own w' w.heap.size 5 (.slice A k c') ((b.drop (p + 1)).take n) ∧ Below w1.heap.size w1 w') := fun W hW => by
      have hb1 := (HR.out.below B1.out).below hW
      rw [← hsubl] at hb1
      have hb2 := hb1.sub 0 n (c - (p + 1)) (by omega) (by omega) (by unfold maxLen; omega)
      rw [List.drop_zero, Nat.add_zero] at hb2
      have hl : ((b.drop (p + 1)).take n).length = n := by rw [List.length_take]; omega
      have q := Tryz.bytes_Clone_at ⟨g, o + (p + 1), none⟩ n (c - (p + 1)) (((b.drop (p + 1)).take n).map fun x => (x.toNat : Int)) W (by simp; omega) (by omega) (fun i hi => by
       have ea : (⟨g, o + (p + 1), none⟩ : Addr).add i = ⟨g, o + (p + 1) + i, none⟩ := by simp [Addr.add]
       rw [ea]
       exact by_ints hb2 i hi)
      refine q.mono ?_
      rintro e w' ⟨v', he, ho, -, hbl⟩
      have hb3 : Own w' W.heap.size 5 v' ((b.drop (p + 1)).take n) := by
       unfold Own
       rw [hl]
       have : (((b.drop (p + 1)).take n).map fun x => (x.toNat : Int)).map (Value.int .u8) = bcells ((b.drop (p + 1)).take n) := by rw [List.map_map]; rfl
       rw [← this]
       exact ho
      obtain ⟨A, c', rfl, _⟩ := hb3.by_.form
      exact ⟨_, _, _, he, hb3.base (Nat.le_trans B1.out.size hW.size), hW.trans (hbl.mono hW.size)⟩
     clear hsubl
     by_cases hcap : c - (p + 1) = n + 1
     ·have hb0 : ((b.drop (p + 1)).drop (n + 1)).length = 0 := by simp; omega
      have HB0 := hide (List.eq_nil_of_length_eq_zero hb0)
      have hlr : ((b.drop (p + 1)).drop (n + 1)).length = b.length - (p + 1) - (n + 1) := by simp; omega
      have HLR := hide hlr
      rw [hcap] at HC
      clear hb0 hlr
      go_wp2_with fail
      go_region_held (fun _ => True) (trivial)
       ((go_at_call 41; (with_reducible refine (HC.out _ ?bb).mono ?_); (case bb => (repeat (first | with_reducible exact Below.refl _ _ | with_reducible refine Below.drew ?_))); rintro e w2 ⟨A5, n5, c5, rfl, o5, q5⟩))
      all_goals
       go_wp2
       go_ret3
       refine ⟨B1.out.trans (q5.mono B1.out.size), .inr ⟨_, (b.drop (p + 1)).drop (n + 1), _, _, _, _, _, ?_, by rw [HLR.out]; rfl, o5, ?_⟩⟩
       ·rw [HN.out, HRD.out]
        simp only
        rw [HY.out, HY4.out, if_pos rfl]
       ·rw [HB0.out]
        exact ⟨rfl, _, 0, rfl, Nat.le_refl _, by simp [maxLen], fun h => absurd h (by simp)⟩
     ·have hcap2 : ¬ n + 1 = c - (p + 1) := fun h => hcap h.symm
      have hlr : ((b.drop (p + 1)).drop (n + 1)).length = b.length - (p + 1) - (n + 1) := by simp; omega
      have HLR := hide hlr
      clear hlr
      go_wp2_with fail
      go_region_held (fun _ => True) (trivial)
       ((go_at_call 41; (with_reducible refine (HC.out _ ?bb).mono ?_); (case bb => (repeat (first | with_reducible exact Below.refl _ _ | with_reducible refine Below.drew ?_))); rintro e w2 ⟨A5, n5, c5, rfl, o5, q5⟩))
      all_goals
       go_wp2
       go_ret3
       refine ⟨B1.out.trans (q5.mono B1.out.size), .inr ⟨_, (b.drop (p + 1)).drop (n + 1), _, _, _, _, _, ?_, by rw [HLR.out]; rfl, o5, ?_⟩⟩
       ·rw [HN.out, HRD.out]
        simp only
        rw [HY.out, HY4.out, if_pos rfl]
       ·have hb1 := (HR.out.below B1.out).below q5
        have hsubl : (b.drop (p + 1)).length = b.length - (p + 1) := by simp
        rw [← hsubl] at hb1
        have hb2 := hb1.sub (n + 1) ((b.drop (p + 1)).length - (n + 1)) (c - (p + 1) - (n + 1)) (by omega) (by omega) (by unfold maxLen; omega)
        rw [List.take_of_length_le (by rw [List.length_drop]; exact Nat.le_refl _)] at hb2
        rw [HLR.out, ← hsubl]
        exact hb2
    ·have g4 : ((y.toNat : Int) == 44) = false := by
      rw [beq_eq_false_iff_ne]
      intro h
      exact h44 (UInt8.toNat_inj.1 (by simpa using (by omega : y.toNat = 44)))
     have HY4 := hide h44
     clear h44
     go_wp2_with fail
     go_ret3
     refine ⟨B1.out, .inl ⟨?_, rfl⟩⟩
     rw [HN.out, HRD.out]
     simp only
     rw [HY.out, if_neg]
     intro h
     injection h with h
     exact HY4.out h
   ·have j1 : decide (((b.length - (p + 1) : Nat) : Int) < (n : Int) + 1) = true := decide_eq_true (by omega)
    go_wp2_with fail
    all_goals
     go_ret3
     refine ⟨B1.out, .inl ⟨?_, rfl⟩⟩
     rw [HN.out, HRD.out]
     simp only
     rw [if_neg]
     rw [List.getElem?_eq_none (by simp; omega)]
     simp
 ·have Q2 := Q1.out
  rw [if_neg hpp] at Q2
  have Q2 := hide Q2
  have hno := takeF_no (b := b) (most := most) (by rw [← HP.out]; exact hpp)
  have HN := hide hno
  clear Q1 hpp hno
  go_enter Tryz.func104, Tryz.ntmps104
  go_wp2_with fail
  rw [show (min (b.length : Int) 7).toNat = min b.length 7 by omega]
  refine Q2.out.mono ?_
  rintro e w' ⟨rfl, rfl⟩
  go_wp2_with fail
  go_ret3
  exact ⟨Below.refl _ _, .inl ⟨HN.out, rfl⟩⟩
end Go.Proofs.YtdohebhbiokljaaGreatDoor
namespace Go.Proofs.YtdohebhbiokljaaGreatDoor
open Go.RowKit
theorem wpList_push2 {P : Program} {t e : TypeId} {i : TypeInfo} {z : Value} {bytes : Nat} (ht : P.underlying t = some (.slice e)) (hi : P.info? e = some i) (hz : i.zero = some z) (hs : i.size = 2) (hby : i.bytes = bytes) (hzs : z.cells.size = 2)
  {w : World} {base : Nat} {v : Value} {n : Nat} {xs : List Value} (hown : w.ownsRow base e 2 v n xs)
  {w0 : World} (hb : Below base w0 w) (hbase : base ≤ w.heap.size) (c1 c2 : Value) (h1 : c1.oneCell' = true) (h2 : c2.oneCell' = true) (hn : n + 1 ≤ maxLen) (hbytes : (n + 1) * bytes ≤ 140737488355328)
  {ops : Array Oper} {rest : List Oper} {o : Oper} {a : Act} {Q : Exit → Act → World → Prop} (hgd : o.guard = none) (s y : Operand)
  (ho : o.op = .call { callee := .builtin .append, args := #[s, y], argTypes := #[t, t] }) (hs' : a.eval s = v) (hx : a.eval y = .slice (some ⟨w.heap.size, 0, none⟩) 1 1)
  (h : ∀ v' w', w'.ownsRow base e 2 v' (n + 1) (xs ++ [c1, c2]) → Below base w0 w' → w.grownBy w' v.ownBlock → wpList P ops Q rest (a.put o.dst v') w') :
  wpList P ops Q (o :: rest) a (w.alloc (.cells #[c1, c2] e)) := by
 refine wpList_plain hgd fun K hK => ?_
 have hn1 : ∀ j u, [c1, c2][j]? = some u → (w.alloc (.cells #[c1, c2] e)).cell? ((⟨w.heap.size, 0, none⟩ : Addr).add j) = some u :=
  World.news_of_block (w := w.alloc (.cells #[c1, c2] e)) (B := w.heap.size) (cs := #[c1, c2]) (t := e) (fr := (0, 0)) (heap_alloc_new w _)
 obtain ⟨v', w', hrun, h3, h4, _, h6⟩ := run_append_own_at (P := P) (w.alloc (.cells #[c1, c2] e)) base t o.type e i z 2 bytes ht hi hz hs hby hzs (by omega) v n xs (hown.alloc _) ⟨w.heap.size, 0, none⟩ 1 1 [c1, c2] (by simp) hn1 (fun u hu => by
  simp only [List.mem_cons, List.mem_nil_iff, or_false] at hu
  rcases hu with rfl | rfl
  ·exact h1
  ·exact h2) hn hbytes (by simp; omega)
 have gb : w.grownBy w' v.ownBlock := ⟨h4.os, h4.tape, h4.output, Nat.le_trans (by simp) h4.size, fun k hk hne => (h4.block k (by simp; omega) hne).trans (Below.heap_alloc w _ k hk)⟩
 unfold Oper.wp execOp
 simp only [ho, resolve, invoke, builtin, Sem.run_bind, Sem.run_pure, Result.andThen_ok, List.map_toArray, List.map_cons, List.map_nil, hs', hx, hrun]
 exact hK _ _ (h v' w' h3 (hb.grown gb hbase fun k hk => (hown.lt k hk).1) gb)
theorem Tryz.infoRow : ((Tryz.prog.info? 94).map fun i => (i.zero, i.size, i.bytes)) = some (some (.agg #[.string ByteArray.empty, .slice none 0 0]), 2, 40) := by kernel_rfl
def OwnR (w : World) (base : Nat) (v : Value) (L : List RowV) : Prop := w.ownsRow base 94 2 v L.length (rcells L) ∧ ∀ x ∈ L, Own w base 5 x.2.1 x.2.2
theorem OwnR.rws_ {w : World} {base : Nat} {v : Value} {L : List RowV} (h : OwnR w base v L) : Rws w v L := ⟨Sl.of_own h.1, fun x hx => (h.2 x hx).by_⟩
theorem OwnR.nil (w : World) (base : Nat) : OwnR w base (.slice none 0 0) [] := ⟨World.ownsRow_nil w base _ 2, fun x hx => by cases hx⟩
theorem OwnR.below {w w' : World} {base : Nat} {v : Value} {L : List RowV} (h : OwnR w base v L) (hb : Below w.heap.size w w') : OwnR w' base v L := ⟨own_below' h.1 hb, fun x hx => (h.2 x hx).below hb⟩
theorem own_ne {w : World} {b1 b2 : Nat} {e1 e2 : TypeId} {s1 s2 : Nat} {v1 v2 : Value} {n1 n2 : Nat} {x1 x2 : List Value} (h1 : w.ownsRow b1 e1 s1 v1 n1 x1) (h2 : w.ownsRow b2 e2 s2 v2 n2 x2) (hne : e1 ≠ e2) : ∀ g, v1.ownBlock = some g → v2.ownBlock ≠ some g := by
 intro g hg hg2
 obtain ⟨_, ⟨rfl, _⟩ | ⟨g1, c1, cur1, rfl, _, hh1, _⟩⟩ := h1
 ·cases hg
 ·obtain ⟨_, ⟨rfl, _⟩ | ⟨g2, c2, cur2, rfl, _, hh2, _⟩⟩ := h2
  ·cases hg2
  ·cases hg
   cases hg2
   rw [hh1] at hh2
   injection hh2 with hh2
   injection hh2 with _ he _
   exact hne he
theorem own_grown {w w' : World} {base : Nat} {e : TypeId} {sz : Nat} {v : Value} {n : Nat} {xs : List Value} (h : w.ownsRow base e sz v n xs) {row : Option Nat} (hg : w.grownBy w' row) (hne : ∀ g, v.ownBlock = some g → row ≠ some g) : w'.ownsRow base e sz v n xs := by
 have hlt := own_lt h
 obtain ⟨h1, h2 | ⟨g, cap, cur, hv, hg', hh, r⟩⟩ := h
 ·exact ⟨h1, .inl h2⟩
 ·subst hv
  exact ⟨h1, .inr ⟨g, cap, cur, rfl, hg', (hg.block g (hlt g rfl) (fun he => hne g rfl he.symm)).trans hh, r⟩⟩
theorem By.back {w w' : World} {g o n c : Nat} {l : List UInt8} (h : By w' (.slice (some ⟨g, o, none⟩) n c) l) (hb : Below w.heap.size w w') (hg : g < w.heap.size) : By w (.slice (some ⟨g, o, none⟩) n c) l := by
 obtain ⟨h0, A, c0, hv, hc, hm, hcell⟩ := h
 injection hv with e1 e2 e3
 subst e1 e2 e3
 refine ⟨h0, _, _, rfl, hc, hm, fun h1 => ?_⟩
 obtain ⟨b, o2, hA, _, hcs⟩ := hcell h1
 cases hA
 exact ⟨g, o, rfl, hg, fun j hj => (hb.cell (p := ⟨g, o + j, none⟩) hg).symm.trans (hcs j hj)⟩
def Apv (L : List RowV) : Prop := L.Pairwise fun a b => a.2.1.ownBlock = none ∨ a.2.1.ownBlock ≠ b.2.1.ownBlock
theorem Apv.snoc {L : List RowV} {x : RowV} (h : Apv L) {w1 w2 : World} {b1 : Nat} {t1 t2 : TypeId} (h1 : ∀ y ∈ L, Own w1 b1 t1 y.2.1 y.2.2) {b2 : Nat} (h2 : Own w2 b2 t2 x.2.1 x.2.2) (hb : w1.heap.size ≤ b2) : Apv (L ++ [x]) := by
 refine List.pairwise_append.2 ⟨h, List.pairwise_singleton _ _, fun a ha b hb' => ?_⟩
 simp only [List.mem_singleton] at hb'
 subst hb'
 rcases hg : a.2.1.ownBlock with _ | g
 ·exact .inl rfl
 ·refine .inr fun he => ?_
  have e1 := (World.ownsRow.lt (h1 a ha) g hg).2
  have e2 := (World.ownsRow.lt h2 g he.symm).1
  omega
set_option maxRecDepth 100000 in
set_option maxHeartbeats 4000000 in
theorem unpack_apt (v : Value) (b : List UInt8) (w : World) (h : By w v b) (hl : b.length ≤ 9223372036854775807) (ht : Tab w) (he : Err w) :
  Calls Tryz.prog 92 #[v] w fun e w' => Below w.heap.size w w' ∧
   ((∃ L v', unpack b = (rws L, 0, 0) ∧ e = .returned (.tuple #[v', .int .i64 0, .int .i64 0]) ∧ OwnR w' w.heap.size v' L ∧ Apv L) ∨
    (∃ p : Nat, unpack b = ([], p, 131) ∧ e = .returned (.tuple #[.slice none 0 0, .int .i64 (p : Int), .int .i64 131]))) := by
 obtain ⟨i0, hi0, hz0, hz1, hz2⟩ := info_parts Tryz.infoRow
 have HI := hide (And.intro hi0 (And.intro hz0 (And.intro hz1 hz2)))
 have HT := hide (And.intro ht he)
 have HV := hide h
 obtain ⟨A, c, rfl, hc, hm, _⟩ := h.form
 unfold maxLen at hm
 clear h ht he hi0 hz0 hz1 hz2
 go_enter Tryz.func92, Tryz.ntmps92
 go_wp2
 refine wp_scope_jumps 0 (fun _ _ => False) (fun _ _ => 0) rfl ?_ ?_
 rotate_left
 ·intro a w1 hf
  exact hf.elim
 go_wp2
 refine wp_label ?_
 go_wp2
 go_loopw [5, 6] (fun u5 u6 wr => ∃ (L : List RowV) (r : List UInt8) (A' : Option Addr) (c' : Nat), u6 = .slice A' r.length c' ∧ By w (.slice A' r.length c') r ∧ OwnR wr w.heap.size u5 L ∧ Apv L ∧ unp b.length [] b = unp b.length (rws L) r ∧ r.length ≤ b.length ∧ L.length ≤ 64 ∧ Below w.heap.size w wr) (fun _ u6 _ => match u6 with | .slice _ n _ => n | _ => 0)
 case atStart => exact ⟨[], b, A, c, rfl, HV.out, OwnR.nil _ _, List.Pairwise.nil, rfl, Nat.le_refl _, by simp, Below.refl _ _⟩
 case round =>
  obtain ⟨L, r, A', c', rfl, hr, hL, hap, hunp, hrb, hL64, hb⟩ := hrel
  have HAP := hide hap
  clear hap
  have HL := hide hL
  have HU := hide hunp
  have hr0 := hr
  obtain ⟨_, A2, c2, hv2, hc2, hm2, hcell⟩ := hr0
  injection hv2 with e1 _ e3
  subst e1 e3
  by_cases h0 : 0 < r.length
  ·obtain ⟨g, o, rfl, hgl, _⟩ := hcell h0
   have q1 : Calls Tryz.prog 104 #[.slice (some ⟨g, o, none⟩) r.length c', .int .i64 64] wr _ := taken_any g o c' r 64 wr (hr.below hb) (by omega) (HT.out.1.below hb) (HT.out.2.below hb)
   have Q1 := hide q1
   have h0d : decide ((0 : Int) < (r.length : Int)) = true := decide_eq_true (by omega)
   have hrb' : (r.length : Int) ≤ (b.length : Int) := by omega
   clear q1 hL hunp hr hcell
   go_wp2_with fail
   refine Q1.out.mono ?_
   rintro e w1 ⟨b1, ⟨ht1, rfl⟩ | ⟨x1, r1, G1, n1, c1, o2, d2, ht1, rfl, o1, y1⟩⟩
   ·have hR : takeR r = none := by unfold takeR; rw [ht1]
    clear Q1 ht1
    go_wp2_with fail
    simp only [Exit.jump]
    go_ret3
    refine ⟨hb.trans (b1.mono hb.size), .inr ⟨b.length - r.length, ?_, ?_⟩⟩
    ·unfold unpack
     rw [HU.out, unp_none h0 hR]
    ·rw [show ((b.length - r.length : Nat) : Int) = (b.length : Int) - (r.length : Int) by omega]
     rfl
   ·have B1 := hide b1
    have T1 := hide ht1
    have O1 := hide o1
    have hbw1 := hb.trans (b1.mono hb.size)
    have q2 : Calls Tryz.prog 104 #[.slice (some ⟨g, o2, none⟩) r1.length d2, .int .i64 65536] w1 _ := taken_any g o2 d2 r1 65536 w1 y1 (by omega) (HT.out.1.below hbw1) (HT.out.2.below hbw1)
    have Q2 := hide q2
    have HW1 := hide hbw1
    clear q2 Q1 b1 ht1 o1 hbw1 y1
    go_wp2_with fail
    refine Q2.out.mono ?_
    rintro e w2 ⟨b2, ⟨ht2, rfl⟩ | ⟨x2, r2, G2, n2, c3, o3, d3, ht2, rfl, ow2, y2⟩⟩
    ·have hR : takeR r = none := by
      unfold takeR
      rw [T1.out]
      simp only
      rw [ht2]
     clear Q2 ht2
     go_wp2_with fail
     simp only [Exit.jump]
     go_ret3
     refine ⟨HW1.out.trans (b2.mono HW1.out.size), .inr ⟨b.length - r.length, ?_, ?_⟩⟩
     ·unfold unpack
      rw [HU.out, unp_none h0 hR]
     ·rw [show ((b.length - r.length : Nat) : Int) = (b.length : Int) - (r.length : Int) by omega]
      rfl
    ·have hR : takeR r = some ((x1, x2), r2) := by
      unfold takeR
      rw [T1.out]
      simp only
      rw [ht2]
     have HR := hide hR
     have hlt := takeR_lt hR
     have hbw2 := HW1.out.trans (b2.mono HW1.out.size)
     have hn1 : n1 = x1.length := by
      obtain ⟨A', c', hv, _⟩ := O1.out.by_.form
      injection hv
     subst hn1
     have hn2 : n2 = x2.length := by
      obtain ⟨A', c', hv, _⟩ := ow2.by_.form
      injection hv
     subst hn2
     have o12 := O1.out.below b2
     obtain ⟨s, hs, hcv⟩ := run_str (P := Tryz.prog) o12.by_ 34 9 5 Tryz.underlying34 Tryz.underlying5 Tryz.underlying9
     have hls : lst s = x1 := hs
     have hL2 := (HL.out.below B1.out).below b2
     have ow2' := ow2.base (show w.heap.size ≤ w1.heap.size from HW1.out.size)
     have HL2 := hide hL2
     have HAP2 := hide (show Apv (L ++ [((s, .slice G2 x2.length c3, x2) : RowV)]) from HAP.out.snoc (fun y hy => (HL.out.below B1.out).2 y hy) ow2 (Nat.le_refl _))
     have HO2 := hide ow2'
     have Y2 := hide y2
     have HLS := hide hls
     have HB2 := hide hbw2
     clear Q2 ht2 hR b2 o12 hs hls hL2 ow2 ow2' y2 hbw2
     go_wp2_with (at_builtin; go_loud (refine wpList_push2 Tryz.underlying66 HI.out.1 HI.out.2.1 HI.out.2.2.1 HI.out.2.2.2 rfl HL2.out.1 HB2.out HB2.out.size (.string s) (.slice G2 x2.length c3) rfl rfl (by unfold maxLen; omega) (by omega) rfl _ _ rfl rfl rfl ?_); intro v3 w3 hown3 hb3 hgr3; obtain ⟨_, A5, c5, hv5, hc5, hm5, _⟩ := Sl.of_own hown3; subst hv5)
     have hel : ∀ x ∈ L ++ [((s, .slice G2 x2.length c3, x2) : RowV)], Own w3 w.heap.size 5 x.2.1 x.2.2 := fun x hx => by
      rcases List.mem_append.1 hx with hx | hx
      ·exact own_grown (HL2.out.2 x hx) hgr3 fun g hg he => own_ne (HL2.out.2 x hx) HL2.out.1 (by decide) g hg he
      ·simp only [List.mem_singleton] at hx
       subst hx
       exact own_grown HO2.out hgr3 fun g hg he => own_ne HO2.out HL2.out.1 (by decide) g hg he
     have hnew : OwnR w3 w.heap.size (.slice A5 (L.length + 1) c5) (L ++ [((s, .slice G2 x2.length c3, x2) : RowV)]) := by
      refine ⟨?_, hel⟩
      rw [rcells_append, List.length_append]
      exact hown3
     have HNEW := hide hnew
     have q4 := rowMay_any _ _ L.length w3 hnew.rws_ (by simp)
     have hrows : rws (L ++ [((s, .slice G2 x2.length c3, x2) : RowV)]) = rws L ++ [(x1, x2)] := by
      rw [rws_append]; simp [rws, HLS.out]
     rw [hrows] at q4
     have HROWS := hide hrows
     have hlen5 : ((L.length + 1 : Nat) : Int) - 1 = (L.length : Int) := by omega
     have HB3 := hide hb3
     have y3 := By.back Y2.out HB2.out hgl
     rcases hrb2 : rowB (rws L ++ [(x1, x2)]) L.length with _ | _
     ·rw [hrb2] at q4
      have Q4 := hide q4
      have HRB : Hid (rowB (rws L ++ [(x1, x2)]) (rws L).length = false) := by rw [rws_length]; exact hrb2
      clear q4 hrb2 hnew hel hown3 hgr3 hb3 hrows
      go_wp2_with fail
      refine Q4.out.mono ?_
      rintro e w4 ⟨rfl, rfl⟩
      go_wp2_with fail
      simp only [Exit.jump]
      go_ret3
      refine ⟨HB3.out, .inr ⟨b.length - r.length, ?_, ?_⟩⟩
      ·unfold unpack
       rw [HU.out, unp_some HR.out, if_neg (by rw [HRB.out]; simp)]
      ·rw [show ((b.length - r.length : Nat) : Int) = (b.length : Int) - (r.length : Int) by omega]
       rfl
     ·rw [hrb2] at q4
      have Q4 := hide q4
      have HRB : Hid (rowB (rws L ++ [(x1, x2)]) (rws L).length = true) := by rw [rws_length]; exact hrb2
      clear q4 hrb2 hnew hel hown3 hgr3 hb3 hrows
      go_wp2_with fail
      refine Q4.out.mono ?_
      rintro e w4 ⟨rfl, rfl⟩
      go_wp2_with fail
      go_roundw
      case rel =>
       refine ⟨L ++ [((s, .slice G2 x2.length c3, x2) : RowV)], r2, _, _, rfl, y3, HNEW.out, HAP2.out, ?_, by omega, ?_, HB3.out⟩
       ·rw [HU.out, unp_some HR.out, if_pos HRB.out, HROWS.out]
       ·obtain ⟨_, _, h64, _⟩ := rowB_some HRB.out
        rw [rws_length] at h64
        simp
        omega
      case measure => simp; omega
  ·have hr00 : r = [] := List.eq_nil_of_length_eq_zero (by omega)
   subst hr00
   have h0d : decide ((0 : Int) < ((0 : Nat) : Int)) = false := rfl
   clear hunp hcell hr
   go_wp2_with fail
   simp only [Exit.jump]
   go_ret3
   refine ⟨hb, .inl ⟨L, u5, ?_, rfl, HL.out, HAP.out⟩⟩
   unfold unpack
   rw [HU.out, unp_nil]
theorem unpack_any (v : Value) (b : List UInt8) (w : World) (h : By w v b) (hl : b.length ≤ 9223372036854775807) (ht : Tab w) (he : Err w) :
  Calls Tryz.prog 92 #[v] w fun e w' => Below w.heap.size w w' ∧
   ((∃ L v', unpack b = (rws L, 0, 0) ∧ e = .returned (.tuple #[v', .int .i64 0, .int .i64 0]) ∧ OwnR w' w.heap.size v' L) ∨
    (∃ p : Nat, unpack b = ([], p, 131) ∧ e = .returned (.tuple #[.slice none 0 0, .int .i64 (p : Int), .int .i64 131]))) :=
 (unpack_apt v b w h hl ht he).mono fun _ _ ⟨hb, hq⟩ => ⟨hb, hq.imp (fun ⟨L, v', h1, h2, h3, _⟩ => ⟨L, v', h1, h2, h3⟩) id⟩
end Go.Proofs.YtdohebhbiokljaaGreatDoor
namespace Go.Proofs.YtdohebhbiokljaaGreatDoor
open Go.RowKit
end Go.Proofs.YtdohebhbiokljaaGreatDoor
namespace Go.Proofs.YtdohebhbiokljaaGreatDoor
open Go.RowKit
def Drn (w w' : World) : Prop := ∃ n, w' = w.drewN n
theorem Drn.refl (w : World) : Drn w w := ⟨0, rfl⟩
theorem Drn.drewN {w w' : World} (h : Drn w w') (n : Nat) : Drn w (w'.drewN n) := by
 obtain ⟨m, rfl⟩ := h
 exact ⟨m + n, World.drewN_drewN _ _ _⟩
theorem Drn.cell {w w' : World} (h : Drn w w') (a : Addr) : w'.cell? a = w.cell? a := by
 obtain ⟨m, rfl⟩ := h
 rfl
theorem Drn.below {w w' : World} (h : Drn w w') : Below w.heap.size w w' := by
 obtain ⟨m, rfl⟩ := h
 exact below_drewN (Below.refl _ _) _
end Go.Proofs.YtdohebhbiokljaaGreatDoor
namespace Go.Proofs.YtdohebhbiokljaaGreatDoor
open Go.RowKit
theorem run_strL {P : Program} {W : World} {v : Value} {l : List UInt8} (h : By W v l) (src dst e : TypeId) (hs : P.underlying src = some (.slice e)) (he : P.underlying e = some (.int .u8)) (hd : P.underlying dst = some .string) :
  (convert src dst v).run P W = .ok (.string ⟨l.toArray⟩) W := by
 obtain ⟨s, h1, h2⟩ := run_str h src dst e hs he hd
 have : s = ⟨l.toArray⟩ := by
  apply ByteArray.ext
  apply Array.toList_inj.1
  rw [h1]
 rw [h2, this]
end Go.Proofs.YtdohebhbiokljaaGreatDoor
namespace Go.Proofs.YtdohebhbiokljaaGreatDoor
open Go.RowKit
set_option maxRecDepth 100000 in
set_option maxHeartbeats 1000000 in
theorem num_lay (v : Value) (l : List UInt8) (b : Nat) (q : Addr) (w : World) (h : By w v l) (hl : l.length ≤ 1048576) (ht : Tab w) (he : Err w) (hb : w.cell? ⟨b, 0, none⟩ = some (.pointer (some q))) (old : Value) (hq : w.cell? q = some old) (hf : w.frozen? q = false) (hqn : q.spot = none) :
  Calls Tryz.prog 106 #[v, .pointer (some ⟨b, 0, none⟩)] w fun e w' => e = .returned (.bool (decide (rdE l 2147483647 = 0))) ∧ ∃ w1, Below w.heap.size w w1 ∧ w' = w1.setCell q (.int .i64 (rdN l 2147483647)) := by
 obtain ⟨s, hs, hcv⟩ := run_str (P := Tryz.prog) h 34 9 5 Tryz.underlying34 Tryz.underlying5 Tryz.underlying9
 have hls : lst s = l := hs
 have hsz : s.size = l.length := by rw [← hls]; exact (lst_len s).symm
 have Q := hide (fun W (hW : Below w.heap.size w W) => bread_any s 2147483647 W (by omega) (by omega) (ht.below hW) (he.below hW))
 rw [hls] at Q
 obtain ⟨A, c, rfl, _⟩ := h.form
 have HB := hide (And.intro hb (And.intro hq hf))
 have h1 := World.block_lt_of_cell? _ _ hb
 have h2 := World.block_lt_of_cell? _ _ hq
 obtain ⟨qb, qo, qs⟩ := q
 simp only at hqn
 subst hqn
 generalize rdN l 2147483647 = x at *
 obtain ⟨y, hy⟩ : ∃ y, y = rdE l 2147483647 := ⟨_, rfl⟩
 rw [← hy] at Q ⊢
 have hyb : (decide (y = 0)) = (y == 0) := by
  by_cases h0 : y = 0
  ·simp [h0]
  ·simp [h0]
 clear h ht he hs hls hsz hb hq hf hy
 go_enter Tryz.func106, Tryz.ntmps106
 go_wp2_with fail
 refine (Q.out _ (Below.refl _ _)).mono ?_
 rintro e w1 ⟨rfl, b1⟩
 have c1 : w1.cell? ⟨b, 0, none⟩ = some (.pointer (some ⟨qb, qo, none⟩)) := (b1.cell (p := ⟨b, 0, none⟩) h1).trans HB.out.1
 have c2 : w1.cell? ⟨qb, qo, none⟩ = some old := (b1.cell (p := ⟨qb, qo, none⟩) h2).trans HB.out.2.1
 have c3 : w1.frozen? ⟨qb, qo, none⟩ = false := by
  have hk := b1.block qb h2
  have h3 := HB.out.2.2
  simp only [World.frozen?] at h3 ⊢
  rw [hk]
  exact h3
 have BB := hide b1
 clear b1
 go_wp2
 go_ret
 exact ⟨ret_bool hyb.symm, w1, BB.out, rfl⟩
set_option maxRecDepth 100000 in
set_option maxHeartbeats 1000000 in
theorem dig_no (A : Option Addr) (n c b : Nat) (w : World) (hn : n ≠ 32) :
  Calls Tryz.prog 109 #[.slice A n c, .pointer (some ⟨b, 0, none⟩)] w fun e w' => e = .returned (.bool false) ∧ w' = w := by
 have i1 : ¬ (n : Int) = 32 := by omega
 go_enter Tryz.func109, Tryz.ntmps109
 go_wp2
 go_ret
 exact ⟨rfl, rfl⟩
structure DI (w0 : World) (v pb q pa : Value) (cs : List Value) (gq oq : Nat) (listed : Array Bool) (a : Act) (w : World) : Prop where
 size : listed.size = 6
 tsz : a.tmps.size = 12
 df : a.defers = []
 t0 : a.tmps[0]? = some v
 t1 : a.tmps[1]? = some pb
 s0 : listed.getD 0 false = true → a.tmps[7]? = some q
 s1 : listed.getD 1 false = true → a.tmps[8]? = some v
 s2 : listed.getD 2 false = true → a.tmps[9]? = some pa
 s3 : listed.getD 3 false = true → a.tmps[10]? = some (.agg cs.toArray)
 s4 : listed.getD 4 false = true → a.tmps[11]? = some q
 d5 : listed.getD 5 false = true → ∀ j, j < 5 → listed.getD j false = true
 wd : w = if listed.getD 5 false = true then w0.setCells gq oq cs else w0
theorem DI.put {w0 : World} {v pb q pa : Value} {cs : List Value} {gq oq : Nat} {listed : Array Bool} {a : Act} {w : World} (h : DI w0 v pb q pa cs gq oq listed a w) (i d : Nat) (u : Value) (hi : i < 5) (hd : d = 7 + i) (hf : listed.getD i false = false)
  (hu : (i = 0 → u = q) ∧ (i = 1 → u = v) ∧ (i = 2 → u = pa) ∧ (i = 3 → u = .agg cs.toArray) ∧ (i = 4 → u = q)) : DI w0 v pb q pa cs gq oq (listed.setIfInBounds i true) (a.put (some d) u) w := by
 have hs : i < listed.size := by rw [h.size]; omega
 have hg : ∀ j, j ≠ i → (listed.setIfInBounds i true).getD j false = listed.getD j false := fun j hj => by rw [getD_set hs, if_neg hj]
 have h5 : (listed.setIfInBounds i true).getD 5 false = false := by
  rw [hg 5 (by omega)]
  rcases hb : listed.getD 5 false with _ | _
  ·rfl
  ·rw [h.d5 hb i hi] at hf; cases hf
 have h5' : listed.getD 5 false = false := by rw [← hg 5 (by omega)]; exact h5
 subst hd
 have sl : ∀ j x, (j = i → u = x) → (listed.getD j false = true → a.tmps[7 + j]? = some x) → (listed.setIfInBounds i true).getD j false = true → (a.put (some (7 + i)) u).tmps[7 + j]? = some x := fun j x h1 h2 hl => by
  by_cases hj : j = i
  ·subst hj
   rw [put_same (by rw [h.tsz]; omega), h1 rfl]
  ·rw [hg j hj] at hl
   rw [put_other (by omega)]
   exact h2 hl
 refine ⟨by simpa using h.size, by simpa [Act.put] using h.tsz, h.df, (put_other (by omega)).trans h.t0, (put_other (by omega)).trans h.t1, sl 0 _ (fun e => hu.1 e.symm) h.s0, sl 1 _ (fun e => hu.2.1 e.symm) h.s1, sl 2 _ (fun e => hu.2.2.1 e.symm) h.s2, sl 3 _ (fun e => hu.2.2.2.1 e.symm) h.s3, sl 4 _ (fun e => hu.2.2.2.2 e.symm) h.s4, fun hl => ?_, ?_⟩
 ·rw [h5] at hl; cases hl
 ·rw [h5]; have := h.wd; rw [h5'] at this; exact this
theorem op_store_mid {P : Program} {ops : Array Oper} {Q : Exit → Act → World → Prop} {K : Act → World → Prop} {i : Nat} {a : Act} {w : World} {op : Oper} (hi : ops[i]? = some op) (hg : op.guard = none) (h : op.wp P a w K Q) : wpOp P ops Q i K a w := by
 unfold wpOp
 simp only [hi]
 rw [if_pos (by simp [Region.wanted, hg])]
 exact .inl h
theorem op_load {P : Program} {ops : Array Oper} {Q : Exit → Act → World → Prop} {K : Act → World → Prop} {i : Nat} {a : Act} {w : World} {d s : Tmp} {ty t : TypeId} {p : String} {af : Array Edge} {u v : Value} (hi : ops[i]? = some ⟨some d, .load ty (.tmp s), t, p, af, none⟩) (hs : a.eval (.tmp s) = u) (hr : (Instr.loadAt ty u).run P w = .ok v w) (h : K (a.put (some d) v) w) : wpOp P ops Q i K a w :=
 op_value hi rfl (by simp [execOp, hs, hr, Result.andThen]) h
theorem op_s2a {P : Program} {ops : Array Oper} {Q : Exit → Act → World → Prop} {K : Act → World → Prop} {i : Nat} {a : Act} {w : World} {d s : Tmp} {ty t : TypeId} {p : String} {af : Array Edge} {u v : Value} (hi : ops[i]? = some ⟨some d, .sliceToArrayPointer ty (.tmp s), t, p, af, none⟩) (hs : a.eval (.tmp s) = u) (hr : (Instr.arrayAt ty u).run P w = .ok v w) (h : K (a.put (some d) v) w) : wpOp P ops Q i K a w :=
 op_value hi rfl (by simp [execOp, hs, hr, Result.andThen]) h
theorem load_dig {W : World} {b : Nat} {v : Value} (h : W.cell? ⟨b, 0, none⟩ = some v) : (Instr.loadAt 161 (.pointer (some ⟨b, 0, none⟩))).run Tryz.prog W = .ok v W := by
 go_simp
theorem s2a_dig (gA oA c : Nat) (W : World) (hc : 32 ≤ c) : (Instr.arrayAt 23 (.slice (some ⟨gA, oA, none⟩) 32 c)).run Tryz.prog W = .ok (.pointer (some ⟨gA, oA, none⟩)) W := run_arrayAt W 23 5 32 _ 32 c Tryz.underlying23 (by omega)
set_option maxRecDepth 100000 in
set_option maxHeartbeats 1000000 in
theorem dig_lay (gA oA c : Nat) (l : List UInt8) (b gq oq : Nat) (w : World) (hl : l.length = 32) (hc : 32 ≤ c) (hr : w.rangeAt gA oA (bcells l)) (hb : w.cell? ⟨b, 0, none⟩ = some (.pointer (some ⟨gq, oq, none⟩))) (hq : w.there gq oq 32) :
  Calls Tryz.prog 109 #[.slice (some ⟨gA, oA, none⟩) 32 c, .pointer (some ⟨b, 0, none⟩)] w fun e w' => e = .returned (.bool true) ∧ w' = (w.drew).setCells gq oq (bcells l) := by
 have hi : (Tryz.prog.info? 23).map (·.size) = some (bcells l).length := by rw [bcells_length, hl]; kernel_rfl
 have hl2 : (bcells l).length = 32 := by rw [bcells_length, hl]
 have h1 : ∀ v ∈ bcells l, v.oneCell' = true := fun v hv => by
  obtain ⟨x, _, rfl⟩ := List.mem_map.1 hv
  rfl
 generalize bcells l = cs at *
 have HH := hide (And.intro hi (And.intro hl2 (And.intro h1 (And.intro hr (And.intro hb hq)))))
 clear hi hl2 h1 hr hb hq
 go_enter Tryz.func109, Tryz.ntmps109
 go_wp2
 refine wp_region_any rfl ?_
 refine wpAny_inv (DI w.drew (.slice (some ⟨gA, oA, none⟩) 32 c) (.pointer (some ⟨b, 0, none⟩)) (.pointer (some ⟨gq, oq, none⟩)) (.pointer (some ⟨gA, oA, none⟩)) cs gq oq) (fun listed a W h => h.size.trans rfl) ?step ?fin _ _ _ _ (by simp) ?start
 case start =>
  refine ⟨by simp, by simp, rfl, rfl, rfl, fun hl => ?_, fun hl => ?_, fun hl => ?_, fun hl => ?_, fun hl => ?_, fun hl => ?_, by simp [Array.getD]⟩
  all_goals
   simp [Array.getD] at hl
 case fin =>
  intro listed a W h hr
  have hall : ∀ i, i < 6 → listed.getD i false = true := fun i hi => all_ready (h.size.trans rfl) (by kernel_rfl) hr i hi
  have hW := h.wd
  rw [hall 5 (by omega), if_pos rfl] at hW
  subst hW
  have hts := h.tsz
  have hdf := h.df
  clear h hr hall
  go_wp2
  exact bodyPost_ret (results_tmp rfl _ _ _) rfl ⟨by simp [hts], rfl⟩
 case step =>
  intro listed a W i h hi
  obtain ⟨hlt, hf, o, ho, hdep⟩ := ready_at hi
  have hi39 : i < 6 := hlt
  have hff : listed.getD i false = false := by
   have : i < listed.size := by rw [h.size]; exact hi39
   simpa [Array.getD, this] using hf
  clear hi hlt hf
  have hW : i < 5 → W = w.drew := fun hi5 => by
   have := h.wd
   rcases hb : listed.getD 5 false with _ | _
   ·rw [hb] at this; exact this
   ·rw [h.d5 hb i hi5] at hff; cases hff
  have hc6 : i = 0 ∨ i = 1 ∨ i = 2 ∨ i = 3 ∨ i = 4 ∨ i = 5 := by omega
  rcases hc6 with rfl | rfl | rfl | rfl | rfl | rfl
  ·clear ho hdep
   have hv : a.eval (.tmp 1) = .pointer (some ⟨b, 0, none⟩) := eval_tmp h.t1
   have hW0 := hW (by omega)
   have hcell : W.cell? ⟨b, 0, none⟩ = some (.pointer (some ⟨gq, oq, none⟩)) := by rw [hW0]; exact HH.out.2.2.2.2.1
   refine op_load rfl hv (load_dig hcell) ?_
   exact h.put 0 7 _ (by omega) rfl hff ⟨fun _ => rfl, fun e => by omega, fun e => by omega, fun e => by omega, fun e => by omega⟩
  ·clear ho hdep
   exact op_move rfl (eval_tmp h.t0) (h.put 1 8 _ (by omega) rfl hff ⟨fun e => by omega, fun _ => rfl, fun e => by omega, fun e => by omega, fun e => by omega⟩)
  ·simp at ho
   subst ho
   simp [Region.binds] at hdep
   have hv : a.eval (.tmp 8) = .slice (some ⟨gA, oA, none⟩) 32 c := eval_tmp (h.s1 (gd hdep))
   refine op_s2a rfl hv (s2a_dig gA oA c W hc) (h.put 2 9 _ (by omega) rfl hff ⟨fun e => by omega, fun e => by omega, fun _ => rfl, fun e => by omega, fun e => by omega⟩)
  ·simp at ho
   subst ho
   simp [Region.binds] at hdep
   have hv : a.eval (.tmp 9) = .pointer (some ⟨gA, oA, none⟩) := eval_tmp (h.s2 (gd hdep))
   have hW0 := hW (by omega)
   refine op_store_mid rfl rfl (wp_load_mid 23 (.tmp 9) rfl gA oA hv cs _ (by rw [hW0]; exact HH.out.2.2.2.1) Tryz.underlying23 rfl HH.out.1 ?_)
   exact h.put 3 10 _ (by omega) rfl hff ⟨fun e => by omega, fun e => by omega, fun e => by omega, fun _ => rfl, fun e => by omega⟩
  ·simp at ho
   subst ho
   simp [Region.binds] at hdep
   have hv : a.eval (.tmp 7) = .pointer (some ⟨gq, oq, none⟩) := eval_tmp (h.s0 (gd hdep.1))
   exact op_value (v := .pointer (some ⟨gq, oq, none⟩)) rfl rfl (by simp [execOp, hv]) (h.put 4 11 _ (by omega) rfl hff ⟨fun e => by omega, fun e => by omega, fun e => by omega, fun e => by omega, fun _ => rfl⟩)
  ·simp at ho
   subst ho
   simp [Region.binds] at hdep
   have hx : a.eval (.tmp 11) = .pointer (some ⟨gq, oq, none⟩) := eval_tmp (h.s4 (gd hdep.1))
   have hy : a.eval (.tmp 10) = .agg cs.toArray := eval_tmp (h.s3 (gd hdep.2.1))
   have hW0 : W = w.drew := by have := h.wd; rw [hff] at this; exact this
   refine op_store_mid rfl rfl (wp_store_mid 23 (.tmp 11) (.tmp 10) rfl gq oq cs.toArray hx hy (by rw [hW0, List.size_toArray, HH.out.2.1]; exact HH.out.2.2.2.2.2) (by rw [List.size_toArray]; exact HH.out.1) (by simpa using HH.out.2.2.1) ?_)
   have hs5 : 5 < listed.size := by rw [h.size]; omega
   have hg : ∀ j, j ≠ 5 → (listed.setIfInBounds 5 true).getD j false = listed.getD j false := fun j hj => by rw [getD_set hs5, if_neg hj]
   refine ⟨by simpa using h.size, h.tsz, h.df, h.t0, h.t1, fun hl => h.s0 (by rwa [hg 0 (by omega)] at hl), fun hl => h.s1 (by rwa [hg 1 (by omega)] at hl), fun hl => h.s2 (by rwa [hg 2 (by omega)] at hl), fun hl => h.s3 (by rwa [hg 3 (by omega)] at hl), fun hl => h.s4 (by rwa [hg 4 (by omega)] at hl), fun _ j hj => ?_, ?_⟩
   ·rw [hg j (by omega)]
    have hj5 : j = 0 ∨ j = 1 ∨ j = 2 ∨ j = 3 ∨ j = 4 := by omega
    rcases hj5 with rfl | rfl | rfl | rfl | rfl
    ·exact gd hdep.2.2.1
    ·exact gd hdep.2.2.2.1
    ·exact gd hdep.2.2.2.2.1
    ·exact gd hdep.2.1
    ·exact gd hdep.1
   ·rw [getD_set hs5, if_pos rfl, if_pos rfl, hW0]
end Go.Proofs.YtdohebhbiokljaaGreatDoor
namespace Go.Proofs.YtdohebhbiokljaaGreatDoor
open Go.RowKit
structure US where
 k : Int
 n : Int
 seg : Int
 size : Int
 sh : List UInt8
 sg : List UInt8
deriving DecidableEq
def US.zero : US := ⟨0, 0, 0, 0, List.replicate 32 0, List.replicate 32 0⟩
def US.wf (u : US) : Prop := u.sh.length = 32 ∧ u.sg.length = 32
def US.cells (u : US) : Array Value := uebC u.k u.n u.seg u.size (bcells u.sh ++ bcells u.sg)
def US.may (u : US) : Prop := agOK u.k u.n u.seg u.size
def US.in (u : US) : Prop := (0 ≤ u.k ∧ u.k ≤ 2147483647) ∧ (0 ≤ u.n ∧ u.n ≤ 2147483647) ∧ (0 ≤ u.seg ∧ u.seg ≤ 2147483647) ∧ (0 ≤ u.size ∧ u.size ≤ 2147483647)
theorem US.zero_wf : US.zero.wf := by unfold US.wf US.zero; simp
theorem US.zero_in : US.zero.in := by unfold US.in US.zero; simp
theorem US.size_ {u : US} (h : u.wf) : u.cells.size = 68 := by unfold US.cells uebC; simp [h.1, h.2]
theorem rdN_in (l : List UInt8) : 0 ≤ rdN l 2147483647 ∧ rdN l 2147483647 ≤ 2147483647 := by
 unfold rdN rd
 split
 ·rename_i x hx
  split at hx
  ·rename_i y _
   split at hx
   ·cases hx; omega
   ·cases hx
  ·cases hx
 ·omega
def kx (s : List UInt8) : Nat := if s = tK then 0 else if s = tN then 1 else if s = tSeg then 2 else if s = tSize then 3 else if s = tSegments then 4 else if s = tShares then 5 else 6
theorem kx_key : ∀ k, k < 6 → kx (keyB k).data.toList = k := by decide
theorem key_kx {s : List UInt8} {k : Nat} (h : kx s = k) (hk : k < 6) : s = (keyB k).data.toList := by
 unfold kx at h
 repeat' split at h
 all_goals subst h
 all_goals first
  | omega
  | (rename_i h; exact h)
theorem key_no {s : List UInt8} (h : ¬ kx s < 6) : ∀ k, k < 6 → s ≠ (keyB k).data.toList := fun k hk he => by
 rw [he, kx_key k hk] at h
 omega
def okV (k : Nat) (v : List UInt8) : Bool := if k < 4 then decide (rdE v 2147483647 = 0) else decide (v.length = 32)
def putU (u : US) (k : Nat) (v : List UInt8) : US := match k with
 | 0 => { u with k := rdN v 2147483647 }
 | 1 => { u with n := rdN v 2147483647 }
 | 2 => { u with seg := rdN v 2147483647 }
 | 3 => { u with size := rdN v 2147483647 }
 | 4 => { u with sg := v }
 | _ => { u with sh := v }
def stepU (u : US) (x : Rw) : Option US := if kx x.1 < 6 ∧ okV (kx x.1) x.2 = true then some (putU u (kx x.1) x.2) else none
def foldU : US → List Rw → Option US
 | u, [] => some u
 | u, x :: r => match stepU u x with
  | none => none
  | some u' => foldU u' r
theorem putU_wf {u : US} {k : Nat} {v : List UInt8} (h : u.wf) (hk : k < 6) (hv : okV k v = true) : (putU u k v).wf := by
 have hc : k = 0 ∨ k = 1 ∨ k = 2 ∨ k = 3 ∨ k = 4 ∨ k = 5 := by omega
 unfold okV at hv
 unfold US.wf at *
 rcases hc with rfl | rfl | rfl | rfl | rfl | rfl
 all_goals simp [putU] at hv ⊢
 all_goals first | exact h | exact ⟨h.1, hv⟩ | exact ⟨hv, h.2⟩
theorem putU_in {u : US} {k : Nat} {v : List UInt8} (h : u.in) (hk : k < 6) : (putU u k v).in := by
 have hc : k = 0 ∨ k = 1 ∨ k = 2 ∨ k = 3 ∨ k = 4 ∨ k = 5 := by omega
 have hr := rdN_in v
 unfold US.in at *
 rcases hc with rfl | rfl | rfl | rfl | rfl | rfl
 all_goals simp only [putU]
 all_goals omega
theorem putU_num {u : US} {k : Nat} {v : List UInt8} (hk : k < 4) : (putU u k v).cells = u.cells.setIfInBounds k (.int .i64 (rdN v 2147483647)) := by
 have hc : k = 0 ∨ k = 1 ∨ k = 2 ∨ k = 3 := by omega
 rcases hc with rfl | rfl | rfl | rfl
 all_goals simp [putU, US.cells, uebC]
theorem putU_dig {u : US} {k : Nat} {v : List UInt8} (h : u.wf) (hk : k < 6) (h4 : ¬ k < 4) (hv : v.length = 32) : (putU u k v).cells = (u.cells.toList.take (tgt 0 k).off ++ bcells v ++ u.cells.toList.drop ((tgt 0 k).off + (bcells v).length)).toArray := by
 have hc : k = 4 ∨ k = 5 := by omega
 unfold US.wf at h
 have e1 : (bcells u.sh).length = 32 := by simp [h.1]
 have e2 : (bcells u.sg).length = 32 := by simp [h.2]
 have e3 : (bcells v).length = 32 := by simp [hv]
 have d1 : (bcells u.sh).drop 32 = [] := List.drop_eq_nil_of_le (by omega)
 have d2 : (bcells u.sg).drop 32 = [] := List.drop_eq_nil_of_le (by omega)
 have t1 : (bcells u.sh).take 32 = bcells u.sh := List.take_of_length_le (by omega)
 rcases hc with rfl | rfl
 ·simp [putU, US.cells, uebC, tgt, e3, List.take_append, List.drop_append, e1, e2, d1, d2, t1, hv]
 ·simp [putU, US.cells, uebC, tgt, e3, List.take_append, List.drop_append, e1, e2, d1, d2, t1, hv]
theorem fold_some : ∀ (R : List Rw) (u u' : US), foldU u R = some u' → ∀ x ∈ R, kx x.1 < 6 ∧ okV (kx x.1) x.2 = true
 | [], _, _, _ => by simp
 | x :: r, u, u', h => by
  unfold foldU stepU at h
  intro y hy
  by_cases hx : kx x.1 < 6 ∧ okV (kx x.1) x.2 = true
  ·rw [if_pos hx] at h
   rcases List.mem_cons.1 hy with rfl | hy
   ·exact hx
   ·exact fold_some r _ _ h y hy
  ·rw [if_neg hx] at h; cases h
theorem fold_in : ∀ (R : List Rw) (u u' : US), u.wf → u.in → foldU u R = some u' → u'.wf ∧ u'.in
 | [], u, u', hw, hi, h => by cases h; exact ⟨hw, hi⟩
 | x :: r, u, u', hw, hi, h => by
  unfold foldU stepU at h
  by_cases hx : kx x.1 < 6 ∧ okV (kx x.1) x.2 = true
  ·rw [if_pos hx] at h
   exact fold_in r _ _ (putU_wf hw hx.1 hx.2) (putU_in hi hx.1) h
  ·rw [if_neg hx] at h; cases h
def rk : Nat → Nat
 | 3 => 5
 | 4 => 3
 | 5 => 4
 | k => k
theorem rk_lt : ∀ i, i < 6 → ∀ j, j < 6 → leB (keyB j).data.toList (keyB i).data.toList = false → rk i < rk j := by decide
theorem rk_6 : ∀ i, i < 6 → rk i < 6 := by decide
theorem rk_inj : ∀ i, i < 6 → ∀ j, j < 6 → rk i = rk j → i = j := by decide
theorem six {R : List Rw} (hm : may R) (hl : R.length = 6) (hk : ∀ x ∈ R, kx x.1 < 6) : ∃ v0 v1 v2 v3 v4 v5, R = [(tK, v0), (tN, v1), (tSeg, v2), (tSegments, v3), (tShares, v4), (tSize, v5)] := by
 match R, hl with
 | [x0, x1, x2, x3, x4, x5], _ =>
  have h1 := hm 1 (by simp)
  have h2 := hm 2 (by simp)
  have h3 := hm 3 (by simp)
  have h4 := hm 4 (by simp)
  have h5 := hm 5 (by simp)
  have k0 := hk x0 (by simp)
  have k1 := hk x1 (by simp)
  have k2 := hk x2 (by simp)
  have k3 := hk x3 (by simp)
  have k4 := hk x4 (by simp)
  have k5 := hk x5 (by simp)
  obtain ⟨a0, v0⟩ := x0
  obtain ⟨a1, v1⟩ := x1
  obtain ⟨a2, v2⟩ := x2
  obtain ⟨a3, v3⟩ := x3
  obtain ⟨a4, v4⟩ := x4
  obtain ⟨a5, v5⟩ := x5
  simp [rowB] at h1 h2 h3 h4 h5
  simp only at k0 k1 k2 k3 k4 k5
  have e0 := key_kx rfl k0
  have e1 := key_kx rfl k1
  have e2 := key_kx rfl k2
  have e3 := key_kx rfl k3
  have e4 := key_kx rfl k4
  have e5 := key_kx rfl k5
  have r1 := rk_lt _ k0 _ k1 (by rw [← e0, ← e1]; exact h1.2)
  have r2 := rk_lt _ k1 _ k2 (by rw [← e1, ← e2]; exact h2.2)
  have r3 := rk_lt _ k2 _ k3 (by rw [← e2, ← e3]; exact h3.2)
  have r4 := rk_lt _ k3 _ k4 (by rw [← e3, ← e4]; exact h4.2)
  have r5 := rk_lt _ k4 _ k5 (by rw [← e4, ← e5]; exact h5.2)
  have s5 := rk_6 _ k5
  have g0 : kx a0 = 0 := rk_inj _ k0 0 (by omega) (by show _ = 0; omega)
  have g1 : kx a1 = 1 := rk_inj _ k1 1 (by omega) (by show _ = 1; omega)
  have g2 : kx a2 = 2 := rk_inj _ k2 2 (by omega) (by show _ = 2; omega)
  have g3 : kx a3 = 4 := rk_inj _ k3 4 (by omega) (by show _ = 3; omega)
  have g4 : kx a4 = 5 := rk_inj _ k4 5 (by omega) (by show _ = 4; omega)
  have g5 : kx a5 = 3 := rk_inj _ k5 3 (by omega) (by show _ = 5; omega)
  refine ⟨v0, v1, v2, v3, v4, v5, ?_⟩
  rw [key_kx g0 (by omega), key_kx g1 (by omega), key_kx g2 (by omega), key_kx g3 (by omega), key_kx g4 (by omega), key_kx g5 (by omega)]
  rfl
def goodV (v0 v1 v2 v3 v4 v5 : List UInt8) : Prop := rdE v0 2147483647 = 0 ∧ rdE v1 2147483647 = 0 ∧ rdE v2 2147483647 = 0 ∧ rdE v5 2147483647 = 0 ∧ v3.length = 32 ∧ v4.length = 32
instance (v0 v1 v2 v3 v4 v5 : List UInt8) : Decidable (goodV v0 v1 v2 v3 v4 v5) := by unfold goodV; infer_instance
theorem stepU_k (u : US) (k : Nat) (s v : List UInt8) (h : kx s = k) (hk : k < 6) : stepU u (s, v) = if okV k v = true then some (putU u k v) else none := by
 unfold stepU
 simp only [h]
 by_cases h2 : okV k v = true
 ·rw [if_pos ⟨hk, h2⟩, if_pos h2]
 ·rw [if_neg (fun h3 => h2 h3.2), if_neg h2]
theorem fold_six (v0 v1 v2 v3 v4 v5 : List UInt8) : foldU US.zero [(tK, v0), (tN, v1), (tSeg, v2), (tSegments, v3), (tShares, v4), (tSize, v5)] = if goodV v0 v1 v2 v3 v4 v5 then some ⟨rdN v0 2147483647, rdN v1 2147483647, rdN v2 2147483647, rdN v5 2147483647, v4, v3⟩ else none := by
 have e0 : kx tK = 0 := by decide
 have e1 : kx tN = 1 := by decide
 have e2 : kx tSeg = 2 := by decide
 have e3 : kx tSegments = 4 := by decide
 have e4 : kx tShares = 5 := by decide
 have e5 : kx tSize = 3 := by decide
 simp only [foldU, stepU_k _ _ _ _ e0 (by omega), stepU_k _ _ _ _ e1 (by omega), stepU_k _ _ _ _ e2 (by omega), stepU_k _ _ _ _ e3 (by omega), stepU_k _ _ _ _ e4 (by omega), stepU_k _ _ _ _ e5 (by omega)]
 unfold goodV okV
 by_cases h0 : rdE v0 2147483647 = 0 <;> by_cases h1 : rdE v1 2147483647 = 0 <;> by_cases h2 : rdE v2 2147483647 = 0 <;> by_cases h3 : v3.length = 32 <;> by_cases h4 : v4.length = 32 <;> by_cases h5 : rdE v5 2147483647 = 0 <;> simp [h0, h1, h2, h3, h4, h5, putU]
def readU (b : List UInt8) : US × Nat × Nat :=
 if (unpack b).2.2 = 0 then
  match (if (unpack b).1.length = 6 then foldU US.zero (unpack b).1 else none) with
  | none => (US.zero, 0, 132)
  | some u => if agOK u.k u.n u.seg u.size then (u, 0, 0) else (US.zero, 0, 133)
 else (US.zero, (unpack b).2.1, (unpack b).2.2)
def readV (r : US × Nat × Nat) : Ending := .returned (.tuple #[.agg r.1.cells, .int .i64 (r.2.1 : Int), .int .i64 (r.2.2 : Int)])
theorem readU_form {b : List UInt8} {p : Nat} (h : unpack b = ([], p, 131)) : readU b = (US.zero, p, 131) := by unfold readU; rw [h]; rfl
theorem readU_len {b : List UInt8} {R : List Rw} (h : unpack b = (R, 0, 0)) (hl : R.length ≠ 6) : readU b = (US.zero, 0, 132) := by unfold readU; rw [h]; simp [hl]
theorem readU_no {b : List UInt8} {R : List Rw} (h : unpack b = (R, 0, 0)) (hf : foldU US.zero R = none) : readU b = (US.zero, 0, 132) := by unfold readU; rw [h]; simp [hf]
theorem readU_some {b : List UInt8} {R : List Rw} {u : US} (h : unpack b = (R, 0, 0)) (hl : R.length = 6) (hf : foldU US.zero R = some u) : readU b = if agOK u.k u.n u.seg u.size then (u, 0, 0) else (US.zero, 0, 133) := by unfold readU; rw [h]; simp [hf, hl]
end Go.Proofs.YtdohebhbiokljaaGreatDoor
namespace Go.Proofs.YtdohebhbiokljaaGreatDoor
open Go.RowKit
end Go.Proofs.YtdohebhbiokljaaGreatDoor
namespace Go.Proofs.YtdohebhbiokljaaGreatDoor
open Go.RowKit
def writeU (u : US) : List UInt8 := encs (uebRows u.k u.n u.seg u.size u.sh u.sg)
theorem agOK_in {k n seg size : Int} (h : agOK k n seg size) : (0 ≤ k ∧ k ≤ 2147483647) ∧ (0 ≤ n ∧ n ≤ 2147483647) ∧ (0 ≤ seg ∧ seg ≤ 2147483647) ∧ (0 ≤ size ∧ size ≤ 2147483647) := by
 obtain ⟨⟨h1, h2, h3, h4, h5⟩, h6, h7, h8, h9, _⟩ := h
 have hu : upN 65536 k.toNat ≤ 65791 := by
  unfold upN
  exact Nat.le_trans (Nat.div_le_self _ _) (by omega)
 have hd : seg = k * (seg / k) := by
  have := Int.mul_ediv_add_emod seg k
  omega
 have hq0 : 0 ≤ seg / k := Int.ediv_nonneg (by omega) (by omega)
 have hq : k * (seg / k) ≤ 255 * 65791 := Int.mul_le_mul (by omega) (by omega) hq0 (by omega)
 omega
theorem lst_numS {x : Int} (h : 0 ≤ x) : lst (numS x) = Lib.itoa x := by
 unfold numS
 rw [if_neg (by omega)]
 exact lst_itoaS x
theorem rd_num {x : Int} (h : 0 ≤ x ∧ x ≤ 2147483647) : rdN (lst (numS x)) 2147483647 = x ∧ rdE (lst (numS x)) 2147483647 = 0 := by
 have := rd_ok h.1 h.2 (by omega) (lst_numS h.1)
 unfold rdN rdE
 rw [this]
 refine ⟨?_, rfl⟩
 show (x.toNat : Int) = x
 omega
theorem num_rd {l : List UInt8} (h : rdE l 2147483647 = 0) : l = lst (numS (rdN l 2147483647)) := by
 unfold rdE at h
 cases hr : rd l 2147483647 with
 | none => rw [hr] at h; simp at h
 | some x =>
  have := (rd_some hr (by omega)).2.2
  unfold rdN
  rw [hr]
  simp only
  rw [lst_numS (by omega)]
  exact this
theorem writeU_unpack {u : US} (hw : u.wf) (hi : u.in) : unpack (writeU u) = (uebRows u.k u.n u.seg u.size u.sh u.sg, 0, 0) := by
 unfold US.in at hi
 exact unpack_encs _ (uebRows_may _ _ _ _ _ _ (by omega) (by omega) (by omega) (by omega) hw.1 hw.2)
theorem writeU_fold {u : US} (hw : u.wf) (hi : u.in) : foldU US.zero (uebRows u.k u.n u.seg u.size u.sh u.sg) = some u := by
 unfold US.in at hi
 unfold uebRows
 rw [fold_six, if_pos ⟨(rd_num hi.1).2, (rd_num hi.2.1).2, (rd_num hi.2.2.1).2, (rd_num hi.2.2.2).2, hw.2, hw.1⟩, (rd_num hi.1).1, (rd_num hi.2.1).1, (rd_num hi.2.2.1).1, (rd_num hi.2.2.2).1]
theorem readU_write {u : US} (hw : u.wf) (ha : u.may) : readU (writeU u) = (u, 0, 0) := by
 have hi : u.in := agOK_in ha
 rw [readU_some (writeU_unpack hw hi) rfl (writeU_fold hw hi), if_pos (show agOK _ _ _ _ from ha)]
theorem readU_one {b : List UInt8} {u : US} (h : readU b = (u, 0, 0)) : b = writeU u ∧ u.wf ∧ u.may := by
 rcases unpack_cases b with ⟨R, h1, h2, h3⟩ | ⟨p, _, h1⟩
 ·by_cases h6 : R.length = 6
  ·rcases hf : foldU US.zero R with _ | u'
   ·rw [readU_no h1 hf] at h; simp at h
   ·rw [readU_some h1 h6 hf] at h
    by_cases ha : agOK u'.k u'.n u'.seg u'.size
    ·rw [if_pos ha] at h
     simp only [Prod.mk.injEq, and_true] at h
     subst h
     have hwi := fold_in R _ _ US.zero_wf US.zero_in hf
     obtain ⟨v0, v1, v2, v3, v4, v5, rfl⟩ := six h3 h6 fun x hx => (fold_some _ _ _ hf x hx).1
     rw [fold_six] at hf
     by_cases hg : goodV v0 v1 v2 v3 v4 v5
     ·rw [if_pos hg] at hf
      cases hf
      refine ⟨?_, hwi.1, ha⟩
      rw [h2]
      unfold writeU uebRows
      simp only
      rw [← num_rd hg.1, ← num_rd hg.2.1, ← num_rd hg.2.2.1, ← num_rd hg.2.2.2.1]
     ·rw [if_neg hg] at hf; cases hf
    ·rw [if_neg ha] at h; simp at h
  ·rw [readU_len h1 h6] at h; simp at h
 ·rw [readU_form h1] at h; simp at h
theorem readU_cases (b : List UInt8) : (∃ u, readU b = (u, 0, 0)) ∨ ∃ p e, readU b = (US.zero, p, e) ∧ e ≠ 0 ∧ p ≤ b.length ∧ e ≤ 133 := by
 rcases unpack_cases b with ⟨R, h1, h2, h3⟩ | ⟨p, hp, h1⟩
 ·by_cases h6 : R.length = 6
  ·rcases hf : foldU US.zero R with _ | u'
   ·exact .inr ⟨0, 132, readU_no h1 hf, by omega, by omega, by omega⟩
   ·by_cases ha : agOK u'.k u'.n u'.seg u'.size
    ·exact .inl ⟨u', by rw [readU_some h1 h6 hf, if_pos ha]⟩
    ·exact .inr ⟨0, 133, by rw [readU_some h1 h6 hf, if_neg ha], by omega, by omega, by omega⟩
  ·exact .inr ⟨0, 132, readU_len h1 h6, by omega, by omega, by omega⟩
 ·exact .inr ⟨p, 131, readU_form h1, by omega, by omega, by omega⟩
end Go.Proofs.YtdohebhbiokljaaGreatDoor
namespace Go.Proofs.YtdohebhbiokljaaGreatDoor
open Go.RowKit
theorem dig_size (w : World) : (sizeOf 23).run Tryz.prog w = .ok 32 w := by
 have h : (Tryz.prog.info? 23).map (·.size) = some 32 := by kernel_rfl
 rcases hi : Tryz.prog.info? 23 with _ | i
 ·rw [hi] at h; cases h
 ·rw [hi] at h
  simp only [Option.map_some, Option.some.injEq] at h
  simp [sizeOf, typeInfo, run_program, hi, h]
theorem byte_size (w : World) : (sizeOf 5).run Tryz.prog w = .ok 1 w := by
 have h : (Tryz.prog.info? 5).map (·.size) = some 1 := by kernel_rfl
 rcases hi : Tryz.prog.info? 5 with _ | i
 ·rw [hi] at h; cases h
 ·rw [hi] at h
  simp only [Option.map_some, Option.some.injEq] at h
  simp [sizeOf, typeInfo, run_program, hi, h]
theorem part_dig (u : US) (hu : u.wf) (w : World) :
  (Go.part 23 u.cells 4).run Tryz.prog w = .ok (.agg (u.sh.map Extern.Stop.cell).toArray) w ∧ (Go.part 23 u.cells 36).run Tryz.prog w = .ok (.agg (u.sg.map Extern.Stop.cell).toArray) w := by
 have e1 : u.cells.extract 4 36 = (u.sh.map Extern.Stop.cell).toArray := by
  apply Array.ext'
  unfold US.cells uebC
  have := hu.1
  simp [bcells, List.drop, List.take_append, this]
  intro a _; rfl
 have e2 : u.cells.extract 36 68 = (u.sg.map Extern.Stop.cell).toArray := by
  apply Array.ext'
  unfold US.cells uebC
  have := hu.1
  have := hu.2
  simp [bcells, List.drop, List.take_append, *]
  rw [List.take_of_length_le (by simp; omega)]
  rfl
 constructor
 ·simp [Go.part, isAgg, run_underlying Tryz.underlying23, dig_size, e1]
 ·simp [Go.part, isAgg, run_underlying Tryz.underlying23, dig_size, e2]
theorem part_int (u : US) (w : World) :
  (Go.part 3 u.cells 0).run Tryz.prog w = .ok (.int .i64 u.k) w ∧ (Go.part 3 u.cells 1).run Tryz.prog w = .ok (.int .i64 u.n) w ∧ (Go.part 3 u.cells 2).run Tryz.prog w = .ok (.int .i64 u.seg) w ∧ (Go.part 3 u.cells 3).run Tryz.prog w = .ok (.int .i64 u.size) w := by
 refine ⟨?_, ?_, ?_, ?_⟩ <;> simp [Go.part, isAgg, run_underlying Tryz.underlying3, US.cells, uebC]
theorem ueb_fields : ((Tryz.prog.fieldsOf 25).toList.map fun f => (f.name == "_", f.type, f.offset)) = [(false, 3, 0), (false, 3, 1), (false, 3, 2), (false, 3, 3), (false, 23, 4), (false, 23, 36)] := by kernel_rfl
theorem fields_six {l : List Field} {a b c d e f : TypeId} (h : (l.map fun f => (f.name == "_", f.type, f.offset)) = [(false, a, 0), (false, b, 1), (false, c, 2), (false, d, 3), (false, e, 4), (false, f, 36)]) :
  ∃ x0 x1 x2 x3 x4 x5 : Field, l = [x0, x1, x2, x3, x4, x5] ∧ (x0.name ≠ "_" ∧ x1.name ≠ "_" ∧ x2.name ≠ "_" ∧ x3.name ≠ "_" ∧ x4.name ≠ "_" ∧ x5.name ≠ "_") ∧ (x0.type = a ∧ x1.type = b ∧ x2.type = c ∧ x3.type = d ∧ x4.type = e ∧ x5.type = f) ∧ (x0.offset = 0 ∧ x1.offset = 1 ∧ x2.offset = 2 ∧ x3.offset = 3 ∧ x4.offset = 4 ∧ x5.offset = 36) := by
 have hl : l.length = 6 := by simpa using congrArg List.length h
 match l, hl with
 | [x0, x1, x2, x3, x4, x5], _ =>
  simp only [List.map_cons, List.map_nil, List.cons.injEq, Prod.mk.injEq, and_true, beq_eq_false_iff_ne] at h
  exact ⟨x0, x1, x2, x3, x4, x5, rfl, by simp [h], by simp [h], by simp [h]⟩
theorem eqFields_step {P : Program} {w : World} {d : Nat} {xs ys : Array Value} {f : Field} {fs : List Field} {a b : Value} {r : Bool} {t : TypeId} {o : Nat} (hn : f.name ≠ "_") (ht : f.type = t) (ho : f.offset = o)
  (ha : (Go.part t xs o).run P w = .ok a w) (hb : (Go.part t ys o).run P w = .ok b w) (he : (Op.equalIn d t a b).run P w = .ok r w) :
  (Op.eqFields d xs ys (f :: fs)).run P w = if r = true then (Op.eqFields d xs ys fs).run P w else .ok false w := by
 subst ht ho
 simp only [Op.eqFields, ne_eq, hn, not_false_eq_true, if_true, Sem.run_bind, ha, hb, he, Result.andThen_ok]
 cases r <;> simp
theorem eqFields_nil {P : Program} {w : World} {d : Nat} {xs ys : Array Value} : (Op.eqFields d xs ys []).run P w = .ok true w := by simp [Op.eqFields]
theorem ueb_eqlF (d : Nat) (u v : US) (hu : u.wf) (hv : v.wf) (w : World) : (Op.eqFields (d + 2) u.cells v.cells (Tryz.prog.fieldsOf 25).toList).run Tryz.prog w = .ok (decide (u = v)) w := by
 obtain ⟨x0, x1, x2, x3, x4, x5, hl, ⟨n0, n1, n2, n3, n4, n5⟩, ⟨t0, t1, t2, t3, t4, t5⟩, o0, o1, o2, o3, o4, o5⟩ := fields_six ueb_fields
 obtain ⟨p0, p1, p2, p3⟩ := part_int u w
 obtain ⟨q0, q1, q2, q3⟩ := part_int v w
 obtain ⟨p4, p5⟩ := part_dig u hu w
 obtain ⟨q4, q5⟩ := part_dig v hv w
 have e4 := run_equalIn_bytes w d 23 5 32 Tryz.underlying23 Tryz.underlying5 byte_size u.sh v.sh hu.1 hv.1
 have e5 := run_equalIn_bytes w d 23 5 32 Tryz.underlying23 Tryz.underlying5 byte_size u.sg v.sg hu.2 hv.2
 have ei := fun a b => run_equalIn_int (P := Tryz.prog) w (d + 1) 3 .i64 .i64 a b Tryz.underlying3
 rw [hl, eqFields_step n0 t0 o0 p0 q0 (ei _ _), eqFields_step n1 t1 o1 p1 q1 (ei _ _), eqFields_step n2 t2 o2 p2 q2 (ei _ _), eqFields_step n3 t3 o3 p3 q3 (ei _ _), eqFields_step n4 t4 o4 p4 q4 e4, eqFields_step n5 t5 o5 p5 q5 e5, eqFields_nil]
 clear hl n0 n1 n2 n3 n4 n5 t0 t1 t2 t3 t4 t5 o0 o1 o2 o3 o4 o5 p0 p1 p2 p3 p4 p5 q0 q1 q2 q3 q4 q5 e4 e5 ei hu hv
 obtain ⟨k, n, seg, size, sh, sg⟩ := u
 obtain ⟨k', n', seg', size', sh', sg'⟩ := v
 simp only [US.mk.injEq, beq_iff_eq]
 by_cases h0 : k = k'
 rotate_left
 ·simp [h0]
 by_cases h1 : n = n'
 rotate_left
 ·simp [h1]
 by_cases h2 : seg = seg'
 rotate_left
 ·simp [h2]
 by_cases h3 : size = size'
 rotate_left
 ·simp [h3]
 by_cases h4 : sh = sh'
 rotate_left
 ·simp [h4]
 by_cases h5 : sg = sg'
 rotate_left
 ·simp [h5]
 simp [h0, h1, h2, h3, h4, h5]
theorem ueb_eql (u v : US) (hu : u.wf) (hv : v.wf) (w : World) : (binOp .eql 25 (.agg u.cells) (.agg v.cells)).run Tryz.prog w = .ok (.bool (decide (u = v))) w := by
 rw [run_eql_struct, run_equalIn_agg w 9999 25 _ _ (by kernel_rfl) (by kernel_rfl), ueb_eqlF 9997 u v hu hv w]
 rfl
end Go.Proofs.YtdohebhbiokljaaGreatDoor
namespace Go.Proofs.YtdohebhbiokljaaGreatDoor
open Go.RowKit Go.Shelf
def wd : Nat → Nat → Nat → Nat
 | 0, x, _ => x
 | f + 1, x, n => if x < n then wd f (x * 2) n else x
def wid (n : Nat) : Nat := wd 9 1 n
theorem wd_le : ∀ (f x n : Nat), wd f x n ≤ x * 2 ^ f
 | 0, x, n => by simp [wd]
 | f + 1, x, n => by
  unfold wd
  split
  ·have := wd_le f (x * 2) n
   rw [Nat.mul_assoc, ← Nat.pow_succ'] at this
   exact this
  ·exact Nat.le_mul_of_pos_right _ (Nat.pow_pos (by omega))
theorem wd_pos : ∀ (f x n : Nat), 1 ≤ x → 1 ≤ wd f x n
 | 0, x, n, h => by simpa [wd] using h
 | f + 1, x, n, h => by
  unfold wd
  split
  ·exact wd_pos f (x * 2) n (by omega)
  ·exact h
theorem wid_le (n : Nat) : wid n ≤ 512 := wd_le 9 1 n
theorem wid_pos (n : Nat) : 1 ≤ wid n := wd_pos 9 1 n (by omega)
set_option maxRecDepth 100000 in
set_option maxHeartbeats 400000 in
theorem width_any (n : Nat) (w : World) (h : 1 ≤ n ∧ n ≤ 512) :
  Calls Tryz.prog 47 #[.int .i64 (n : Int)] w fun e w' => e = .returned (.tuple #[.int .i64 (wid n : Int), .int .i64 0]) ∧ w = w' := by
 have h1 : ¬ (n : Int) < 1 := by omega
 have h2 : ¬ 512 < (n : Int) := by omega
 go_enter Tryz.func47, Tryz.ntmps47
 go_wp2
 go_loopw [4] (fun u4 wr => ∃ f x : Nat, u4 = .int .i64 (x : Int) ∧ x * 2 ^ f = 512 ∧ 1 ≤ x ∧ wd f x n = wid n ∧ wr = w) (fun i _ => 1024 - (intOf i).toNat)
 case atStart => exact ⟨9, 1, rfl, by decide, by omega, rfl, rfl⟩
 case round =>
  obtain ⟨f, x, rfl, hf, hx, hw, rfl⟩ := hrel
  by_cases hlt : x < n
  ·obtain ⟨g, rfl⟩ : ∃ g, f = g + 1 := by
    rcases f with _ | g
    ·rw [Nat.pow_zero] at hf; omega
    ·exact ⟨g, rfl⟩
   have i1 : (x : Int) < (n : Int) := by omega
   have e2 : IntKind.i64.wrap ((x : Int) * 2) = ((x * 2 : Nat) : Int) := by rw [IntWalk.i64_in _ (by omega)]; omega
   go_wp2
   go_roundw
   case rel => exact ⟨g, x * 2, by go_num, by rw [Nat.mul_assoc, ← Nat.pow_succ']; exact hf, by omega, by rw [← hw]; simp [wd, hlt], trivial⟩
   case measure => simp [intOf]; omega
  ·have i1 : (n : Int) ≤ (x : Int) := by omega
   have e2 : x = wid n := by
    rw [← hw]
    rcases f with _ | f
    ·rfl
    ·simp [wd, hlt]
   go_wp2
   go_ret2
   exact ⟨by rw [e2]; rfl, rfl⟩
set_option maxRecDepth 100000 in
set_option maxHeartbeats 400000 in
theorem nodes_any (n : Nat) (w : World) (h : 1 ≤ n ∧ n ≤ 512) :
  Calls Tryz.prog 60 #[.int .i64 (n : Int)] w fun e w' => e = .returned (.int .i64 (2 * (wid n : Int) - 1)) ∧ w = w' := by
 have Q := hide (width_any n w h)
 have h1 := wid_le n
 have h2 := wid_pos n
 generalize wid n = m at *
 go_enter Tryz.func60, Tryz.ntmps60
 go_wp2_with fail
 refine Q.out.mono ?_
 rintro e w1 ⟨rfl, rfl⟩
 go_wp2
 go_ret
 exact ⟨by go_num, rfl⟩
set_option maxRecDepth 100000 in
set_option maxHeartbeats 400000 in
theorem node_any (n : Nat) (w : World) (h : 1 ≤ n ∧ n ≤ 512) :
  Calls Tryz.prog 78 #[.int .i64 (n : Int), .int .i64 0] w fun e w' => e = .returned (.tuple #[.int .i64 (wid n : Int), .int .i64 0]) ∧ w = w' := by
 have Q := hide (width_any n w h)
 have h1 := wid_le n
 have h2 := wid_pos n
 have i1 : ¬ (n : Int) ≤ 0 := by omega
 have i2 : 0 < (n : Int) := by omega
 generalize wid n = m at *
 go_enter Tryz.func78, Tryz.ntmps78
 go_wp2_with fail
 refine Q.out.mono ?_
 rintro e w1 ⟨rfl, rfl⟩
 go_wp2
 go_ret2
 exact ⟨rfl, rfl⟩
set_option maxRecDepth 100000 in
set_option maxHeartbeats 400000 in
theorem up_tree (n : Nat) (w : World) (h : 1 ≤ n ∧ n ≤ 512) :
  Calls Tryz.prog 79 #[.int .i64 (n : Int), .int .i64 0] w fun e w' => e = .returned (.func (.func 98) #[] #[.pointer (some ⟨w.heap.size, 0, none⟩)]) ∧ w' = w.alloc (.cells #[.int .i64 (wid n : Int)] 3) := by
 have Q := hide (node_any n w h)
 have h1 := wid_le n
 have h2 := wid_pos n
 generalize wid n = m at *
 go_enter Tryz.func79, Tryz.ntmps79
 go_wp2_with fail
 refine Q.out.mono ?_
 rintro e w1 ⟨rfl, rfl⟩
 go_wp2
 go_ret
 exact ⟨rfl, rfl⟩
end Go.Proofs.YtdohebhbiokljaaGreatDoor
namespace Go.Proofs.YtdohebhbiokljaaGreatDoor
open Go.RowKit Go.Shelf
attribute [local go_sem] Oper.semAt_some
def ups : Nat → Nat → List Nat
 | 0, _ => []
 | f + 1, x => if 1 ≤ x then x :: ups f (x / 2) else []
theorem ups_length : ∀ (f x : Nat), (ups f x).length ≤ f
 | 0, _ => Nat.le_refl _
 | f + 1, x => by
  unfold ups
  split
  ·have := ups_length f (x / 2)
   simp only [List.length_cons]
   omega
  ·simp
set_option maxRecDepth 100000 in
set_option maxHeartbeats 1000000 in
theorem up1_in (F : Fence) (n : Nat) (h6 : F.fn 98) (hro : F.round = none) (hn : 1 ≤ n) (l Bn n₀ : Nat) (from_ : Nat) (hfrom : from_ < 2 ^ 10) (U : List Nat) (hU : U = ups 10 from_) (J Jx : List Nat → World → Prop)
  (hY : ∀ (pre : List Nat) (x : Nat) (W : World), J pre W → pre.length < (U).length → YieldAt F (n - 1) Tryz.prog l #[.int .i64 (x : Int)] W fun e W' =>
   (e = .returned (.bool true) ∧ J (pre ++ [x]) W' ∧ Below n₀ W W') ∨ (e = .returned (.bool false) ∧ Jx (pre ++ [x]) W'))
  (W : World) (hBn : W.cell? ⟨Bn, 0, none⟩ = some (.int .i64 (from_ : Int))) (h0 : J [] W) :
  CallsIn F n Tryz.prog 98 #[.func (.yield l) #[] #[], .pointer (some ⟨Bn, 0, none⟩)] W fun e W' => (∃ v, e = .returned v) ∧
   ((∃ ys, ys = U ∧ J ys W') ∨ (∃ pre, pre <+: U ∧ Jx pre W')) := by
 refine callsIn_of_wp Tryz.func98 rfl h6 ?_ hro
 simp only [Tryz.ntmps98, List.size_toArray, List.length_cons, List.length_nil, Nat.reduceAdd, Nat.reduceSub, Array.replicate_succ, Array.replicate_zero, List.push_toArray, List.append_toArray, List.nil_append, List.cons_append]
 gi_wp2
 gi_loopw [3] (fun p wr => ∃ (pre : List Nat) (f x : Nat), p = .int .i64 (x : Int) ∧ U = pre ++ ups f x ∧ x < 2 ^ f ∧ f ≤ 10 ∧ J pre wr)
  (fun p _ => (intOf p).toNat)
 case atStart =>
  exact ⟨[], 10, from_, rfl, by rw [List.nil_append]; exact hU, hfrom, Nat.le_refl _, h0⟩
 case round =>
  obtain ⟨pre, f, x, rfl, hx, hxf, hf10, hJs⟩ := hrel
  by_cases h1 : 1 ≤ x
  ·obtain ⟨g, rfl⟩ : ∃ g, f = g + 1 := by
    rcases f with _ | g
    ·rw [Nat.pow_zero] at hxf; omega
    ·exact ⟨g, rfl⟩
   have hx2 : U = (pre ++ [x]) ++ ups g (x / 2) := by
    rw [hx, show ups (g + 1) x = x :: ups g (x / 2) by simp [ups, h1], List.append_assoc]; rfl
   have hx3 : x / 2 < 2 ^ g := by rw [Nat.pow_succ] at hxf; omega
   have hx4 : 2 ^ (g + 1) ≤ 2 ^ 10 := Nat.pow_le_pow_right (by omega) hf10
   have i1 : 1 ≤ (x : Int) := by omega
   have e2 : wrap64 ((x : Int) / 2) = ((x / 2 : Nat) : Int) := by
    rw [show (x : Int) / 2 = ((x / 2 : Nat) : Int) by omega]
    exact wrap64_nat (x / 2) (by omega)
   have HE := hide e2
   obtain ⟨fn, tmps, assign, body, hy, hR⟩ := hY pre x wr hJs (by rw [hx2]; simp)
   have HX := hide (And.intro hx (And.intro hx2 (And.intro hx3 (And.intro hxf hx4))))
   clear hx hx2 hx3 hxf hx4
   gi_wp2
   refine hR.mono ?_
   rintro e W3 (⟨rfl, hJ3, hk3⟩ | ⟨rfl, hJx3⟩)
   ·gi_wp2
    go_roundw
    case rel => exact ⟨pre ++ [x], g, x / 2, by simp only [HE.out], HX.out.2.1, HX.out.2.2.1, by omega, hJ3⟩
    case measure =>
     have HM : ∀ y : Int, y = ((x / 2 : Nat) : Int) → (intOf (.int .i64 y)).toNat < (intOf (.int .i64 (x : Int))).toNat := fun y hy => by
      subst hy
      simp only [intOf]
      omega
     exact HM _ HE.out
   ·gi_wp2
    refine bodyPost_ret (results_none rfl _ _ _) rfl ?_
    exact ⟨⟨_, rfl⟩, .inr ⟨pre ++ [x], ⟨ups g (x / 2), HX.out.2.1.symm⟩, hJx3⟩⟩
  ·have i1 : ¬ 1 ≤ (x : Int) := by omega
   have hx0 : x = 0 := by omega
   subst hx0
   clear hY
   have hnil : ups f 0 = [] := by rcases f with _ | f <;> simp [ups]
   rw [hnil, List.append_nil] at hx
   gi_wp2
   go_end0
   exact ⟨⟨_, rfl⟩, .inl (by rw [← hU, hx]; exact hJs)⟩
theorem up1_stops (F : Fence) (n : Nat) (h6 : F.fn 98) (hro : F.round = none) (hn : 1 ≤ n) (Bn n₀ : Nat) (from_ : Nat) (hfrom : from_ < 2 ^ 10) (w : World) (hBn : Bn < w.heap.size)
  (hc : w.cell? ⟨Bn, 0, none⟩ = some (.int .i64 (from_ : Int))) :
  SeqStopsK F n Tryz.prog 98 #[.pointer (some ⟨Bn, 0, none⟩)] (fun x : Nat => #[Value.int .i64 (x : Int)]) (Below n₀) (fun ys => ys = ups 10 from_) (fun pre => pre <+: ups 10 from_) (ups 10 from_).length w := fun l J Jx W hW _ _ hY h0 =>
 up1_in F n h6 hro hn l Bn n₀ from_ hfrom _ rfl J Jx hY W ((hW.cell (p := ⟨Bn, 0, none⟩) hBn).trans hc) h0
end Go.Proofs.YtdohebhbiokljaaGreatDoor
namespace Go.Proofs.YtdohebhbiokljaaGreatDoor
open Go.RowKit Go.Shelf
attribute [local go_sem] Oper.semAt_some
def abv (l : List Nat) : List Nat := l.filter fun x => decide (1 < x)
theorem abv_hit (pre : List Nat) {x : Nat} (h : 1 < x) : abv (pre ++ [x]) = abv pre ++ [x] := by simp [abv, h]
theorem abv_miss (pre : List Nat) {x : Nat} (h : ¬ 1 < x) : abv (pre ++ [x]) = abv pre := by simp [abv, h]
def chainLen (n : Nat) : Nat := (abv (ups 10 (wid n))).length
theorem chainLen_le (n : Nat) : chainLen n ≤ 10 := Nat.le_trans (List.length_filter_le _ _) (ups_length _ _)
def xr (x : Nat) : Value := .int .i64 (bits BinOp.xor IntKind.i64 (x : Int) 1)
theorem infoInt : (Tryz.prog.info? 3).map (fun i => (i.zero, i.size, i.bytes)) = some (some (.int .i64 0), 1, 8) := by kernel_rfl
set_option maxRecDepth 100000 in
set_option maxHeartbeats 1000000 in
theorem chain_in (F : Fence) (hF : F = Fence.wide) (n : Nat) (h : 1 ≤ n ∧ n ≤ 512) (w : World) :
  CallsIn F 5 Tryz.prog 44 #[.int .i64 (n : Int), .int .i64 0] w fun e W' => ∃ A c, e = .returned (.tuple #[.slice A (chainLen n) c, .int .i64 0]) ∧ Below w.heap.size w W' := by
 have hch : F.fn 44 := by rw [hF]; trivial
 have hnode : F.fn 78 := by rw [hF]; trivial
 have hup : F.fn 79 := by rw [hF]; trivial
 have hup1 : F.fn 98 := by rw [hF]; trivial
 have hro : F.round = none := by rw [hF]; rfl
 have q1 : ∀ m w, CallsIn F m Tryz.prog 78 #[.int .i64 (n : Int), .int .i64 0] w fun e w' => e = .returned (.tuple #[.int .i64 (wid n : Int), .int .i64 0]) ∧ w = w' := by
  subst hF; exact fun m w => callsIn_wide.2 (node_any n w h)
 have q2 : ∀ m w, CallsIn F m Tryz.prog 79 #[.int .i64 (n : Int), .int .i64 0] w fun e w' => e = .returned (.func (.func 98) #[] #[.pointer (some ⟨w.heap.size, 0, none⟩)]) ∧ w' = w.alloc (.cells #[.int .i64 (wid n : Int)] 3) := by
  subst hF; exact fun m w => callsIn_wide.2 (up_tree n w h)
 clear hF
 have hw1 := wid_le n
 have hw2 := wid_pos n
 unfold chainLen
 generalize wid n = m at *
 obtain ⟨i0, hi, hz0, hz1, hz2⟩ := info_parts infoInt
 refine callsIn_of_wp_marks Tryz.func44 rfl hch ?_ hro
 simp only [Tryz.ntmps44, List.size_toArray, List.length_cons, List.length_nil, Nat.reduceAdd, Nat.reduceSub, Array.replicate_succ, Array.replicate_zero, List.push_toArray, List.append_toArray, List.nil_append, List.cons_append]
 gi_wp2_with (gi_at_call 78; refine (q1 _ _).mono ?_; rintro e w' ⟨rfl, rfl⟩)
 gi_wp2_with (gi_at_call 79; refine (q2 _ _).mono ?_; rintro e w' ⟨rfl, rfl⟩)
 have bO := Boxed.new w 81 (.slice none 0 0)
 have bN := Boxed.new (w.alloc (.cells #[.slice none 0 0] 81)) 3 (.int .i64 (m : Int))
 rw [World.size_alloc] at bN
 have hB0 : Below w.heap.size w ((w.alloc (.cells #[.slice none 0 0] 81)).alloc (.cells #[.int .i64 (m : Int)] 3)) := ((Below.refl _ w).alloc (Nat.le_refl _) _).alloc (by simp) _
 have hlen := ups_length 10 m
 have hml : 20 ≤ maxLen := by unfold maxLen; omega
 refine wpIn_rangeFunc_ownG hro (by omega) (gf := 98) (lb := #[.pointer (some ⟨w.heap.size + 1, 0, none⟩)]) rfl hup1 (enters_of Tryz.func98 (by kernel_rfl) rfl)
  (up1_stops F 4 hup1 hro (by omega) (w.heap.size + 1) w.heap.size m (by omega) _ (by simp) bN.cell) belowK_t (belowK_b (by simp; omega)) (Below.refl _ _) (fun _ => rfl)
  (fun pre W => (∃ v, Boxed W w.heap.size 81 v ∧ W.ownsRow w.heap.size 3 1 v (abv pre).length ((abv pre).map xr) ∧ True) ∧ Below w.heap.size w W)
  (fun _ _ _ => False)
  (OwnFrom.and (Own.from (holdsRow_own w.heap.size w.heap.size 81 3 1 (fun pre => (abv pre).length) (fun pre => (abv pre).map xr) (fun _ _ => True)) _) (ownFrom_below (Nat.le_refl _) (by simp; omega)))
  (fun _ _ _ _ _ hs _ _ => hs)
  ⟨⟨_, bO.alloc _, World.ownsRow_nil _ _ _ _, trivial⟩, hB0⟩
  (fun x => { tmps := #[.int .i64 (n : Int), .int .i64 0, undef, undef, .slice none 0 0, .int .i64 0, .int .i64 (m : Int), .int .i64 0, .pointer (some ⟨w.heap.size, 0, none⟩), .int .i64 (x : Int), .tuple #[.int .i64 (m : Int), .int .i64 0], .int .i64 (n : Int), .int .i64 0, .tuple #[.int .i64 (m : Int), .int .i64 0], .int .i64 (m : Int), .int .i64 0, .int .i64 0, .bool false, undef, .int .i64 (n : Int), .int .i64 0, .func (.func 98) #[] #[.pointer (some ⟨w.heap.size + 1, 0, none⟩)], .int .i64 (x : Int), undef, undef, undef, undef, undef, undef, undef, undef], defers := [] }) ?assign ?body ?done ?stop
 case assign =>
  intro l x W K hK
  gi_wp2
  exact hK
 case body =>
  rintro l pre x W ⟨⟨v, hv, hrow, -⟩, hB⟩ hlt
  have hc := hv.cell
  have hpl : (abv pre).length ≤ pre.length := List.length_filter_le _ _
  gi_wp2_with (gi_at_builtin; refine wpListIn_append_own _ rfl _ _ 81 rfl w.heap.size 3 i0 (.int .i64 0) 1 8 Tryz.underlying81 hi hz0 hz1 hz2 rfl (by decide) _ _ _ rfl (hrow.alloc _) ⟨W.heap.size, 0, none⟩ 1 1 [xr x] rfl rfl (cell_one_new _ _ _) (by simp [Value.oneCell', xr]) (by omega) (by omega) (by have := hB.size; simp; omega) ?_; intro v' w1 hown' hgrow _; obtain ⟨g', cap', rfl⟩ := ownsRow_succ hown'; obtain ⟨hv1, hv2, hr2, hk2, hb2⟩ := hv.appended (by decide) hrow hB.size (Nat.le_refl _) hown' hgrow; have hc1 := hv1.cell; have hf1 := hv1.frozen)
  ·have hx : 1 < x := by omega
   exact ⟨hk2.from _, hb2, ⟨_, hv2, by rw [abv_hit pre hx]; simpa using hr2, trivial⟩, hB.trans hb2⟩
  ·have hx : ¬ 1 < x := by omega
   exact ⟨KeepsFrom.refl _ _, Below.refl _ _, ⟨v, hv, by rw [abv_miss pre hx]; exact hrow, trivial⟩, hB⟩
 case done =>
  rintro D ys W hD rfl ⟨⟨v, hv, hrow, -⟩, hB⟩ hK
  have hc := hv.cell
  gi_wp2
  refine ⟨by simp, .inl ⟨_, _, rfl, run_takeDeferred hK, ?_⟩⟩
  have hv' : ∃ A c, v = .slice A (abv (ups 10 m)).length c := by
   rcases hrow.2 with ⟨rfl, h0⟩ | ⟨g, cap, cur, rfl, _⟩
   ·exact ⟨none, 0, by rw [h0]⟩
   ·exact ⟨_, _, rfl⟩
  obtain ⟨A, c, rfl⟩ := hv'
  exact ⟨_, results_tmp2 rfl _ _ _, A, c, rfl, hB.trans (belowK_b (w := w) (Nat.le_refl _) W D _ _ (by simp at hD; omega) hK rfl rfl)⟩
 case stop =>
  rintro D c pre W _ _ h _
  exact h.elim
theorem chain_any (n : Nat) (w : World) (h : 1 ≤ n ∧ n ≤ 512) :
  Calls Tryz.prog 44 #[.int .i64 (n : Int), .int .i64 0] w fun e W' => ∃ A c, e = .returned (.tuple #[.slice A (chainLen n) c, .int .i64 0]) ∧ Below w.heap.size w W' :=
 callsIn_wide.1 (chain_in Fence.wide rfl n h w)
end Go.Proofs.YtdohebhbiokljaaGreatDoor
namespace Go.Proofs.YtdohebhbiokljaaGreatDoor
open Go.RowKit
def Sits (a b c d e f g h : Int) : Prop := ∀ w, Calls Tryz.prog 64 #[.int .i64 a, .int .i64 b, .int .i64 c, .int .i64 d] w fun x w' => Below w.heap.size w w' ∧ x = .returned (.tuple #[.agg #[.int .i64 a, .int .i64 b, .int .i64 c, .int .i64 d, .int .i64 e, .int .i64 f, .int .i64 g, .int .i64 h], .int .i64 0])
set_option maxRecDepth 100000 in
set_option maxHeartbeats 1000000 in
theorem fits_ok (a b c d e f g h : Int) (w : World) (q : Sits a b c d e f g h) :
  Calls Tryz.prog 73 #[.agg #[.int .i64 a, .int .i64 b, .int .i64 c, .int .i64 d, .int .i64 e, .int .i64 f, .int .i64 g, .int .i64 h]] w fun x w' => Below w.heap.size w w' ∧ x = .returned (.bool true) := by
 have Q := hide q
 clear q
 go_enter Tryz.func73, Tryz.ntmps73
 go_wp2_with fail
 refine (Q.out _).mono ?_
 rintro x w1 ⟨b1, rfl⟩
 have B1 := hide (((Below.refl w.heap.size w).alloc (Nat.le_refl _) _).trans (b1.mono (by simp)))
 have HB := (Blk.new w 54 #[.int .i64 a, .int .i64 b, .int .i64 c, .int .i64 d, .int .i64 e, .int .i64 f, .int .i64 g, .int .i64 h]).below' b1
 have c0 : w1.cell? ⟨w.heap.size, 0, none⟩ = some (.int .i64 a) := HB.cell 0
 have c1 : w1.cell? ⟨w.heap.size, 1, none⟩ = some (.int .i64 b) := HB.cell 1
 have c2 : w1.cell? ⟨w.heap.size, 2, none⟩ = some (.int .i64 c) := HB.cell 2
 have c3 : w1.cell? ⟨w.heap.size, 3, none⟩ = some (.int .i64 d) := HB.cell 3
 have c4 : w1.cell? ⟨w.heap.size, 4, none⟩ = some (.int .i64 e) := HB.cell 4
 have c5 : w1.cell? ⟨w.heap.size, 5, none⟩ = some (.int .i64 f) := HB.cell 5
 have c6 : w1.cell? ⟨w.heap.size, 6, none⟩ = some (.int .i64 g) := HB.cell 6
 have c7 : w1.cell? ⟨w.heap.size, 7, none⟩ = some (.int .i64 h) := HB.cell 7
 clear b1
 have hlt := HB.lt
 have hne : ¬ w.heap.size = w1.heap.size := by omega
 have HBB := hide HB
 clear HB
 go_wp2
 go_ret
 exact ⟨B1.out.alloc B1.out.size _, rfl⟩
def szV (j n u l : Int) : Value := if n ≤ j then .tuple #[.int .i64 0, .int .i64 90] else if j = n - 1 then .tuple #[.int .i64 l, .int .i64 0] else .tuple #[.int .i64 u, .int .i64 0]
set_option maxRecDepth 100000 in
set_option maxHeartbeats 1000000 in
theorem size_ok (a b c d e f g h j u l : Int) (w : World) (q : Sits a b c d e f g h) (hj : 0 ≤ j) (he : 1 ≤ e ∧ e ≤ 512) :
  Calls Tryz.prog 65 #[.agg #[.int .i64 a, .int .i64 b, .int .i64 c, .int .i64 d, .int .i64 e, .int .i64 f, .int .i64 g, .int .i64 h], .int .i64 j, .int .i64 u, .int .i64 l] w fun x w' => Below w.heap.size w w' ∧ x = .returned (szV j e u l) := by
 have HQ := hide (fun w => fits_ok a b c d e f g h w q)
 clear q
 have i1 : ¬ j < 0 := by omega
 have e1 : IntKind.i64.wrap (e - 1) = e - 1 := IntWalk.i64_in _ (by omega)
 unfold szV
 have hcase : e ≤ j ∨ (¬ e ≤ j ∧ j = e - 1) ∨ (¬ e ≤ j ∧ ¬ j = e - 1) := by omega
 have hB1 := fun w' (hb : Below (w.alloc (.cells #[.int .i64 a, .int .i64 b, .int .i64 c, .int .i64 d, .int .i64 e, .int .i64 f, .int .i64 g, .int .i64 h] 54)).heap.size (w.alloc (.cells #[.int .i64 a, .int .i64 b, .int .i64 c, .int .i64 d, .int .i64 e, .int .i64 f, .int .i64 g, .int .i64 h] 54)) w') => And.intro (((Below.refl w.heap.size w).alloc (Nat.le_refl _) _).trans (hb.mono (by simp))) (show w'.cell? ⟨w.heap.size, 4, none⟩ = some (.int .i64 e) from ((Blk.new w 54 #[.int .i64 a, .int .i64 b, .int .i64 c, .int .i64 d, .int .i64 e, .int .i64 f, .int .i64 g, .int .i64 h]).below' hb).cell 4)
 have HB1 := hide hB1
 clear hB1
 rcases hcase with h1 | ⟨h1, h2⟩ | ⟨h1, h2⟩
 ·rw [if_pos h1]
  go_enter Tryz.func65, Tryz.ntmps65
  go_wp2_with fail
  refine (HQ.out _).mono ?_
  rintro x w1 ⟨b1, rfl⟩
  obtain ⟨b2, c4⟩ := HB1.out _ b1
  have B1 := hide b2
  clear b1 b2
  go_wp2
  go_ret2
  exact ⟨B1.out, rfl⟩
 ·rw [if_neg h1, if_pos h2]
  go_enter Tryz.func65, Tryz.ntmps65
  go_wp2_with fail
  refine (HQ.out _).mono ?_
  rintro x w1 ⟨b1, rfl⟩
  obtain ⟨b2, c4⟩ := HB1.out _ b1
  have B1 := hide b2
  clear b1 b2
  go_wp2
  go_ret2
  exact ⟨B1.out, rfl⟩
 ·rw [if_neg h1, if_neg h2]
  go_enter Tryz.func65, Tryz.ntmps65
  go_wp2_with fail
  refine (HQ.out _).mono ?_
  rintro x w1 ⟨b1, rfl⟩
  obtain ⟨b2, c4⟩ := HB1.out _ b1
  have B1 := hide b2
  clear b1 b2
  go_wp2
  go_ret2
  exact ⟨B1.out, rfl⟩
set_option maxRecDepth 100000 in
set_option maxHeartbeats 1000000 in
theorem blockSize_ok (a b c d e f g h j : Int) (w : World) (q : Sits a b c d e f g h) (hj : 0 ≤ j) (he : 1 ≤ e ∧ e ≤ 512) :
  Calls Tryz.prog 38 #[.agg #[.int .i64 a, .int .i64 b, .int .i64 c, .int .i64 d, .int .i64 e, .int .i64 f, .int .i64 g, .int .i64 h], .int .i64 j] w fun x w' => Below w.heap.size w w' ∧ x = .returned (szV j e g h) := by
 have HQ := hide (fun w => size_ok a b c d e f g h j g h w q hj he)
 have hv : ∃ m s, szV j e g h = .tuple #[.int .i64 m, .int .i64 s] := by
  unfold szV; split
  ·exact ⟨_, _, rfl⟩
  ·split <;> exact ⟨_, _, rfl⟩
 obtain ⟨m, s, hv⟩ := hv
 rw [hv] at HQ
 rw [hv]
 clear q hv hj he
 go_enter Tryz.func38, Tryz.ntmps38
 go_wp2_with fail
 refine (HQ.out _).mono ?_
 rintro x w1 ⟨b1, rfl⟩
 have B1 := hide (((Below.refl w.heap.size w).alloc (Nat.le_refl _) _).trans (b1.mono (by simp)))
 clear b1
 go_wp2
 go_ret2
 exact ⟨B1.out, rfl⟩
end Go.Proofs.YtdohebhbiokljaaGreatDoor
namespace Go.Proofs.YtdohebhbiokljaaGreatDoor
open Go.RowKit
theorem idx0 (a b c d e : Value) (w : World) : Sem.run Tryz.prog (Instr.index 135 (.agg #[a, b, c, d, e]) (.int .i64 0)) w = .ok a w := by
 kernel_rfl
theorem idx1 (a b c d e : Value) (w : World) : Sem.run Tryz.prog (Instr.index 135 (.agg #[a, b, c, d, e]) (.int .i64 1)) w = .ok b w := by
 kernel_rfl
theorem idx2 (a b c d e : Value) (w : World) : Sem.run Tryz.prog (Instr.index 135 (.agg #[a, b, c, d, e]) (.int .i64 2)) w = .ok c w := by
 kernel_rfl
theorem idx3 (a b c d e : Value) (w : World) : Sem.run Tryz.prog (Instr.index 135 (.agg #[a, b, c, d, e]) (.int .i64 3)) w = .ok d w := by
 kernel_rfl
theorem idx4 (a b c d e : Value) (w : World) : Sem.run Tryz.prog (Instr.index 135 (.agg #[a, b, c, d, e]) (.int .i64 4)) w = .ok e w := by
 kernel_rfl
attribute [local go_sem] idx0 idx1 idx2 idx3 idx4
set_option maxRecDepth 100000 in
set_option maxHeartbeats 8000000 in
theorem lay_any (a c d f : Int) (n segs blk last L : Nat) (w : World) (hn : 1 ≤ n ∧ n ≤ 512) (hs : 1 ≤ segs ∧ segs ≤ 512) (hb : blk ≤ 1048576) (hl : last ≤ 1048576) (hL : L ≤ 1048576) :
  Calls Tryz.prog 62 #[.agg #[.int .i64 a, .int .i64 n, .int .i64 c, .int .i64 d, .int .i64 segs, .int .i64 f, .int .i64 blk, .int .i64 last], .int .i64 L] w fun x w' => Below w.heap.size w w' ∧
   x = .returned (.agg #[.int .i64 36, .int .i64 (36 + (L : Int)), .int .i64 (36 + (L : Int) + 32 * (chainLen n : Int)), .int .i64 (36 + (L : Int) + 32 * (chainLen n : Int) + 32 * (2 * (wid segs : Int) - 1)), .int .i64 (36 + (L : Int) + 32 * (chainLen n : Int) + 32 * (2 * (wid segs : Int) - 1) + 32 * (2 * (wid segs : Int) - 1)),
    .int .i64 (36 + (L : Int) + 32 * (chainLen n : Int) + 32 * (2 * (wid segs : Int) - 1) + 32 * (2 * (wid segs : Int) - 1) + (((segs : Int) - 1) * (blk : Int) + (last : Int)))]) := by
 have hc := chainLen_le n
 have hm := wid_le segs
 have hm2 := wid_pos segs
 have q1 := fun w => chain_any n w hn
 have q2 := fun w => nodes_any segs w hs
 generalize chainLen n = cl at *
 generalize wid segs = m at *
 obtain ⟨B, hB⟩ : ∃ B : Nat, B = (segs - 1) * blk := ⟨_, rfl⟩
 have hBl : B ≤ 511 * 1048576 := by rw [hB]; exact Nat.mul_le_mul (by omega) hb
 have e1 : ((segs : Int) - 1) * (blk : Int) = (B : Int) := by rw [hB, Int.natCast_mul]; congr 1; omega
 rw [e1]
 clear hB
 obtain ⟨s2, hs2⟩ : ∃ s2, s2 = 32 * (cl : Int) := ⟨_, rfl⟩
 obtain ⟨s3, hs3⟩ : ∃ s3, s3 = 32 * (2 * (m : Int) - 1) := ⟨_, rfl⟩
 obtain ⟨s5, hs5⟩ : ∃ s5, s5 = (B : Int) + (last : Int) := ⟨_, rfl⟩
 have Q1 := hide q1
 have Q2 := hide q2
 rw [← hs2, ← hs3, ← hs5]
 have HS := hide (And.intro hs2 (And.intro hs3 hs5))
 have r2 : 0 ≤ s2 ∧ s2 ≤ 1048576 := by omega
 have r3 : 0 ≤ s3 ∧ s3 ≤ 1048576 := by omega
 have r5 : 0 ≤ s5 ∧ s5 ≤ 1073741824 := by omega
 clear q1 q2 hs2 hs3 hs5
 go_enter Tryz.func62, Tryz.ntmps62
 go_wp2_with fail
 refine (Q1.out _).mono ?_
 rintro x w1 ⟨A, cc, rfl, b1⟩
 have HB := (((Blk.new w 54 #[.int .i64 a, .int .i64 n, .int .i64 c, .int .i64 d, .int .i64 segs, .int .i64 f, .int .i64 blk, .int .i64 last]).alloc (.cells (Array.replicate 6 (.int .i64 0)) 76))).below' b1
 have c4 : w1.cell? ⟨w.heap.size, 4, none⟩ = some (.int .i64 segs) := HB.cell 4
 have c6 : w1.cell? ⟨w.heap.size, 6, none⟩ = some (.int .i64 blk) := HB.cell 6
 have c7 : w1.cell? ⟨w.heap.size, 7, none⟩ = some (.int .i64 last) := HB.cell 7
 have hB2 := (Blk.new (w.alloc (.cells #[.int .i64 a, .int .i64 n, .int .i64 c, .int .i64 d, .int .i64 segs, .int .i64 f, .int .i64 blk, .int .i64 last] 54)) 76 (Array.replicate 6 (.int .i64 0))).below' b1
 have HB2 := hide hB2
 clear hB2
 have hsz := b1.size
 simp only [World.size_alloc] at hsz
 have B1 := hide (((Below.refl w.heap.size w).alloc (Nat.le_refl _) _).alloc (by simp) _ |>.trans (b1.mono (by simp; omega)))
 clear b1 HB
 go_wp2
 go_region_held3 (fun w' => w'.cell? ⟨w.heap.size, 4, none⟩ = some (.int .i64 segs) ∧ w'.cell? ⟨w.heap.size, 6, none⟩ = some (.int .i64 blk) ∧ w'.cell? ⟨w.heap.size, 7, none⟩ = some (.int .i64 last)) (go_keep) ((go_at_call 60; (with_reducible refine (Q2.out _).mono ?_); rintro e w1 ⟨rfl, rfl⟩))
 all_goals
  have e2 : IntKind.i64.wrap (32 * (cl : Int)) = s2 := by rw [HS.out.1]; exact IntWalk.i64_in _ (by omega)
  have e3 : IntKind.i64.wrap (32 * (2 * (m : Int) - 1)) = s3 := by rw [HS.out.2.1]; exact IntWalk.i64_in _ (by omega)
  have e4 : IntKind.i64.wrap ((segs : Int) - 1) = (segs : Int) - 1 := IntWalk.i64_in _ (by omega)
  have e5 : IntKind.i64.wrap (B : Int) = (B : Int) := IntWalk.i64_in _ (by omega)
  have e6 : IntKind.i64.wrap ((B : Int) + (last : Int)) = s5 := by rw [HS.out.2.2]; exact IntWalk.i64_in _ (by omega)
  simp only [e2, e3, e4, e1, e5, e6]
  have k7 := (Blk.new w1 135 #[.int .i64 (L : Int), .int .i64 s2, .int .i64 s3, .int .i64 s3, .int .i64 s5]).drew
  have k4 := (HB2.out.alloc (.cells #[.int .i64 (L : Int), .int .i64 s2, .int .i64 s3, .int .i64 s3, .int .i64 s5] 135)).drew
  have b7 : Below w.heap.size w (World.drew (w1.alloc (.cells #[.int .i64 (L : Int), .int .i64 s2, .int .i64 s3, .int .i64 s3, .int .i64 s5] 135))) := (B1.out.alloc B1.out.size (.cells #[.int .i64 (L : Int), .int .i64 s2, .int .i64 s3, .int .i64 s3, .int .i64 s5] 135)).drew
  simp only [World.size_alloc] at k4
  clear HB2 B1 e2 e3 e4 e5 e6 e1 Q1 Q2 HS
  have hlt := k7.lt
  generalize World.drew (w1.alloc (.cells #[.int .i64 (L : Int), .int .i64 s2, .int .i64 s3, .int .i64 s3, .int .i64 s5] 135)) = W at *
  generalize w1.heap.size = g7 at *
  have d0 : W.cell? ⟨g7, 0, none⟩ = some (.int .i64 (L : Int)) := k7.cell 0
  have d1 : W.cell? ⟨g7, 1, none⟩ = some (.int .i64 s2) := k7.cell 1
  have d2 : W.cell? ⟨g7, 2, none⟩ = some (.int .i64 s3) := k7.cell 2
  have d3 : W.cell? ⟨g7, 3, none⟩ = some (.int .i64 s3) := k7.cell 3
  have d4 : W.cell? ⟨g7, 4, none⟩ = some (.int .i64 s5) := k7.cell 4
  have hlt4 := k4.lt
  have hne4 : ¬ w.heap.size + 1 = W.heap.size := by omega
  have t1 : IntKind.i64.wrap (36 + (L : Int)) = 36 + (L : Int) := IntWalk.i64_in _ (by omega)
  have T1 := hide t1
  clear t1
  have t2 : IntKind.i64.wrap (36 + (L : Int) + s2) = 36 + (L : Int) + s2 := IntWalk.i64_in _ (by omega)
  have T2 := hide t2
  clear t2
  have t3 : IntKind.i64.wrap (36 + (L : Int) + s2 + s3) = 36 + (L : Int) + s2 + s3 := IntWalk.i64_in _ (by omega)
  have T3 := hide t3
  clear t3
  have t4 : IntKind.i64.wrap (36 + (L : Int) + s2 + s3 + s3) = 36 + (L : Int) + s2 + s3 + s3 := IntWalk.i64_in _ (by omega)
  have T4 := hide t4
  clear t4
  have t5 : IntKind.i64.wrap (36 + (L : Int) + s2 + s3 + s3 + s5) = 36 + (L : Int) + s2 + s3 + s3 + s5 := IntWalk.i64_in _ (by omega)
  have T5 := hide t5
  clear t5
  have K4 := hide k4
  have B7 := hide b7
  clear k7 k4 b7
  go_wp2
  clear d0 d1 d2 d3 d4 c4 c6 c7 r2 r3 r5 hL hb hl hBl hm hm2 hc hn hs
  go_loopw [9, 41] (fun u9 u41 wr => (u41 = .int .i64 0 ∧ u9 = .int .i64 (36) ∧ wr = W.alloc (.cells #[.int .i64 0, .int .i64 0, .int .i64 0, .int .i64 0, .int .i64 0, .int .i64 0] 76)) ∨ (u41 = .int .i64 1 ∧ u9 = .int .i64 (36 + (L : Int)) ∧ wr = W.alloc (.cells #[.int .i64 (36), .int .i64 0, .int .i64 0, .int .i64 0, .int .i64 0, .int .i64 0] 76)) ∨ (u41 = .int .i64 2 ∧ u9 = .int .i64 (36 + (L : Int) + s2) ∧ wr = W.alloc (.cells #[.int .i64 (36), .int .i64 (36 + (L : Int)), .int .i64 0, .int .i64 0, .int .i64 0, .int .i64 0] 76)) ∨ (u41 = .int .i64 3 ∧ u9 = .int .i64 (36 + (L : Int) + s2 + s3) ∧ wr = W.alloc (.cells #[.int .i64 (36), .int .i64 (36 + (L : Int)), .int .i64 (36 + (L : Int) + s2), .int .i64 0, .int .i64 0, .int .i64 0] 76)) ∨ (u41 = .int .i64 4 ∧ u9 = .int .i64 (36 + (L : Int) + s2 + s3 + s3) ∧ wr = W.alloc (.cells #[.int .i64 (36), .int .i64 (36 + (L : Int)), .int .i64 (36 + (L : Int) + s2), .int .i64 (36 + (L : Int) + s2 + s3), .int .i64 0, .int .i64 0] 76)) ∨ (u41 = .int .i64 5 ∧ u9 = .int .i64 (36 + (L : Int) + s2 + s3 + s3 + s5) ∧ wr = W.alloc (.cells #[.int .i64 (36), .int .i64 (36 + (L : Int)), .int .i64 (36 + (L : Int) + s2), .int .i64 (36 + (L : Int) + s2 + s3), .int .i64 (36 + (L : Int) + s2 + s3 + s3), .int .i64 0] 76))) (fun _ u41 _ => 5 - (intOf u41).toNat)
  case atStart => exact .inl ⟨rfl, rfl, rfl⟩
  case round =>
   rcases hrel with ⟨rfl, rfl, rfl⟩ | ⟨rfl, rfl, rfl⟩ | ⟨rfl, rfl, rfl⟩ | ⟨rfl, rfl, rfl⟩ | ⟨rfl, rfl, rfl⟩ | ⟨rfl, rfl, rfl⟩
   ·have t1 := T1.out
    clear T1 T2 T3 T4 T5
    go_wp2
    go_roundw
    case rel => exact (.inr (.inl ⟨rfl, by simp, by simp⟩))
    case measure => simp [intOf]
   ·have t2 := T2.out
    clear T1 T2 T3 T4 T5
    go_wp2
    go_roundw
    case rel => exact (.inr (.inr (.inl ⟨rfl, by simp, by simp⟩)))
    case measure => simp [intOf]
   ·have t3 := T3.out
    clear T1 T2 T3 T4 T5
    go_wp2
    go_roundw
    case rel => exact (.inr (.inr (.inr (.inl ⟨rfl, by simp, by simp⟩))))
    case measure => simp [intOf]
   ·have t4 := T4.out
    clear T1 T2 T3 T4 T5
    go_wp2
    go_roundw
    case rel => exact (.inr (.inr (.inr (.inr (.inl ⟨rfl, by simp, by simp⟩)))))
    case measure => simp [intOf]
   ·have t5 := T5.out
    clear T1 T2 T3 T4 T5
    go_wp2
    go_roundw
    case rel => exact (.inr (.inr (.inr (.inr (.inr ⟨rfl, by simp, by simp⟩)))))
    case measure => simp [intOf]
   ·clear T1 T2 T3 T4 T5
    go_wp2_with (refine wpList_store_row (o := ⟨none, .store _ _ _, _, _, _, _⟩) (K4.out.alloc _) #[.int .i64 (36), .int .i64 (36 + (L : Int)), .int .i64 (36 + (L : Int) + s2), .int .i64 (36 + (L : Int) + s2 + s3), .int .i64 (36 + (L : Int) + s2 + s3 + s3), .int .i64 (36 + (L : Int) + s2 + s3 + s3 + s5)] rfl (by simp [Value.oneCell']) rfl 76 _ _ rfl (by kernel_rfl) rfl rfl ?_; intro wf hb1 hg1)
    exact bodyPost_ret (results_cell_row rfl _ _ (w.heap.size + 1) 76 #[.int .i64 (36), .int .i64 (36 + (L : Int)), .int .i64 (36 + (L : Int) + s2), .int .i64 (36 + (L : Int) + s2 + s3), .int .i64 (36 + (L : Int) + s2 + s3 + s3), .int .i64 (36 + (L : Int) + s2 + s3 + s3 + s5)] (0, 0) _ rfl hb1 Tryz.underlying76 rfl (by kernel_rfl)) rfl ⟨(B7.out.alloc B7.out.size _).grown hg1 (by simp; omega) (fun k hk => by cases hk; omega), rfl⟩
end Go.Proofs.YtdohebhbiokljaaGreatDoor
namespace Go.Proofs.YtdohebhbiokljaaGreatDoor
open Go.RowKit
attribute [local go_sem ↓] Go.wp_at_zero Go.wp_at_succ
set_option maxRecDepth 100000 in
set_option maxHeartbeats 1000000 in
theorem pick_any (x : Int) (n : Nat) (w : World) (hx : -9223372036854775808 ≤ x ∧ x ≤ 9223372036854775807) (hn : 1 ≤ n) (hn2 : n ≤ 1099511627776) :
  Calls Tryz.prog 15 #[.int .i64 x, .int .i64 (n : Int)] w fun e w' => (∃ k : Nat, k < n ∧ e = .returned (.int .i64 (k : Int))) ∧ w = w' := by
 obtain ⟨y, hy⟩ : ∃ y : Int, y = x.tmod (n : Int) := ⟨_, rfl⟩
 have h1 : y < (n : Int) := by rw [hy]; exact Int.tmod_lt_of_pos x (by omega)
 have h2 : -(n : Int) < y := by
  have := Int.tmod_lt_of_pos (-x) (show (0 : Int) < (n : Int) by omega)
  rw [Int.neg_tmod, ← hy] at this
  omega
 have e1 : x.tmod (n : Int) = y := hy.symm
 have e2 : ¬ (n : Int) = 0 := by omega
 have e3 : ¬ n = 0 := by omega
 have jw : IntKind.i64.wrap y = y := IntWalk.i64_in _ (by omega)
 have g1 : ((n : Int) < 1) = False := by simp; omega
 clear hy
 by_cases h0 : y < 0
 ·obtain ⟨k, hk⟩ : ∃ k : Nat, y + (n : Int) = (k : Int) := ⟨(y + (n : Int)).toNat, by omega⟩
  have jw2 : IntKind.i64.wrap (y + (n : Int)) = (k : Int) := by rw [hk]; exact IntWalk.i64_in _ (by omega)
  go_enter Tryz.func15, Tryz.ntmps15
  go_wp2
  go_ret
  exact ⟨⟨k, by omega, rfl⟩, rfl⟩
 ·obtain ⟨k, hk⟩ : ∃ k : Nat, y = (k : Int) := ⟨y.toNat, by omega⟩
  go_enter Tryz.func15, Tryz.ntmps15
  go_wp2
  go_ret
  exact ⟨⟨k, by omega, rfl⟩, rfl⟩
end Go.Proofs.YtdohebhbiokljaaGreatDoor
namespace Go.Proofs.YtdohebhbiokljaaGreatDoor
open Go.RowKit
def z32 : List UInt8 := List.replicate 32 0
end Go.Proofs.YtdohebhbiokljaaGreatDoor
