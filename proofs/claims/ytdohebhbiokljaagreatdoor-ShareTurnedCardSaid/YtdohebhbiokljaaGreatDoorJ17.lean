import Derived.Test.YtdohebhbiokljaaGreatDoorJ16
import Derived.Test.YtdohebhbiokljaaGreatDoorJ1
import Derived.Lib.ItoaLen
import Derived.Lib.AppendStr
import Derived.Deep.RegionHeldLaw
import Derived.Deep.DrawnRows
import Derived.Test.YtdohebhbiokljaaGreatDoorJ6
import Derived.Test.YtdohebhbiokljaaGreatDoorJ5
import Derived.Deep.RegionHeld3
import Derived.Deep.DeepCutAuto
import Derived.Test.YtdohebhbiokljaaGreatDoorJ7
set_option linter.all false
namespace Go.Proofs.YtdohebhbiokljaaGreatDoor
open Go.RowKit
attribute [local go_sem ↓] Go.wp_at_zero Go.wp_at_succ
theorem strCells_lst (s : ByteArray) : Lib.strCells s = bcells (lst s) := by simp [Lib.strCells, bcells, lst]
theorem step_pushStr {P : Program} {t u e : TypeId} (T : Elem1 P t e (.int .u8 0) 1) (hu : P.underlying u = some .string) {w : World} {base : Nat} {v : Value} {l : List UInt8} (hown : Own w base e v l)
  {w0 : World} (hb : Below base w0 w) (hbase : base ≤ w.heap.size) {s : ByteArray}
  {ops : Array Oper} {o : Oper} {a : Act} {K : Act → World → Prop} {Q : Exit → Act → World → Prop} {E : Prop} (hgd : o.guard = none) (x y : Operand)
  (ho : o.op = .call { callee := .builtin .append, args := #[x, y], argTypes := #[t, u] }) (hs : a.eval x = v) (hx : a.eval y = .string s) (hlen : l.length + s.size ≤ 140737488355328)
  (h : ∀ v' w', Own w' base e v' (l ++ lst s) → Below base w0 w' → w.grownBy w' v.ownBlock → K (a.put o.dst v') w') :
  if Region.wanted o (yielded ops a.tmps) = true then Oper.wp P o a w K Q else E := by
 have hw : Region.wanted o (yielded ops a.tmps) = true := by simp [Region.wanted, hgd]
 rw [if_pos hw]
 obtain ⟨i, hi, hz, h1, h2⟩ := info_parts T.hi
 obtain ⟨v', w', hrun, h3, h4, _⟩ := Lib.run_append_own_string (P := P) w base t u o.type e i T.ht hu hi hz h1 h2 v l.length (bcells l) hown s (by unfold maxLen; omega) hlen hbase
 unfold Oper.wp execOp
 simp only [ho, resolve, invoke, builtin, Sem.run_bind, Sem.run_pure, Result.andThen_ok, List.map_toArray, List.map_cons, List.map_nil, hs, hx, hrun]
 refine h v' w' ?_ (hb.grown h4 hbase fun k hk => (hown.lt k hk).1) h4
 unfold Own
 rw [bcells_append, List.length_append, lst_len, ← strCells_lst]
 exact h3
theorem base_le {w0 wr W : World} (hb : Below w0.heap.size w0 wr) (h : Below wr.heap.size wr W) : w0.heap.size ≤ W.heap.size := Nat.le_trans hb.size h.size
theorem below_step {w0 wr W : World} (hb : Below w0.heap.size w0 wr) (h : Below wr.heap.size wr W) : Below w0.heap.size w0 W := hb.trans (h.mono hb.size)
theorem lst_append (a b : ByteArray) : lst (a ++ b) = lst a ++ lst b := by simp [lst]
theorem cat5_lst (a n d : ByteArray) : lst (a ++ ⟨#[58]⟩ ++ n ++ ⟨#[44]⟩ ++ d ++ ⟨#[58]⟩) = lst a ++ 58 :: (lst n ++ [44]) ++ lst d ++ [58] := by
 simp only [lst_append]
 simp [lst]
theorem cat5_size (a n d : ByteArray) : (a ++ ⟨#[58]⟩ ++ n ++ ⟨#[44]⟩ ++ d ++ ⟨#[58]⟩ : ByteArray).size = a.size + n.size + d.size + 3 := by
 rw [← lst_len, cat5_lst]
 simp [lst_len]
 omega
set_option maxRecDepth 100000 in
set_option maxHeartbeats 8000000 in
theorem rpack_any (v : Value) (L : List RowV) (w : World) (h : Rws w v L) :
  Calls Tryz.prog 28 #[v] w fun e w' => Below w.heap.size w w' ∧
   ((may (rws L) ∧ ∃ v', e = .returned (.tuple #[v', .int .i64 0]) ∧ Own w' w.heap.size 5 v' (encs (rws L))) ∨
    (¬ may (rws L) ∧ e = .returned (.tuple #[.slice none 0 0, .int .i64 130]))) := by
 have HR := hide h
 have q1 := rmay_any v L w h
 obtain ⟨A, c, rfl, hc, hm, hcell⟩ := h.form
 have HC := hide hcell
 unfold maxLen at hm
 clear h hcell
 by_cases hmay : may (rws L)
 ·rw [decide_eq_true hmay] at q1
  have Q1 := hide q1
  have HMAY := hide hmay
  have h64 := may_len hmay
  rw [rws_length] at h64
  clear q1 hmay
  go_enter Tryz.func28, Tryz.ntmps28
  go_wp2_with fail
  refine Q1.out.mono ?_
  rintro e w1 ⟨rfl, d1⟩
  have DB := hide d1.below
  clear Q1 d1
  go_wp2_with fail
  go_loopw [4, 5] (fun u4 u5 wr => ∃ k : Nat, k ≤ L.length ∧ u5 = .int .i64 k ∧ Own wr w.heap.size 5 u4 (encs ((rws L).take k)) ∧ Below w.heap.size w wr) (fun _ i _ => L.length - (intOf i).toNat)
  case atStart => exact ⟨0, by omega, rfl, Own.nil _ _ _, DB.out⟩
  case round =>
   obtain ⟨k, hk, rfl, ho, hb⟩ := hrel
   have HO := hide ho
   clear ho
   by_cases hlt : k < L.length
   ·obtain ⟨x, hx⟩ : ∃ x, L[k]? = some x := ⟨_, List.getElem?_eq_getElem hlt⟩
    obtain ⟨b, o, rfl, hbl, h1, h2⟩ := HC.out k x hx
    have hby := HR.out.2 x (List.mem_of_getElem? hx)
    obtain ⟨A2, c2, hv2, _⟩ := hby.form
    rw [hv2] at h2 hby
    have hsz := may_mem HMAY.out (lst x.1, x.2.2) (List.mem_of_getElem? (rws_get hx))
    have hn64 : x.1.size ≤ 64 := by have := hsz.1; rwa [lst_len] at this
    have hv65 : x.2.2.length ≤ 65536 := hsz.2
    have hle := encs_len ((rws L).take k) 64 (by simp; omega) fun y hy => may_mem HMAY.out y (List.mem_of_mem_take hy)
    have HS : Hid (∀ W, Below w.heap.size w W → W.cell? ⟨b, o + k * 2, none⟩ = some (.string x.1) ∧ W.cell? ⟨b, o + k * 2 + 1, none⟩ = some (.slice A2 x.2.2.length c2)) := fun W hW =>
     ⟨(hW.cell (p := ⟨b, o + k * 2, none⟩) hbl).trans h1, (hW.cell (p := ⟨b, o + k * 2 + 1, none⟩) hbl).trans h2⟩
    obtain ⟨s1, s2⟩ := HS.out wr hb
    have HV : Hid (∀ W, Below w.heap.size w W → By W (.slice A2 x.2.2.length c2) x.2.2) := fun W hW => hby.below hW
    have D1 : Hid (∀ W, Below wr.heap.size wr W → Calls Tryz.prog 52 #[.int .i64 (x.1.size : Int)] W fun e w' => e = .returned (.string (itoaS (x.1.size : Int))) ∧ Below wr.heap.size wr w') := fun W hW =>
     (rdigits_any x.1.size W (by omega)).mono fun e w' ⟨g1, g2⟩ => ⟨g1, hW.trans (g2.mono hW.size)⟩
    have D2 : Hid (∀ W, Below wr.heap.size wr W → Calls Tryz.prog 52 #[.int .i64 (x.2.2.length : Int)] W fun e w' => e = .returned (.string (itoaS (x.2.2.length : Int))) ∧ Below wr.heap.size wr w') := fun W hW =>
     (rdigits_any x.2.2.length W (by omega)).mono fun e w' ⟨g1, g2⟩ => ⟨g1, hW.trans (g2.mono hW.size)⟩
    have z1 : (itoaS (x.1.size : Int)).size ≤ 21 := by rw [← lst_len, lst_itoaS]; exact Lib.itoa_length_le _ (by omega) (by omega)
    have z2 : (itoaS (x.2.2.length : Int)).size ≤ 21 := by rw [← lst_len, lst_itoaS]; exact Lib.itoa_length_le _ (by omega) (by omega)
    have l1 := hide (lst_itoaS (x.1.size : Int))
    have l2 := hide (lst_itoaS (x.2.2.length : Int))
    generalize itoaS (x.1.size : Int) = sd1 at *
    generalize itoaS (x.2.2.length : Int) = sd2 at *
    have HLEN : Hid ((encs ((rws L).take k)).length + (sd1 ++ ⟨#[58]⟩ ++ x.1 ++ ⟨#[44]⟩ ++ sd2 ++ ⟨#[58]⟩ : ByteArray).size ≤ 140737488355328) := by
     show _ ≤ _
     rw [cat5_size]
     omega
    have HLEN2 : Hid ((encs ((rws L).take k)).length ≤ 67108864 ∧ (lst (sd1 ++ ⟨#[58]⟩ ++ x.1 ++ ⟨#[44]⟩ ++ sd2 ++ ⟨#[58]⟩ : ByteArray)).length ≤ 200 ∧ x.2.2.length ≤ 65536) := by
     refine ⟨by omega, ?_, hv65⟩
     rw [lst_len, cat5_size]
     omega
    have LA : Hid ((encs ((rws L).take k) ++ lst (sd1 ++ ⟨#[58]⟩ ++ x.1 ++ ⟨#[44]⟩ ++ sd2 ++ ⟨#[58]⟩ : ByteArray)).length + x.2.2.length ≤ 140737488355328) := by
     show _ ≤ _
     have := HLEN2.out
     rw [List.length_append]
     omega
    have LB : Hid ((encs ((rws L).take k) ++ lst (sd1 ++ ⟨#[58]⟩ ++ x.1 ++ ⟨#[44]⟩ ++ sd2 ++ ⟨#[58]⟩ : ByteArray) ++ x.2.2).length + 1 ≤ 140737488355328) := by
     show _ ≤ _
     have := HLEN2.out
     rw [List.length_append, List.length_append]
     omega
    have hcat := cat5_lst sd1 x.1 sd2
    rw [l1.out, l2.out] at hcat
    have HCAT := hide hcat
    clear hcat
    have i1 : (k : Int) < (L.length : Int) := by omega
    have i2 : (0 : Int) ≤ (k : Int) := by omega
    have HX := hide hx
    clear hx h1 h2 hby hv2 hsz
    go_wp2_with fail
    go_region_held_law (fun w' => w'.cell? ⟨b, o + k * 2, none⟩ = some (.string x.1) ∧ w'.cell? ⟨b, o + k * 2 + 1, none⟩ = some (.slice A2 x.2.2.length c2))
     (first | go_keep | exact HS.out _ hbel4 | exact HS.out _ (hb.trans (r2.mono hb.size)) | exact HS.out _ (hb.trans (r1.mono hb.size)))
     (first
      | (go_at_call 52; (with_reducible refine (D1.out _ ?bb).mono ?_); (case bb => (repeat (first | with_reducible assumption | with_reducible exact Below.refl _ _ | with_reducible refine Below.drew ?_))); rintro e w2 ⟨rfl, r1⟩)
      | (go_at_call 52; (with_reducible refine (D2.out _ ?bb).mono ?_); (case bb => (repeat (first | with_reducible assumption | with_reducible exact Below.refl _ _ | with_reducible refine Below.drew ?_))); rintro e w3 ⟨rfl, r2⟩)
      | (refine step_pushStr elem8 Tryz.underlying9 (HO.out.below (by repeat (first | with_reducible assumption | with_reducible exact Below.refl _ _ | with_reducible refine Below.drew ?_))) (below_step hb (by repeat (first | with_reducible assumption | with_reducible exact Below.refl _ _ | with_reducible refine Below.drew ?_))) (base_le hb (by repeat (first | with_reducible assumption | with_reducible exact Below.refl _ _ | with_reducible refine Below.drew ?_))) (by rfl) _ _ (by rfl) (by rfl) (by rfl) HLEN.out ?_; intro v4 w4 hown4 hbel4 hgr4))
    all_goals
     obtain ⟨t1, t2⟩ := HS.out _ hbel4
     generalize (sd1 ++ ⟨#[58]⟩ ++ x.1 ++ ⟨#[44]⟩ ++ sd2 ++ ⟨#[58]⟩ : ByteArray) = S at *
     have HW4 := hide hown4
     have hyv := HV.out _ hbel4
     have HYV := hide hyv
     clear hown4 hyv
     go_wp2_with (at_builtin; go_loud (first | (refine wpList_pushV elem8 HW4.out hbel4 hbel4.size HYV.out LA.out rfl _ _ rfl rfl rfl ?_; intro v5 w5 hown5 hbel5 hgr5 _) | (refine wpList_pushB elem8 hown5 hbel5 hbel5.size LB.out 44 rfl _ _ rfl rfl rfl ?_; intro v6 w6 hown6 hbel6 hgr6 _)))
     go_roundw
     case rel =>
      refine ⟨k + 1, by omega, by go_num, ?_, hbel6⟩
      have hnext : encs ((rws L).take (k + 1)) = encs ((rws L).take k) ++ lst S ++ x.2.2 ++ [44] := by
       rw [take_snoc (rws L) k _ (rws_get HX.out), encs_snoc, HCAT.out]
       simp [enc, fld, lst_len]
      rw [hnext]
      exact hown6
     case measure => simp [intOf]; omega
   ·have hge : ¬ (k : Int) < (L.length : Int) := by omega
    have hks : k = L.length := by omega
    have hend := HO.out
    rw [hks, List.take_of_length_le (by simp)] at hend
    have HE := hide hend
    clear hks hend HO
    go_wp2
    go_ret2
    exact ⟨hb, .inl ⟨HMAY.out, _, rfl, HE.out⟩⟩
 ·rw [decide_eq_false hmay] at q1
  have HNO := hide hmay
  have Q1 := hide q1
  clear q1 hmay
  go_enter Tryz.func28, Tryz.ntmps28
  go_wp2_with fail
  refine Q1.out.mono ?_
  rintro e w1 ⟨rfl, d1⟩
  go_wp2_with fail
  go_ret2
  exact ⟨d1.below, .inr ⟨HNO.out, rfl⟩⟩
end Go.Proofs.YtdohebhbiokljaaGreatDoor
namespace Go.Proofs.YtdohebhbiokljaaGreatDoor
open Go.RowKit
theorem own_same {w w' : World} {base : Nat} {e : TypeId} {sz n : Nat} {v : Value} {xs : List Value} (h : w.ownsRow base e sz v n xs) (hb : ∀ g, v.ownBlock = some g → w'.heap[g]? = w.heap[g]?) : w'.ownsRow base e sz v n xs := by
 refine ⟨h.1, ?_⟩
 rcases h.2 with h0 | ⟨g, cap, cur, hv, h1, h2, h3⟩
 ·exact .inl h0
 ·exact .inr ⟨g, cap, cur, hv, h1, (hb g (by rw [hv]; rfl)).trans h2, h3⟩
theorem Own.same {w w' : World} {base : Nat} {e : TypeId} {v : Value} {l : List UInt8} (h : Own w base e v l) (hb : ∀ g, v.ownBlock = some g → w'.heap[g]? = w.heap[g]?) : Own w' base e v l := own_same h hb
def tMark : List UInt8 := [109, 97, 114, 107]
def mks70 (n : Nat) : List Rw := (List.range n).map fun i => (tMark, [UInt8.ofNat i])
@[simp] theorem mks70_length (n : Nat) : (mks70 n).length = n := by simp [mks70]
abbrev Ent := Value × List UInt8
def apts (E : List Ent) : Prop := E.Pairwise fun a b => a.1.ownBlock = none ∨ a.1.ownBlock ≠ b.1.ownBlock
def lentOf (L : List RowV) : List (List UInt8) := L.map fun x => x.2.2 ++ marks 0 x.2.2.length 70
structure Lnt (w : World) (base : Nat) (va ve : Value) (LA : List RowV) (E : List Ent) : Prop where
 rows : OwnR w base va LA
 each : w.ownsRow base 34 1 ve E.length (E.map (·.1))
 own : ∀ x ∈ E, Own w base 5 x.1 x.2
 apt : apts E
theorem Lnt.nil (w : World) (base : Nat) : Lnt w base (.slice none 0 0) (.slice none 0 0) [] [] :=
 ⟨OwnR.nil w base, World.ownsRow_nil w base _ 1, (fun x hx => by cases hx), List.Pairwise.nil⟩
theorem Lnt.below {w w' : World} {base : Nat} {va ve : Value} {LA : List RowV} {E : List Ent} (h : Lnt w base va ve LA E) (hb : Below w.heap.size w w') : Lnt w' base va ve LA E :=
 ⟨h.rows.below hb, own_below' h.each hb, fun x hx => (h.own x hx).below hb, h.apt⟩
theorem Lnt.same {w w' : World} {base : Nat} {va ve : Value} {LA : List RowV} {E : List Ent} (h : Lnt w base va ve LA E) (hi : Nat)
  (hb : ∀ g, base ≤ g → g < w.heap.size → g ≠ hi → w'.heap[g]? = w.heap[g]?) (h1 : va.ownBlock ≠ some hi) (h2 : ve.ownBlock ≠ some hi) (h3 : ∀ x ∈ E, x.1.ownBlock ≠ some hi) (h4 : ∀ x ∈ LA, x.2.1.ownBlock ≠ some hi) : Lnt w' base va ve LA E := by
 refine ⟨⟨own_same h.rows.1 fun g hg => ?_, fun x hx => (h.rows.2 x hx).same fun g hg => ?_⟩, own_same h.each fun g hg => ?_, fun x hx => (h.own x hx).same fun g hg => ?_, h.apt⟩
 ·exact hb g (h.rows.1.lt g hg).1 (h.rows.1.lt g hg).2 (fun e => h1 (by rw [hg, e]))
 ·exact hb g (World.ownsRow.lt (h.rows.2 x hx) g hg).1 (World.ownsRow.lt (h.rows.2 x hx) g hg).2 (fun e => h4 x hx (by rw [hg, e]))
 ·exact hb g (h.each.lt g hg).1 (h.each.lt g hg).2 (fun e => h2 (by rw [hg, e]))
 ·exact hb g (World.ownsRow.lt (h.own x hx) g hg).1 (World.ownsRow.lt (h.own x hx) g hg).2 (fun e => h3 x hx (by rw [hg, e]))
end Go.Proofs.YtdohebhbiokljaaGreatDoor
namespace Go.Proofs.YtdohebhbiokljaaGreatDoor
open Go.RowKit
end Go.Proofs.YtdohebhbiokljaaGreatDoor
namespace Go.Proofs.YtdohebhbiokljaaGreatDoor
open Go.RowKit
theorem rcells_take_ (L : List RowV) (k : Nat) : rcells (L.take k) = (rcells L).take (k * 2) := by
 induction L generalizing k with
 | nil => simp [rcells]
 | cons x L ih =>
  cases k with
  | zero => simp [rcells]
  | succ k =>
   rw [List.take_succ_cons]
   have : (k + 1) * 2 = k * 2 + 1 + 1 := by omega
   rw [this]
   simp only [rcells, List.flatMap_cons, List.cons_append, List.nil_append, List.take_succ_cons] at ih ⊢
   rw [ih]
theorem Rws.take_ {w : World} {A : Option Addr} {n c : Nat} {L : List RowV} (h : Rws w (.slice A n c) L) (k : Nat) (hk : k ≤ L.length) : Rws w (.slice A k c) (L.take k) := by
 obtain ⟨⟨h0, A', c0, hv, hc, hm, hcell⟩, hy⟩ := h
 injection hv with e1 e2 e3
 subst e1 e2 e3
 have hl : (L.take k).length = k := by rw [List.length_take]; omega
 refine ⟨⟨by simp, _, _, by rw [hl], by rw [hl]; omega, hm, fun h1 => ?_⟩, fun x hx => hy x (List.mem_of_mem_take hx)⟩
 rw [hl] at h1
 obtain ⟨b, o, hA, hb, hcs⟩ := hcell (by omega)
 refine ⟨b, o, hA, hb, fun j hj => ?_⟩
 rw [hl] at hj
 rw [hcs j (by omega), rcells_take_, List.getElem?_take_of_lt (by omega)]
end Go.Proofs.YtdohebhbiokljaaGreatDoor
namespace Go.Proofs.YtdohebhbiokljaaGreatDoor
open Go.RowKit
end Go.Proofs.YtdohebhbiokljaaGreatDoor
namespace Go.Proofs.YtdohebhbiokljaaGreatDoor.Apx
open Go.RowKit
attribute [local go_sem ↓] Go.wp_at_zero Go.wp_at_succ
def mkv (k i : Nat) : Value := .int .u8 ((mark (k : Int) (i : Int)).toNat : Int)
def mks (k n : Nat) : List Value := (List.range n).map (mkv k)
@[simp] theorem mks_length (k n : Nat) : (mks k n).length = n := by simp [mks]
theorem mks_succ (k n : Nat) : mks k (n + 1) = mks k n ++ [mkv k n] := by simp [mks, List.range_succ]
theorem mks_take (k n m : Nat) (h : m ≤ n) : (mks k n).take m = mks k m := by
 rw [mks, ← List.map_take, List.take_range, Nat.min_eq_left h]; rfl
def st1 (X : Nat → List Value) (ln : Nat → Nat) (k i j : Nat) : List Value :=
 if j < k then mks (j + 1) (ln j) else if j = k then mks (k + 1) i ++ (X j).drop i else X j
theorem st1_set (X : Nat → List Value) (ln : Nat → Nat) (k i : Nat) (h : ∀ j, (X j).length = ln j) (hi : i < ln k) :
  (st1 X ln k i k).set i (mkv (k + 1) i) = st1 X ln k (i + 1) k := by
 unfold st1
 rw [if_neg (by omega), if_pos rfl, if_neg (by omega), if_pos rfl, mks_succ]
 rw [List.set_append_right _ _ (by simp), mks_length, Nat.sub_self]
 rw [List.drop_eq_getElem_cons (by rw [h k]; omega)]
 simp only [List.append_assoc, List.set_cons_zero, List.cons_append, List.nil_append]
theorem st1_other (X : Nat → List Value) (ln : Nat → Nat) (k i j : Nat) (hj : j ≠ k) : st1 X ln k i j = st1 X ln k (i + 1) j := by
 unfold st1
 rw [if_neg (c := j = k) hj, if_neg (c := j = k) hj]
theorem own_ne {w : World} {b1 b2 : Nat} {e1 e2 : TypeId} {s1 s2 : Nat} {v1 v2 : Value} {n1 n2 : Nat} {x1 x2 : List Value} (h1 : w.ownsRow b1 e1 s1 v1 n1 x1) (h2 : w.ownsRow b2 e2 s2 v2 n2 x2) (he : e1 ≠ e2) :
  v1.ownBlock = none ∨ v1.ownBlock ≠ v2.ownBlock := by
 rcases h1.2 with ⟨rfl, _⟩ | ⟨g, cap, cur, rfl, _, hh, _⟩
 ·exact .inl rfl
 ·refine .inr ?_
  rcases h2.2 with ⟨rfl, _⟩ | ⟨g', cap', cur', rfl, _, hh', _⟩
  ·simp [Value.ownBlock]
  ·intro hg
   have : g = g' := by simpa [Value.ownBlock] using hg
   subst this
   rw [hh] at hh'
   injection hh' with hh'
   injection hh' with _ ht
   exact he ht
def Ph1 (w0 : World) (base : Nat) (e E : TypeId) (vls : Value) (n : Nat) (vs : Nat → Value) (ln : Nat → Nat) (X : Nat → List Value) (k i : Nat) (wr : World) : Prop :=
 wr.ownsRow base E 1 vls n ((List.range n).map vs) ∧ (∀ j, j < n → wr.ownsRow base e 1 (vs j) (ln j) (st1 X ln k i j)) ∧ Below base w0 wr
def Dist (n : Nat) (vs : Nat → Value) : Prop := ∀ i j, i < n → j < n → i ≠ j → (vs i).ownBlock = none ∨ (vs i).ownBlock ≠ (vs j).ownBlock
theorem Ph1.store {w0 : World} {base : Nat} {e E : TypeId} {vls : Value} {n : Nat} {vs : Nat → Value} {ln : Nat → Nat} {X : Nat → List Value} {k i : Nat} {wr : World} (heE : e ≠ E) (hX : ∀ j, (X j).length = ln j)
  (h : Ph1 w0 base e E vls n vs ln X k i wr) (hd : Dist n vs) (hk : k < n) (hi : i < ln k) {g cap : Nat} (hv : vs k = .slice (some ⟨g, 0, none⟩) (ln k) cap) :
  Ph1 w0 base e E vls n vs ln X k (i + 1) (wr.setCell ⟨g, i, none⟩ (mkv (k + 1) i)).drew := by
 obtain ⟨h1, h2, h3⟩ := h
 have hk2 := h2 k hk
 have hk3 := h2 k hk
 rw [hv] at hk2
 obtain ⟨hs, hg⟩ := hk2.stored i (mkv (k + 1) i)
 have hb : base ≤ g := (hk2.lt g rfl).1
 have hg' : wr.grownBy (wr.setCell ⟨g, i, none⟩ (mkv (k + 1) i)).drew (some g) := ⟨hg.os, hg.tape, hg.output, hg.size, hg.block⟩
 refine ⟨?_, fun j hj => ?_, ?_⟩
 ·have := own_ne h1 hk3 (Ne.symm heE)
  rw [hv] at this
  exact h1.kept hg' this
 ·by_cases hjk : j = k
  ·subst hjk
   rw [st1_set X ln j i hX hi, ← hv] at hs
   exact hs
  ·rw [← st1_other X ln k i j hjk]
   have := hd j k hj hk hjk
   rw [hv] at this
   exact (h2 j hj).kept hg' this
 ·exact (h3.setCell hb _).drew
def Apt (a b : Value) : Prop := a.ownBlock = none ∨ a.ownBlock ≠ b.ownBlock
theorem Apt.symm {a b : Value} (h : Apt a b) : Apt b a := by
 unfold Apt at *
 rcases hb : b.ownBlock with _ | x
 ·exact .inl rfl
 ·rcases h with h | h
  ·right; rw [h]; simp
  ·right; rw [hb] at h; exact Ne.symm h
theorem own_prefix {w w1 : World} {base : Nat} {e : TypeId} {v g : Value} {n m : Nat} {xs ys : List Value} (h : w.ownsRow base e 1 v n xs) (hg : w.ownsRow base e 1 g m ys) (hb : v.ownBlock = g.ownBlock)
  (hp : ys.take n = xs) (hnm : n ≤ m) (hg1 : w1.ownsRow base e 1 g m ys) : w1.ownsRow base e 1 v n xs := by
 rcases h.2 with ⟨rfl, rfl⟩ | ⟨b, cap, cur, rfl, hbb, hh, hnc, hcm, hcs, ht⟩
 ·exact ⟨h.1, .inl ⟨rfl, rfl⟩⟩
 ·rcases hg.2 with ⟨rfl, _⟩ | ⟨b', cap', cur', rfl, _, hh', hmc, _, hcs', _⟩
  ·simp [Value.ownBlock] at hb
  ·have hbe : b = b' := by simpa [Value.ownBlock] using hb
   subst hbe
   rw [hh] at hh'
   injection hh' with hh'
   injection hh' with hc
   subst hc
   have hcap : cap = cap' := by omega
   rcases hg1.2 with ⟨h0, _⟩ | ⟨b2, cap2, cur2, hv2, _, hh2, _, _, hcs2, ht2⟩
   ·cases h0
   ·injection hv2 with hA _ hC
    injection hA with hA
    injection hA with hA
    subst hA hC
    refine ⟨h.1, .inr ⟨b, cap, cur2, rfl, hbb, hh2, hnc, hcm, by omega, ?_⟩⟩
    rw [← hp, ← ht2, List.take_take]
    congr 1
    omega
structure Ph2 (w0 : World) (base : Nat) (e E : TypeId) (vls vgs : Value) (n : Nat) (vs : Nat → Value) (ln : Nat → Nat) (Gs : List Value) (wr : World) : Prop where
 ls : wr.ownsRow base E 1 vls n ((List.range n).map vs)
 gs : wr.ownsRow base E 1 vgs Gs.length Gs
 old : ∀ j, j < n → wr.ownsRow base e 1 (vs j) (ln j) (mks (j + 1) (ln j))
 new : ∀ (j : Nat) (g : Value), Gs[j]? = some g → wr.ownsRow base e 1 g (ln j + 70) (mks (j + 1) (ln j + 70))
 apt : ∀ (i j : Nat) (g : Value), Gs[i]? = some g → j < n → i ≠ j → Apt g (vs j)
 aptg : ∀ (i j : Nat) (g h : Value), Gs[i]? = some g → Gs[j]? = some h → i ≠ j → Apt g h
 apto : Apt vgs vls
 dist : Dist n vs
 below : Below base w0 wr
structure Cur (base : Nat) (e : TypeId) (n : Nat) (vs : Nat → Value) (ln : Nat → Nat) (Gs : List Value) (k i : Nat) (g : Value) (wr : World) : Prop where
 own : wr.ownsRow base e 1 g (ln k + i) (mks (k + 1) (ln k + i))
 apt : ∀ j, j < n → k ≠ j → Apt g (vs j)
 aptg : ∀ (i' : Nat) (h : Value), Gs[i']? = some h → Apt g h
theorem apt_new {w : World} {base : Nat} {e : TypeId} {s : Nat} {g g' h : Value} {n : Nat} {xs : List Value} (ho : w.ownsRow base e s h n xs) (ha : Apt g h)
  (hb : g'.ownBlock = g.ownBlock ∨ ∀ x, g'.ownBlock = some x → w.heap.size ≤ x) : Apt g' h := by
 rcases hb with hb | hb
 ·unfold Apt at *
  rw [hb]; exact ha
 ·rcases hg : g'.ownBlock with _ | x
  ·exact .inl hg
  ·refine .inr ?_
   rw [hg]
   intro he
   have h1 := (ho.lt x he.symm).2
   have h2 := hb x hg
   omega
theorem Ph2.drewN {w0 : World} {base : Nat} {e E : TypeId} {vls vgs : Value} {n : Nat} {vs : Nat → Value} {ln : Nat → Nat} {Gs : List Value} {wr : World} (h : Ph2 w0 base e E vls vgs n vs ln Gs wr) (q : Nat) :
  Ph2 w0 base e E vls vgs n vs ln Gs (wr.drewN q) := ⟨h.ls, h.gs, h.old, h.new, h.apt, h.aptg, h.apto, h.dist, below_drewN h.below q⟩
theorem Ph2.push {w0 : World} {base : Nat} {e E : TypeId} {vls vgs : Value} {n : Nat} {vs : Nat → Value} {ln : Nat → Nat} {Gs : List Value} {wr w1 : World} {k i : Nat} {g g' : Value} (heE : e ≠ E)
  (h : Ph2 w0 base e E vls vgs n vs ln Gs wr) (c : Cur base e n vs ln Gs k i g wr) (hk : k < n) (hown : w1.ownsRow base e 1 g' (ln k + i + 1) (mks (k + 1) (ln k + i) ++ [mkv (k + 1) (ln k + i)]))
  (hold : w1.ownsRow base e 1 g (ln k + i) (mks (k + 1) (ln k + i))) (hg : wr.grownBy w1 g.ownBlock) (hb : g'.ownBlock = g.ownBlock ∨ ∀ x, g'.ownBlock = some x → wr.heap.size ≤ x) (hbel : Below base w0 w1) :
  Ph2 w0 base e E vls vgs n vs ln Gs w1 ∧ Cur base e n vs ln Gs k (i + 1) g' w1 := by
 refine ⟨⟨h.ls.kept hg (own_ne h.ls c.own (Ne.symm heE)), h.gs.kept hg (own_ne h.gs c.own (Ne.symm heE)), fun j hj => ?_, fun j x hx => (h.new j x hx).kept hg (c.aptg j x hx).symm, h.apt, h.aptg, h.apto, h.dist, hbel⟩,
  ⟨by rw [← Nat.add_assoc, mks_succ]; exact hown, fun j hj hkj => apt_new (h.old j hj) (c.apt j hj hkj) hb, fun j x hx => apt_new (h.new j x hx) (c.aptg j x hx) hb⟩⟩
 by_cases hkj : k = j
 ·subst hkj
  by_cases hs : (vs k).ownBlock = g.ownBlock
  ·exact own_prefix (h.old k hk) c.own hs (mks_take _ _ _ (by omega)) (by omega) hold
  ·exact (h.old k hk).kept hg (.inr hs)
 ·exact (h.old j hj).kept hg (c.apt j hj hkj).symm
theorem own_base {w : World} {base base' : Nat} {e : TypeId} {sz n : Nat} {v : Value} {xs : List Value} (h : w.ownsRow base e sz v n xs) (hb : base' ≤ base) : w.ownsRow base' e sz v n xs := by
 obtain ⟨h1, h2 | ⟨g, cap, cur, hv, hg, r⟩⟩ := h
 ·exact ⟨h1, .inl h2⟩
 ·exact ⟨h1, .inr ⟨g, cap, cur, hv, by omega, r⟩⟩
theorem Own.base {w : World} {base base' : Nat} {e : TypeId} {v : Value} {l : List UInt8} (h : Own w base e v l) (hb : base' ≤ base) : Own w base' e v l := own_base h hb
end Go.Proofs.YtdohebhbiokljaaGreatDoor.Apx
namespace Go.Proofs.YtdohebhbiokljaaGreatDoor
open Go.RowKit
def PackOf (rs : List Rw) (l : List UInt8) (er : Int) : Prop := (may rs ∧ l = encs rs ∧ er = 0) ∨ (¬ may rs ∧ l = [] ∧ er = 130)
theorem rpack_of (v : Value) (L : List RowV) (l : List UInt8) (er : Int) (w : World) (h : Rws w v L) (hp : PackOf (rws L) l er) :
  Calls Tryz.prog 28 #[v] w fun e w' => Below w.heap.size w w' ∧ ∃ A c, e = .returned (.tuple #[.slice A l.length c, .int .i64 er]) ∧ Own w' w.heap.size 5 (.slice A l.length c) l := by
 refine (rpack_any v L w h).mono ?_
 rintro e w' ⟨hb, ⟨hm, v', rfl, ho⟩ | ⟨hm, rfl⟩⟩
 ·rcases hp with ⟨_, rfl, rfl⟩ | ⟨hn, _⟩
  ·obtain ⟨A, c, hv, _⟩ := ho.by_.form
   subst hv
   exact ⟨hb, A, c, rfl, ho⟩
  ·exact absurd hm hn
 ·rcases hp with ⟨hn, _⟩ | ⟨_, rfl, rfl⟩
  ·exact absurd hn hm
  ·exact ⟨hb, none, 0, rfl, Own.nil _ _ _⟩
theorem Lnt.keep {w w' : World} {base : Nat} {va ve : Value} {LA : List RowV} {E : List Ent} (h : Lnt w base va ve LA E) (hb : ∀ g, base ≤ g → g < w.heap.size → w'.heap[g]? = w.heap[g]?) : Lnt w' base va ve LA E :=
 ⟨⟨own_same h.rows.1 fun g hg => hb g (h.rows.1.lt g hg).1 (h.rows.1.lt g hg).2, fun x hx => own_same (h.rows.2 x hx) fun g hg => hb g (World.ownsRow.lt (h.rows.2 x hx) g hg).1 (World.ownsRow.lt (h.rows.2 x hx) g hg).2⟩,
  own_same h.each fun g hg => hb g (h.each.lt g hg).1 (h.each.lt g hg).2, fun x hx => own_same (h.own x hx) fun g hg => hb g (World.ownsRow.lt (h.own x hx) g hg).1 (World.ownsRow.lt (h.own x hx) g hg).2, h.apt⟩
structure Lent (w : World) (base : Nat) (L : List RowV) (Aa : Option Addr) (na ca : Nat) (Ae : Option Addr) (ne ce : Nat) : Prop where
 ex : ∃ LA E, Lnt w base (.slice Aa na ca) (.slice Ae ne ce) LA E ∧ rws LA = rws L ++ mks70 70 ∧ E.map (·.2) = lentOf L
theorem Lent.below {w w' : World} {base : Nat} {L : List RowV} {Aa : Option Addr} {na ca : Nat} {Ae : Option Addr} {ne ce : Nat} (h : Lent w base L Aa na ca Ae ne ce) (hb : Below w.heap.size w w') : Lent w' base L Aa na ca Ae ne ce := by
 obtain ⟨LA, E, h1, h2⟩ := h.ex
 exact ⟨LA, E, h1.below hb, h2⟩
theorem Lent.keep {w w' : World} {base : Nat} {L : List RowV} {Aa : Option Addr} {na ca : Nat} {Ae : Option Addr} {ne ce : Nat} (h : Lent w base L Aa na ca Ae ne ce) (hb : ∀ g, base ≤ g → g < w.heap.size → w'.heap[g]? = w.heap[g]?) : Lent w' base L Aa na ca Ae ne ce := by
 obtain ⟨LA, E, h1, h2⟩ := h.ex
 exact ⟨LA, E, h1.keep hb, h2⟩
theorem Lent.cap {w : World} {base : Nat} {L : List RowV} {Aa : Option Addr} {na ca : Nat} {Ae : Option Addr} {ne ce : Nat} (h : Lent w base L Aa na ca Ae ne ce) : L.length ≤ ca := by
 obtain ⟨LA, E, h1, h2, h3⟩ := h.ex
 obtain ⟨A, c, hv, hc, _⟩ := h1.rows.rws_.form
 injection hv with e1 e2 e3
 have := congrArg List.length h2
 simp at this
 omega
theorem Lent.front {w : World} {base : Nat} {L : List RowV} {Aa : Option Addr} {na ca : Nat} {Ae : Option Addr} {ne ce : Nat} (h : Lent w base L Aa na ca Ae ne ce) : ∃ L2, Rws w (.slice Aa L.length ca) L2 ∧ rws L2 = rws L := by
 obtain ⟨LA, E, h1, h2, h3⟩ := h.ex
 have hl := congrArg List.length h2
 simp at hl
 refine ⟨LA.take L.length, h1.rows.rws_.take_ L.length (by omega), ?_⟩
 have : (rws LA).take L.length = rws L := by rw [h2, List.take_left' (by simp)]
 rw [← this]
 simp [rws, List.map_take]
end Go.Proofs.YtdohebhbiokljaaGreatDoor
namespace Go.Proofs.YtdohebhbiokljaaGreatDoor
open Go.RowKit
set_option maxRecDepth 100000 in
set_option maxHeartbeats 1000000 in
theorem rcheck_w (u : US) (w : World) :
  Calls Tryz.prog 27 #[.agg u.cells] w fun e w' => Below w.heap.size w w' ∧ e = .returned (.int .i64 (if agOK u.k u.n u.seg u.size then 0 else 133)) := by
 by_cases hag : agOK u.k u.n u.seg u.size
 ·exact rcheck_u u (agOK_in hag) w
 obtain ⟨k, n, seg, size, sh, sg⟩ := u
 simp only at hag ⊢
 have f0 : (US.cells ⟨k, n, seg, size, sh, sg⟩)[0]? = some (.int .i64 k) := rfl
 have f1 : (US.cells ⟨k, n, seg, size, sh, sg⟩)[1]? = some (.int .i64 n) := rfl
 have f2 : (US.cells ⟨k, n, seg, size, sh, sg⟩)[2]? = some (.int .i64 seg) := rfl
 have f3 : (US.cells ⟨k, n, seg, size, sh, sg⟩)[3]? = some (.int .i64 size) := rfl
 have HAL := hide ((Below.refl w.heap.size w).alloc (Nat.le_refl _) (.cells (US.cells ⟨k, n, seg, size, sh, sg⟩) 25))
 generalize US.cells ⟨k, n, seg, size, sh, sg⟩ = cs at *
 rw [if_neg hag]
 have HQ := hide (fun w => ragain_no k n seg size w hag)
 go_enter Tryz.func27, Tryz.ntmps27
 go_wp2_with fail
 refine (HQ.out _).mono ?_
 rintro e w1 ⟨b1, rfl⟩
 have B1 := hide (HAL.out.trans (b1.mono HAL.out.size))
 clear b1 HQ
 go_wp2
 go_ret
 refine ⟨?_, rfl⟩
 have := B1.out
 have := B1.out.size
 go_grown
theorem numS_nat (n : Nat) : numS (n : Int) = itoaS (n : Int) := by unfold numS; rw [if_neg (by omega)]
theorem six_rws {u : N6} {w : World} {g : Nat} (h : SixU u w g) : ∃ L : List RowV, Rws w (.slice (some ⟨g, 0, none⟩) 6 6) L ∧ rws L = uebRows (u.k : Int) (u.n : Int) (u.seg : Int) (u.size : Int) u.sh u.sg := by
 have hlt := h.lt
 obtain ⟨e, f, v0, v1, v2, v3, v4, v5, hh, a0, a1, a2, a3, a4, a5⟩ := h
 refine ⟨[(keyB 0, v0, lst (itoaS (u.k : Int))), (keyB 1, v1, lst (itoaS (u.n : Int))), (keyB 2, v2, lst (itoaS (u.seg : Int))), (keyB 4, v3, u.sg), (keyB 5, v4, u.sh), (keyB 3, v5, lst (itoaS (u.size : Int)))], ⟨⟨by simp, _, 6, rfl, Nat.le_refl _, by unfold maxLen; omega, fun _ => ⟨g, 0, rfl, hlt, fun j hj => ?_⟩⟩, ?_⟩, ?_⟩
 ·rw [Nat.zero_add, cell_of_row w g j _ e f hh]
  simp [rcells]
 ·intro y hy
  simp only [List.mem_cons, List.mem_nil_iff, or_false] at hy
  rcases hy with rfl | rfl | rfl | rfl | rfl | rfl
  ·exact a0
  ·exact a1
  ·exact a2
  ·exact a3
  ·exact a4
  ·exact a5
 ·simp only [rws, uebRows, numS_nat, List.map_cons, List.map_nil]
  rfl
set_option maxRecDepth 100000 in
set_option maxHeartbeats 2000000 in
theorem rwrite_ok (u : US) (hw : u.wf) (ha : u.may) (w : World) :
  Calls Tryz.prog 7 #[.agg u.cells] w fun e w' => Below w.heap.size w w' ∧ ∃ A c, e = .returned (.tuple #[.slice A (writeU u).length c, .int .i64 0]) ∧ Own w' w.heap.size 5 (.slice A (writeU u).length c) (writeU u) := by
 have h64 := US.may_in64 ha
 have hin := agOK_in ha
 have hm := uebRows_may u.k u.n u.seg u.size u.sh u.sg h64.1 h64.2.1 h64.2.2.1 h64.2.2.2 hw.1 hw.2
 have hck : ∀ w, Calls Tryz.prog 27 #[.agg u.cells] w fun e w' => Below w.heap.size w w' ∧ e = .returned (.int .i64 0) := fun w => by
  have := rcheck_w u w
  rw [if_pos (show agOK u.k u.n u.seg u.size from ha)] at this
  exact this
 have hsz : u.cells.size = 68 := US.size_ hw
 obtain ⟨k, n, seg, size, sh, sg⟩ := u
 simp only at hin hm
 obtain ⟨K, rfl⟩ : ∃ K : Nat, k = (K : Int) := ⟨k.toNat, by omega⟩
 obtain ⟨M, rfl⟩ : ∃ K : Nat, n = (K : Int) := ⟨n.toNat, by omega⟩
 obtain ⟨G, rfl⟩ : ∃ K : Nat, seg = (K : Int) := ⟨seg.toNat, by omega⟩
 obtain ⟨Z, rfl⟩ : ∃ K : Nat, size = (K : Int) := ⟨size.toNat, by omega⟩
 have hro := fun w => rrows_any ⟨K, M, G, Z, sh, sg⟩ w hw.1 hw.2 (by simp only; omega) (by simp only; omega) (by simp only; omega) (by simp only; omega)
 have hce : N6.cells ⟨K, M, G, Z, sh, sg⟩ = US.cells ⟨(K : Int), (M : Int), (G : Int), (Z : Int), sh, sg⟩ := rfl
 rw [hce] at hro
 obtain ⟨l, hl⟩ : ∃ l, l = writeU ⟨(K : Int), (M : Int), (G : Int), (Z : Int), sh, sg⟩ := ⟨_, rfl⟩
 have hpk : ∀ g W, SixU ⟨K, M, G, Z, sh, sg⟩ W g → Calls Tryz.prog 28 #[.slice (some ⟨g, 0, none⟩) 6 6] W fun e w' => Below W.heap.size W w' ∧ ∃ A c, e = .returned (.tuple #[.slice A l.length c, .int .i64 0]) ∧ Own w' W.heap.size 5 (.slice A l.length c) l := fun g W h => by
  obtain ⟨L, h1, h2⟩ := six_rws h
  exact rpack_of _ L l 0 W h1 (.inl ⟨by rw [h2]; exact hm, by rw [hl, h2]; rfl, rfl⟩)
 rw [← hl]
 have HC := hide hck
 have HRO := hide hro
 have HPK := hide hpk
 clear hck hro hpk hce hl hm hin h64 ha hw
 generalize US.cells ⟨(K : Int), (M : Int), (G : Int), (Z : Int), sh, sg⟩ = cs at *
 have HSZ := hide hsz
 have HB := hide (And.intro (Blk.new w 25 cs) ((Below.refl w.heap.size w).alloc (Nat.le_refl _) (.cells cs 25)))
 clear hsz
 go_enter Tryz.func7, Tryz.ntmps7
 go_wp2_with first
  | ((with_reducible change wpList _ _ _ (⟨some 4, _, _, _, _, _⟩ :: _) _ _); refine wpList_load_row (o := ⟨some 4, .load _ _, _, _, _, _⟩) rfl 25 _ rfl w.heap.size rfl 25 cs (0, 0) _ HB.out.1 Tryz.underlying25 rfl (by rw [HSZ.out]; kernel_rfl) ?_)
  | (go_at_call 27; refine (HC.out _).mono ?_; rintro e w1 ⟨b1, rfl⟩; go_loud (have H1 := hide (And.intro (HB.out.1.below' b1) (HB.out.2.trans (b1.mono HB.out.2.size))); clear b1))
  | ((with_reducible change wpList _ _ _ (⟨some 7, _, _, _, _, _⟩ :: _) _ _); refine wpList_load_row (o := ⟨some 7, .load _ _, _, _, _, _⟩) rfl 25 _ rfl w.heap.size rfl 25 cs (0, 0) _ H1.out.1 Tryz.underlying25 rfl (by rw [HSZ.out]; kernel_rfl) ?_)
  | (go_at_call 29; refine (HRO.out _).mono ?_; rintro e w2 ⟨b2, g, rfl, h6, hg0⟩; go_loud (have H2 := hide (And.intro h6 (H1.out.2.trans (b2.mono H1.out.2.size))); clear b2 h6 hg0))
  | (go_at_call 28; refine (HPK.out _ _ H2.out.1).mono ?_; rintro e w3 ⟨b3, A3, c3, rfl, o3⟩; go_loud (have H3 := hide (And.intro (Own.base o3 H2.out.2.size) (H2.out.2.trans (b3.mono H2.out.2.size))); clear b3 o3))
 go_ret2
 exact ⟨H3.out.2, A3, c3, rfl, H3.out.1⟩
end Go.Proofs.YtdohebhbiokljaaGreatDoor
