/- Joined texts: RdS, RefP, PkA, PkB, PkC, PkD, ApN, PkE, UwA, BigP, BigA. -/
import Derived.Test.YtkhlbpclfeakpaaDoorJ6
import Derived.Test.YtkhlbpclfeakpaaDoorJ7
import Derived.Test.YtkhlbpclfeakpaaDoorJ4
import Derived.Test.YtkhlbpclfeakpaaDoorJ5
import Derived.Test.YtkhlbpclfeakpaaDoorJ1
import Derived.Lib.ItoaLen
import Derived.Lib.AppendStr
import Derived.Deep.RegionHeldLaw
import Derived.Deep.DrawnRows
import Derived.Test.YtkhlbpclfeakpaaDoorJ3
import Derived.Deep.RegionHeld3
import Derived.Deep.DeepCutAuto

/- The contracts of the program's Write and Check, said of a Ueb. -/
namespace Go.Proofs.YtkhlbpclfeakpaaDoor
open Go.RowKit

def US.in64 (u : US) : Prop := (-9223372036854775808 ≤ u.k ∧ u.k ≤ 9223372036854775807) ∧ (-9223372036854775808 ≤ u.n ∧ u.n ≤ 9223372036854775807) ∧ (-9223372036854775808 ≤ u.seg ∧ u.seg ≤ 9223372036854775807) ∧ (-9223372036854775808 ≤ u.size ∧ u.size ≤ 9223372036854775807)
theorem US.may_in64 {u : US} (h : u.may) : u.in64 := by
  have := agOK_in h
  unfold US.in64
  omega
theorem writeU_ok (u : US) (hw : u.wf) (ha : u.may) (w : World) (ht : Tab w) :
    Calls Tryd.prog 29 #[.agg u.cells] w fun e w' => Below w.heap.size w w' ∧ ∃ A c, e = .returned (.tuple #[.slice A (writeU u).length c, .int .i64 0]) ∧ Own w' w.heap.size 5 (.slice A (writeU u).length c) (writeU u) := by
  obtain ⟨h1, h2, h3, h4⟩ := US.may_in64 ha
  refine Calls.mono (write_ok u.k u.n u.seg u.size u.sh u.sg w h1 h2 h3 h4 hw.1 hw.2 ht ha) ?_
  rintro e w' ⟨b, A, n', c, rfl, o⟩
  have hn : n' = (writeU u).length := by
    obtain ⟨A', c', hv, _⟩ := o.by_.form
    injection hv
  subst hn
  exact ⟨b, A, c, rfl, o⟩
theorem writeU_bad (u : US) (hw : u.wf) (hi : u.in64) (hn : ¬ u.may) (w : World) :
    Calls Tryd.prog 29 #[.agg u.cells] w fun e w' => Below w.heap.size w w' ∧ e = .returned (.tuple #[.slice none 0 0, .int .i64 133]) :=
  write_bad u.k u.n u.seg u.size (bcells u.sh ++ bcells u.sg) w hi.1 hi.2.1 hi.2.2.1 hi.2.2.2 (by simp [hw.1, hw.2]) hn
theorem checkU (u : US) (hi : u.in64) (w : World) :
    Calls Tryd.prog 32 #[.agg u.cells] w fun e w' => Below w.heap.size w w' ∧ e = .returned (.int .i64 (if agOK u.k u.n u.seg u.size then 0 else 133)) :=
  check_any_ueb u.k u.n u.seg u.size (bcells u.sh ++ bcells u.sg) w hi.1 hi.2.1 hi.2.2.1 hi.2.2.2
theorem writeU_len {u : US} (hw : u.wf) (ha : u.may) : (writeU u).length ≤ 67108864 := by
  obtain ⟨h1, h2, h3, h4⟩ := US.may_in64 ha
  have hm := uebRows_may u.k u.n u.seg u.size u.sh u.sg h1 h2 h3 h4 hw.1 hw.2
  have h5 := encs_len _ 64 (may_len hm) (may_mem hm)
  unfold writeU
  omega
end Go.Proofs.YtkhlbpclfeakpaaDoor

/- The contract of the document's Pack. -/
namespace Go.Proofs.YtkhlbpclfeakpaaDoor
open Go.RowKit
attribute [local go_sem ↓] Go.wp_at_zero Go.wp_at_succ

theorem strCells_lst (s : ByteArray) : Lib.strCells s = bcells (lst s) := by simp [Lib.strCells, bcells, lst]
/-- 'append(out, s...)' of a text, at a step of a region that draws its order. -/
theorem step_pushStr {P : Program} {t u e : TypeId} (T : Elem1 P t e (.int .u8 0) 1) (hu : P.underlying u = some .string) {w : World} {base : Nat} {v : Value} {l : List UInt8} (hown : Own w base e v l)
    {w0 : World} (hb : Below base w0 w) (hbase : base ≤ w.heap.size) {s : ByteArray}
    {ops : Array Oper} {o : Oper} {a : Act} {K : Act → World → Prop} {Q : Exit → Act → World → Prop} {E : Prop} (hgd : o.guard = none) (x y : Operand)
    (ho : o.op = .call { callee := .builtin .append, args := #[x, y], argTypes := #[t, u] }) (hs : a.eval x = v) (hx : a.eval y = .string s) (hlen : l.length + s.size ≤ 140737488355328)
    (h : ∀ v' w', Own w' base e v' (l ++ lst s) → Below base w0 w' → w.grownBy w' v.ownBlock → K (a.put o.dst v') w') :
    if Region.wanted o (yielded ops a.tmps) = true then Oper.wp P o a w K Q else E := by
  have hw : Region.wanted o (yielded ops a.tmps) = true := by simp [Region.wanted, hgd]
  rw [if_pos hw]
  obtain ⟨i, hi, hz, h1, h2⟩ := info_parts T.hi
  obtain ⟨v', w', hrun, h3, h4, _⟩ := Lib.run_append_own_string (P := P) w base t u o.type e i T.ht hu hi hz h1 h2 v l.length (bcells l) hown s (by unfold maxLen; omega) hlen hbase
  unfold Oper.wp execOp
  simp only [ho, resolve, invoke, builtin, Sem.run_bind, Sem.run_pure, Result.andThen_ok, List.map_toArray, List.map_cons, List.map_nil, hs, hx, hrun]
  refine h v' w' ?_ (hb.grown h4 hbase fun k hk => (hown.lt k hk).1) h4
  unfold Own
  rw [bcells_append, List.length_append, lst_len, ← strCells_lst]
  exact h3
theorem base_le {w0 wr W : World} (hb : Below w0.heap.size w0 wr) (h : Below wr.heap.size wr W) : w0.heap.size ≤ W.heap.size := Nat.le_trans hb.size h.size
theorem below_step {w0 wr W : World} (hb : Below w0.heap.size w0 wr) (h : Below wr.heap.size wr W) : Below w0.heap.size w0 W := hb.trans (h.mono hb.size)
theorem lst_append (a b : ByteArray) : lst (a ++ b) = lst a ++ lst b := by simp [lst]

theorem cat5_lst (a n d : ByteArray) : lst (a ++ ⟨#[58]⟩ ++ n ++ ⟨#[44]⟩ ++ d ++ ⟨#[58]⟩) = lst a ++ 58 :: (lst n ++ [44]) ++ lst d ++ [58] := by
  simp only [lst_append]
  simp [lst]
theorem cat5_size (a n d : ByteArray) : (a ++ ⟨#[58]⟩ ++ n ++ ⟨#[44]⟩ ++ d ++ ⟨#[58]⟩ : ByteArray).size = a.size + n.size + d.size + 3 := by
  rw [← lst_len, cat5_lst]
  simp [lst_len]
  omega

set_option maxRecDepth 100000 in
set_option maxHeartbeats 8000000 in
theorem rpack_any (v : Value) (L : List RowV) (w : World) (h : Rws w v L) :
    Calls Tryd.prog 18 #[v] w fun e w' => Below w.heap.size w w' ∧
      ((may (rws L) ∧ ∃ v', e = .returned (.tuple #[v', .int .i64 0]) ∧ Own w' w.heap.size 5 v' (encs (rws L))) ∨
       (¬ may (rws L) ∧ e = .returned (.tuple #[.slice none 0 0, .int .i64 130]))) := by
  have HR := hide h
  have q1 := rmay_any v L w h
  obtain ⟨A, c, rfl, hc, hm, hcell⟩ := h.form
  have HC := hide hcell
  unfold maxLen at hm
  clear h hcell
  by_cases hmay : may (rws L)
  · rw [decide_eq_true hmay] at q1
    have Q1 := hide q1
    have HMAY := hide hmay
    have h64 := may_len hmay
    rw [rws_length] at h64
    clear q1 hmay
    go_enter Tryd.func18, Tryd.ntmps18
    go_wp2_with fail
    refine Q1.out.mono ?_
    rintro e w1 ⟨rfl, d1⟩
    have DB := hide d1.below
    clear Q1 d1
    go_wp2_with fail
    go_loopw [4, 5] (fun u4 u5 wr => ∃ k : Nat, k ≤ L.length ∧ u5 = .int .i64 k ∧ Own wr w.heap.size 5 u4 (encs ((rws L).take k)) ∧ Below w.heap.size w wr) (fun _ i _ => L.length - (intOf i).toNat)
    case atStart => exact ⟨0, by omega, rfl, Own.nil _ _ _, DB.out⟩
    case round =>
      obtain ⟨k, hk, rfl, ho, hb⟩ := hrel
      have HO := hide ho
      clear ho
      by_cases hlt : k < L.length
      · obtain ⟨x, hx⟩ : ∃ x, L[k]? = some x := ⟨_, List.getElem?_eq_getElem hlt⟩
        obtain ⟨b, o, rfl, hbl, h1, h2⟩ := HC.out k x hx
        have hby := HR.out.2 x (List.mem_of_getElem? hx)
        obtain ⟨A2, c2, hv2, _⟩ := hby.form
        rw [hv2] at h2 hby
        have hsz := may_mem HMAY.out (lst x.1, x.2.2) (List.mem_of_getElem? (rws_get hx))
        have hn64 : x.1.size ≤ 64 := by have := hsz.1; rwa [lst_len] at this
        have hv65 : x.2.2.length ≤ 65536 := hsz.2
        have hle := encs_len ((rws L).take k) 64 (by simp; omega) fun y hy => may_mem HMAY.out y (List.mem_of_mem_take hy)
        have HS : Hid (∀ W, Below w.heap.size w W → W.cell? ⟨b, o + k * 2, none⟩ = some (.string x.1) ∧ W.cell? ⟨b, o + k * 2 + 1, none⟩ = some (.slice A2 x.2.2.length c2)) := fun W hW =>
          ⟨(hW.cell (p := ⟨b, o + k * 2, none⟩) hbl).trans h1, (hW.cell (p := ⟨b, o + k * 2 + 1, none⟩) hbl).trans h2⟩
        obtain ⟨s1, s2⟩ := HS.out wr hb
        have HV : Hid (∀ W, Below w.heap.size w W → By W (.slice A2 x.2.2.length c2) x.2.2) := fun W hW => hby.below hW
        have D1 : Hid (∀ W, Below wr.heap.size wr W → Calls Tryd.prog 55 #[.int .i64 (x.1.size : Int)] W fun e w' => e = .returned (.string (itoaS (x.1.size : Int))) ∧ Below wr.heap.size wr w') := fun W hW =>
          (rdigits_any x.1.size W (by omega)).mono fun e w' ⟨g1, g2⟩ => ⟨g1, hW.trans (g2.mono hW.size)⟩
        have D2 : Hid (∀ W, Below wr.heap.size wr W → Calls Tryd.prog 55 #[.int .i64 (x.2.2.length : Int)] W fun e w' => e = .returned (.string (itoaS (x.2.2.length : Int))) ∧ Below wr.heap.size wr w') := fun W hW =>
          (rdigits_any x.2.2.length W (by omega)).mono fun e w' ⟨g1, g2⟩ => ⟨g1, hW.trans (g2.mono hW.size)⟩
        have z1 : (itoaS (x.1.size : Int)).size ≤ 21 := by rw [← lst_len, lst_itoaS]; exact Lib.itoa_length_le _ (by omega) (by omega)
        have z2 : (itoaS (x.2.2.length : Int)).size ≤ 21 := by rw [← lst_len, lst_itoaS]; exact Lib.itoa_length_le _ (by omega) (by omega)
        have l1 := hide (lst_itoaS (x.1.size : Int))
        have l2 := hide (lst_itoaS (x.2.2.length : Int))
        generalize itoaS (x.1.size : Int) = sd1 at *
        generalize itoaS (x.2.2.length : Int) = sd2 at *
        have HLEN : Hid ((encs ((rws L).take k)).length + (sd1 ++ ⟨#[58]⟩ ++ x.1 ++ ⟨#[44]⟩ ++ sd2 ++ ⟨#[58]⟩ : ByteArray).size ≤ 140737488355328) := by
          show _ ≤ _
          rw [cat5_size]
          omega
        have HLEN2 : Hid ((encs ((rws L).take k)).length ≤ 67108864 ∧ (lst (sd1 ++ ⟨#[58]⟩ ++ x.1 ++ ⟨#[44]⟩ ++ sd2 ++ ⟨#[58]⟩ : ByteArray)).length ≤ 200 ∧ x.2.2.length ≤ 65536) := by
          refine ⟨by omega, ?_, hv65⟩
          rw [lst_len, cat5_size]
          omega
        have LA : Hid ((encs ((rws L).take k) ++ lst (sd1 ++ ⟨#[58]⟩ ++ x.1 ++ ⟨#[44]⟩ ++ sd2 ++ ⟨#[58]⟩ : ByteArray)).length + x.2.2.length ≤ 140737488355328) := by
          show _ ≤ _
          have := HLEN2.out
          rw [List.length_append]
          omega
        have LB : Hid ((encs ((rws L).take k) ++ lst (sd1 ++ ⟨#[58]⟩ ++ x.1 ++ ⟨#[44]⟩ ++ sd2 ++ ⟨#[58]⟩ : ByteArray) ++ x.2.2).length + 1 ≤ 140737488355328) := by
          show _ ≤ _
          have := HLEN2.out
          rw [List.length_append, List.length_append]
          omega
        have hcat := cat5_lst sd1 x.1 sd2
        rw [l1.out, l2.out] at hcat
        have HCAT := hide hcat
        clear hcat
        have i1 : (k : Int) < (L.length : Int) := by omega
        have i2 : (0 : Int) ≤ (k : Int) := by omega
        have HX := hide hx
        clear hx h1 h2 hby hv2 hsz
        go_wp2_with fail
        go_region_held_law (fun w' => w'.cell? ⟨b, o + k * 2, none⟩ = some (.string x.1) ∧ w'.cell? ⟨b, o + k * 2 + 1, none⟩ = some (.slice A2 x.2.2.length c2))
          (first | go_keep | exact HS.out _ hbel4 | exact HS.out _ (hb.trans (r2.mono hb.size)) | exact HS.out _ (hb.trans (r1.mono hb.size)))
          (first
            | (go_at_call 55; (with_reducible refine (D1.out _ ?bb).mono ?_); (case bb => (repeat (first | with_reducible assumption | with_reducible exact Below.refl _ _ | with_reducible refine Below.drew ?_))); rintro e w2 ⟨rfl, r1⟩)
            | (go_at_call 55; (with_reducible refine (D2.out _ ?bb).mono ?_); (case bb => (repeat (first | with_reducible assumption | with_reducible exact Below.refl _ _ | with_reducible refine Below.drew ?_))); rintro e w3 ⟨rfl, r2⟩)
            | (refine step_pushStr elem8 Tryd.underlying9 (HO.out.below (by repeat (first | with_reducible assumption | with_reducible exact Below.refl _ _ | with_reducible refine Below.drew ?_))) (below_step hb (by repeat (first | with_reducible assumption | with_reducible exact Below.refl _ _ | with_reducible refine Below.drew ?_))) (base_le hb (by repeat (first | with_reducible assumption | with_reducible exact Below.refl _ _ | with_reducible refine Below.drew ?_))) (by rfl) _ _ (by rfl) (by rfl) (by rfl) HLEN.out ?_; intro v4 w4 hown4 hbel4 hgr4))
        all_goals
          obtain ⟨t1, t2⟩ := HS.out _ hbel4
          generalize (sd1 ++ ⟨#[58]⟩ ++ x.1 ++ ⟨#[44]⟩ ++ sd2 ++ ⟨#[58]⟩ : ByteArray) = S at *
          have HW4 := hide hown4
          have hyv := HV.out _ hbel4
          have HYV := hide hyv
          clear hown4 hyv
          go_wp2_with (at_builtin; go_loud (first | (refine wpList_pushV elem8 HW4.out hbel4 hbel4.size HYV.out LA.out rfl _ _ rfl rfl rfl ?_; intro v5 w5 hown5 hbel5 hgr5 _) | (refine wpList_pushB elem8 hown5 hbel5 hbel5.size LB.out 44 rfl _ _ rfl rfl rfl ?_; intro v6 w6 hown6 hbel6 hgr6 _)))
          go_roundw
          case rel =>
            refine ⟨k + 1, by omega, by go_num, ?_, hbel6⟩
            have hnext : encs ((rws L).take (k + 1)) = encs ((rws L).take k) ++ lst S ++ x.2.2 ++ [44] := by
              rw [take_snoc (rws L) k _ (rws_get HX.out), encs_snoc, HCAT.out]
              simp [enc, fld, lst_len]
            rw [hnext]
            exact hown6
          case measure => simp [intOf]; omega
      · have hge : ¬ (k : Int) < (L.length : Int) := by omega
        have hks : k = L.length := by omega
        have hend := HO.out
        rw [hks, List.take_of_length_le (by simp)] at hend
        have HE := hide hend
        clear hks hend HO
        go_wp2
        go_ret2
        exact ⟨hb, .inl ⟨HMAY.out, _, rfl, HE.out⟩⟩
  · rw [decide_eq_false hmay] at q1
    have HNO := hide hmay
    have Q1 := hide q1
    clear q1 hmay
    go_enter Tryd.func18, Tryd.ntmps18
    go_wp2_with fail
    refine Q1.out.mono ?_
    rintro e w1 ⟨rfl, d1⟩
    go_wp2_with fail
    go_ret2
    exact ⟨d1.below, .inr ⟨HNO.out, rfl⟩⟩
end Go.Proofs.YtkhlbpclfeakpaaDoor

/- A table that is lent, with marks behind it: what it is. -/
namespace Go.Proofs.YtkhlbpclfeakpaaDoor
open Go.RowKit

/-- 'append(rows, row)' at a step of a region that draws its order; the row lies in block g. -/
theorem step_push2 {P : Program} {t e : TypeId} {i : TypeInfo} {z : Value} {bytes : Nat} (ht : P.underlying t = some (.slice e)) (hi : P.info? e = some i) (hz : i.zero = some z) (hs : i.size = 2) (hby : i.bytes = bytes) (hzs : z.cells.size = 2)
    {w : World} {base : Nat} {v : Value} {n : Nat} {xs : List Value} (hown : w.ownsRow base e 2 v n xs)
    {w0 : World} (hb : Below base w0 w) (hbase : base ≤ w.heap.size) (c1 c2 : Value) {g : Nat} (hg : Blk w g e #[c1, c2]) (h1 : c1.oneCell' = true) (h2 : c2.oneCell' = true) (hn : n + 1 ≤ maxLen) (hbytes : (n + 1) * bytes ≤ 140737488355328)
    {ops : Array Oper} {o : Oper} {a : Act} {K : Act → World → Prop} {Q : Exit → Act → World → Prop} {E : Prop} (hgd : o.guard = none) (s y : Operand)
    (ho : o.op = .call { callee := .builtin .append, args := #[s, y], argTypes := #[t, t] }) (hs' : a.eval s = v) (hx : a.eval y = .slice (some ⟨g, 0, none⟩) 1 1)
    (h : ∀ v' w', w'.ownsRow base e 2 v' (n + 1) (xs ++ [c1, c2]) → Below base w0 w' → w.grownBy w' v.ownBlock → K (a.put o.dst v') w') :
    if Region.wanted o (yielded ops a.tmps) = true then Oper.wp P o a w K Q else E := by
  have hw : Region.wanted o (yielded ops a.tmps) = true := by simp [Region.wanted, hgd]
  rw [if_pos hw]
  have hn1 : ∀ j u, [c1, c2][j]? = some u → w.cell? ((⟨g, 0, none⟩ : Addr).add j) = some u :=
    World.news_of_block (w := w) (B := g) (cs := #[c1, c2]) (t := e) (fr := (0, 0)) hg
  obtain ⟨v', w', hrun, h3, h4, _, h6⟩ := run_append_own_at (P := P) w base t o.type e i z 2 bytes ht hi hz hs hby hzs (by omega) v n xs hown ⟨g, 0, none⟩ 1 1 [c1, c2] (by simp) hn1 (fun u hu => by
    simp only [List.mem_cons, List.mem_nil_iff, or_false] at hu
    rcases hu with rfl | rfl
    · exact h1
    · exact h2) hn hbytes hbase
  unfold Oper.wp execOp
  simp only [ho, resolve, invoke, builtin, Sem.run_bind, Sem.run_pure, Result.andThen_ok, List.map_toArray, List.map_cons, List.map_nil, hs', hx, hrun]
  exact h v' w' h3 (hb.grown h4 hbase fun k hk => (hown.lt k hk).1) h4

/-- What hangs on one block alone. -/
theorem own_same {w w' : World} {base : Nat} {e : TypeId} {sz n : Nat} {v : Value} {xs : List Value} (h : w.ownsRow base e sz v n xs) (hb : ∀ g, v.ownBlock = some g → w'.heap[g]? = w.heap[g]?) : w'.ownsRow base e sz v n xs := by
  refine ⟨h.1, ?_⟩
  rcases h.2 with h0 | ⟨g, cap, cur, hv, h1, h2, h3⟩
  · exact .inl h0
  · exact .inr ⟨g, cap, cur, hv, h1, (hb g (by rw [hv]; rfl)).trans h2, h3⟩
theorem Own.same {w w' : World} {base : Nat} {e : TypeId} {v : Value} {l : List UInt8} (h : Own w base e v l) (hb : ∀ g, v.ownBlock = some g → w'.heap[g]? = w.heap[g]?) : Own w' base e v l := own_same h hb
/-- A beginning of what is owned is owned. -/
theorem Own.front_ {w : World} {base : Nat} {e : TypeId} {g : Option Addr} {n cap : Nat} {l r : List UInt8} (h : Own w base e (.slice g n cap) (l ++ r)) (hr : 0 < r.length) : Own w base e (.slice g l.length cap) l := by
  unfold Own at *
  refine ⟨by simp, ?_⟩
  rcases h.2 with ⟨h0, h1⟩ | ⟨g', cap', cur, hv, h1, h2, h3, h4, h5, h6⟩
  · rw [List.length_append] at h1; omega
  · injection hv with e1 e2 e3
    subst e1 e3
    simp only [List.length_append, Nat.mul_one, bcells_append] at h3 h5 h6
    refine .inr ⟨g', cap, cur, rfl, h1, h2, by omega, h4, by omega, ?_⟩
    have := congrArg (List.take l.length) h6
    rw [List.take_take, Nat.min_eq_left (by omega), List.take_append_of_le_length (by simp)] at this
    rw [Nat.mul_one, this, List.take_of_length_le (by simp)]

def tMark : List UInt8 := [109, 97, 114, 107]
def mks70 (n : Nat) : List Rw := (List.range n).map fun i => (tMark, [UInt8.ofNat i])
theorem mks70_succ (n : Nat) : mks70 (n + 1) = mks70 n ++ [(tMark, [UInt8.ofNat n])] := by simp [mks70, List.range_succ]
@[simp] theorem mks70_length (n : Nat) : (mks70 n).length = n := by simp [mks70]

/-- The lists that are lent: pairs of a value and its bytes. -/
abbrev Ent := Value × List UInt8
def apts (E : List Ent) : Prop := E.Pairwise fun a b => a.1.ownBlock = none ∨ a.1.ownBlock ≠ b.1.ownBlock
def lentOf (L : List RowV) : List (List UInt8) := L.map fun x => x.2.2 ++ marks 0 x.2.2.length 70

/-- A table's rows in memory of the call's own, with their values, each in a block of its own. -/
structure Lnt (w : World) (base : Nat) (va ve : Value) (LA : List RowV) (E : List Ent) : Prop where
  rows : OwnR w base va LA
  each : w.ownsRow base 27 1 ve E.length (E.map (·.1))
  own : ∀ x ∈ E, Own w base 5 x.1 x.2
  apt : apts E

theorem Lnt.nil (w : World) (base : Nat) : Lnt w base (.slice none 0 0) (.slice none 0 0) [] [] :=
  ⟨OwnR.nil w base, World.ownsRow_nil w base _ 1, (fun x hx => by cases hx), List.Pairwise.nil⟩
theorem Lnt.below {w w' : World} {base : Nat} {va ve : Value} {LA : List RowV} {E : List Ent} (h : Lnt w base va ve LA E) (hb : Below w.heap.size w w') : Lnt w' base va ve LA E :=
  ⟨h.rows.below hb, own_below' h.each hb, fun x hx => (h.own x hx).below hb, h.apt⟩
theorem Lnt.same {w w' : World} {base : Nat} {va ve : Value} {LA : List RowV} {E : List Ent} (h : Lnt w base va ve LA E) (hi : Nat)
    (hb : ∀ g, base ≤ g → g < w.heap.size → g ≠ hi → w'.heap[g]? = w.heap[g]?) (h1 : va.ownBlock ≠ some hi) (h2 : ve.ownBlock ≠ some hi) (h3 : ∀ x ∈ E, x.1.ownBlock ≠ some hi) (h4 : ∀ x ∈ LA, x.2.1.ownBlock ≠ some hi) : Lnt w' base va ve LA E := by
  refine ⟨⟨own_same h.rows.1 fun g hg => ?_, fun x hx => (h.rows.2 x hx).same fun g hg => ?_⟩, own_same h.each fun g hg => ?_, fun x hx => (h.own x hx).same fun g hg => ?_, h.apt⟩
  · exact hb g (h.rows.1.lt g hg).1 (h.rows.1.lt g hg).2 (fun e => h1 (by rw [hg, e]))
  · exact hb g (World.ownsRow.lt (h.rows.2 x hx) g hg).1 (World.ownsRow.lt (h.rows.2 x hx) g hg).2 (fun e => h4 x hx (by rw [hg, e]))
  · exact hb g (h.each.lt g hg).1 (h.each.lt g hg).2 (fun e => h2 (by rw [hg, e]))
  · exact hb g (World.ownsRow.lt (h.own x hx) g hg).1 (World.ownsRow.lt (h.own x hx) g hg).2 (fun e => h3 x hx (by rw [hg, e]))

theorem own_far {w : World} {base g i : Nat} {e t : TypeId} {sz n : Nat} {v u : Value} {xs : List Value} {cs : Array Value} (h : w.ownsRow base e sz v n xs) (hb : Blk w g t cs) (hne : e ≠ t) : (w.setCell ⟨g, i, none⟩ u).ownsRow base e sz v n xs :=
  own_same h fun k hk => Below.heap_setCell w ⟨g, i, none⟩ u k (fun e' => by
    rcases own_blk_ne h hb hne with h0 | h0
    · rw [h0] at hk; cases hk
    · exact h0 (by rw [hk, e']))
theorem Lnt.setBox {w : World} {base g i : Nat} {va ve u : Value} {LA : List RowV} {E : List Ent} {cs : Array Value} (h : Lnt w base va ve LA E) (hb : Blk w g 25 cs) : Lnt (w.setCell ⟨g, i, none⟩ u) base va ve LA E :=
  ⟨⟨own_far h.rows.1 hb (by decide), fun x hx => own_far (h.rows.2 x hx) hb (by decide)⟩, own_far h.each hb (by decide), fun x hx => own_far (h.own x hx) hb (by decide), h.apt⟩
theorem Lnt.pushEach {w w' : World} {base : Nat} {va ve ve' v : Value} {l : List UInt8} {LA : List RowV} {E : List Ent} (h : Lnt w base va ve LA E) (hg : w.grownBy w' ve.ownBlock)
    (hn : w'.ownsRow base 27 1 ve' (E.length + 1) (E.map (·.1) ++ [v])) (ho : Own w base 5 v l) (hf : ∀ x ∈ E, x.1.ownBlock = none ∨ x.1.ownBlock ≠ v.ownBlock) : Lnt w' base va ve' LA (E ++ [(v, l)]) := by
  refine ⟨⟨own_grown h.rows.1 hg fun g hg he => own_ne h.rows.1 h.each (by decide) g hg he, fun x hx => own_grown (h.rows.2 x hx) hg fun g hg he => own_ne (h.rows.2 x hx) h.each (by decide) g hg he⟩, ?_, fun x hx => ?_, ?_⟩
  · rw [List.length_append, List.map_append]; exact hn
  · rcases List.mem_append.1 hx with hx | hx
    · exact own_grown (h.own x hx) hg fun g hg he => own_ne (h.own x hx) h.each (by decide) g hg he
    · simp only [List.mem_singleton] at hx
      subst hx
      exact own_grown ho hg fun g hg he => own_ne ho h.each (by decide) g hg he
  · refine List.pairwise_append.2 ⟨h.apt, List.pairwise_singleton _ _, fun a ha b hb => ?_⟩
    simp only [List.mem_singleton] at hb
    subst hb
    exact hf a ha
theorem Lnt.pushRow {w w' : World} {base : Nat} {va va' ve v : Value} {s : ByteArray} {l : List UInt8} {LA : List RowV} {E : List Ent} (h : Lnt w base va ve LA E) (hg : w.grownBy w' va.ownBlock)
    (hn : w'.ownsRow base 69 2 va' (LA.length + 1) (rcells LA ++ [.string s, v])) (ho : Own w base 5 v l) : Lnt w' base va' ve (LA ++ [(s, v, l)]) E := by
  refine ⟨⟨?_, fun x hx => ?_⟩, own_grown h.each hg fun g hg he => own_ne h.each h.rows.1 (by decide) g hg he, fun x hx => own_grown (h.own x hx) hg fun g hg he => own_ne (h.own x hx) h.rows.1 (by decide) g hg he, h.apt⟩
  · rw [List.length_append, rcells_append]; exact hn
  · rcases List.mem_append.1 hx with hx | hx
    · exact own_grown (h.rows.2 x hx) hg fun g hg he => own_ne (h.rows.2 x hx) h.rows.1 (by decide) g hg he
    · simp only [List.mem_singleton] at hx
      subst hx
      exact own_grown ho hg fun g hg he => own_ne ho h.rows.1 (by decide) g hg he
end Go.Proofs.YtkhlbpclfeakpaaDoor

/- The contract of the law's lentRows: first loop. -/
namespace Go.Proofs.YtkhlbpclfeakpaaDoor
open Go.RowKit

theorem elem88 : Elem1 Tryd.prog 23 27 (.slice none 0 0) 24 := ⟨Tryd.underlying23, by kernel_rfl, rfl⟩
theorem apt_lent {w1 w2 : World} {b1 b2 : Nat} {e1 e2 : TypeId} {s1 s2 n1 n2 : Nat} {a b : Value} {xs ys : List Value} (ha : w1.ownsRow b1 e1 s1 a n1 xs) (hb : w2.ownsRow b2 e2 s2 b n2 ys) (h : w1.heap.size ≤ b2) : a.ownBlock = none ∨ a.ownBlock ≠ b.ownBlock := by
  rcases ha.2 with ⟨rfl, _⟩ | ⟨g, cap, cur, rfl, _, hh, _⟩
  · exact .inl rfl
  · refine .inr fun e => ?_
    have h1 := (ha.lt g rfl).2
    have h2 := (hb.lt g (by rw [← e]; rfl)).1
    omega

set_option maxRecDepth 100000 in
set_option maxHeartbeats 8000000 in
theorem lentRows_any (v : Value) (L : List RowV) (w : World) (h : Rws w v L) (hn : L.length ≤ 1048576) (hl : ∀ x ∈ L, x.2.2.length ≤ 1048576) :
    Calls Tryd.prog 14 #[v] w fun e w' => ∃ va ve LA E, e = .returned (.agg #[va, ve]) ∧ Below w.heap.size w w' ∧ Lnt w' w.heap.size va ve LA E ∧ rws LA = rws L ++ mks70 70 ∧ E.map (·.2) = lentOf L := by
  obtain ⟨i0, hi0, hz0, hs0, hb0⟩ := info_parts Tryd.infoRow
  have HI := hide (And.intro hi0 (And.intro hz0 (And.intro hs0 hb0)))
  clear hi0 hz0 hs0 hb0
  have HR := hide h
  obtain ⟨A, c, rfl, hc, hm, hcell⟩ := h.form
  clear h
  have HN := hide hn
  have HL := hide hl
  clear hl
  go_enter Tryd.func14, Tryd.ntmps14
  go_wp2_with fail
  go_loopw [4] (fun u4 wr => ∃ (k : Nat) (va ve : Value) (LA : List RowV) (E : List Ent), u4 = .int .i64 (k : Int) ∧ k ≤ L.length ∧ Blk wr w.heap.size 25 #[.slice none 0 0, .slice none 0 0] ∧ Blk wr (w.heap.size + 1) 25 #[va, ve] ∧ Below w.heap.size w wr ∧ Lnt wr w.heap.size va ve LA E ∧ rws LA = rws (L.take k) ∧ E.map (·.2) = lentOf (L.take k)) (fun u4 _ => L.length + 1 - (intOf u4).toNat)
  case atStart =>
    exact ⟨0, _, _, [], [], rfl, by omega, (Blk.new w _ _).alloc _, (by have := Blk.new (w.alloc (.cells #[.slice none 0 0, .slice none 0 0] 25)) 25 #[.slice none 0 0, .slice none 0 0]; simpa using this), ((Below.refl _ w).alloc (Nat.le_refl _) _).alloc (by simp) _, Lnt.nil _ _, by simp [rws], by simp [lentOf]⟩
  case round =>
    obtain ⟨k, va, ve, LA, E, rfl, hk, hblk0, hblk1, hbel, hlnt, hrows, hents⟩ := hrel
    by_cases hlt : k < L.length
    · obtain ⟨x, hx⟩ : ∃ x, L[k]? = some x := ⟨_, List.getElem?_eq_getElem hlt⟩
      obtain ⟨b, o, rfl, hbl, h1, h2⟩ := hcell k x hx
      have hby := HR.out.2 x (List.mem_of_getElem? hx)
      have hxl := HL.out x (List.mem_of_getElem? hx)
      obtain ⟨A3, c3, hv3, hc3, hm3, _⟩ := hby.form
      have c1 : wr.cell? ⟨b, o + k * 2, none⟩ = some (.string x.1) := (hbel.cell (p := ⟨b, o + k * 2, none⟩) hbl).trans h1
      have c2 : wr.cell? ⟨b, o + k * 2 + 1, none⟩ = some (.slice A3 x.2.2.length c3) := (hbel.cell (p := ⟨b, o + k * 2 + 1, none⟩) hbl).trans (by rw [h2, hv3])
      have q1 := lent_any x.2.1 x.2.2 wr (hby.below hbel) (by omega)
      rw [hv3] at q1
      have Q1 := hide q1
      have i1 : (k : Int) < (L.length : Int) := by omega
      have i2 : (0 : Int) ≤ (k : Int) := by omega
      have HX := hide hx
      have HLN := hide hlnt
      have HB0 := hide hblk0
      have HB1 := hide hblk1
      have HBE := hide hbel
      have HRW := hide hrows
      have HEN := hide hents
      have HEL := hide (show E.length = k by have := congrArg List.length hents; simpa [lentOf, Nat.min_eq_left hk] using this)
      have HLL := hide (show LA.length = k by have := congrArg List.length hrows; simpa [Nat.min_eq_left hk] using this)
      have hsz1 := hblk1.lt
      clear q1 hx hlnt hblk0 hblk1 hbel hrows hents h1 h2 hby hv3
      go_wp2_with fail
      refine Q1.out.mono ?_
      rintro e w1 ⟨v5, rfl, o5, b5⟩
      obtain ⟨g5, cap5, hv5, hg5, hg5l⟩ := o5.form (by simp [marks])
      have hcap5 : (x.2.2 ++ marks 0 x.2.2.length 70).length ≤ cap5 := by
        rcases o5.2 with ⟨h0, _⟩ | ⟨g', cap', cur, hv, _, _, h3, _⟩
        · rw [hv5] at h0; cases h0
        · rw [hv5] at hv; injection hv with _ _ e3; rw [e3]; exact h3
      have hn5 : (x.2.2 ++ marks 0 x.2.2.length 70).length = x.2.2.length + 70 := by simp [marks]
      rw [hn5] at hv5 hcap5
      subst hv5
      have HO5 := hide o5
      have HLN1 := hide (HLN.out.below b5)
      have HBE1 := hide (HBE.out.trans (b5.mono HBE.out.size))
      have HB01 := hide (HB0.out.below' b5)
      have HB11 := hide (HB1.out.below' b5)
      have HSZ := hide b5.size
      have e1 : w1.cell? ⟨w.heap.size + 1, 1, none⟩ = some ve := HB11.out.cell 1
      have HOB := hide (o5.base HBE.out.size)
      have HFR := hide (fun y (hy : y ∈ E) => apt_lent (HLN.out.own y hy) o5 (Nat.le_refl _))
      have HAT := hide (fun W (h : Below w.heap.size w W) => And.intro ((h.cell (p := ⟨b, o + k * 2, none⟩) hbl).trans ((HBE.out.cell (p := ⟨b, o + k * 2, none⟩) hbl).symm.trans c1)) ((h.cell (p := ⟨b, o + k * 2 + 1, none⟩) hbl).trans ((HBE.out.cell (p := ⟨b, o + k * 2 + 1, none⟩) hbl).symm.trans c2)))
      clear b5 o5 Q1 c1 c2
      go_wp2_with (at_builtin; go_loud (refine wpList_push1 elem88 HLN1.out.each HBE1.out HBE1.out.size (by have := HEL.out; unfold maxLen; omega) (by have := HEL.out; omega) (.slice (some ⟨g5, 0, none⟩) (x.2.2.length + 70) cap5) rfl rfl _ _ rfl rfl rfl ?_); intro ve2 w2 hown2 hb2 _ hgr2 _; obtain ⟨_, A5, c5, hve5, _, _, _⟩ := Sl.of_own hown2; subst hve5; have hbk2 := HB11.out.grown hgr2 (fun e' => (own_blk_ne HLN1.out.each HB11.out (by decide)).elim (fun h0 => by rw [h0] at e'; cases e') (fun h0 => h0 e'.symm)); have s1 : w2.cell? ⟨w.heap.size + 1, 1, none⟩ = some ve := hbk2.cell 1; have s2 : w2.frozen? ⟨w.heap.size + 1, 1, none⟩ = false := hbk2.frozen 1; have s3 : w2.cell? ⟨w.heap.size + 1, 0, none⟩ = some va := hbk2.cell 0)
      have hln2 := HLN1.out.pushEach hgr2 hown2 HOB.out HFR.out
      have hln3 := hln2.setBox (i := 1) (u := .slice A5 (E.length + 1) c5) hbk2
      have hbk3 := hbk2.set_ 1 (.slice A5 (E.length + 1) c5)
      have hb02 := HB01.out.grown hgr2 (fun e' => (own_blk_ne HLN1.out.each HB01.out (by decide)).elim (fun h0 => by rw [h0] at e'; cases e') (fun h0 => h0 e'.symm))
      have hb03 := hb02.far (p := ⟨w.heap.size + 1, 1, none⟩) (by simp) (.slice A5 (E.length + 1) c5)
      have hb3 := hb2.setCell (p := ⟨w.heap.size + 1, 1, none⟩) (by simp) (.slice A5 (E.length + 1) c5)
      have HLN3 := hide hln3
      have HBK3 := hide hbk3
      have HB03 := hide hb03
      have HBE3 := hide hb3
      clear hln2 hln3 hbk3 hb02 hb03 hb3 hbk2 s1 s2 s3 hown2 hb2 hgr2 HLN1 HBE1 HB01 HB11 e1 HOB HO5 HFR HLN HBE HB0 HB1
      generalize w2.setCell ⟨w.heap.size + 1, 1, none⟩ (.slice A5 (E.length + 1) c5) = w3 at *
      obtain ⟨r1, r2⟩ := HAT.out _ HBE3.out
      have r3 : w3.cell? ⟨w.heap.size + 1, 0, none⟩ = some va := HBK3.out.cell 0
      have hln : ¬ w.heap.size + 1 = w3.heap.size := by have := HBK3.out.lt; omega
      have hln2 : w.heap.size + 1 < w3.heap.size := HBK3.out.lt
      have r3' : ∀ o, (w3.alloc o).cell? ⟨w.heap.size + 1, 0, none⟩ = some va := fun o => (HBK3.out.alloc o).cell 0
      have i3 : (x.2.2.length : Int) ≤ (cap5 : Int) := by omega
      have i4 : x.2.2.length ≤ cap5 := by omega
      have HOF := hide (Own.front_ (HLN3.out.own _ (List.mem_append_right _ (List.mem_singleton.2 rfl))) (by simp [marks]))
      go_wp2_with fail
      go_region_law
        (first
          | (go_loud (refine step_push2 (g := w3.heap.size) Tryd.underlying22 HI.out.1 HI.out.2.1 HI.out.2.2.1 HI.out.2.2.2 rfl (own_below' HLN3.out.rows.1 (by repeat (first | with_reducible exact Below.refl _ _ | with_reducible refine Below.drew ?_ | with_reducible refine Below.al0 ?_ _))) (below_step HBE3.out (by repeat (first | with_reducible exact Below.refl _ _ | with_reducible refine Below.drew ?_ | with_reducible refine Below.al0 ?_ _))) (base_le HBE3.out (by repeat (first | with_reducible exact Below.refl _ _ | with_reducible refine Below.drew ?_ | with_reducible refine Below.al0 ?_ _))) (.string x.1) (.slice (some ⟨g5, 0, none⟩) x.2.2.length cap5) (by repeat (first | with_reducible exact Blk.new _ _ _ | with_reducible refine Blk.drew ?_)) rfl rfl (by have := HLL.out; unfold maxLen; omega) (by have := HLL.out; omega) (by rfl) _ _ (by rfl) (by rfl) (by rfl) ?_); intro va2 w4 hown4 hb4 hgr4; obtain ⟨_, A6, c6, hv6, _, _, _⟩ := Sl.of_own hown4; subst hv6; have hbk4 := (HBK3.out.below' (w' := _) (by repeat (first | with_reducible exact Below.refl _ _ | with_reducible refine Below.drew ?_ | with_reducible refine Below.al0 ?_ _))).grown hgr4 (fun e' => (own_blk_ne HLN3.out.rows.1 HBK3.out (by decide)).elim (fun h0 => by rw [h0] at e'; cases e') (fun h0 => h0 e'.symm)); have z1 : w4.cell? ⟨w.heap.size + 1, 0, none⟩ = some va := hbk4.cell 0; have z2 : w4.frozen? ⟨w.heap.size + 1, 0, none⟩ = false := hbk4.frozen 0))
      all_goals
        have hln5 := (Lnt.pushRow (HLN3.out.below (w' := _) (by repeat (first | with_reducible exact Below.refl _ _ | with_reducible refine Below.drew ?_ | with_reducible refine Below.al0 ?_ _))) hgr4 hown4 (HOF.out.below (w' := _) (by repeat (first | with_reducible exact Below.refl _ _ | with_reducible refine Below.drew ?_ | with_reducible refine Below.al0 ?_ _)))).setBox (i := 0) (u := .slice A6 (LA.length + 1) c6) hbk4
        have hbk5 := hbk4.set_ 0 (.slice A6 (LA.length + 1) c6)
        have hb05 := ((HB03.out.below' (w' := _) (by repeat (first | with_reducible exact Below.refl _ _ | with_reducible refine Below.drew ?_ | with_reducible refine Below.al0 ?_ _))).grown hgr4 (fun e' => (own_blk_ne HLN3.out.rows.1 HB03.out (by decide)).elim (fun h0 => by rw [h0] at e'; cases e') (fun h0 => h0 e'.symm))).far (p := ⟨w.heap.size + 1, 0, none⟩) (by simp) (.slice A6 (LA.length + 1) c6)
        have hb5 := hb4.setCell (p := ⟨w.heap.size + 1, 0, none⟩) (by simp) (.slice A6 (LA.length + 1) c6)
        generalize w4.setCell ⟨w.heap.size + 1, 0, none⟩ (.slice A6 (LA.length + 1) c6) = w5 at *
        have HA := hide (And.intro hln5 (And.intro hbk5 (And.intro hb05 hb5)))
        clear hln5 hbk5 hb05 hb5 hbk4 z1 z2 hown4 hb4 hgr4 r1 r2 r3 r3'
        go_wp2
        go_roundw
        case rel =>
          have hxx := HX.out
          have htk := take_snoc L k x hxx
          refine ⟨k + 1, _, _, _, _, by go_num, by omega, HA.out.2.2.1, HA.out.2.1, HA.out.2.2.2, HA.out.1, ?_, ?_⟩
          · rw [rws_append, HRW.out, htk, rws_append]; rfl
          · rw [List.map_append, HEN.out, htk]; simp [lentOf]
        case measure => simp [intOf]; omega
    · have hk2 : k = L.length := by omega
      subst hk2
      rw [List.take_length] at hrows hents
      have i1 : ¬ (L.length : Int) < (L.length : Int) := by omega
      have HEN := hide (And.intro hents hrows)
      have HLE := hide (show LA.length = L.length by have := congrArg List.length hrows; simpa using this)
      clear hcell hents
      go_wp2
      generalize wr = wz at *
      go_loopw [6] (fun u6 wr => ∃ (j : Nat) (va : Value) (LA2 : List RowV), u6 = .int .i64 (j : Int) ∧ j ≤ 70 ∧ Blk wr w.heap.size 25 #[.slice none 0 0, .slice none 0 0] ∧ Blk wr (w.heap.size + 1) 25 #[va, ve] ∧ Below w.heap.size w wr ∧ Lnt wr w.heap.size va ve LA2 E ∧ rws LA2 = rws L ++ mks70 j ∧ LA2.length = L.length + j) (fun u6 _ => 71 - (intOf u6).toNat)
      case atStart => exact ⟨0, va, LA, rfl, by omega, hblk0, hblk1, hbel, hlnt, by rw [hrows]; simp [mks70], by have := HLE.out; omega⟩
      case round =>
        clear hblk0 hblk1 hbel hlnt hrows HLE
        obtain ⟨j, va, LA2, rfl, hj, hblk0, hblk1, hbel, hlnt, hrows, hlen⟩ := hrel
        have r3 : wr.cell? ⟨w.heap.size + 1, 0, none⟩ = some va := hblk1.cell 0
        have r4 : wr.cell? ⟨w.heap.size + 1, 1, none⟩ = some ve := hblk1.cell 1
        have HB0 := hide hblk0
        have HB1 := hide hblk1
        have HBE := hide hbel
        have HLN := hide hlnt
        have HRW := hide hrows
        have HLE := hide hlen
        have hln2 : w.heap.size + 1 < wr.heap.size := hblk1.lt
        clear hblk0 hblk1 hbel hlnt hrows hlen
        by_cases h70 : j < 70
        · have e1 : IntKind.u8.wrap (j : Int) = (j : Int) := IntWalk.u8_in _ (by omega)
          have i5 : (j : Int) < 70 := by omega
          have HO1 := hide (show Own (wr.alloc (.cells #[.int .u8 (j : Int)] 5)) w.heap.size 5 (.slice (some ⟨wr.heap.size, 0, none⟩) 1 1) [UInt8.ofNat j] from by
            have hb := (Blk.new wr 5 #[.int .u8 (j : Int)]).own (base := w.heap.size) (n := 1) (cap := 1) (sz := 1) rfl HBE.out.size rfl (Nat.le_refl _) (by simp [maxLen])
            unfold Own
            have : bcells [UInt8.ofNat j] = [.int .u8 (j : Int)] := by simp [bcells, Nat.mod_eq_of_lt (show j < 256 by omega)]
            rw [this]
            exact hb)
          go_wp2_with (at_builtin; go_loud (refine wpList_push2 Tryd.underlying22 HI.out.1 HI.out.2.1 HI.out.2.2.1 HI.out.2.2.2 rfl (HLN.out.rows.1.alloc _) (HBE.out.alloc HBE.out.size _) (by have := HBE.out.size; simp; omega) (.string ⟨#[109, 97, 114, 107]⟩) (.slice (some ⟨wr.heap.size, 0, none⟩) 1 1) rfl rfl (by have := HLE.out; unfold maxLen; omega) (by have := HLE.out; omega) rfl _ _ rfl rfl (by rw [World.size_alloc]; rfl) ?_); intro va2 w3 hown3 hb3 hgr3; obtain ⟨_, A5, c5, hv5, _, _, _⟩ := Sl.of_own hown3; subst hv5; have hbk3 := (HB1.out.alloc (.cells #[.int .u8 (j : Int)] 5)).grown hgr3 (fun e' => (own_blk_ne HLN.out.rows.1 HB1.out (by decide)).elim (fun h0 => by rw [h0] at e'; cases e') (fun h0 => h0 e'.symm)); have z1 : w3.cell? ⟨w.heap.size + 1, 0, none⟩ = some va := hbk3.cell 0; have z2 : w3.frozen? ⟨w.heap.size + 1, 0, none⟩ = false := hbk3.frozen 0)
          have hln3 := (Lnt.pushRow (HLN.out.below ((Below.refl _ _).alloc (Nat.le_refl _) _)) hgr3 hown3 HO1.out).setBox (i := 0) (u := .slice A5 (LA2.length + 1) c5) hbk3
          have hbk4 := hbk3.set_ 0 (.slice A5 (LA2.length + 1) c5)
          have hb04 := ((HB0.out.alloc (.cells #[.int .u8 (j : Int)] 5)).grown hgr3 (fun e' => (own_blk_ne HLN.out.rows.1 HB0.out (by decide)).elim (fun h0 => by rw [h0] at e'; cases e') (fun h0 => h0 e'.symm))).far (p := ⟨w.heap.size + 1, 0, none⟩) (by simp) (.slice A5 (LA2.length + 1) c5)
          have hb4 := hb3.setCell (p := ⟨w.heap.size + 1, 0, none⟩) (by simp) (.slice A5 (LA2.length + 1) c5)
          have HA := hide (And.intro hln3 (And.intro hbk4 (And.intro hb04 hb4)))
          clear hln3 hbk4 hb04 hb4 hbk3 z1 z2 hown3 hb3 hgr3 r3 r4
          go_wp2
          go_roundw
          case rel =>
            refine ⟨j + 1, _, _, by go_num, by omega, HA.out.2.2.1, HA.out.2.1, HA.out.2.2.2, HA.out.1, ?_, ?_⟩
            · rw [rws_append, HRW.out, mks70_succ, List.append_assoc]; rfl
            · rw [List.length_append, HLE.out]; rfl
          case measure => simp [intOf]; omega
        · have hj2 : j = 70 := by omega
          subst hj2
          have hva : ∃ A n c, va = .slice A n c := by
            rcases HLN.out.rows.1.2 with ⟨h0, _⟩ | ⟨_, _, _, h0, _⟩ <;> exact ⟨_, _, _, h0⟩
          have hve : ∃ A n c, ve = .slice A n c := by
            rcases HLN.out.each.2 with ⟨h0, _⟩ | ⟨_, _, _, h0, _⟩ <;> exact ⟨_, _, _, h0⟩
          obtain ⟨Aa, na, ca, rfl⟩ := hva
          obtain ⟨Ae, ne, ce, rfl⟩ := hve
          go_wp2_with (refine wpList_store_row (o := ⟨none, .store _ _ _, _, _, _, _⟩) HB0.out #[.slice Aa na ca, .slice Ae ne ce] rfl (by simp [Value.oneCell']) rfl 25 _ _ rfl (by kernel_rfl) (by rfl) (by rfl) ?_; intro wf hb1 hg1)

          have hbf := HBE.out.grown hg1 (by omega) (fun k hk => by cases hk; omega)
          have hlf := Lnt.same HLN.out w.heap.size (fun g h1 h2 h3 => hg1.block g h2 (fun e' => h3 (Option.some.inj e')))
            (fun e' => (own_blk_ne HLN.out.rows.1 HB0.out (by decide)).elim (fun h0 => by rw [h0] at e'; cases e') (fun h0 => h0 e'))
            (fun e' => (own_blk_ne HLN.out.each HB0.out (by decide)).elim (fun h0 => by rw [h0] at e'; cases e') (fun h0 => h0 e'))
            (fun x hx e' => (own_blk_ne (HLN.out.own x hx) HB0.out (by decide)).elim (fun h0 => by rw [h0] at e'; cases e') (fun h0 => h0 e'))
            (fun x hx e' => (own_blk_ne (HLN.out.rows.2 x hx) HB0.out (by decide)).elim (fun h0 => by rw [h0] at e'; cases e') (fun h0 => h0 e'))
          exact bodyPost_ret (results_cell_row rfl _ _ w.heap.size 25 #[.slice Aa na ca, .slice Ae ne ce] (0, 0) _ rfl hb1 Tryd.underlying25 rfl (by kernel_rfl)) rfl ⟨_, _, _, _, rfl, hbf, hlf, HRW.out, HEN.out.1⟩
end Go.Proofs.YtkhlbpclfeakpaaDoor

/- The contract of the law's kept, of a table that is lent and as it was. -/
namespace Go.Proofs.YtkhlbpclfeakpaaDoor
open Go.RowKit

theorem rcells_take_ (L : List RowV) (k : Nat) : rcells (L.take k) = (rcells L).take (k * 2) := by
  induction L generalizing k with
  | nil => simp [rcells]
  | cons x L ih =>
    cases k with
    | zero => simp [rcells]
    | succ k =>
      rw [List.take_succ_cons]
      have : (k + 1) * 2 = k * 2 + 1 + 1 := by omega
      rw [this]
      simp only [rcells, List.flatMap_cons, List.cons_append, List.nil_append, List.take_succ_cons] at ih ⊢
      rw [ih]
theorem Rws.take_ {w : World} {A : Option Addr} {n c : Nat} {L : List RowV} (h : Rws w (.slice A n c) L) (k : Nat) (hk : k ≤ L.length) : Rws w (.slice A k c) (L.take k) := by
  obtain ⟨⟨h0, A', c0, hv, hc, hm, hcell⟩, hy⟩ := h
  injection hv with e1 e2 e3
  subst e1 e2 e3
  have hl : (L.take k).length = k := by rw [List.length_take]; omega
  refine ⟨⟨by simp, _, _, by rw [hl], by rw [hl]; omega, hm, fun h1 => ?_⟩, fun x hx => hy x (List.mem_of_mem_take hx)⟩
  rw [hl] at h1
  obtain ⟨b, o, hA, hb, hcs⟩ := hcell (by omega)
  refine ⟨b, o, hA, hb, fun j hj => ?_⟩
  rw [hl] at hj
  rw [hcs j (by omega), rcells_take_, List.getElem?_take_of_lt (by omega)]
theorem own_cell1 {w : World} {base n k : Nat} {e : TypeId} {v u : Value} {xs : List Value} (h : w.ownsRow base e 1 v n xs) (hk : xs[k]? = some u) : ∃ g c, v = .slice (some ⟨g, 0, none⟩) n c ∧ g < w.heap.size ∧ w.cell? ⟨g, k, none⟩ = some u := by
  have hlt := h.lt
  have hc := h.cells (g := (v.ownBlock).getD 0)
  rcases h.2 with ⟨h0, h1⟩ | ⟨g, cap, cur, rfl, _, _, _⟩
  · have := h.1
    rw [h1, Nat.zero_mul] at this
    rw [List.eq_nil_of_length_eq_zero this] at hk
    simp at hk
  · refine ⟨g, cap, rfl, (hlt g rfl).2, ?_⟩
    have := hc rfl k u hk
    by_cases hk0 : k = 0
    · subst hk0; simpa [Addr.add, Value.ownBlock] using this
    · simpa [Addr.add, Value.ownBlock, hk0] using this

set_option maxRecDepth 100000 in
set_option maxHeartbeats 8000000 in
theorem keptRows_any (va ve v : Value) (L LA : List RowV) (E : List Ent) (base : Nat) (w : World) (h : Rws w v L) (hlnt : Lnt w base va ve LA E) (hrows : rws LA = rws L ++ mks70 70) (hents : E.map (·.2) = lentOf L) (hn : L.length ≤ 1048576) (hl : ∀ x ∈ L, x.2.2.length ≤ 1048576) :
    Calls Tryd.prog 16 #[.agg #[va, ve], v] w fun e w' => e = .returned (.bool true) ∧ Below w.heap.size w w' := by
  have hlen : LA.length = L.length + 70 := by have := congrArg List.length hrows; simpa using this
  have hle : E.length = L.length := by have := congrArg List.length hents; simpa [lentOf] using this
  have HR := hide h
  obtain ⟨A, c, rfl, hc, hm, hcell⟩ := h.form
  have hRA := hlnt.rows.rws_
  have HRA := hide hRA
  obtain ⟨Aa, ca, rfl, hca, hma, hcella⟩ := hRA.form
  rw [hlen] at hca HRA
  rw [hlen]
  have HCELLA := hide hcella
  have HCELL := hide hcell
  have hve : ∃ Ae ce, ve = .slice Ae L.length ce := by
    rcases hlnt.each.2 with ⟨h0, h1⟩ | ⟨g, cap, cur, h0, _⟩
    · rw [hle] at h1; exact ⟨none, 0, by rw [h0, h1]⟩
    · rw [hle] at h0; exact ⟨_, _, h0⟩
  obtain ⟨Ae, ce, rfl⟩ := hve
  have hta : rws (LA.take L.length) = rws L := by
    have : (rws LA).take L.length = rws L := by rw [hrows, List.take_left' (by simp)]
    rw [← this]
    simp [rws, List.map_take]
  have HSR := hide (fun W (hb : Below w.heap.size w W) => (sameRows_eq (.slice Aa L.length ca) (.slice A L.length c) (LA.take L.length) L W ((HRA.out.take_ L.length (by omega)).below hb) (HR.out.below hb) hta).mono fun e w' hh => (show e = .returned (.bool true) ∧ Below w.heap.size w w' ∧ Below W.heap.size W w' from ⟨hh.1, hb.trans (hh.2.mono hb.size), hh.2⟩))
  have HLN := hide hlnt
  have HRW := hide hrows
  have HEN := hide hents
  have HLE := hide hle
  have HLN2 := hide hlen
  have HL := hide hl
  have i1 : (L.length : Int) ≤ (ca : Int) := by omega
  have i1' : L.length ≤ ca := by omega
  have e0 : IntKind.i64.wrap ((L.length : Int) + 70) = ((L.length + 70 : Nat) : Int) := by rw [IntWalk.i64_in _ (by omega)]; omega
  clear h hRA hcella hcell hlnt hrows hents hle hlen hta hl
  obtain ⟨n70, hn70⟩ : ∃ x, x = L.length + 70 := ⟨_, rfl⟩
  rw [← hn70] at HRA e0 HLN2 hca
  rw [← hn70]
  have HN7 := hide hn70
  clear hn70
  go_enter Tryd.func16, Tryd.ntmps16
  go_wp2_with fail
  refine (HSR.out _ ((Below.refl w.heap.size w).alloc (Nat.le_refl _) _)).mono ?_
  rintro e w1 ⟨rfl, b1, b1'⟩
  have hbx := (Blk.new w 25 #[.slice Aa n70 ca, .slice Ae L.length ce]).below' b1'
  clear b1'
  go_wp2
  go_loopw [5] (fun u5 wr => ∃ k : Nat, u5 = .int .i64 (k : Int) ∧ k ≤ L.length ∧ Blk wr w.heap.size 25 #[.slice Aa n70 ca, .slice Ae L.length ce] ∧ Below w.heap.size w wr) (fun u5 _ => L.length + 1 - (intOf u5).toNat)
  case atStart => exact ⟨0, rfl, by omega, hbx, b1⟩
  case round =>
    clear b1 hbx
    obtain ⟨k, rfl, hk, hbx, hbel⟩ := hrel
    by_cases hlt : k < L.length
    · obtain ⟨x, hx⟩ : ∃ x, L[k]? = some x := ⟨_, List.getElem?_eq_getElem hlt⟩
      obtain ⟨z, hz⟩ : ∃ z, E[k]? = some z := ⟨_, List.getElem?_eq_getElem (by have := HLE.out; omega)⟩
      obtain ⟨b, o, rfl, hbl, h1, h2⟩ := HCELL.out k x hx
      have hby := HR.out.2 x (List.mem_of_getElem? hx)
      have hxl := HL.out x (List.mem_of_getElem? hx)
      obtain ⟨A3, c3, hv3, _⟩ := hby.form
      have hoz := HLN.out.own z (List.mem_of_getElem? hz)
      obtain ⟨A5, c5, hv5, _⟩ := hoz.by_.form
      obtain ⟨g, cg, hvg, hgl, hcg⟩ := own_cell1 HLN.out.each (k := k) (u := z.1) (by simp [hz])
      obtain ⟨rfl, _, _⟩ : Ae = some ⟨g, 0, none⟩ ∧ True ∧ True := by injection hvg with e1 _ _; exact ⟨e1, trivial, trivial⟩
      have hzl : z.2 = x.2.2 ++ marks 0 x.2.2.length 70 := by
        have := congrArg (·[k]?) HEN.out
        simp [hz, hx, lentOf] at this
        exact this
      have hzn : z.2.length = x.2.2.length + 70 := by rw [hzl]; simp [marks]
      have HC := hide (fun W (hb : Below w.heap.size w W) (hB : Blk W w.heap.size 25 #[.slice Aa n70 ca, .slice (some ⟨g, 0, none⟩) L.length ce]) => (kept_any z.1 x.2.1 z.2 x.2.2 W (hoz.by_.below hb) (hby.below hb) (by omega)).mono fun e w' hh => (show e = .returned (.bool true) ∧ Below w.heap.size w w' ∧ Blk w' w.heap.size 25 #[.slice Aa n70 ca, .slice (some ⟨g, 0, none⟩) L.length ce] from ⟨by rw [hh.1, decide_eq_true hzl], hb.trans (hh.2.mono hb.size), hB.below' hh.2⟩))
      rw [hv3] at h2 HC
      rw [hv5] at hcg HC
      rw [hzn] at hcg HC
      have HS := hide (fun W (hb : Below w.heap.size w W) (hB : Blk W w.heap.size 25 #[.slice Aa n70 ca, .slice (some ⟨g, 0, none⟩) L.length ce]) => And.intro (show W.cell? ⟨w.heap.size, 1, none⟩ = some (.slice (some ⟨g, 0, none⟩) L.length ce) from hB.cell 1) (And.intro ((hb.cell (p := ⟨g, k, none⟩) hgl).trans hcg) ((hb.cell (p := ⟨b, o + k * 2 + 1, none⟩) hbl).trans h2)))
      obtain ⟨s1, s2, s3⟩ := HS.out _ hbel hbx
      have i3 : (k : Int) < (L.length : Int) := by omega
      have i4 : (0 : Int) ≤ (k : Int) := by omega
      have HBX := hide hbx
      have HBE := hide hbel
      clear hx hz h1 h2 hby hv3 hoz hv5 hvg hcg hzl hzn hbx hbel
      go_wp2_with fail
      go_region_held3 (fun w' => w'.cell? ⟨w.heap.size, 1, none⟩ = some (.slice (some ⟨g, 0, none⟩) L.length ce) ∧ w'.cell? ⟨g, k, none⟩ = some (.slice A5 (x.2.2.length + 70) c5) ∧ w'.cell? ⟨b, o + k * 2 + 1, none⟩ = some (.slice A3 x.2.2.length c3))
        (first | go_keep | exact HS.out _ q1 q2)
        ((go_at_call 35; (with_reducible refine (HC.out _ ?bb ?b2).mono ?_); (case bb => (repeat (first | with_reducible exact HBE.out | with_reducible refine Below.drew ?_))); (case b2 => (repeat (first | with_reducible exact HBX.out | with_reducible refine Blk.drew ?_))); rintro e w2 ⟨rfl, q1, q2⟩))
      all_goals
        go_wp2
        go_roundw
        case rel => exact ⟨k + 1, by go_num, by omega, q2, q1⟩
        case measure => simp [intOf]; omega
    · have hk2 : k = L.length := by omega
      subst hk2
      have i3 : ¬ (L.length : Int) < (L.length : Int) := by omega
      go_wp2
      generalize wr = wz at *
      go_loopw [6] (fun u6 wr => ∃ j : Nat, u6 = .int .i64 (j : Int) ∧ j ≤ 70 ∧ Blk wr w.heap.size 25 #[.slice Aa n70 ca, .slice Ae L.length ce] ∧ Below w.heap.size w wr) (fun u6 _ => 71 - (intOf u6).toNat)
      case atStart => exact ⟨0, rfl, by omega, hbx, hbel⟩
      case round =>
        clear hbx hbel
        obtain ⟨j, rfl, hj, hbx, hbel⟩ := hrel
        by_cases h70 : j < 70
        · obtain ⟨m, hm⟩ : ∃ m, m = L.length + j := ⟨_, rfl⟩
          obtain ⟨y, hy⟩ : ∃ y, LA[m]? = some y := ⟨_, List.getElem?_eq_getElem (by have := HLN2.out; have := HN7.out; omega)⟩
          have hyr : (lst y.1, y.2.2) = (tMark, [UInt8.ofNat j]) := by
            have e1 := rws_get hy
            rw [HRW.out, List.getElem?_append_right (by simp; omega), rws_length, hm, Nat.add_sub_cancel_left] at e1
            simp [mks70, h70] at e1
            simp [e1]
          have hy1 : y.1 = ⟨#[109, 97, 114, 107]⟩ := lst_inj (Prod.mk.inj hyr).1
          have hy2 : y.2.2 = [UInt8.ofNat j] := (Prod.mk.inj hyr).2
          have hoy := (HLN.out.rows.2 y (List.mem_of_getElem? hy)).by_
          rw [hy2] at hoy
          obtain ⟨A3, c3, hv3, hc3, _, hcy⟩ := hoy.form
          obtain ⟨b2, o2, rfl, hbl2, h3⟩ := hcy 0 _ rfl
          obtain ⟨b, o, rfl, hbl, h1, h2⟩ := HCELLA.out m y hy
          rw [hy1] at h1
          rw [hv3] at h2
          have hju : ((UInt8.ofNat j).toNat : Int) = (j : Int) := by simp; omega
          rw [hju] at h3
          have s1 : wr.cell? ⟨w.heap.size, 0, none⟩ = some (.slice (some ⟨b, o, none⟩) n70 ca) := hbx.cell 0
          have s2 := (hbel.cell (p := ⟨b, o + m * 2, none⟩) hbl).trans h1
          have s3 := (hbel.cell (p := ⟨b, o + m * 2 + 1, none⟩) hbl).trans h2
          have s4 : wr.cell? ⟨b2, o2, none⟩ = some (.int .u8 (j : Int)) := (hbel.cell (p := ⟨b2, o2, none⟩) hbl2).trans h3
          have hb5 : ¬ b2 = wr.heap.size := by have := hbel.size; omega
          have e1 : IntKind.i64.wrap ((L.length : Int) + (j : Int)) = (m : Int) := by rw [hm, IntWalk.i64_in _ (by omega)]; omega
          have e2 : IntKind.u8.wrap (j : Int) = (j : Int) := IntWalk.u8_in _ (by omega)
          have i5 : (j : Int) < 70 := by omega
          have i6 : (m : Int) < (n70 : Int) := by have := HN7.out; omega
          have i7 : (0 : Int) ≤ (m : Int) := by omega
          have hsz := hbel.size
          have hb3 : b < wr.heap.size := by omega
          have hb4 : b2 < wr.heap.size := by omega
          have HBX := hide hbx
          have HBE := hide hbel
          clear hm hy hyr hy1 hy2 hoy hv3 hcy h1 h2 h3 hju hbx hbel hc3
          go_wp2
          go_roundw
          case rel => exact ⟨j + 1, by go_num, by omega, HBX.out.alloc _, HBE.out.alloc HBE.out.size _⟩
          case measure => simp [intOf]; omega
        · have hj2 : j = 70 := by omega
          subst hj2
          go_wp2
          go_ret
          exact ⟨rfl, hbel⟩
end Go.Proofs.YtkhlbpclfeakpaaDoor

/- The contract of the law's over: what was lent is written over. -/
namespace Go.Proofs.YtkhlbpclfeakpaaDoor
open Go.RowKit

theorem apts_get {E : List Ent} (h : apts E) {i j : Nat} {a b : Ent} (ha : E[i]? = some a) (hb : E[j]? = some b) (hne : i ≠ j) : ∀ g, a.1.ownBlock = some g → b.1.ownBlock ≠ some g := by
  intro g hg hgb
  obtain ⟨hi, rfl⟩ := List.getElem?_eq_some_iff.1 ha
  obtain ⟨hj, rfl⟩ := List.getElem?_eq_some_iff.1 hb
  have hp := List.pairwise_iff_getElem.1 h
  rcases Nat.lt_or_gt_of_ne hne with hlt | hlt
  · rcases hp i j hi hj hlt with h0 | h0
    · rw [h0] at hg; cases hg
    · exact h0 (hg.trans hgb.symm)
  · rcases hp j i hj hi hlt with h0 | h0
    · rw [h0] at hgb; cases hgb
    · exact h0 (hgb.trans hg.symm)
theorem own_blk {w : World} {base n g c : Nat} {e : TypeId} {sz : Nat} {xs : List Value} (h : w.ownsRow base e sz (.slice (some ⟨g, 0, none⟩) n c) n xs) : ∃ cur, Blk w g e cur ∧ n * sz ≤ cur.size := by
  rcases h.2 with ⟨h0, _⟩ | ⟨g', cap', cur, hv, _, hh, h3, _, h5, _⟩
  · cases h0
  · injection hv with e1 _ _
    injection e1 with e1
    injection e1 with e1
    subst e1
    exact ⟨cur, hh, by rw [h5]; exact Nat.mul_le_mul_right _ h3⟩

set_option maxRecDepth 100000 in
set_option maxHeartbeats 8000000 in
theorem overRows_any (va ve : Value) (LA : List RowV) (E : List Ent) (base hi : Nat) (w : World) (hlnt : Lnt w base va ve LA E) (hlen : E.length ≤ LA.length) (hn : E.length ≤ 1048576) (hl : ∀ z ∈ E, z.2.length ≤ 140737488355328)
    (hhi : ∀ g, va.ownBlock = some g → g < hi) (hhe : ∀ z ∈ E, ∀ g, z.1.ownBlock = some g → g < hi) (hhw : hi ≤ w.heap.size) (hbase : base ≤ w.heap.size) :
    Calls Tryd.prog 17 #[.agg #[va, ve]] w fun e w' => e = .returned (.tuple #[]) ∧ Below base w w' ∧ w.heap.size ≤ w'.heap.size ∧ ∀ g, hi ≤ g → g < w.heap.size → w'.heap[g]? = w.heap[g]? := by
  have HLN := hide hlnt
  have HL := hide hl
  have HHI := hide (And.intro hhi hhe)
  have hva : ∃ Aa ca, va = .slice Aa LA.length ca := by
    obtain ⟨A, c, h0, _⟩ := hlnt.rows.rws_.form
    exact ⟨A, c, h0⟩
  obtain ⟨Aa, ca, rfl⟩ := hva
  have hve : ∃ Ae ce, ve = .slice Ae E.length ce := by
    rcases hlnt.each.2 with ⟨h0, h1⟩ | ⟨g, cap, cur, h0, _⟩
    · exact ⟨none, 0, by rw [h0, h1]⟩
    · exact ⟨_, _, h0⟩
  obtain ⟨Ae, ce, rfl⟩ := hve
  have HOWN := hide (show ∀ (i : Nat) (z : Ent), E[i]? = some z → ∃ l, Own w base 5 z.1 l ∧ l.length = z.2.length from fun i z hz => ⟨_, hlnt.own z (List.mem_of_getElem? hz), rfl⟩)
  have i1 : (E.length : Int) ≤ (LA.length : Int) := by omega
  clear hlnt hl hhi hhe
  go_enter Tryd.func17, Tryd.ntmps17
  go_wp2
  go_loopw [2] (fun u2 wr => ∃ (i : Nat) (xs : List Value), u2 = .int .i64 (i : Int) ∧ i ≤ E.length ∧ Blk wr w.heap.size 25 #[.slice Aa LA.length ca, .slice Ae E.length ce] ∧ wr.ownsRow base 69 2 (.slice Aa LA.length ca) LA.length xs ∧ wr.ownsRow base 27 1 (.slice Ae E.length ce) E.length (E.map (·.1)) ∧
    (∀ (i : Nat) (z : Ent), E[i]? = some z → ∃ l, Own wr base 5 z.1 l ∧ l.length = z.2.length) ∧ Below base w wr ∧ w.heap.size ≤ wr.heap.size ∧ (∀ g, hi ≤ g → g < w.heap.size → wr.heap[g]? = w.heap[g]?)) (fun u2 _ => E.length + 1 - (intOf u2).toNat)
  case atStart =>
    exact ⟨0, _, rfl, by omega, Blk.new w _ _, HLN.out.rows.1.alloc _, HLN.out.each.alloc _, fun i z hz => by obtain ⟨l, h1, h2⟩ := HOWN.out i z hz; exact ⟨l, World.ownsRow.alloc h1 _, h2⟩, (Below.refl _ w).alloc hbase _, by simp, fun g _ hg => Below.heap_alloc w _ g hg⟩
  case round =>
    obtain ⟨i, xs, rfl, hi', hblk, hrow, heach, hown, hbel, hsz, hkeep⟩ := hrel
    have c0 : wr.cell? ⟨w.heap.size, 0, none⟩ = some (.slice Aa LA.length ca) := hblk.cell 0
    have c1 : wr.cell? ⟨w.heap.size, 1, none⟩ = some (.slice Ae E.length ce) := hblk.cell 1
    by_cases hlt : i < E.length
    · obtain ⟨z, hz⟩ : ∃ z, E[i]? = some z := ⟨_, List.getElem?_eq_getElem hlt⟩
      obtain ⟨ge, cg, hvg, hgl, hcg⟩ := own_cell1 heach (k := i) (u := z.1) (by simp [hz])
      obtain ⟨rfl, _⟩ : Ae = some ⟨ge, 0, none⟩ ∧ True := by injection hvg with e1 _ _; exact ⟨e1, trivial⟩
      obtain ⟨ga, rfl, hgal⟩ : ∃ ga, Aa = some ⟨ga, 0, none⟩ ∧ ga < wr.heap.size := by
        rcases hrow.2 with ⟨_, h1⟩ | ⟨g, cap, cur, h0, _⟩
        · omega
        · injection h0 with e1 _ _
          exact ⟨g, e1, (hrow.lt g (by rw [e1]; rfl)).2⟩
      obtain ⟨cur, hcur, hcs⟩ := own_blk hrow
      obtain ⟨l, hol, hll⟩ := hown i z hz
      have hzl := HL.out z (List.mem_of_getElem? hz)
      have hover := over_any base z.1 l wr hol (by omega)
      obtain ⟨A5, c5, hv5, _⟩ := hol.by_.form
      rw [hll] at hv5
      rw [hv5] at hcg
      have hover' := hover
      rw [hv5] at hover'
      have Q := hide hover'
      have i3 : (i : Int) < (E.length : Int) := by omega
      have i4 : (0 : Int) ≤ (i : Int) := by omega
      have i5 : (i : Int) < (LA.length : Int) := by omega
      have HA := hide (And.intro hblk (And.intro hrow (And.intro heach (And.intro hown (And.intro hbel (And.intro hsz (And.intro hkeep (And.intro hcur hol))))))))
      have HV5 := hide hv5
      have HLL := hide hll
      have HZ := hide hz
      clear hblk hrow heach hown hbel hkeep hcur hol hover hover' hv5 hz hvg hll
      go_wp2_with fail
      refine Q.out.mono ?_
      rintro e w1 ⟨rfl, b1, g1, l1, o1, ll1⟩
      rw [← HV5.out] at g1 o1
      obtain ⟨hblk, hrow, heach, hown, hbel, hsz2, hkeep, hcur, hol⟩ := HA.out
      have hblk1 := hblk.grown g1 (fun e' => (own_blk_ne hol hblk (by decide)).elim (fun h0 => by rw [h0] at e'; cases e') (fun h0 => h0 e'.symm))
      have hrow1 := own_grown hrow g1 fun g hg he => own_ne hrow hol (by decide) g hg he
      have heach1 := own_grown heach g1 fun g hg he => own_ne heach hol (by decide) g hg he
      have hcur1 := hcur.grown g1 (fun e' => (own_blk_ne hol hcur (by decide)).elim (fun h0 => by rw [h0] at e'; cases e') (fun h0 => h0 e'.symm))
      have hown1 : ∀ (j : Nat) (y : Ent), E[j]? = some y → ∃ l, Own w1 base 5 y.1 l ∧ l.length = y.2.length := fun j y hy => by
        by_cases hij : j = i
        · subst hij
          rw [HZ.out] at hy
          cases hy
          exact ⟨l1, o1, by have := HLL.out; omega⟩
        · obtain ⟨ly, hoy, hly⟩ := hown j y hy
          exact ⟨ly, own_grown hoy g1 fun g hg he => apts_get HLN.out.apt hy HZ.out hij g hg he, hly⟩
      have hb1 : Below base w w1 := hbel.trans b1
      have hkeep1 : ∀ g, hi ≤ g → g < w.heap.size → w1.heap[g]? = w.heap[g]? := fun g h1 h2 => (g1.block g (by omega) (fun e' => by have := HHI.out.2 z (List.mem_of_getElem? HZ.out) g e'.symm; omega)).trans (hkeep g h1 h2)
      have hs1 : w.heap.size ≤ w1.heap.size := Nat.le_trans hsz g1.size
      have d0 : w1.cell? ⟨w.heap.size, 0, none⟩ = some (.slice (some ⟨ga, 0, none⟩) LA.length ca) := hblk1.cell 0
      obtain ⟨u, hu⟩ : ∃ u, cur[i * 2]? = some u := ⟨_, Array.getElem?_eq_getElem (by omega)⟩
      have d1 : w1.cell? ⟨ga, i * 2, none⟩ = some u := (hcur1.cell (i * 2)).trans hu
      have d2 : w1.frozen? ⟨ga, i * 2, none⟩ = false := hcur1.frozen (i * 2)
      have hblk2 : Blk (w1.setCell ⟨ga, i * 2, none⟩ (.string ⟨#[111, 118, 101, 114]⟩)) w.heap.size 25 #[.slice (some ⟨ga, 0, none⟩) LA.length ca, .slice (some ⟨ge, 0, none⟩) E.length ce] := hblk1.far (p := ⟨ga, i * 2, none⟩) (fun e' => (own_blk_ne hrow1 hblk1 (by decide)).elim (fun h0 => by cases h0) (fun h0 => h0 (by rw [e']; rfl))) _
      have hrow2 := (hrow1.stored (i * 2) (.string ⟨#[111, 118, 101, 114]⟩)).1
      have heach2 : (w1.setCell ⟨ga, i * 2, none⟩ (.string ⟨#[111, 118, 101, 114]⟩)).ownsRow base _ _ _ _ _ := own_far heach1 hcur1 (by decide)
      have hown2 : ∀ (j : Nat) (y : Ent), E[j]? = some y → ∃ l, Own (w1.setCell ⟨ga, i * 2, none⟩ (.string ⟨#[111, 118, 101, 114]⟩)) base 5 y.1 l ∧ l.length = y.2.length := fun j y hy => by
        obtain ⟨ly, hoy, hly⟩ := hown1 j y hy
        exact ⟨ly, own_far hoy hcur1 (by decide), hly⟩
      have hgb : base ≤ ga := (hrow1.lt ga rfl).1
      have hb2 := hb1.setCell (p := ⟨ga, i * 2, none⟩) hgb (.string ⟨#[111, 118, 101, 114]⟩)
      have hkeep2 : ∀ g, hi ≤ g → g < w.heap.size → (w1.setCell ⟨ga, i * 2, none⟩ (.string ⟨#[111, 118, 101, 114]⟩)).heap[g]? = w.heap[g]? := fun g h1 h2 => (Below.heap_setCell w1 ⟨ga, i * 2, none⟩ _ g (fun e' => by have := HHI.out.1 ga rfl; simp at e'; omega)).trans (hkeep1 g h1 h2)
      have HB := hide (And.intro hblk2 (And.intro hrow2 (And.intro heach2 (And.intro hown2 (And.intro hb2 (And.intro hs1 hkeep2))))))
      clear hblk hrow heach hown hbel hsz2 hkeep hcur hol hblk1 hrow1 heach1 hcur1 hown1 hb1 hkeep1 hblk2 hrow2 heach2 hown2 hb2 hkeep2 b1 g1 o1 c0 c1 hcg hu hsz
      go_wp2
      go_roundw
      case rel => exact ⟨i + 1, _, by go_num, by omega, HB.out.1, HB.out.2.1, HB.out.2.2.1, HB.out.2.2.2.1, HB.out.2.2.2.2.1, by have := HB.out.2.2.2.2.2.1; simpa using this, HB.out.2.2.2.2.2.2⟩
      case measure => simp [intOf]; omega
    · have hi2 : i = E.length := by omega
      subst hi2
      have i3 : ¬ (E.length : Int) < (E.length : Int) := by omega
      have HA := hide (And.intro hbel (And.intro hsz hkeep))
      clear hbel hsz hkeep hown heach hrow hblk
      go_wp2
      go_end0
      exact ⟨rfl, HA.out⟩
end Go.Proofs.YtkhlbpclfeakpaaDoor

/- The contract of the statements' helper that asks whether lists of bytes that were handed out have memory of their own, spare room too: it writes over them, appends behind them, and finds all as it left it. -/
namespace Go.Proofs.YtkhlbpclfeakpaaDoor.Apx
open Go.RowKit
attribute [local go_sem ↓] Go.wp_at_zero Go.wp_at_succ

/-- Value i of the marks of list k. -/
def mkv (k i : Nat) : Value := .int .u8 ((mark (k : Int) (i : Int)).toNat : Int)
def mks (k n : Nat) : List Value := (List.range n).map (mkv k)
@[simp] theorem mks_length (k n : Nat) : (mks k n).length = n := by simp [mks]
theorem mks_succ (k n : Nat) : mks k (n + 1) = mks k n ++ [mkv k n] := by simp [mks, List.range_succ]
theorem mks_get (k n i : Nat) (h : i < n) : (mks k n)[i]? = some (mkv k i) := by simp [mks, h]
theorem mks_take (k n m : Nat) (h : m ≤ n) : (mks k n).take m = mks k m := by
  rw [mks, ← List.map_take, List.take_range, Nat.min_eq_left h]; rfl

/-- What list j holds when the lists before k are written over, and i places of list k. -/
def st1 (X : Nat → List Value) (ln : Nat → Nat) (k i j : Nat) : List Value :=
  if j < k then mks (j + 1) (ln j) else if j = k then mks (k + 1) i ++ (X j).drop i else X j
theorem st1_next (X : Nat → List Value) (ln : Nat → Nat) (k j : Nat) (h : ∀ j, (X j).length = ln j) : st1 X ln k (ln k) j = st1 X ln (k + 1) 0 j := by
  unfold st1
  rcases Nat.lt_trichotomy j k with hlt | heq | hgt
  · rw [if_pos hlt, if_pos (by omega)]
  · subst heq
    rw [if_neg (by omega), if_pos rfl, if_pos (by omega), List.drop_of_length_le (by rw [h j]; omega), List.append_nil]
  · rw [if_neg (by omega), if_neg (by omega), if_neg (by omega)]
    split
    · simp [mks]
    · rfl
theorem st1_set (X : Nat → List Value) (ln : Nat → Nat) (k i : Nat) (h : ∀ j, (X j).length = ln j) (hi : i < ln k) :
    (st1 X ln k i k).set i (mkv (k + 1) i) = st1 X ln k (i + 1) k := by
  unfold st1
  rw [if_neg (by omega), if_pos rfl, if_neg (by omega), if_pos rfl, mks_succ]
  rw [List.set_append_right _ _ (by simp), mks_length, Nat.sub_self]
  rw [List.drop_eq_getElem_cons (by rw [h k]; omega)]
  simp only [List.append_assoc, List.set_cons_zero, List.cons_append, List.nil_append]
theorem st1_other (X : Nat → List Value) (ln : Nat → Nat) (k i j : Nat) (hj : j ≠ k) : st1 X ln k i j = st1 X ln k (i + 1) j := by
  unfold st1
  rw [if_neg (c := j = k) hj, if_neg (c := j = k) hj]

theorem own_ne {w : World} {b1 b2 : Nat} {e1 e2 : TypeId} {s1 s2 : Nat} {v1 v2 : Value} {n1 n2 : Nat} {x1 x2 : List Value} (h1 : w.ownsRow b1 e1 s1 v1 n1 x1) (h2 : w.ownsRow b2 e2 s2 v2 n2 x2) (he : e1 ≠ e2) :
    v1.ownBlock = none ∨ v1.ownBlock ≠ v2.ownBlock := by
  rcases h1.2 with ⟨rfl, _⟩ | ⟨g, cap, cur, rfl, _, hh, _⟩
  · exact .inl rfl
  · refine .inr ?_
    rcases h2.2 with ⟨rfl, _⟩ | ⟨g', cap', cur', rfl, _, hh', _⟩
    · simp [Value.ownBlock]
    · intro hg
      have : g = g' := by simpa [Value.ownBlock] using hg
      subst this
      rw [hh] at hh'
      injection hh' with hh'
      injection hh' with _ ht
      exact he ht

/-- What stands during the writing over. -/
def Ph1 (w0 : World) (base : Nat) (e E : TypeId) (vls : Value) (n : Nat) (vs : Nat → Value) (ln : Nat → Nat) (X : Nat → List Value) (k i : Nat) (wr : World) : Prop :=
  wr.ownsRow base E 1 vls n ((List.range n).map vs) ∧ (∀ j, j < n → wr.ownsRow base e 1 (vs j) (ln j) (st1 X ln k i j)) ∧ Below base w0 wr

def Dist (n : Nat) (vs : Nat → Value) : Prop := ∀ i j, i < n → j < n → i ≠ j → (vs i).ownBlock = none ∨ (vs i).ownBlock ≠ (vs j).ownBlock

theorem Ph1.store {w0 : World} {base : Nat} {e E : TypeId} {vls : Value} {n : Nat} {vs : Nat → Value} {ln : Nat → Nat} {X : Nat → List Value} {k i : Nat} {wr : World} (heE : e ≠ E) (hX : ∀ j, (X j).length = ln j)
    (h : Ph1 w0 base e E vls n vs ln X k i wr) (hd : Dist n vs) (hk : k < n) (hi : i < ln k) {g cap : Nat} (hv : vs k = .slice (some ⟨g, 0, none⟩) (ln k) cap) :
    Ph1 w0 base e E vls n vs ln X k (i + 1) (wr.setCell ⟨g, i, none⟩ (mkv (k + 1) i)).drew := by
  obtain ⟨h1, h2, h3⟩ := h
  have hk2 := h2 k hk
  have hk3 := h2 k hk
  rw [hv] at hk2
  obtain ⟨hs, hg⟩ := hk2.stored i (mkv (k + 1) i)
  have hb : base ≤ g := (hk2.lt g rfl).1
  have hg' : wr.grownBy (wr.setCell ⟨g, i, none⟩ (mkv (k + 1) i)).drew (some g) := ⟨hg.os, hg.tape, hg.output, hg.size, hg.block⟩
  refine ⟨?_, fun j hj => ?_, ?_⟩
  · have := own_ne h1 hk3 (Ne.symm heE)
    rw [hv] at this
    exact h1.kept hg' this
  · by_cases hjk : j = k
    · subst hjk
      rw [st1_set X ln j i hX hi, ← hv] at hs
      exact hs
    · rw [← st1_other X ln k i j hjk]
      have := hd j k hj hk hjk
      rw [hv] at this
      exact (h2 j hj).kept hg' this
  · exact (h3.setCell hb _).drew

theorem own_oneCell {w : World} {base : Nat} {e : TypeId} {sz n : Nat} {v : Value} {xs : List Value} (h : w.ownsRow base e sz v n xs) : v.oneCell' = true := by
  rcases h.2 with ⟨rfl, _⟩ | ⟨g, cap, cur, rfl, _⟩ <;> rfl

/-- Two values that don't share a block. -/
def Apt (a b : Value) : Prop := a.ownBlock = none ∨ a.ownBlock ≠ b.ownBlock
theorem Apt.symm {a b : Value} (h : Apt a b) : Apt b a := by
  unfold Apt at *
  rcases hb : b.ownBlock with _ | x
  · exact .inl rfl
  · rcases h with h | h
    · right; rw [h]; simp
    · right; rw [hb] at h; exact Ne.symm h

/-- A value that owns a beginning of what another one in the same block owns goes on owning it. -/
theorem own_prefix {w w1 : World} {base : Nat} {e : TypeId} {v g : Value} {n m : Nat} {xs ys : List Value} (h : w.ownsRow base e 1 v n xs) (hg : w.ownsRow base e 1 g m ys) (hb : v.ownBlock = g.ownBlock)
    (hp : ys.take n = xs) (hnm : n ≤ m) (hg1 : w1.ownsRow base e 1 g m ys) : w1.ownsRow base e 1 v n xs := by
  rcases h.2 with ⟨rfl, rfl⟩ | ⟨b, cap, cur, rfl, hbb, hh, hnc, hcm, hcs, ht⟩
  · exact ⟨h.1, .inl ⟨rfl, rfl⟩⟩
  · rcases hg.2 with ⟨rfl, _⟩ | ⟨b', cap', cur', rfl, _, hh', hmc, _, hcs', _⟩
    · simp [Value.ownBlock] at hb
    · have hbe : b = b' := by simpa [Value.ownBlock] using hb
      subst hbe
      rw [hh] at hh'
      injection hh' with hh'
      injection hh' with hc
      subst hc
      have hcap : cap = cap' := by omega
      rcases hg1.2 with ⟨h0, _⟩ | ⟨b2, cap2, cur2, hv2, _, hh2, _, _, hcs2, ht2⟩
      · cases h0
      · injection hv2 with hA _ hC
        injection hA with hA
        injection hA with hA
        subst hA hC
        refine ⟨h.1, .inr ⟨b, cap, cur2, rfl, hbb, hh2, hnc, hcm, by omega, ?_⟩⟩
        rw [← hp, ← ht2, List.take_take]
        congr 1
        omega

/-- What stands while marks are appended: Gs are the lists with marks behind them, so far. -/
structure Ph2 (w0 : World) (base : Nat) (e E : TypeId) (vls vgs : Value) (n : Nat) (vs : Nat → Value) (ln : Nat → Nat) (Gs : List Value) (wr : World) : Prop where
  ls : wr.ownsRow base E 1 vls n ((List.range n).map vs)
  gs : wr.ownsRow base E 1 vgs Gs.length Gs
  old : ∀ j, j < n → wr.ownsRow base e 1 (vs j) (ln j) (mks (j + 1) (ln j))
  new : ∀ (j : Nat) (g : Value), Gs[j]? = some g → wr.ownsRow base e 1 g (ln j + 70) (mks (j + 1) (ln j + 70))
  apt : ∀ (i j : Nat) (g : Value), Gs[i]? = some g → j < n → i ≠ j → Apt g (vs j)
  aptg : ∀ (i j : Nat) (g h : Value), Gs[i]? = some g → Gs[j]? = some h → i ≠ j → Apt g h
  apto : Apt vgs vls
  dist : Dist n vs
  below : Below base w0 wr

/-- The list that is being appended to. -/
structure Cur (base : Nat) (e : TypeId) (n : Nat) (vs : Nat → Value) (ln : Nat → Nat) (Gs : List Value) (k i : Nat) (g : Value) (wr : World) : Prop where
  own : wr.ownsRow base e 1 g (ln k + i) (mks (k + 1) (ln k + i))
  apt : ∀ j, j < n → k ≠ j → Apt g (vs j)
  aptg : ∀ (i' : Nat) (h : Value), Gs[i']? = some h → Apt g h

theorem apt_new {w : World} {base : Nat} {e : TypeId} {s : Nat} {g g' h : Value} {n : Nat} {xs : List Value} (ho : w.ownsRow base e s h n xs) (ha : Apt g h)
    (hb : g'.ownBlock = g.ownBlock ∨ ∀ x, g'.ownBlock = some x → w.heap.size ≤ x) : Apt g' h := by
  rcases hb with hb | hb
  · unfold Apt at *
    rw [hb]; exact ha
  · rcases hg : g'.ownBlock with _ | x
    · exact .inl hg
    · refine .inr ?_
      rw [hg]
      intro he
      have h1 := (ho.lt x he.symm).2
      have h2 := hb x hg
      omega

theorem Ph2.drewN {w0 : World} {base : Nat} {e E : TypeId} {vls vgs : Value} {n : Nat} {vs : Nat → Value} {ln : Nat → Nat} {Gs : List Value} {wr : World} (h : Ph2 w0 base e E vls vgs n vs ln Gs wr) (q : Nat) :
    Ph2 w0 base e E vls vgs n vs ln Gs (wr.drewN q) := ⟨h.ls, h.gs, h.old, h.new, h.apt, h.aptg, h.apto, h.dist, below_drewN h.below q⟩

/-- One mark more behind the list that is being appended to. -/
theorem Ph2.push {w0 : World} {base : Nat} {e E : TypeId} {vls vgs : Value} {n : Nat} {vs : Nat → Value} {ln : Nat → Nat} {Gs : List Value} {wr w1 : World} {k i : Nat} {g g' : Value} (heE : e ≠ E)
    (h : Ph2 w0 base e E vls vgs n vs ln Gs wr) (c : Cur base e n vs ln Gs k i g wr) (hk : k < n) (hown : w1.ownsRow base e 1 g' (ln k + i + 1) (mks (k + 1) (ln k + i) ++ [mkv (k + 1) (ln k + i)]))
    (hold : w1.ownsRow base e 1 g (ln k + i) (mks (k + 1) (ln k + i))) (hg : wr.grownBy w1 g.ownBlock) (hb : g'.ownBlock = g.ownBlock ∨ ∀ x, g'.ownBlock = some x → wr.heap.size ≤ x) (hbel : Below base w0 w1) :
    Ph2 w0 base e E vls vgs n vs ln Gs w1 ∧ Cur base e n vs ln Gs k (i + 1) g' w1 := by
  refine ⟨⟨h.ls.kept hg (own_ne h.ls c.own (Ne.symm heE)), h.gs.kept hg (own_ne h.gs c.own (Ne.symm heE)), fun j hj => ?_, fun j x hx => (h.new j x hx).kept hg (c.aptg j x hx).symm, h.apt, h.aptg, h.apto, h.dist, hbel⟩,
    ⟨by rw [← Nat.add_assoc, mks_succ]; exact hown, fun j hj hkj => apt_new (h.old j hj) (c.apt j hj hkj) hb, fun j x hx => apt_new (h.new j x hx) (c.aptg j x hx) hb⟩⟩
  by_cases hkj : k = j
  · subst hkj
    by_cases hs : (vs k).ownBlock = g.ownBlock
    · exact own_prefix (h.old k hk) c.own hs (mks_take _ _ _ (by omega)) (by omega) hold
    · exact (h.old k hk).kept hg (.inr hs)
  · exact (h.old j hj).kept hg (c.apt j hj hkj).symm

/-- The list with its marks is laid to the others. -/
theorem Ph2.lay {w0 : World} {base : Nat} {e E : TypeId} {vls vgs vgs' : Value} {n : Nat} {vs : Nat → Value} {ln : Nat → Nat} {Gs : List Value} {wr w1 : World} {g : Value} (heE : e ≠ E)
    (h : Ph2 w0 base e E vls vgs n vs ln Gs wr) (c : Cur base e n vs ln Gs Gs.length 70 g wr) (hown : w1.ownsRow base E 1 vgs' (Gs.length + 1) (Gs ++ [g]))
    (hg : wr.grownBy w1 vgs.ownBlock) (hb : vgs'.ownBlock = vgs.ownBlock ∨ ∀ x, vgs'.ownBlock = some x → wr.heap.size ≤ x) (hbel : Below base w0 w1) :
    Ph2 w0 base e E vls vgs' n vs ln (Gs ++ [g]) w1 := by
  have key : ∀ (i : Nat) (x : Value), (Gs ++ [g])[i]? = some x → Gs[i]? = some x ∨ (i = Gs.length ∧ x = g) := fun i x hx => by
    rcases Nat.lt_trichotomy i Gs.length with hl | he | hgt
    · left; rwa [List.getElem?_append_left hl] at hx
    · right; subst he; simp at hx; exact ⟨rfl, hx.symm⟩
    · rw [List.getElem?_append_right (by omega)] at hx
      rw [List.getElem?_eq_none (by simp; omega)] at hx
      cases hx
  refine ⟨h.ls.kept hg h.apto.symm, by simpa using hown, fun j hj => (h.old j hj).kept hg (own_ne (h.old j hj) h.gs heE), fun j x hx => ?_, fun i j x hx hj hij => ?_, fun i j x y hx hy hij => ?_, apt_new h.ls h.apto hb, h.dist, hbel⟩
  · rcases key j x hx with hx | ⟨rfl, rfl⟩
    · exact (h.new j x hx).kept hg (own_ne (h.new j x hx) h.gs heE)
    · exact c.own.kept hg (own_ne c.own h.gs heE)
  · rcases key i x hx with hx | ⟨rfl, rfl⟩
    · exact h.apt i j x hx hj hij
    · exact c.apt j hj hij
  · rcases key i x hx with hx1 | ⟨hi1, hx1⟩ <;> rcases key j y hy with hy1 | ⟨hj1, hy1⟩
    · exact h.aptg i j x y hx1 hy1 hij
    · rw [hy1]; exact (c.aptg i x hx1).symm
    · rw [hx1]; exact c.aptg j y hy1
    · exact absurd (hi1.trans hj1.symm) hij

theorem elem88 : Elem1 Tryd.prog 23 27 (.slice none 0 0) 24 := ⟨Tryd.underlying23, by kernel_rfl, rfl⟩

set_option maxHeartbeats 800000 in
theorem apart_any (base : Nat) (vls : Value) (n : Nat) (vs : Nat → Value) (ln : Nat → Nat) (X : Nat → List Value) (w : World) (hbase : base ≤ w.heap.size) (hX : ∀ j, (X j).length = ln j)
    (hlen : ∀ j, j < n → ln j ≤ 140737488355000) (hn : n ≤ 1000000000)
    (h0 : w.ownsRow base 27 1 vls n ((List.range n).map vs)) (h1 : ∀ j, j < n → w.ownsRow base 5 1 (vs j) (ln j) (X j)) (hd : Dist n vs) :
    Calls Tryd.prog 20 #[vls] w fun e w' => e = .returned (.bool true) ∧ Below base w w' := by
  have hp : Ph1 w base 5 27 vls n vs ln X 0 0 w := ⟨h0, fun j hj => by have := h1 j hj; unfold st1; rw [if_neg (by omega)]; split <;> simpa [mks] using this, Below.refl _ _⟩
  have HP := hide hp
  have HX := hide hX
  have HD := hide hd
  clear hp h0 h1 hX hd
  by_cases hn0 : n = 0
  · subst hn0
    obtain ⟨_, A, c, hv, _, _, _⟩ := Sl.of_own HP.out.1
    subst hv
    go_enter Tryd.func20, Tryd.ntmps20
    go_wp2
    go_loopw [3] (fun u3 wr => u3 = .int .i64 0 ∧ Below base w wr) (fun _ _ => 0)
    case atStart => exact ⟨rfl, Below.refl _ _⟩
    case round =>
      obtain ⟨rfl, hb1⟩ := hrel
      go_wp2
      go_loopw [6] (fun u3 wx => u3 = .int .i64 0 ∧ Below base w wx) (fun _ _ => 0)
      case atStart => exact ⟨rfl, hb1⟩
      case round =>
        obtain ⟨rfl, hb2⟩ := hrel
        go_wp2
        go_loopw [9] (fun u3 wy => u3 = .int .i64 0 ∧ Below base w wy) (fun _ _ => 0)
        case atStart => exact ⟨rfl, hb2⟩
        case round =>
          obtain ⟨rfl, hb3⟩ := hrel
          go_wp2
          go_ret
          exact ⟨rfl, hb3⟩
  obtain ⟨G, capG, hvls, _, _⟩ := HP.out.1.form (by omega)
  subst hvls
  go_enter Tryd.func20, Tryd.ntmps20
  go_wp2
  go_loopw [3] (fun u3 wr => ∃ k : Nat, k ≤ n ∧ u3 = .int .i64 k ∧ Ph1 w base 5 27 (.slice (some ⟨G, 0, none⟩) n capG) n vs ln X k 0 wr) (fun i _ => n - (intOf i).toNat)
  case atStart => exact ⟨0, by omega, rfl, HP.out⟩
  case round =>
    clear HP
    obtain ⟨k, hk, rfl, hp⟩ := hrel
    have HP := hide hp
    clear hp
    obtain ⟨wo, rfl⟩ : ∃ wo : World, wo = wr := ⟨_, rfl⟩
    by_cases hlt : k < n
    · go_wp2
      go_loopw [4] (fun u4 wr => ∃ i : Nat, i ≤ ln k ∧ u4 = .int .i64 i ∧ Ph1 w base 5 27 (.slice (some ⟨G, 0, none⟩) n capG) n vs ln X k i wr) (fun i _ => ln k - (intOf i).toNat)
      case atStart => exact ⟨0, by omega, rfl, HP.out⟩
      case round =>
        clear HP
        obtain ⟨i, hi, rfl, hp⟩ := hrel
        have HP := hide hp
        clear hp
        have hlk := hlen k hlt
        have i1 : (0 : Int) ≤ (k : Int) := by omega
        have i2 : (k : Int) < (n : Int) := by omega
        have i3 : (0 : Int) ≤ (i : Int) := by omega
        have hcG : wr.cell? ⟨G, k, none⟩ = some (vs k) := by
          rw [HP.out.1.cellAt k (by omega)]; simp [hlt]
        by_cases hli : i < ln k
        · obtain ⟨g, cap, hvk, hbg, _⟩ := (HP.out.2.1 k hlt).form (by omega)
          have hcg := (HP.out.2.1 k hlt)
          rw [hvk] at hcg
          have hfz := hcg.frozenAt i
          have hcc := hcg.cellAt i (by omega)
          have hcv : ∃ y, wr.cell? ⟨g, i, none⟩ = some y := by
            rw [hcc]; exact ⟨_, List.getElem?_eq_getElem (by have := hcg.1; omega)⟩
          obtain ⟨y, hcy⟩ := hcv
          rw [hvk] at hcG
          have i4 : (i : Int) < (ln k : Int) := by omega
          have hgG : g ≠ G := by
            have := own_ne hcg HP.out.1 (by decide)
            simpa [Value.ownBlock] using this
          have hGg : G ≠ g := Ne.symm hgG
          have HV := hide hvk
          clear hcg hcc hvk
          have hmk := mark_any ((k : Int) + 1) (i : Int)
          go_wp2
          have hw1 : IntKind.i64.wrap ((k : Int) + 1) = (k : Int) + 1 := IntWalk.i64_in _ (by omega)
          go_region_held3 (fun w' => w'.cell? ⟨G, k, none⟩ = some (.slice (some ⟨g, 0, none⟩) (ln k) cap)) (go_keep) (first | (go_at_call 56; ((with_reducible refine (hmk _).mono ?_)); rintro e w' ⟨rfl, rfl⟩))
          clear hw1
          go_wp2
          go_roundw
          case rel => exact ⟨i + 1, by omega, by go_num, HP.out.store (by decide) HX.out HD.out hlt hli HV.out⟩
          case measure => simp [intOf]; omega
        · have hil : i = ln k := by omega
          obtain ⟨_, A, c, hvk, _, _, _⟩ := Sl.of_own (HP.out.2.1 k hlt)
          rw [hvk] at hcG
          clear hvk
          have i4 : (ln k : Int) ≤ (i : Int) := by omega
          have HI := hide hil
          clear hil
          go_wp2
          go_roundw
          case rel =>
            refine ⟨k + 1, by omega, by go_num, ?_⟩
            have h := HP.out
            rw [HI.out] at h
            exact ⟨h.1, fun j hj => by rw [← st1_next X ln k j HX.out]; exact h.2.1 j hj, h.2.2⟩
          case measure => simp [intOf]; omega
    · have hkn : k = n := by omega
      subst hkn
      have hp2 : Ph2 w base 5 27 (.slice (some ⟨G, 0, none⟩) k capG) (.slice none 0 0) k vs ln [] wo := by
        obtain ⟨h1, h2, h3⟩ := HP.out
        refine ⟨h1, World.ownsRow_nil _ _ _ _, fun j hj => ?_, fun j g hg => by simp at hg, fun i j g hg => by simp at hg, fun i j g h hg => by simp at hg, .inl rfl, HD.out, h3⟩
        have := h2 j hj
        unfold st1 at this
        rwa [if_pos hj] at this
      clear HP
      have HP := hide hp2
      clear hp2
      go_wp2
      go_loopw [5, 6] (fun u5 u6 wr => ∃ Gs : List Value, Gs.length ≤ k ∧ u6 = .int .i64 (Gs.length : Int) ∧ Ph2 w base 5 27 (.slice (some ⟨G, 0, none⟩) k capG) u5 k vs ln Gs wr) (fun _ i _ => k - (intOf i).toNat)
      case atStart => exact ⟨[], by simp, rfl, HP.out⟩
      case round =>
        clear HP
        obtain ⟨Gs, hGs, rfl, hp⟩ := hrel
        have HP := hide hp
        clear hp
        obtain ⟨q, hq⟩ : ∃ q, q = Gs.length := ⟨_, rfl⟩
        rw [← hq] at hGs ⊢
        have HQ := hide hq
        clear hq
        obtain ⟨wp, rfl⟩ : ∃ wp : World, wp = wr := ⟨_, rfl⟩
        by_cases hql : q < k
        · have hcG : wp.cell? ⟨G, q, none⟩ = some (vs q) := by
            rw [HP.out.ls.cellAt q (by omega)]; simp [hql]
          have i1 : (0 : Int) ≤ (q : Int) := by omega
          go_wp2
          go_loopw [7, 8] (fun u7 u8 wr => ∃ i : Nat, i ≤ 70 ∧ u8 = .int .i64 (i : Int) ∧ Ph2 w base 5 27 (.slice (some ⟨G, 0, none⟩) k capG) u5 k vs ln Gs wr ∧ Cur base 5 k vs ln Gs q i u7 wr) (fun _ i _ => 70 - (intOf i).toNat)
          case atStart => exact ⟨0, by omega, rfl, HP.out, HP.out.old q hql, fun j hj hne => HP.out.dist q j hql hj hne, fun j h hh => (HP.out.apt j q h hh hql (by have := (List.getElem?_eq_some_iff.1 hh).1; have := HQ.out; omega)).symm⟩
          case round =>
            clear HP hcG
            obtain ⟨i, hi, rfl, hp, hc⟩ := hrel
            have HP := hide hp
            have HC := hide hc
            clear hp hc
            have hcG : wr.cell? ⟨G, q, none⟩ = some (vs q) := by
              rw [HP.out.ls.cellAt q (by omega)]; simp [hql]
            obtain ⟨_, A, c, hvk, _, _, _⟩ := Sl.of_own (HP.out.old q hql)
            rw [hvk] at hcG
            clear hvk
            have hlq := hlen q hql
            by_cases hi70 : i < 70
            · have hmk := mark_any ((q : Int) + 1) ((ln q : Int) + (i : Int))
              go_wp2_with (first
                | (go_at_call 56; ((with_reducible refine (hmk _).mono ?_)); rintro e w' ⟨rfl, rfl⟩)
                | (at_builtin; go_loud (refine wpList_push1 elem8 HC.out.own HP.out.below (Nat.le_trans hbase HP.out.below.size) (by unfold maxLen; omega) (by omega) (mkv (q + 1) (ln q + i)) rfl rfl _ _ rfl rfl rfl ?_); intro v1 w1 hown1 hbel1 hold1 hgr1 hblk1))
              go_roundw
              case rel => exact ⟨i + 1, by omega, by go_num, HP.out.push (by decide) HC.out hql hown1 hold1 hgr1 hblk1 hbel1⟩
              case measure => simp [intOf]; omega
            · have hi0 : i = 70 := by omega
              subst hi0
              have hqG := HQ.out
              subst hqG
              obtain ⟨ub, uc, hu7, _, _⟩ := HC.out.own.form (by omega)
              subst hu7
              go_wp2_with (at_builtin; go_loud (refine wpList_push1 elem88 HP.out.gs HP.out.below (Nat.le_trans hbase HP.out.below.size) (by unfold maxLen; omega) (by omega) (.slice (some ⟨ub, 0, none⟩) (ln Gs.length + 70) uc) rfl rfl _ _ rfl rfl rfl ?_); intro v1 w1 hown1 hbel1 hold1 hgr1 hblk1)
              go_roundw
              case rel => exact ⟨_, by simp; omega, by simp, HP.out.lay (by decide) HC.out hown1 hgr1 hblk1 hbel1⟩
              case measure => simp [intOf]; omega
        · have hqk : q = k := by omega
          subst hqk
          obtain ⟨H, capH, hvgs, _, _⟩ := HP.out.gs.form (by have := HQ.out; omega)
          subst hvgs
          go_wp2
          go_loopw [9, 2, 10, 11] (fun u9 _ _ _ wr => ∃ p : Nat, p ≤ q ∧ u9 = .int .i64 (p : Int) ∧ Ph2 w base 5 27 (.slice (some ⟨G, 0, none⟩) q capG) (.slice (some ⟨H, 0, none⟩) Gs.length capH) q vs ln Gs wr) (fun i _ _ _ _ => q - (intOf i).toNat)
          case atStart => exact ⟨0, by omega, rfl, HP.out⟩
          case round =>
            obtain ⟨p, hp, rfl, h2⟩ := hrel
            clear HP
            have HP := hide h2
            clear h2
            obtain ⟨wz, rfl⟩ : ∃ wz : World, wz = wr := ⟨_, rfl⟩
            by_cases hpq : p < q
            · obtain ⟨g, hg⟩ : ∃ g, Gs[p]? = some g := ⟨_, List.getElem?_eq_getElem (by have := HQ.out; omega)⟩
              have hog := HP.out.new p g hg
              obtain ⟨gb, gc, hgv, _, _⟩ := hog.form (by omega)
              subst hgv
              have hlp := hlen p hpq
              go_wp2
              go_loopw [10, 2, 11] (fun u10 _ _ wr => ∃ i : Nat, i ≤ ln p + 70 ∧ u10 = .int .i64 (i : Int) ∧ Ph2 w base 5 27 (.slice (some ⟨G, 0, none⟩) q capG) (.slice (some ⟨H, 0, none⟩) Gs.length capH) q vs ln Gs wr) (fun i _ _ _ => ln p + 70 - (intOf i).toNat)
              case atStart => exact ⟨0, by omega, rfl, HP.out⟩
              case round =>
                obtain ⟨i, hi, rfl, h2⟩ := hrel
                clear HP hog
                have HP := hide h2
                clear h2
                have hcH : wr.cell? ⟨H, p, none⟩ = some (.slice (some ⟨gb, 0, none⟩) (ln p + 70) gc) := by
                  rw [HP.out.gs.cellAt p (by have := HQ.out; omega)]; exact hg
                have hog := HP.out.new p _ hg
                have HG := hide hg
                clear hg
                have i3 : (0 : Int) ≤ (i : Int) := by omega
                have i4 : (0 : Int) ≤ (p : Int) := by omega
                have i5 : (p : Int) < (q : Int) := by omega
                have i6 : (p : Int) < (Gs.length : Int) := by have := HQ.out; omega
                by_cases hi7 : i < ln p + 70
                · obtain ⟨m, hm⟩ : ∃ m, m = mark ((p : Int) + 1) (i : Int) := ⟨_, rfl⟩
                  have hcg : wr.cell? ⟨gb, i, none⟩ = some (.int .u8 (m.toNat : Int)) := by
                    rw [hog.cellAt i (by omega), mks_get _ _ _ hi7, hm]; rfl
                  have hmk : ∀ w, Calls Tryd.prog 56 #[.int .i64 ((p : Int) + 1), .int .i64 (i : Int)] w fun e w' => e = .returned (.int .u8 (m.toNat : Int)) ∧ w = w' := by
                    rw [hm]; exact mark_any _ _
                  have hcG : wr.cell? ⟨G, p, none⟩ = some (vs p) := by
                    rw [HP.out.ls.cellAt p (by omega)]; simp [hpq]
                  have hov := HP.out.old p hpq
                  have hmm : ((m.toNat : Int) != (m.toNat : Int)) = false := by simp
                  have i8 : (i : Int) < (ln p : Int) + 70 := by omega
                  by_cases hil : i < ln p
                  · obtain ⟨vb, vc, hvp, _, _⟩ := hov.form (by omega)
                    rw [hvp] at hcG hov
                    have hcv : wr.cell? ⟨vb, i, none⟩ = some (.int .u8 (m.toNat : Int)) := by
                      rw [hov.cellAt i (by omega), mks_get _ _ _ hil, hm]; rfl
                    have i9 : (i : Int) < (ln p : Int) := by omega
                    clear hov hog hvp hm
                    go_wp2_with (go_at_call 56; ((with_reducible refine (hmk _).mono ?_)); rintro e w' ⟨rfl, rfl⟩)
                    go_roundw
                    case rel => exact ⟨i + 1, by omega, by go_num, HP.out⟩
                    case measure => simp [intOf]; omega
                  · obtain ⟨_, A, c, hvp, _, _, _⟩ := Sl.of_own hov
                    rw [hvp] at hcG
                    have i9 : decide ((i : Int) < (ln p : Int)) = false := by simp; omega
                    clear hov hog hvp hm
                    go_wp2_with (go_at_call 56; ((with_reducible refine (hmk _).mono ?_)); rintro e w' ⟨rfl, rfl⟩)
                    go_roundw
                    case rel => exact ⟨i + 1, by omega, by go_num, HP.out⟩
                    case measure => simp [intOf]; omega
                · have i8 : (ln p : Int) + 70 ≤ (i : Int) := by omega
                  go_wp2
                  go_roundw
                  case rel => exact ⟨p + 1, by omega, by go_num, HP.out⟩
                  case measure => simp [intOf]; omega
            · go_wp2
              go_ret
              exact ⟨rfl, HP.out.below⟩
theorem own_base {w : World} {base base' : Nat} {e : TypeId} {sz n : Nat} {v : Value} {xs : List Value} (h : w.ownsRow base e sz v n xs) (hb : base' ≤ base) : w.ownsRow base' e sz v n xs := by
  obtain ⟨h1, h2 | ⟨g, cap, cur, hv, hg, r⟩⟩ := h
  · exact ⟨h1, .inl h2⟩
  · exact ⟨h1, .inr ⟨g, cap, cur, hv, by omega, r⟩⟩
theorem Own.base {w : World} {base base' : Nat} {e : TypeId} {v : Value} {l : List UInt8} (h : Own w base e v l) (hb : base' ≤ base) : Own w base' e v l := own_base h hb

/-- What was made earlier and what was made later share no block. -/
theorem apt_later {w1 w2 : World} {b1 b2 : Nat} {e1 e2 : TypeId} {s1 s2 n1 n2 : Nat} {a b : Value} {xs ys : List Value} (ha : w1.ownsRow b1 e1 s1 a n1 xs) (hb : w2.ownsRow b2 e2 s2 b n2 ys) (h : w1.heap.size ≤ b2) : Apt a b := by
  unfold Apt
  rcases hg : a.ownBlock with _ | g
  · exact .inl rfl
  · refine .inr ?_
    intro he
    have h1 := (ha.lt g hg).2
    have h2 := (hb.lt g he.symm).1
    omega

/-- Three rows of bytes that share no block lie apart. -/
theorem apart3 {w : World} (base : Nat) {a b c : Value} {la lb lc : List UInt8} (hbase : base ≤ w.heap.size) (ha : Own w base 5 a la) (hb : Own w base 5 b lb) (hc : Own w base 5 c lc)
    (hab : Apt a b) (hac : Apt a c) (hbc : Apt b c) (h1 : la.length ≤ 140737488355000) (h2 : lb.length ≤ 140737488355000) (h3 : lc.length ≤ 140737488355000) :
    Calls Tryd.prog 20 #[.slice (some ⟨w.heap.size, 0, none⟩) 3 3] (w.alloc (.cells #[a, b, c] 27)) fun e w' => e = .returned (.bool true) ∧ Below base w w' := by
  have hblk := Blk.new w 27 #[a, b, c]
  have hown := hblk.own (base := base) (n := 3) (cap := 3) (sz := 1) rfl hbase rfl (Nat.le_refl _) (by simp [maxLen])
  have := apart_any base (.slice (some ⟨w.heap.size, 0, none⟩) 3 3) 3 (fun j => match j with | 0 => a | 1 => b | _ => c) (fun j => match j with | 0 => la.length | 1 => lb.length | _ => lc.length)
    (fun j => match j with | 0 => bcells la | 1 => bcells lb | _ => bcells lc) (w.alloc (.cells #[a, b, c] 27)) (by simp; omega) (fun j => by split <;> simp) (fun j _ => by split <;> assumption) (by omega) hown
    (fun j hj => by
      match j, hj with
      | 0, _ => exact World.ownsRow.alloc ha _
      | 1, _ => exact World.ownsRow.alloc hb _
      | 2, _ => exact World.ownsRow.alloc hc _)
    (fun i j hi hj hne => by
      match i, hi, j, hj with
      | 0, _, 0, _ => exact absurd rfl hne
      | 1, _, 1, _ => exact absurd rfl hne
      | 2, _, 2, _ => exact absurd rfl hne
      | 0, _, 1, _ => exact hab
      | 0, _, 2, _ => exact hac
      | 1, _, 2, _ => exact hbc
      | 1, _, 0, _ => exact hab.symm
      | 2, _, 0, _ => exact hac.symm
      | 2, _, 1, _ => exact hbc.symm)
  exact this.mono fun e w' ⟨he, hb⟩ => ⟨he, ((Below.refl base w).alloc hbase _).trans hb⟩

end Go.Proofs.YtkhlbpclfeakpaaDoor.Apx

/- The law UebPack. -/
namespace Go.Proofs.YtkhlbpclfeakpaaDoor
open Go.RowKit

/-- What a table is packed as. -/
def PackOf (rs : List Rw) (l : List UInt8) (er : Int) : Prop := (may rs ∧ l = encs rs ∧ er = 0) ∨ (¬ may rs ∧ l = [] ∧ er = 130)
theorem packOf_ex (rs : List Rw) : ∃ l er, PackOf rs l er := by
  by_cases h : may rs
  · exact ⟨_, _, .inl ⟨h, rfl, rfl⟩⟩
  · exact ⟨_, _, .inr ⟨h, rfl, rfl⟩⟩
theorem pack_of (v : Value) (L : List RowV) (l : List UInt8) (er : Int) (w : World) (h : Rws w v L) (ht : Tab w) (hp : PackOf (rws L) l er) :
    Calls Tryd.prog 15 #[v] w fun e w' => Below w.heap.size w w' ∧ ∃ A c, e = .returned (.tuple #[.slice A l.length c, .int .i64 er]) ∧ Own w' w.heap.size 5 (.slice A l.length c) l := by
  refine (pack_any v L w h ht).mono ?_
  rintro e w' ⟨hb, ⟨hm, v', rfl, ho⟩ | ⟨hm, rfl⟩⟩
  · rcases hp with ⟨_, rfl, rfl⟩ | ⟨hn, _⟩
    · obtain ⟨A, c, hv, _⟩ := ho.by_.form
      subst hv
      exact ⟨hb, A, c, rfl, ho⟩
    · exact absurd hm hn
  · rcases hp with ⟨hn, _⟩ | ⟨_, rfl, rfl⟩
    · exact absurd hn hm
    · exact ⟨hb, none, 0, rfl, Own.nil _ _ _⟩
theorem rpack_of (v : Value) (L : List RowV) (l : List UInt8) (er : Int) (w : World) (h : Rws w v L) (hp : PackOf (rws L) l er) :
    Calls Tryd.prog 18 #[v] w fun e w' => Below w.heap.size w w' ∧ ∃ A c, e = .returned (.tuple #[.slice A l.length c, .int .i64 er]) ∧ Own w' w.heap.size 5 (.slice A l.length c) l := by
  refine (rpack_any v L w h).mono ?_
  rintro e w' ⟨hb, ⟨hm, v', rfl, ho⟩ | ⟨hm, rfl⟩⟩
  · rcases hp with ⟨_, rfl, rfl⟩ | ⟨hn, _⟩
    · obtain ⟨A, c, hv, _⟩ := ho.by_.form
      subst hv
      exact ⟨hb, A, c, rfl, ho⟩
    · exact absurd hm hn
  · rcases hp with ⟨hn, _⟩ | ⟨_, rfl, rfl⟩
    · exact absurd hn hm
    · exact ⟨hb, none, 0, rfl, Own.nil _ _ _⟩

theorem Lnt.keep {w w' : World} {base : Nat} {va ve : Value} {LA : List RowV} {E : List Ent} (h : Lnt w base va ve LA E) (hb : ∀ g, base ≤ g → g < w.heap.size → w'.heap[g]? = w.heap[g]?) : Lnt w' base va ve LA E :=
  ⟨⟨own_same h.rows.1 fun g hg => hb g (h.rows.1.lt g hg).1 (h.rows.1.lt g hg).2, fun x hx => own_same (h.rows.2 x hx) fun g hg => hb g (World.ownsRow.lt (h.rows.2 x hx) g hg).1 (World.ownsRow.lt (h.rows.2 x hx) g hg).2⟩,
    own_same h.each fun g hg => hb g (h.each.lt g hg).1 (h.each.lt g hg).2, fun x hx => own_same (h.own x hx) fun g hg => hb g (World.ownsRow.lt (h.own x hx) g hg).1 (World.ownsRow.lt (h.own x hx) g hg).2, h.apt⟩

/-- What lentRows hands back, in the forms that a walk reads. -/
structure Lent (w : World) (base : Nat) (L : List RowV) (Aa : Option Addr) (na ca : Nat) (Ae : Option Addr) (ne ce : Nat) : Prop where
  ex : ∃ LA E, Lnt w base (.slice Aa na ca) (.slice Ae ne ce) LA E ∧ rws LA = rws L ++ mks70 70 ∧ E.map (·.2) = lentOf L
theorem Lent.below {w w' : World} {base : Nat} {L : List RowV} {Aa : Option Addr} {na ca : Nat} {Ae : Option Addr} {ne ce : Nat} (h : Lent w base L Aa na ca Ae ne ce) (hb : Below w.heap.size w w') : Lent w' base L Aa na ca Ae ne ce := by
  obtain ⟨LA, E, h1, h2⟩ := h.ex
  exact ⟨LA, E, h1.below hb, h2⟩
theorem Lent.keep {w w' : World} {base : Nat} {L : List RowV} {Aa : Option Addr} {na ca : Nat} {Ae : Option Addr} {ne ce : Nat} (h : Lent w base L Aa na ca Ae ne ce) (hb : ∀ g, base ≤ g → g < w.heap.size → w'.heap[g]? = w.heap[g]?) : Lent w' base L Aa na ca Ae ne ce := by
  obtain ⟨LA, E, h1, h2⟩ := h.ex
  exact ⟨LA, E, h1.keep hb, h2⟩
theorem Lent.cap {w : World} {base : Nat} {L : List RowV} {Aa : Option Addr} {na ca : Nat} {Ae : Option Addr} {ne ce : Nat} (h : Lent w base L Aa na ca Ae ne ce) : L.length ≤ ca := by
  obtain ⟨LA, E, h1, h2, h3⟩ := h.ex
  obtain ⟨A, c, hv, hc, _⟩ := h1.rows.rws_.form
  injection hv with e1 e2 e3
  have := congrArg List.length h2
  simp at this
  omega
theorem Lent.front {w : World} {base : Nat} {L : List RowV} {Aa : Option Addr} {na ca : Nat} {Ae : Option Addr} {ne ce : Nat} (h : Lent w base L Aa na ca Ae ne ce) : ∃ L2, Rws w (.slice Aa L.length ca) L2 ∧ rws L2 = rws L := by
  obtain ⟨LA, E, h1, h2, h3⟩ := h.ex
  have hl := congrArg List.length h2
  simp at hl
  refine ⟨LA.take L.length, h1.rows.rws_.take_ L.length (by omega), ?_⟩
  have : (rws LA).take L.length = rws L := by rw [h2, List.take_left' (by simp)]
  rw [← this]
  simp [rws, List.map_take]
theorem lent_of (v : Value) (L : List RowV) (w : World) (h : Rws w v L) (hn : L.length ≤ 1048576) (hl : ∀ x ∈ L, x.2.2.length ≤ 1048576) :
    Calls Tryd.prog 14 #[v] w fun e w' => ∃ Aa na ca Ae ne ce, e = .returned (.agg #[.slice Aa na ca, .slice Ae ne ce]) ∧ Below w.heap.size w w' ∧ Lent w' w.heap.size L Aa na ca Ae ne ce := by
  refine (lentRows_any v L w h hn hl).mono ?_
  rintro e w' ⟨va, ve, LA, E, rfl, hb, hlnt, h2, h3⟩
  obtain ⟨A, c, rfl, _⟩ := hlnt.rows.rws_.form
  have hve : ∃ Ae ne ce, ve = .slice Ae ne ce := by
    rcases hlnt.each.2 with ⟨h0, h1⟩ | ⟨g, cap, cur, h0, _⟩
    · exact ⟨none, 0, 0, h0⟩
    · exact ⟨_, _, _, h0⟩
  obtain ⟨Ae, ne, ce, rfl⟩ := hve
  exact ⟨_, _, _, _, _, _, rfl, hb, ⟨LA, E, hlnt, h2, h3⟩⟩
theorem kept_of {w : World} {base : Nat} {L : List RowV} {Aa : Option Addr} {na ca : Nat} {Ae : Option Addr} {ne ce : Nat} (v : Value) (h : Lent w base L Aa na ca Ae ne ce) (hr : Rws w v L) (hn : L.length ≤ 1048576) (hl : ∀ x ∈ L, x.2.2.length ≤ 1048576) :
    Calls Tryd.prog 16 #[.agg #[.slice Aa na ca, .slice Ae ne ce], v] w fun e w' => e = .returned (.bool true) ∧ Below w.heap.size w w' := by
  obtain ⟨LA, E, h1, h2, h3⟩ := h.ex
  exact keptRows_any _ _ v L LA E base w hr h1 h2 h3 hn hl
theorem over_of {w0 w : World} {base : Nat} {L : List RowV} {Aa : Option Addr} {na ca : Nat} {Ae : Option Addr} {ne ce : Nat} (h0 : Lent w0 base L Aa na ca Ae ne ce) (hs : base ≤ w0.heap.size) (hb : Below w0.heap.size w0 w ∨ ((∀ g, base ≤ g → g < w0.heap.size → w.heap[g]? = w0.heap[g]?) ∧ w0.heap.size ≤ w.heap.size)) (hn : L.length ≤ 1048576) (hl : ∀ x ∈ L, x.2.2.length ≤ 1048576) :
    Calls Tryd.prog 17 #[.agg #[.slice Aa na ca, .slice Ae ne ce]] w fun e w' => e = .returned (.tuple #[]) ∧ Below base w w' ∧ w.heap.size ≤ w'.heap.size ∧ ∀ g, w0.heap.size ≤ g → g < w.heap.size → w'.heap[g]? = w.heap[g]? := by
  obtain ⟨LA, E, h1, h2, h3⟩ := h0.ex
  have hsz : w0.heap.size ≤ w.heap.size := by
    rcases hb with hb | hb
    · exact hb.size
    · exact hb.2
  have h1w : Lnt w base (.slice Aa na ca) (.slice Ae ne ce) LA E := by
    rcases hb with hb | hb
    · exact h1.below hb
    · exact h1.keep hb.1
  have hl1 := congrArg List.length h2
  have hl2 := congrArg List.length h3
  simp [lentOf] at hl1 hl2
  refine overRows_any _ _ LA E base w0.heap.size w h1w (by omega) (by omega) (fun z hz => ?_) (fun g hg => (h1.rows.1.lt g hg).2) (fun z hz g hg => (World.ownsRow.lt (h1.own z hz) g hg).2) hsz (by omega)
  have hz2 : z.2 ∈ lentOf L := by rw [← h3]; exact List.mem_map_of_mem hz
  obtain ⟨x, hx, he⟩ := List.mem_map.1 hz2
  have := hl x hx
  rw [← he]
  simp [marks]
  omega
end Go.Proofs.YtkhlbpclfeakpaaDoor

/- The document's Write of any Ueb. -/
namespace Go.Proofs.YtkhlbpclfeakpaaDoor
open Go.RowKit

set_option maxRecDepth 100000 in
set_option maxHeartbeats 1000000 in
theorem rcheck_w (u : US) (w : World) :
    Calls Tryd.prog 62 #[.agg u.cells] w fun e w' => Below w.heap.size w w' ∧ e = .returned (.int .i64 (if agOK u.k u.n u.seg u.size then 0 else 133)) := by
  by_cases hag : agOK u.k u.n u.seg u.size
  · exact rcheck_u u (agOK_in hag) w
  obtain ⟨k, n, seg, size, sh, sg⟩ := u
  simp only at hag ⊢
  have f0 : (US.cells ⟨k, n, seg, size, sh, sg⟩)[0]? = some (.int .i64 k) := rfl
  have f1 : (US.cells ⟨k, n, seg, size, sh, sg⟩)[1]? = some (.int .i64 n) := rfl
  have f2 : (US.cells ⟨k, n, seg, size, sh, sg⟩)[2]? = some (.int .i64 seg) := rfl
  have f3 : (US.cells ⟨k, n, seg, size, sh, sg⟩)[3]? = some (.int .i64 size) := rfl
  have HAL := hide ((Below.refl w.heap.size w).alloc (Nat.le_refl _) (.cells (US.cells ⟨k, n, seg, size, sh, sg⟩) 49))
  generalize US.cells ⟨k, n, seg, size, sh, sg⟩ = cs at *
  rw [if_neg hag]
  have HQ := hide (fun w => ragain_no k n seg size w hag)
  go_enter Tryd.func62, Tryd.ntmps62
  go_wp2_with fail
  refine (HQ.out _).mono ?_
  rintro e w1 ⟨b1, rfl⟩
  have B1 := hide (HAL.out.trans (b1.mono HAL.out.size))
  clear b1 HQ
  go_wp2
  go_ret
  refine ⟨?_, rfl⟩
  have := B1.out
  have := B1.out.size
  go_grown
theorem numS_nat (n : Nat) : numS (n : Int) = itoaS (n : Int) := by unfold numS; rw [if_neg (by omega)]
/-- The six rows as a table. -/
theorem six_rws {u : N6} {w : World} {g : Nat} (h : SixU u w g) : ∃ L : List RowV, Rws w (.slice (some ⟨g, 0, none⟩) 6 6) L ∧ rws L = uebRows (u.k : Int) (u.n : Int) (u.seg : Int) (u.size : Int) u.sh u.sg := by
  have hlt := h.lt
  obtain ⟨e, f, v0, v1, v2, v3, v4, v5, hh, a0, a1, a2, a3, a4, a5⟩ := h
  refine ⟨[(keyB 0, v0, lst (itoaS (u.k : Int))), (keyB 1, v1, lst (itoaS (u.n : Int))), (keyB 2, v2, lst (itoaS (u.seg : Int))), (keyB 4, v3, u.sg), (keyB 5, v4, u.sh), (keyB 3, v5, lst (itoaS (u.size : Int)))], ⟨⟨by simp, _, 6, rfl, Nat.le_refl _, by unfold maxLen; omega, fun _ => ⟨g, 0, rfl, hlt, fun j hj => ?_⟩⟩, ?_⟩, ?_⟩
  · rw [Nat.zero_add, cell_of_row w g j _ e f hh]
    simp [rcells]
  · intro y hy
    simp only [List.mem_cons, List.mem_nil_iff, or_false] at hy
    rcases hy with rfl | rfl | rfl | rfl | rfl | rfl
    · exact a0
    · exact a1
    · exact a2
    · exact a3
    · exact a4
    · exact a5
  · simp only [rws, uebRows, numS_nat, List.map_cons, List.map_nil]
    rfl
set_option maxRecDepth 100000 in
set_option maxHeartbeats 2000000 in
theorem rwrite_ok (u : US) (hw : u.wf) (ha : u.may) (w : World) :
    Calls Tryd.prog 27 #[.agg u.cells] w fun e w' => Below w.heap.size w w' ∧ ∃ A c, e = .returned (.tuple #[.slice A (writeU u).length c, .int .i64 0]) ∧ Own w' w.heap.size 5 (.slice A (writeU u).length c) (writeU u) := by
  have h64 := US.may_in64 ha
  have hin := agOK_in ha
  have hm := uebRows_may u.k u.n u.seg u.size u.sh u.sg h64.1 h64.2.1 h64.2.2.1 h64.2.2.2 hw.1 hw.2
  have hck : ∀ w, Calls Tryd.prog 62 #[.agg u.cells] w fun e w' => Below w.heap.size w w' ∧ e = .returned (.int .i64 0) := fun w => by
    have := rcheck_w u w
    rw [if_pos (show agOK u.k u.n u.seg u.size from ha)] at this
    exact this
  have hsz : u.cells.size = 68 := US.size_ hw
  obtain ⟨k, n, seg, size, sh, sg⟩ := u
  simp only at hin hm
  obtain ⟨K, rfl⟩ : ∃ K : Nat, k = (K : Int) := ⟨k.toNat, by omega⟩
  obtain ⟨M, rfl⟩ : ∃ K : Nat, n = (K : Int) := ⟨n.toNat, by omega⟩
  obtain ⟨G, rfl⟩ : ∃ K : Nat, seg = (K : Int) := ⟨seg.toNat, by omega⟩
  obtain ⟨Z, rfl⟩ : ∃ K : Nat, size = (K : Int) := ⟨size.toNat, by omega⟩
  have hro := fun w => rrows_any ⟨K, M, G, Z, sh, sg⟩ w hw.1 hw.2 (by simp only; omega) (by simp only; omega) (by simp only; omega) (by simp only; omega)
  have hce : N6.cells ⟨K, M, G, Z, sh, sg⟩ = US.cells ⟨(K : Int), (M : Int), (G : Int), (Z : Int), sh, sg⟩ := rfl
  rw [hce] at hro
  obtain ⟨l, hl⟩ : ∃ l, l = writeU ⟨(K : Int), (M : Int), (G : Int), (Z : Int), sh, sg⟩ := ⟨_, rfl⟩
  have hpk : ∀ g W, SixU ⟨K, M, G, Z, sh, sg⟩ W g → Calls Tryd.prog 18 #[.slice (some ⟨g, 0, none⟩) 6 6] W fun e w' => Below W.heap.size W w' ∧ ∃ A c, e = .returned (.tuple #[.slice A l.length c, .int .i64 0]) ∧ Own w' W.heap.size 5 (.slice A l.length c) l := fun g W h => by
    obtain ⟨L, h1, h2⟩ := six_rws h
    exact rpack_of _ L l 0 W h1 (.inl ⟨by rw [h2]; exact hm, by rw [hl, h2]; rfl, rfl⟩)
  rw [← hl]
  have HC := hide hck
  have HRO := hide hro
  have HPK := hide hpk
  clear hck hro hpk hce hl hm hin h64 ha hw
  generalize US.cells ⟨(K : Int), (M : Int), (G : Int), (Z : Int), sh, sg⟩ = cs at *
  have HSZ := hide hsz
  have HB := hide (And.intro (Blk.new w 49 cs) ((Below.refl w.heap.size w).alloc (Nat.le_refl _) (.cells cs 49)))
  clear hsz
  go_enter Tryd.func27, Tryd.ntmps27
  go_wp2_with first
    | ((with_reducible change wpList _ _ _ (⟨some 4, _, _, _, _, _⟩ :: _) _ _); refine wpList_load_row (o := ⟨some 4, .load _ _, _, _, _, _⟩) rfl 49 _ rfl w.heap.size rfl 49 cs (0, 0) _ HB.out.1 Tryd.underlying49 rfl (by rw [HSZ.out]; kernel_rfl) ?_)
    | (go_at_call 62; refine (HC.out _).mono ?_; rintro e w1 ⟨b1, rfl⟩; go_loud (have H1 := hide (And.intro (HB.out.1.below' b1) (HB.out.2.trans (b1.mono HB.out.2.size))); clear b1))
    | ((with_reducible change wpList _ _ _ (⟨some 7, _, _, _, _, _⟩ :: _) _ _); refine wpList_load_row (o := ⟨some 7, .load _ _, _, _, _, _⟩) rfl 49 _ rfl w.heap.size rfl 49 cs (0, 0) _ H1.out.1 Tryd.underlying49 rfl (by rw [HSZ.out]; kernel_rfl) ?_)
    | (go_at_call 63; refine (HRO.out _).mono ?_; rintro e w2 ⟨b2, g, rfl, h6, hg0⟩; go_loud (have H2 := hide (And.intro h6 (H1.out.2.trans (b2.mono H1.out.2.size))); clear b2 h6 hg0))
    | (go_at_call 18; refine (HPK.out _ _ H2.out.1).mono ?_; rintro e w3 ⟨b3, A3, c3, rfl, o3⟩; go_loud (have H3 := hide (And.intro (Own.base o3 H2.out.2.size) (H2.out.2.trans (b3.mono H2.out.2.size))); clear b3 o3))
  go_ret2
  exact ⟨H3.out.2, A3, c3, rfl, H3.out.1⟩
set_option maxRecDepth 100000 in
set_option maxHeartbeats 2000000 in
theorem rwrite_bad (u : US) (hw : u.wf) (hn : ¬ u.may) (w : World) :
    Calls Tryd.prog 27 #[.agg u.cells] w fun e w' => Below w.heap.size w w' ∧ e = .returned (.tuple #[.slice none 0 0, .int .i64 133]) := by
  have hck : ∀ w, Calls Tryd.prog 62 #[.agg u.cells] w fun e w' => Below w.heap.size w w' ∧ e = .returned (.int .i64 133) := fun w => by
    have := rcheck_w u w
    rw [if_neg (show ¬ agOK u.k u.n u.seg u.size from hn)] at this
    exact this
  have hsz : u.cells.size = 68 := US.size_ hw
  have HC := hide hck
  clear hck hn hw
  generalize u.cells = cs at *
  have HSZ := hide hsz
  have HB := hide (And.intro (Blk.new w 49 cs) ((Below.refl w.heap.size w).alloc (Nat.le_refl _) (.cells cs 49)))
  clear hsz
  go_enter Tryd.func27, Tryd.ntmps27
  go_wp2_with first
    | ((with_reducible change wpList _ _ _ (⟨some 4, _, _, _, _, _⟩ :: _) _ _); refine wpList_load_row (o := ⟨some 4, .load _ _, _, _, _, _⟩) rfl 49 _ rfl w.heap.size rfl 49 cs (0, 0) _ HB.out.1 Tryd.underlying49 rfl (by rw [HSZ.out]; kernel_rfl) ?_)
    | (go_at_call 62; refine (HC.out _).mono ?_; rintro e w1 ⟨b1, rfl⟩; go_loud (have H1 := hide (HB.out.2.trans (b1.mono HB.out.2.size)); clear b1))
  go_ret2
  exact ⟨H1.out, rfl⟩
end Go.Proofs.YtkhlbpclfeakpaaDoor

/- Numbers as bytes, the highest first, plainly. -/
namespace Go.Proofs.YtkhlbpclfeakpaaDoor
open Go.RowKit

/-- A number in n bytes, the highest first. -/
def bigL (x n : Nat) : List UInt8 := (List.range n).map fun i => UInt8.ofNat (x / 256 ^ (n - 1 - i))
@[simp] theorem bigL_length (x n : Nat) : (bigL x n).length = n := by simp [bigL]
theorem bigL_get (x n i : Nat) (h : i < n) : (bigL x n)[i]? = some (UInt8.ofNat (x / 256 ^ (n - 1 - i))) := by simp [bigL, h]
/-- The last k bytes written, noughts ahead. -/
def bigF (x n k : Nat) : List UInt8 := List.replicate (n - k) 0 ++ (bigL x n).drop (n - k)
theorem bigF_zero (x n : Nat) : bigF x n 0 = List.replicate n 0 := by simp [bigF]
theorem bigF_full (x n : Nat) : bigF x n n = bigL x n := by simp [bigF]
theorem bigF_length (x n k : Nat) : (bigF x n k).length = n := by simp only [bigF, List.length_append, List.length_replicate, List.length_drop, bigL_length]; omega
theorem bigF_set (x n k : Nat) (h : k < n) : (bigF x n k).set (n - 1 - k) (UInt8.ofNat (x / 256 ^ k)) = bigF x n (k + 1) := by
  apply List.ext_getElem?
  intro i
  have hl : n - 1 - k < (bigF x n k).length := by rw [bigF_length]; omega
  rw [List.getElem?_set]
  unfold bigF at hl ⊢
  by_cases h1 : i < n - 1 - k
  · rw [if_neg (by omega), List.getElem?_append_left (by simp; omega), List.getElem?_append_left (by simp; omega), List.getElem?_replicate, List.getElem?_replicate, if_pos (by omega), if_pos (by omega)]
  · by_cases h2 : i = n - 1 - k
    · subst h2
      rw [if_pos rfl, if_pos hl, List.getElem?_append_right (by simp; omega), List.length_replicate, List.getElem?_drop, bigL_get _ _ _ (by omega)]
      congr 4
      omega
    · rw [if_neg (by omega), List.getElem?_append_right (by simp; omega), List.getElem?_append_right (by simp; omega), List.length_replicate, List.length_replicate, List.getElem?_drop, List.getElem?_drop]
      congr 1
      omega
/-- The first k bytes. -/
theorem bigL_take (x n k : Nat) (h : k < n) : (bigL x n).take (k + 1) = (bigL x n).take k ++ [UInt8.ofNat (x / 256 ^ (n - 1 - k))] := take_snoc _ _ _ (bigL_get x n k h)
theorem u8_of (m : Nat) : ((UInt8.ofNat m).toNat : Int) = (m : Int) % 256 := by simp [UInt8.toNat_ofNat']
theorem byte_of (x i : Nat) : (x : Int) / 2 ^ (8 * i) % 256 = ((UInt8.ofNat (x / 256 ^ i)).toNat : Int) := by
  rw [u8_of, show (256 : Nat) ^ i = 2 ^ (8 * i) by rw [show (256 : Nat) = 2 ^ 8 from rfl, ← Nat.pow_mul]]
  simp
theorem bigF_cells (x n k j : Nat) (h : k < n) (hj : n - 1 - k = j) : (bcells (bigF x n k)).toArray.setIfInBounds j (.int .u8 ((x : Int) / 2 ^ (8 * k) % 256)) = (bcells (bigF x n (k + 1))).toArray := by
  rw [← bigF_set x n k h, hj, byte_of]
  simp [bcells, List.map_set]
end Go.Proofs.YtkhlbpclfeakpaaDoor

/- Contracts of numbers as bytes: the program's Big of eight and of four bytes, the document's. -/
namespace Go.Proofs.YtkhlbpclfeakpaaDoor
open Go.RowKit

set_option maxHeartbeats 1000000 in
theorem width64_any (w : World) : Calls Tryd.prog 172 #[] w fun e w' => e = .returned (.int .i64 8) ∧ w = w' := by
  go_enter Tryd.func172, Tryd.ntmps172
  go_wp2
  go_loopw [1, 2] (fun u1 u2 wr => ((u1 = .int .i64 0 ∧ u2 = .int .u64 18446744073709551615) ∨ (u1 = .int .i64 1 ∧ u2 = .int .u64 72057594037927935) ∨ (u1 = .int .i64 2 ∧ u2 = .int .u64 281474976710655) ∨ (u1 = .int .i64 3 ∧ u2 = .int .u64 1099511627775) ∨ (u1 = .int .i64 4 ∧ u2 = .int .u64 4294967295) ∨ (u1 = .int .i64 5 ∧ u2 = .int .u64 16777215) ∨ (u1 = .int .i64 6 ∧ u2 = .int .u64 65535) ∨ (u1 = .int .i64 7 ∧ u2 = .int .u64 255) ∨ (u1 = .int .i64 8 ∧ u2 = .int .u64 0)) ∧ w = wr) (fun u1 _ _ => 8 - (intOf u1).toNat)
  case atStart => exact ⟨.inl ⟨rfl, rfl⟩, rfl⟩
  case round =>
    obtain ⟨hh, rfl⟩ := hrel
    rcases hh with ⟨rfl, rfl⟩ | ⟨rfl, rfl⟩ | ⟨rfl, rfl⟩ | ⟨rfl, rfl⟩ | ⟨rfl, rfl⟩ | ⟨rfl, rfl⟩ | ⟨rfl, rfl⟩ | ⟨rfl, rfl⟩ | ⟨rfl, rfl⟩
    case inr.inr.inr.inr.inr.inr.inr.inr =>
      go_wp2
      go_ret
      exact ⟨rfl, rfl⟩
    all_goals
      go_wp2
      go_roundw
      case rel => simp
      case measure => simp [intOf]
set_option maxHeartbeats 1000000 in
theorem width32_any (w : World) : Calls Tryd.prog 111 #[] w fun e w' => e = .returned (.int .i64 4) ∧ w = w' := by
  go_enter Tryd.func111, Tryd.ntmps111
  go_wp2
  go_loopw [1, 2] (fun u1 u2 wr => ((u1 = .int .i64 0 ∧ u2 = .int .u32 4294967295) ∨ (u1 = .int .i64 1 ∧ u2 = .int .u32 16777215) ∨ (u1 = .int .i64 2 ∧ u2 = .int .u32 65535) ∨ (u1 = .int .i64 3 ∧ u2 = .int .u32 255) ∨ (u1 = .int .i64 4 ∧ u2 = .int .u32 0)) ∧ w = wr) (fun u1 _ _ => 4 - (intOf u1).toNat)
  case atStart => exact ⟨.inl ⟨rfl, rfl⟩, rfl⟩
  case round =>
    obtain ⟨hh, rfl⟩ := hrel
    rcases hh with ⟨rfl, rfl⟩ | ⟨rfl, rfl⟩ | ⟨rfl, rfl⟩ | ⟨rfl, rfl⟩ | ⟨rfl, rfl⟩
    case inr.inr.inr.inr =>
      go_wp2
      go_ret
      exact ⟨rfl, rfl⟩
    all_goals
      go_wp2
      go_roundw
      case rel => simp
      case measure => simp [intOf]
theorem made_bytes (n : Nat) : madeCells #[.int .u8 0] n = (bcells (List.replicate n 0)).toArray := by
  apply Array.ext
  · simp [madeCells]
  · intro i h1 h2
    simp [madeCells, bcells, Nat.mod_one]
/-- 'make([]byte, l, c)', l and c small. -/
theorem make_bytes (l c : Nat) (hl : l ≤ c) (hc : c ≤ 1000) (w : World) : (Instr.makeSlice 27 (.int .i64 (l : Int)) (.int .i64 (c : Int))).run Tryd.prog w = .ok (.slice (some ⟨w.heap.size, 0, none⟩) l c) (w.alloc (.cells (bcells (List.replicate c 0)).toArray 5)) := by
  obtain ⟨i, hi, hz, h1, h2⟩ := info_parts elem8.hi
  have := run_make (P := Tryd.prog) w 27 5 i _ elem8.ht hi hz .i64 .i64 (l : Int) (c : Int) (by omega) (by omega) (by rw [h2]; omega) (by omega)
  rw [show (Value.int .u8 0).cells = #[.int .u8 0] from rfl, made_bytes, h1] at this
  simpa using this
set_option maxHeartbeats 1000000 in
theorem big64_any (x : Nat) (w : World) (hx : x < 18446744073709551616) :
    Calls Tryd.prog 158 #[.int .u64 (x : Int)] w fun e w' => Below w.heap.size w w' ∧ e = .returned (.slice (some ⟨w.heap.size, 0, none⟩) 8 8) ∧ Own w' w.heap.size 5 (.slice (some ⟨w.heap.size, 0, none⟩) 8 8) (bigL x 8) := by
  have HX := hide hx
  clear hx
  have hmk := make_bytes 8 8 (by omega) (by omega)
  have HMK := hide (fun w => show (Instr.makeSlice 27 (.int .i64 8) (.int .i64 8)).run Tryd.prog w = .ok (.slice (some ⟨w.heap.size, 0, none⟩) 8 8) (w.alloc (.cells (bcells (List.replicate 8 0)).toArray 5)) from hmk w)
  clear hmk
  obtain ⟨Z, hZ⟩ : ∃ Z, Z = (bcells (List.replicate 8 0)).toArray := ⟨_, rfl⟩
  rw [← hZ] at HMK
  have HZ := hide hZ
  clear hZ
  have hmk := HMK.out
  go_enter Tryd.func158, Tryd.ntmps158
  go_wp2_with fail
  refine (width64_any w).mono ?_
  rintro e w1 ⟨rfl, rfl⟩
  go_wp2
  have HI := hide (show Blk (w.alloc (.cells Z 5)) w.heap.size 5 (bcells (bigF x 8 0)).toArray by rw [bigF_zero, ← HZ.out]; exact Blk.new _ _ _)
  go_loopw [11] (fun u11 wr => ∃ i : Nat, i ≤ 8 ∧ u11 = .int .i64 (i : Int) ∧ Blk wr w.heap.size 5 (bcells (bigF x 8 i)).toArray ∧ Below w.heap.size w wr) (fun i _ => 8 - (intOf i).toNat)
  case atStart => exact ⟨0, by omega, rfl, HI.out, (Below.refl _ w).alloc (Nat.le_refl _) _⟩
  case round =>
    clear HI
    obtain ⟨i, hi, rfl, hb, hbel⟩ := hrel
    have HB := hide hb
    clear hb
    by_cases hlt : i < 8
    · obtain ⟨j, hj⟩ : ∃ j, j = 7 - i := ⟨_, rfl⟩
      have e1 : (7 : Int) - (i : Int) = (j : Int) := by omega
      have e3 : (j : Int) < 8 := by omega
      have e4 : (0 : Int) ≤ (j : Int) := by omega
      have e5 : (i : Int) < 8 := by omega
      have gs := HB.out.frozen j
      obtain ⟨z, hz⟩ : ∃ z, wr.cell? ⟨w.heap.size, j, none⟩ = some z := ⟨_, (HB.out.cell j).trans (Array.getElem?_eq_getElem (by simp [bigF_length]; omega))⟩
      have HJ := hide hj
      clear hj
      go_wp2
      go_roundw
      case rel =>
        refine ⟨i + 1, by omega, by go_num, ?_, hbel.setCell (Nat.le_refl _) _⟩
        rw [← bigF_cells x 8 i j hlt (by have := HJ.out; omega)]
        exact HB.out.set_ j _
      case measure => simp [intOf]; omega
    · have hi8 : i = 8 := by omega
      subst hi8
      go_wp2
      go_ret
      refine ⟨hbel, rfl, ?_⟩
      have hh := HB.out
      rw [bigF_full] at hh
      have h2 := hh.own (base := w.heap.size) (n := 8) (cap := 8) (sz := 1) rfl (Nat.le_refl _) (by simp) (Nat.le_refl _) (by unfold maxLen; omega)
      unfold Own
      rw [bigL_length]
      rw [List.take_of_length_le (by simp)] at h2
      simpa using h2

set_option maxHeartbeats 1000000 in
theorem big32_any (x : Nat) (w : World) (hx : x < 4294967296) :
    Calls Tryd.prog 79 #[.int .u32 (x : Int)] w fun e w' => Below w.heap.size w w' ∧ e = .returned (.slice (some ⟨w.heap.size, 0, none⟩) 4 4) ∧ Own w' w.heap.size 5 (.slice (some ⟨w.heap.size, 0, none⟩) 4 4) (bigL x 4) := by
  have hw : IntKind.u64.wrap (x : Int) = (x : Int) := by simp [IntKind.wrap, IntKind.bits, IntKind.signed]; omega
  have HX := hide hx
  clear hx
  have hmk := make_bytes 4 4 (by omega) (by omega)
  have HMK := hide (fun w => show (Instr.makeSlice 27 (.int .i64 4) (.int .i64 4)).run Tryd.prog w = .ok (.slice (some ⟨w.heap.size, 0, none⟩) 4 4) (w.alloc (.cells (bcells (List.replicate 4 0)).toArray 5)) from hmk w)
  clear hmk
  obtain ⟨Z, hZ⟩ : ∃ Z, Z = (bcells (List.replicate 4 0)).toArray := ⟨_, rfl⟩
  rw [← hZ] at HMK
  have HZ := hide hZ
  clear hZ
  have hmk := HMK.out
  go_enter Tryd.func79, Tryd.ntmps79
  go_wp2_with fail
  refine (width32_any w).mono ?_
  rintro e w1 ⟨rfl, rfl⟩
  go_wp2
  have HI := hide (show Blk (w.alloc (.cells Z 5)) w.heap.size 5 (bcells (bigF x 4 0)).toArray by rw [bigF_zero, ← HZ.out]; exact Blk.new _ _ _)
  go_loopw [11] (fun u11 wr => ∃ i : Nat, i ≤ 4 ∧ u11 = .int .i64 (i : Int) ∧ Blk wr w.heap.size 5 (bcells (bigF x 4 i)).toArray ∧ Below w.heap.size w wr) (fun i _ => 4 - (intOf i).toNat)
  case atStart => exact ⟨0, by omega, rfl, HI.out, (Below.refl _ w).alloc (Nat.le_refl _) _⟩
  case round =>
    clear HI
    obtain ⟨i, hi, rfl, hb, hbel⟩ := hrel
    have HB := hide hb
    clear hb
    by_cases hlt : i < 4
    · obtain ⟨j, hj⟩ : ∃ j, j = 3 - i := ⟨_, rfl⟩
      have e1 : (3 : Int) - (i : Int) = (j : Int) := by omega
      have e3 : (j : Int) < 4 := by omega
      have e4 : (0 : Int) ≤ (j : Int) := by omega
      have e5 : (i : Int) < 4 := by omega
      have gs := HB.out.frozen j
      obtain ⟨z, hz⟩ : ∃ z, wr.cell? ⟨w.heap.size, j, none⟩ = some z := ⟨_, (HB.out.cell j).trans (Array.getElem?_eq_getElem (by simp [bigF_length]; omega))⟩
      have HJ := hide hj
      clear hj
      go_wp2
      go_roundw
      case rel =>
        refine ⟨i + 1, by omega, by go_num, ?_, hbel.setCell (Nat.le_refl _) _⟩
        rw [← bigF_cells x 4 i j hlt (by have := HJ.out; omega)]
        exact HB.out.set_ j _
      case measure => simp [intOf]; omega
    · have hi4 : i = 4 := by omega
      subst hi4
      go_wp2
      go_ret
      refine ⟨hbel, rfl, ?_⟩
      have hh := HB.out
      rw [bigF_full] at hh
      have h2 := hh.own (base := w.heap.size) (n := 4) (cap := 4) (sz := 1) rfl (Nat.le_refl _) (by simp) (Nat.le_refl _) (by unfold maxLen; omega)
      unfold Own
      rw [bigL_length]
      rw [List.take_of_length_le (by simp)] at h2
      simpa using h2

set_option maxHeartbeats 1000000 in
theorem rbig_any (x n : Nat) (w : World) (hx : x < 18446744073709551616) (hn : n ≤ 8) :
    Calls Tryd.prog 132 #[.int .u64 (x : Int), .int .i64 (n : Int)] w fun e w' => ∃ v, e = .returned v ∧ Own w' w.heap.size 5 v (bigL x n) ∧ Below w.heap.size w w' := by
  have HX := hide hx
  clear hx
  go_enter Tryd.func132, Tryd.ntmps132
  go_wp2
  go_loopw [5, 6] (fun u5 u6 wr => ∃ i : Nat, i ≤ n ∧ u6 = .int .i64 ((n : Int) - 1 - (i : Int)) ∧ Own wr w.heap.size 5 u5 ((bigL x n).take i) ∧ Below w.heap.size w wr) (fun _ u6 _ => (intOf u6 + 1).toNat)
  case atStart => exact ⟨0, by omega, by simp, Own.nil _ _ _, Below.refl _ _⟩
  case round =>
    obtain ⟨i, hi, rfl, ho, hbel⟩ := hrel
    have HO := hide ho
    clear ho
    by_cases hlt : i < n
    · obtain ⟨j, hj⟩ : ∃ j, j = n - 1 - i := ⟨_, rfl⟩
      have e1 : (n : Int) - 1 - (i : Int) = (j : Int) := by omega
      have e3 : (j : Int) < 8 := by omega
      have e4 : (0 : Int) ≤ (j : Int) := by omega
      have hlen : ((bigL x n).take i).length + 1 ≤ 140737488355328 := by rw [List.length_take, bigL_length]; omega
      have HLEN := hide hlen
      have HV := hide (show ((x : Int) / 2 ^ (8 * j) % 256) = ((UInt8.ofNat (x / 256 ^ (n - 1 - i))).toNat : Int) by rw [byte_of, hj])
      have HT := hide (bigL_take x n i hlt)
      clear hj hlen
      rw [e1]
      go_wp2_with (at_builtin; go_loud (rw [HV.out]; refine wpList_pushB elem8 HO.out hbel hbel.size HLEN.out (UInt8.ofNat (x / 256 ^ (n - 1 - i))) rfl _ _ rfl rfl rfl ?_); intro v1 w1 hown1 hbel1 _ _)
      go_roundw
      case rel => exact ⟨i + 1, by omega, by rw [← e1, Int.natCast_add, Int.sub_sub ((n : Int) - 1)]; rfl, by rw [HT.out]; exact hown1, hbel1⟩
      case measure => simp [intOf] <;> omega
    · have hin : i = n := by omega
      subst hin
      have e1 : (i : Int) - 1 - (i : Int) = -1 := by omega
      rw [e1]
      go_wp2
      go_ret
      refine ⟨_, rfl, ?_, hbel⟩
      have := HO.out
      rwa [List.take_of_length_le (by simp)] at this
end Go.Proofs.YtkhlbpclfeakpaaDoor
