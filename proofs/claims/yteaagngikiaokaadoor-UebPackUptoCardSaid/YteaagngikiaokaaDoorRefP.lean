/- The contract of the document's Pack. -/
import Derived.Test.YteaagngikiaokaaDoorRefU
import Derived.Test.YteaagngikiaokaaDoorMem3
import Derived.Lib.ItoaLen
import Derived.Lib.AppendStr
import Derived.Deep.RegionHeldLaw
import Derived.Deep.DrawnRows
namespace Go.Proofs.YteaagngikiaokaaDoor
open Go.RowKit
attribute [local go_sem ↓] Go.wp_at_zero Go.wp_at_succ

theorem strCells_lst (s : ByteArray) : Lib.strCells s = bcells (lst s) := by simp [Lib.strCells, bcells, lst]
/-- 'append(out, s...)' of a text, at a step of a region that draws its order. -/
theorem step_pushStr {P : Program} {t u e : TypeId} (T : Elem1 P t e (.int .u8 0) 1) (hu : P.underlying u = some .string) {w : World} {base : Nat} {v : Value} {l : List UInt8} (hown : Own w base e v l)
    {w0 : World} (hb : Below base w0 w) (hbase : base ≤ w.heap.size) {s : ByteArray}
    {ops : Array Oper} {o : Oper} {a : Act} {K : Act → World → Prop} {Q : Exit → Act → World → Prop} {E : Prop} (hgd : o.guard = none) (x y : Operand)
    (ho : o.op = .call { callee := .builtin .append, args := #[x, y], argTypes := #[t, u] }) (hs : a.eval x = v) (hx : a.eval y = .string s) (hlen : l.length + s.size ≤ 140737488355328)
    (h : ∀ v' w', Own w' base e v' (l ++ lst s) → Below base w0 w' → w.grownBy w' v.ownBlock → K (a.put o.dst v') w') :
    if Region.wanted o (yielded ops a.tmps) = true then Oper.wp P o a w K Q else E := by
  have hw : Region.wanted o (yielded ops a.tmps) = true := by simp [Region.wanted, hgd]
  rw [if_pos hw]
  obtain ⟨i, hi, hz, h1, h2⟩ := info_parts T.hi
  obtain ⟨v', w', hrun, h3, h4, _⟩ := Lib.run_append_own_string (P := P) w base t u o.type e i T.ht hu hi hz h1 h2 v l.length (bcells l) hown s (by unfold maxLen; omega) hlen hbase
  unfold Oper.wp execOp
  simp only [ho, resolve, invoke, builtin, Sem.run_bind, Sem.run_pure, Result.andThen_ok, List.map_toArray, List.map_cons, List.map_nil, hs, hx, hrun]
  refine h v' w' ?_ (hb.grown h4 hbase fun k hk => (hown.lt k hk).1) h4
  unfold Own
  rw [bcells_append, List.length_append, lst_len, ← strCells_lst]
  exact h3
theorem base_le {w0 wr W : World} (hb : Below w0.heap.size w0 wr) (h : Below wr.heap.size wr W) : w0.heap.size ≤ W.heap.size := Nat.le_trans hb.size h.size
theorem below_step {w0 wr W : World} (hb : Below w0.heap.size w0 wr) (h : Below wr.heap.size wr W) : Below w0.heap.size w0 W := hb.trans (h.mono hb.size)
theorem lst_append (a b : ByteArray) : lst (a ++ b) = lst a ++ lst b := by simp [lst]

theorem cat5_lst (a n d : ByteArray) : lst (a ++ ⟨#[58]⟩ ++ n ++ ⟨#[44]⟩ ++ d ++ ⟨#[58]⟩) = lst a ++ 58 :: (lst n ++ [44]) ++ lst d ++ [58] := by
  simp only [lst_append]
  simp [lst]
theorem cat5_size (a n d : ByteArray) : (a ++ ⟨#[58]⟩ ++ n ++ ⟨#[44]⟩ ++ d ++ ⟨#[58]⟩ : ByteArray).size = a.size + n.size + d.size + 3 := by
  rw [← lst_len, cat5_lst]
  simp [lst_len]
  omega

set_option maxRecDepth 100000 in
set_option maxHeartbeats 8000000 in
theorem rpack_any (v : Value) (L : List RowV) (w : World) (h : Rws w v L) :
    Calls Tryd.prog 16 #[v] w fun e w' => Below w.heap.size w w' ∧
      ((may (rws L) ∧ ∃ v', e = .returned (.tuple #[v', .int .i64 0]) ∧ Own w' w.heap.size 5 v' (encs (rws L))) ∨
       (¬ may (rws L) ∧ e = .returned (.tuple #[.slice none 0 0, .int .i64 130]))) := by
  have HR := hide h
  have q1 := rmay_any v L w h
  obtain ⟨A, c, rfl, hc, hm, hcell⟩ := h.form
  have HC := hide hcell
  unfold maxLen at hm
  clear h hcell
  by_cases hmay : may (rws L)
  · rw [decide_eq_true hmay] at q1
    have Q1 := hide q1
    have HMAY := hide hmay
    have h64 := may_len hmay
    rw [rws_length] at h64
    clear q1 hmay
    go_enter Tryd.func16, Tryd.ntmps16
    go_wp2_with fail
    refine Q1.out.mono ?_
    rintro e w1 ⟨rfl, d1⟩
    have DB := hide d1.below
    clear Q1 d1
    go_wp2_with fail
    go_loopw [4, 5] (fun u4 u5 wr => ∃ k : Nat, k ≤ L.length ∧ u5 = .int .i64 k ∧ Own wr w.heap.size 5 u4 (encs ((rws L).take k)) ∧ Below w.heap.size w wr) (fun _ i _ => L.length - (intOf i).toNat)
    case atStart => exact ⟨0, by omega, rfl, Own.nil _ _ _, DB.out⟩
    case round =>
      obtain ⟨k, hk, rfl, ho, hb⟩ := hrel
      have HO := hide ho
      clear ho
      by_cases hlt : k < L.length
      · obtain ⟨x, hx⟩ : ∃ x, L[k]? = some x := ⟨_, List.getElem?_eq_getElem hlt⟩
        obtain ⟨b, o, rfl, hbl, h1, h2⟩ := HC.out k x hx
        have hby := HR.out.2 x (List.mem_of_getElem? hx)
        obtain ⟨A2, c2, hv2, _⟩ := hby.form
        rw [hv2] at h2 hby
        have hsz := may_mem HMAY.out (lst x.1, x.2.2) (List.mem_of_getElem? (rws_get hx))
        have hn64 : x.1.size ≤ 64 := by have := hsz.1; rwa [lst_len] at this
        have hv65 : x.2.2.length ≤ 65536 := hsz.2
        have hle := encs_len ((rws L).take k) 64 (by simp; omega) fun y hy => may_mem HMAY.out y (List.mem_of_mem_take hy)
        have HS : Hid (∀ W, Below w.heap.size w W → W.cell? ⟨b, o + k * 2, none⟩ = some (.string x.1) ∧ W.cell? ⟨b, o + k * 2 + 1, none⟩ = some (.slice A2 x.2.2.length c2)) := fun W hW =>
          ⟨(hW.cell (p := ⟨b, o + k * 2, none⟩) hbl).trans h1, (hW.cell (p := ⟨b, o + k * 2 + 1, none⟩) hbl).trans h2⟩
        obtain ⟨s1, s2⟩ := HS.out wr hb
        have HV : Hid (∀ W, Below w.heap.size w W → By W (.slice A2 x.2.2.length c2) x.2.2) := fun W hW => hby.below hW
        have D1 : Hid (∀ W, Below wr.heap.size wr W → Calls Tryd.prog 43 #[.int .i64 (x.1.size : Int)] W fun e w' => e = .returned (.string (itoaS (x.1.size : Int))) ∧ Below wr.heap.size wr w') := fun W hW =>
          (rdigits_any x.1.size W (by omega)).mono fun e w' ⟨g1, g2⟩ => ⟨g1, hW.trans (g2.mono hW.size)⟩
        have D2 : Hid (∀ W, Below wr.heap.size wr W → Calls Tryd.prog 43 #[.int .i64 (x.2.2.length : Int)] W fun e w' => e = .returned (.string (itoaS (x.2.2.length : Int))) ∧ Below wr.heap.size wr w') := fun W hW =>
          (rdigits_any x.2.2.length W (by omega)).mono fun e w' ⟨g1, g2⟩ => ⟨g1, hW.trans (g2.mono hW.size)⟩
        have z1 : (itoaS (x.1.size : Int)).size ≤ 21 := by rw [← lst_len, lst_itoaS]; exact Lib.itoa_length_le _ (by omega) (by omega)
        have z2 : (itoaS (x.2.2.length : Int)).size ≤ 21 := by rw [← lst_len, lst_itoaS]; exact Lib.itoa_length_le _ (by omega) (by omega)
        have l1 := hide (lst_itoaS (x.1.size : Int))
        have l2 := hide (lst_itoaS (x.2.2.length : Int))
        generalize itoaS (x.1.size : Int) = sd1 at *
        generalize itoaS (x.2.2.length : Int) = sd2 at *
        have HLEN : Hid ((encs ((rws L).take k)).length + (sd1 ++ ⟨#[58]⟩ ++ x.1 ++ ⟨#[44]⟩ ++ sd2 ++ ⟨#[58]⟩ : ByteArray).size ≤ 140737488355328) := by
          show _ ≤ _
          rw [cat5_size]
          omega
        have HLEN2 : Hid ((encs ((rws L).take k)).length ≤ 67108864 ∧ (lst (sd1 ++ ⟨#[58]⟩ ++ x.1 ++ ⟨#[44]⟩ ++ sd2 ++ ⟨#[58]⟩ : ByteArray)).length ≤ 200 ∧ x.2.2.length ≤ 65536) := by
          refine ⟨by omega, ?_, hv65⟩
          rw [lst_len, cat5_size]
          omega
        have LA : Hid ((encs ((rws L).take k) ++ lst (sd1 ++ ⟨#[58]⟩ ++ x.1 ++ ⟨#[44]⟩ ++ sd2 ++ ⟨#[58]⟩ : ByteArray)).length + x.2.2.length ≤ 140737488355328) := by
          show _ ≤ _
          have := HLEN2.out
          rw [List.length_append]
          omega
        have LB : Hid ((encs ((rws L).take k) ++ lst (sd1 ++ ⟨#[58]⟩ ++ x.1 ++ ⟨#[44]⟩ ++ sd2 ++ ⟨#[58]⟩ : ByteArray) ++ x.2.2).length + 1 ≤ 140737488355328) := by
          show _ ≤ _
          have := HLEN2.out
          rw [List.length_append, List.length_append]
          omega
        have hcat := cat5_lst sd1 x.1 sd2
        rw [l1.out, l2.out] at hcat
        have HCAT := hide hcat
        clear hcat
        have i1 : (k : Int) < (L.length : Int) := by omega
        have i2 : (0 : Int) ≤ (k : Int) := by omega
        have HX := hide hx
        clear hx h1 h2 hby hv2 hsz
        go_wp2_with fail
        go_region_held_law (fun w' => w'.cell? ⟨b, o + k * 2, none⟩ = some (.string x.1) ∧ w'.cell? ⟨b, o + k * 2 + 1, none⟩ = some (.slice A2 x.2.2.length c2))
          (first | go_keep | exact HS.out _ hbel4 | exact HS.out _ (hb.trans (r2.mono hb.size)) | exact HS.out _ (hb.trans (r1.mono hb.size)))
          (first
            | (go_at_call 43; (with_reducible refine (D1.out _ ?bb).mono ?_); (case bb => (repeat (first | with_reducible assumption | with_reducible exact Below.refl _ _ | with_reducible refine Below.drew ?_))); rintro e w2 ⟨rfl, r1⟩)
            | (go_at_call 43; (with_reducible refine (D2.out _ ?bb).mono ?_); (case bb => (repeat (first | with_reducible assumption | with_reducible exact Below.refl _ _ | with_reducible refine Below.drew ?_))); rintro e w3 ⟨rfl, r2⟩)
            | (refine step_pushStr elem8 Tryd.underlying9 (HO.out.below (by repeat (first | with_reducible assumption | with_reducible exact Below.refl _ _ | with_reducible refine Below.drew ?_))) (below_step hb (by repeat (first | with_reducible assumption | with_reducible exact Below.refl _ _ | with_reducible refine Below.drew ?_))) (base_le hb (by repeat (first | with_reducible assumption | with_reducible exact Below.refl _ _ | with_reducible refine Below.drew ?_))) (by rfl) _ _ (by rfl) (by rfl) (by rfl) HLEN.out ?_; intro v4 w4 hown4 hbel4 hgr4))
        all_goals
          obtain ⟨t1, t2⟩ := HS.out _ hbel4
          generalize (sd1 ++ ⟨#[58]⟩ ++ x.1 ++ ⟨#[44]⟩ ++ sd2 ++ ⟨#[58]⟩ : ByteArray) = S at *
          have HW4 := hide hown4
          have hyv := HV.out _ hbel4
          have HYV := hide hyv
          clear hown4 hyv
          go_wp2_with (at_builtin; go_loud (first | (refine wpList_pushV elem8 HW4.out hbel4 hbel4.size HYV.out LA.out rfl _ _ rfl rfl rfl ?_; intro v5 w5 hown5 hbel5 hgr5 _) | (refine wpList_pushB elem8 hown5 hbel5 hbel5.size LB.out 44 rfl _ _ rfl rfl rfl ?_; intro v6 w6 hown6 hbel6 hgr6 _)))
          go_roundw
          case rel =>
            refine ⟨k + 1, by omega, by go_num, ?_, hbel6⟩
            have hnext : encs ((rws L).take (k + 1)) = encs ((rws L).take k) ++ lst S ++ x.2.2 ++ [44] := by
              rw [take_snoc (rws L) k _ (rws_get HX.out), encs_snoc, HCAT.out]
              simp [enc, fld, lst_len]
            rw [hnext]
            exact hown6
          case measure => simp [intOf]; omega
      · have hge : ¬ (k : Int) < (L.length : Int) := by omega
        have hks : k = L.length := by omega
        have hend := HO.out
        rw [hks, List.take_of_length_le (by simp)] at hend
        have HE := hide hend
        clear hks hend HO
        go_wp2
        go_ret2
        exact ⟨hb, .inl ⟨HMAY.out, _, rfl, HE.out⟩⟩
  · rw [decide_eq_false hmay] at q1
    have HNO := hide hmay
    have Q1 := hide q1
    clear q1 hmay
    go_enter Tryd.func16, Tryd.ntmps16
    go_wp2_with fail
    refine Q1.out.mono ?_
    rintro e w1 ⟨rfl, d1⟩
    go_wp2_with fail
    go_ret2
    exact ⟨d1.below, .inr ⟨HNO.out, rfl⟩⟩
end Go.Proofs.YteaagngikiaokaaDoor
