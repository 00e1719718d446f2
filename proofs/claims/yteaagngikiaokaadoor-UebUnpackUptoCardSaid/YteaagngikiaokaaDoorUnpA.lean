/- The contract of the program's Unpack. -/
import Derived.Test.YteaagngikiaokaaDoorTakA
namespace Go.Proofs.YteaagngikiaokaaDoor
open Go.RowKit

/-- 'append(rows, row)', rows a row of the call's own with elements of two cells. -/
theorem wpList_push2 {P : Program} {t e : TypeId} {i : TypeInfo} {z : Value} {bytes : Nat} (ht : P.underlying t = some (.slice e)) (hi : P.info? e = some i) (hz : i.zero = some z) (hs : i.size = 2) (hby : i.bytes = bytes) (hzs : z.cells.size = 2)
    {w : World} {base : Nat} {v : Value} {n : Nat} {xs : List Value} (hown : w.ownsRow base e 2 v n xs)
    {w0 : World} (hb : Below base w0 w) (hbase : base ≤ w.heap.size) (c1 c2 : Value) (h1 : c1.oneCell' = true) (h2 : c2.oneCell' = true) (hn : n + 1 ≤ maxLen) (hbytes : (n + 1) * bytes ≤ 140737488355328)
    {ops : Array Oper} {rest : List Oper} {o : Oper} {a : Act} {Q : Exit → Act → World → Prop} (hgd : o.guard = none) (s y : Operand)
    (ho : o.op = .call { callee := .builtin .append, args := #[s, y], argTypes := #[t, t] }) (hs' : a.eval s = v) (hx : a.eval y = .slice (some ⟨w.heap.size, 0, none⟩) 1 1)
    (h : ∀ v' w', w'.ownsRow base e 2 v' (n + 1) (xs ++ [c1, c2]) → Below base w0 w' → w.grownBy w' v.ownBlock → wpList P ops Q rest (a.put o.dst v') w') :
    wpList P ops Q (o :: rest) a (w.alloc (.cells #[c1, c2] e)) := by
  refine wpList_plain hgd fun K hK => ?_
  have hn1 : ∀ j u, [c1, c2][j]? = some u → (w.alloc (.cells #[c1, c2] e)).cell? ((⟨w.heap.size, 0, none⟩ : Addr).add j) = some u :=
    World.news_of_block (w := w.alloc (.cells #[c1, c2] e)) (B := w.heap.size) (cs := #[c1, c2]) (t := e) (fr := (0, 0)) (heap_alloc_new w _)
  obtain ⟨v', w', hrun, h3, h4, _, h6⟩ := run_append_own_at (P := P) (w.alloc (.cells #[c1, c2] e)) base t o.type e i z 2 bytes ht hi hz hs hby hzs (by omega) v n xs (hown.alloc _) ⟨w.heap.size, 0, none⟩ 1 1 [c1, c2] (by simp) hn1 (fun u hu => by
    simp only [List.mem_cons, List.mem_nil_iff, or_false] at hu
    rcases hu with rfl | rfl
    · exact h1
    · exact h2) hn hbytes (by simp; omega)
  have gb : w.grownBy w' v.ownBlock := ⟨h4.os, h4.tape, h4.output, Nat.le_trans (by simp) h4.size, fun k hk hne => (h4.block k (by simp; omega) hne).trans (Below.heap_alloc w _ k hk)⟩
  unfold Oper.wp execOp
  simp only [ho, resolve, invoke, builtin, Sem.run_bind, Sem.run_pure, Result.andThen_ok, List.map_toArray, List.map_cons, List.map_nil, hs', hx, hrun]
  exact hK _ _ (h v' w' h3 (hb.grown gb hbase fun k hk => (hown.lt k hk).1) gb)

theorem Tryd.infoRow : ((Tryd.prog.info? 55).map fun i => (i.zero, i.size, i.bytes)) = some (some (.agg #[.string ByteArray.empty, .slice none 0 0]), 2, 40) := by kernel_rfl

/-- A table of the call's own: its rows' values lie in blocks of the call's own, none of them the table's. -/
def OwnR (w : World) (base : Nat) (v : Value) (L : List RowV) : Prop := w.ownsRow base 55 2 v L.length (rcells L) ∧ ∀ x ∈ L, Own w base 5 x.2.1 x.2.2
theorem OwnR.rws_ {w : World} {base : Nat} {v : Value} {L : List RowV} (h : OwnR w base v L) : Rws w v L := ⟨Sl.of_own h.1, fun x hx => (h.2 x hx).by_⟩
theorem OwnR.nil (w : World) (base : Nat) : OwnR w base (.slice none 0 0) [] := ⟨World.ownsRow_nil w base _ 2, fun x hx => by cases hx⟩
theorem OwnR.below {w w' : World} {base : Nat} {v : Value} {L : List RowV} (h : OwnR w base v L) (hb : Below w.heap.size w w') : OwnR w' base v L := ⟨own_below' h.1 hb, fun x hx => (h.2 x hx).below hb⟩
/-- What is owned as bytes lies elsewhere than a table. -/
theorem own_ne {w : World} {b1 b2 : Nat} {e1 e2 : TypeId} {s1 s2 : Nat} {v1 v2 : Value} {n1 n2 : Nat} {x1 x2 : List Value} (h1 : w.ownsRow b1 e1 s1 v1 n1 x1) (h2 : w.ownsRow b2 e2 s2 v2 n2 x2) (hne : e1 ≠ e2) : ∀ g, v1.ownBlock = some g → v2.ownBlock ≠ some g := by
  intro g hg hg2
  obtain ⟨_, ⟨rfl, _⟩ | ⟨g1, c1, cur1, rfl, _, hh1, _⟩⟩ := h1
  · cases hg
  · obtain ⟨_, ⟨rfl, _⟩ | ⟨g2, c2, cur2, rfl, _, hh2, _⟩⟩ := h2
    · cases hg2
    · cases hg
      cases hg2
      rw [hh1] at hh2
      injection hh2 with hh2
      injection hh2 with _ he _
      exact hne he
theorem own_grown {w w' : World} {base : Nat} {e : TypeId} {sz : Nat} {v : Value} {n : Nat} {xs : List Value} (h : w.ownsRow base e sz v n xs) {row : Option Nat} (hg : w.grownBy w' row) (hne : ∀ g, v.ownBlock = some g → row ≠ some g) : w'.ownsRow base e sz v n xs := by
  have hlt := own_lt h
  obtain ⟨h1, h2 | ⟨g, cap, cur, hv, hg', hh, r⟩⟩ := h
  · exact ⟨h1, .inl h2⟩
  · subst hv
    exact ⟨h1, .inr ⟨g, cap, cur, rfl, hg', (hg.block g (hlt g rfl) (fun he => hne g rfl he.symm)).trans hh, r⟩⟩

/-- What lies in an old block was there. -/
theorem By.back {w w' : World} {g o n c : Nat} {l : List UInt8} (h : By w' (.slice (some ⟨g, o, none⟩) n c) l) (hb : Below w.heap.size w w') (hg : g < w.heap.size) : By w (.slice (some ⟨g, o, none⟩) n c) l := by
  obtain ⟨h0, A, c0, hv, hc, hm, hcell⟩ := h
  injection hv with e1 e2 e3
  subst e1 e2 e3
  refine ⟨h0, _, _, rfl, hc, hm, fun h1 => ?_⟩
  obtain ⟨b, o2, hA, _, hcs⟩ := hcell h1
  cases hA
  exact ⟨g, o, rfl, hg, fun j hj => (hb.cell (p := ⟨g, o + j, none⟩) hg).symm.trans (hcs j hj)⟩

/-- The rows' values share no block. -/
def Apv (L : List RowV) : Prop := L.Pairwise fun a b => a.2.1.ownBlock = none ∨ a.2.1.ownBlock ≠ b.2.1.ownBlock
theorem Apv.snoc {L : List RowV} {x : RowV} (h : Apv L) {w1 w2 : World} {b1 : Nat} {t1 t2 : TypeId} (h1 : ∀ y ∈ L, Own w1 b1 t1 y.2.1 y.2.2) {b2 : Nat} (h2 : Own w2 b2 t2 x.2.1 x.2.2) (hb : w1.heap.size ≤ b2) : Apv (L ++ [x]) := by
  refine List.pairwise_append.2 ⟨h, List.pairwise_singleton _ _, fun a ha b hb' => ?_⟩
  simp only [List.mem_singleton] at hb'
  subst hb'
  rcases hg : a.2.1.ownBlock with _ | g
  · exact .inl rfl
  · refine .inr fun he => ?_
    have e1 := (World.ownsRow.lt (h1 a ha) g hg).2
    have e2 := (World.ownsRow.lt h2 g he.symm).1
    omega

set_option maxRecDepth 100000 in
set_option maxHeartbeats 4000000 in
theorem unpack_apt (v : Value) (b : List UInt8) (w : World) (h : By w v b) (hl : b.length ≤ 9223372036854775807) (ht : Tab w) (he : Err w) :
    Calls Tryd.prog 20 #[v] w fun e w' => Below w.heap.size w w' ∧
      ((∃ L v', unpack b = (rws L, 0, 0) ∧ e = .returned (.tuple #[v', .int .i64 0, .int .i64 0]) ∧ OwnR w' w.heap.size v' L ∧ Apv L) ∨
       (∃ p : Nat, unpack b = ([], p, 131) ∧ e = .returned (.tuple #[.slice none 0 0, .int .i64 (p : Int), .int .i64 131]))) := by
  obtain ⟨i0, hi0, hz0, hz1, hz2⟩ := info_parts Tryd.infoRow
  have HI := hide (And.intro hi0 (And.intro hz0 (And.intro hz1 hz2)))
  have HT := hide (And.intro ht he)
  have HV := hide h
  obtain ⟨A, c, rfl, hc, hm, _⟩ := h.form
  unfold maxLen at hm
  clear h ht he hi0 hz0 hz1 hz2
  go_enter Tryd.func20, Tryd.ntmps20
  go_wp2
  refine wp_scope_jumps 0 (fun _ _ => False) (fun _ _ => 0) rfl ?_ ?_
  rotate_left
  · intro a w1 hf
    exact hf.elim
  go_wp2
  refine wp_label ?_
  go_wp2
  go_loopw [5, 6] (fun u5 u6 wr => ∃ (L : List RowV) (r : List UInt8) (A' : Option Addr) (c' : Nat), u6 = .slice A' r.length c' ∧ By w (.slice A' r.length c') r ∧ OwnR wr w.heap.size u5 L ∧ Apv L ∧ unp b.length [] b = unp b.length (rws L) r ∧ r.length ≤ b.length ∧ L.length ≤ 64 ∧ Below w.heap.size w wr) (fun _ u6 _ => match u6 with | .slice _ n _ => n | _ => 0)
  case atStart => exact ⟨[], b, A, c, rfl, HV.out, OwnR.nil _ _, List.Pairwise.nil, rfl, Nat.le_refl _, by simp, Below.refl _ _⟩
  case round =>
    obtain ⟨L, r, A', c', rfl, hr, hL, hap, hunp, hrb, hL64, hb⟩ := hrel
    have HAP := hide hap
    clear hap
    have HL := hide hL
    have HU := hide hunp
    have hr0 := hr
    obtain ⟨_, A2, c2, hv2, hc2, hm2, hcell⟩ := hr0
    injection hv2 with e1 _ e3
    subst e1 e3
    by_cases h0 : 0 < r.length
    · obtain ⟨g, o, rfl, hgl, _⟩ := hcell h0
      have q1 : Calls Tryd.prog 45 #[.slice (some ⟨g, o, none⟩) r.length c', .int .i64 64] wr _ := taken_any g o c' r 64 wr (hr.below hb) (by omega) (HT.out.1.below hb) (HT.out.2.below hb)
      have Q1 := hide q1
      have h0d : decide ((0 : Int) < (r.length : Int)) = true := decide_eq_true (by omega)
      have hrb' : (r.length : Int) ≤ (b.length : Int) := by omega
      clear q1 hL hunp hr hcell
      go_wp2_with fail
      refine Q1.out.mono ?_
      rintro e w1 ⟨b1, ⟨ht1, rfl⟩ | ⟨x1, r1, G1, n1, c1, o2, d2, ht1, rfl, o1, y1⟩⟩
      · have hR : takeR r = none := by unfold takeR; rw [ht1]
        clear Q1 ht1
        go_wp2_with fail
        simp only [Exit.jump]
        go_ret3
        refine ⟨hb.trans (b1.mono hb.size), .inr ⟨b.length - r.length, ?_, ?_⟩⟩
        · unfold unpack
          rw [HU.out, unp_none h0 hR]
        · rw [show ((b.length - r.length : Nat) : Int) = (b.length : Int) - (r.length : Int) by omega]
          rfl
      · have B1 := hide b1
        have T1 := hide ht1
        have O1 := hide o1
        have hbw1 := hb.trans (b1.mono hb.size)
        have q2 : Calls Tryd.prog 45 #[.slice (some ⟨g, o2, none⟩) r1.length d2, .int .i64 65536] w1 _ := taken_any g o2 d2 r1 65536 w1 y1 (by omega) (HT.out.1.below hbw1) (HT.out.2.below hbw1)
        have Q2 := hide q2
        have HW1 := hide hbw1
        clear q2 Q1 b1 ht1 o1 hbw1 y1
        go_wp2_with fail
        refine Q2.out.mono ?_
        rintro e w2 ⟨b2, ⟨ht2, rfl⟩ | ⟨x2, r2, G2, n2, c3, o3, d3, ht2, rfl, ow2, y2⟩⟩
        · have hR : takeR r = none := by
            unfold takeR
            rw [T1.out]
            simp only
            rw [ht2]
          clear Q2 ht2
          go_wp2_with fail
          simp only [Exit.jump]
          go_ret3
          refine ⟨HW1.out.trans (b2.mono HW1.out.size), .inr ⟨b.length - r.length, ?_, ?_⟩⟩
          · unfold unpack
            rw [HU.out, unp_none h0 hR]
          · rw [show ((b.length - r.length : Nat) : Int) = (b.length : Int) - (r.length : Int) by omega]
            rfl
        · have hR : takeR r = some ((x1, x2), r2) := by
            unfold takeR
            rw [T1.out]
            simp only
            rw [ht2]
          have HR := hide hR
          have hlt := takeR_lt hR
          have hbw2 := HW1.out.trans (b2.mono HW1.out.size)
          have hn1 : n1 = x1.length := by
            obtain ⟨A', c', hv, _⟩ := O1.out.by_.form
            injection hv
          subst hn1
          have hn2 : n2 = x2.length := by
            obtain ⟨A', c', hv, _⟩ := ow2.by_.form
            injection hv
          subst hn2
          have o12 := O1.out.below b2
          obtain ⟨s, hs, hcv⟩ := run_str (P := Tryd.prog) o12.by_ 27 9 5 Tryd.underlying27 Tryd.underlying5 Tryd.underlying9
          have hls : lst s = x1 := hs
          have hL2 := (HL.out.below B1.out).below b2
          have ow2' := ow2.base (show w.heap.size ≤ w1.heap.size from HW1.out.size)
          have HL2 := hide hL2
          have HAP2 := hide (show Apv (L ++ [((s, .slice G2 x2.length c3, x2) : RowV)]) from HAP.out.snoc (fun y hy => (HL.out.below B1.out).2 y hy) ow2 (Nat.le_refl _))
          have HO2 := hide ow2'
          have Y2 := hide y2
          have HLS := hide hls
          have HB2 := hide hbw2
          clear Q2 ht2 hR b2 o12 hs hls hL2 ow2 ow2' y2 hbw2
          go_wp2_with (at_builtin; go_loud (refine wpList_push2 Tryd.underlying22 HI.out.1 HI.out.2.1 HI.out.2.2.1 HI.out.2.2.2 rfl HL2.out.1 HB2.out HB2.out.size (.string s) (.slice G2 x2.length c3) rfl rfl (by unfold maxLen; omega) (by omega) rfl _ _ rfl rfl rfl ?_); intro v3 w3 hown3 hb3 hgr3; obtain ⟨_, A5, c5, hv5, hc5, hm5, _⟩ := Sl.of_own hown3; subst hv5)
          have hel : ∀ x ∈ L ++ [((s, .slice G2 x2.length c3, x2) : RowV)], Own w3 w.heap.size 5 x.2.1 x.2.2 := fun x hx => by
            rcases List.mem_append.1 hx with hx | hx
            · exact own_grown (HL2.out.2 x hx) hgr3 fun g hg he => own_ne (HL2.out.2 x hx) HL2.out.1 (by decide) g hg he
            · simp only [List.mem_singleton] at hx
              subst hx
              exact own_grown HO2.out hgr3 fun g hg he => own_ne HO2.out HL2.out.1 (by decide) g hg he
          have hnew : OwnR w3 w.heap.size (.slice A5 (L.length + 1) c5) (L ++ [((s, .slice G2 x2.length c3, x2) : RowV)]) := by
            refine ⟨?_, hel⟩
            rw [rcells_append, List.length_append]
            exact hown3
          have HNEW := hide hnew
          have q4 := rowMay_any _ _ L.length w3 hnew.rws_ (by simp)
          have hrows : rws (L ++ [((s, .slice G2 x2.length c3, x2) : RowV)]) = rws L ++ [(x1, x2)] := by
            rw [rws_append]; simp [rws, HLS.out]
          rw [hrows] at q4
          have HROWS := hide hrows
          have hlen5 : ((L.length + 1 : Nat) : Int) - 1 = (L.length : Int) := by omega
          have HB3 := hide hb3
          have y3 := By.back Y2.out HB2.out hgl
          rcases hrb2 : rowB (rws L ++ [(x1, x2)]) L.length with _ | _
          · rw [hrb2] at q4
            have Q4 := hide q4
            have HRB : Hid (rowB (rws L ++ [(x1, x2)]) (rws L).length = false) := by rw [rws_length]; exact hrb2
            clear q4 hrb2 hnew hel hown3 hgr3 hb3 hrows
            go_wp2_with fail
            refine Q4.out.mono ?_
            rintro e w4 ⟨rfl, rfl⟩
            go_wp2_with fail
            simp only [Exit.jump]
            go_ret3
            refine ⟨HB3.out, .inr ⟨b.length - r.length, ?_, ?_⟩⟩
            · unfold unpack
              rw [HU.out, unp_some HR.out, if_neg (by rw [HRB.out]; simp)]
            · rw [show ((b.length - r.length : Nat) : Int) = (b.length : Int) - (r.length : Int) by omega]
              rfl
          · rw [hrb2] at q4
            have Q4 := hide q4
            have HRB : Hid (rowB (rws L ++ [(x1, x2)]) (rws L).length = true) := by rw [rws_length]; exact hrb2
            clear q4 hrb2 hnew hel hown3 hgr3 hb3 hrows
            go_wp2_with fail
            refine Q4.out.mono ?_
            rintro e w4 ⟨rfl, rfl⟩
            go_wp2_with fail
            go_roundw
            case rel =>
              refine ⟨L ++ [((s, .slice G2 x2.length c3, x2) : RowV)], r2, _, _, rfl, y3, HNEW.out, HAP2.out, ?_, by omega, ?_, HB3.out⟩
              · rw [HU.out, unp_some HR.out, if_pos HRB.out, HROWS.out]
              · obtain ⟨_, _, h64, _⟩ := rowB_some HRB.out
                rw [rws_length] at h64
                simp
                omega
            case measure => simp; omega
    · have hr00 : r = [] := List.eq_nil_of_length_eq_zero (by omega)
      subst hr00
      have h0d : decide ((0 : Int) < ((0 : Nat) : Int)) = false := rfl
      clear hunp hcell hr
      go_wp2_with fail
      simp only [Exit.jump]
      go_ret3
      refine ⟨hb, .inl ⟨L, u5, ?_, rfl, HL.out, HAP.out⟩⟩
      unfold unpack
      rw [HU.out, unp_nil]

theorem unpack_any (v : Value) (b : List UInt8) (w : World) (h : By w v b) (hl : b.length ≤ 9223372036854775807) (ht : Tab w) (he : Err w) :
    Calls Tryd.prog 20 #[v] w fun e w' => Below w.heap.size w w' ∧
      ((∃ L v', unpack b = (rws L, 0, 0) ∧ e = .returned (.tuple #[v', .int .i64 0, .int .i64 0]) ∧ OwnR w' w.heap.size v' L) ∨
       (∃ p : Nat, unpack b = ([], p, 131) ∧ e = .returned (.tuple #[.slice none 0 0, .int .i64 (p : Int), .int .i64 131]))) :=
  (unpack_apt v b w h hl ht he).mono fun _ _ ⟨hb, hq⟩ => ⟨hb, hq.imp (fun ⟨L, v', h1, h2, h3, _⟩ => ⟨L, v', h1, h2, h3⟩) id⟩
end Go.Proofs.YteaagngikiaokaaDoor
