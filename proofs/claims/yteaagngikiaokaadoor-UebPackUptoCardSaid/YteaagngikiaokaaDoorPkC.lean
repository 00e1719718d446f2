/- The contract of the law's kept, of a table that is lent and as it was. -/
import Derived.Test.YteaagngikiaokaaDoorPkB
namespace Go.Proofs.YteaagngikiaokaaDoor
open Go.RowKit

theorem rcells_take_ (L : List RowV) (k : Nat) : rcells (L.take k) = (rcells L).take (k * 2) := by
  induction L generalizing k with
  | nil => simp [rcells]
  | cons x L ih =>
    cases k with
    | zero => simp [rcells]
    | succ k =>
      rw [List.take_succ_cons]
      have : (k + 1) * 2 = k * 2 + 1 + 1 := by omega
      rw [this]
      simp only [rcells, List.flatMap_cons, List.cons_append, List.nil_append, List.take_succ_cons] at ih ⊢
      rw [ih]
theorem Rws.take_ {w : World} {A : Option Addr} {n c : Nat} {L : List RowV} (h : Rws w (.slice A n c) L) (k : Nat) (hk : k ≤ L.length) : Rws w (.slice A k c) (L.take k) := by
  obtain ⟨⟨h0, A', c0, hv, hc, hm, hcell⟩, hy⟩ := h
  injection hv with e1 e2 e3
  subst e1 e2 e3
  have hl : (L.take k).length = k := by rw [List.length_take]; omega
  refine ⟨⟨by simp, _, _, by rw [hl], by rw [hl]; omega, hm, fun h1 => ?_⟩, fun x hx => hy x (List.mem_of_mem_take hx)⟩
  rw [hl] at h1
  obtain ⟨b, o, hA, hb, hcs⟩ := hcell (by omega)
  refine ⟨b, o, hA, hb, fun j hj => ?_⟩
  rw [hl] at hj
  rw [hcs j (by omega), rcells_take_, List.getElem?_take_of_lt (by omega)]
theorem own_cell1 {w : World} {base n k : Nat} {e : TypeId} {v u : Value} {xs : List Value} (h : w.ownsRow base e 1 v n xs) (hk : xs[k]? = some u) : ∃ g c, v = .slice (some ⟨g, 0, none⟩) n c ∧ g < w.heap.size ∧ w.cell? ⟨g, k, none⟩ = some u := by
  have hlt := h.lt
  have hc := h.cells (g := (v.ownBlock).getD 0)
  rcases h.2 with ⟨h0, h1⟩ | ⟨g, cap, cur, rfl, _, _, _⟩
  · have := h.1
    rw [h1, Nat.zero_mul] at this
    rw [List.eq_nil_of_length_eq_zero this] at hk
    simp at hk
  · refine ⟨g, cap, rfl, (hlt g rfl).2, ?_⟩
    have := hc rfl k u hk
    by_cases hk0 : k = 0
    · subst hk0; simpa [Addr.add, Value.ownBlock] using this
    · simpa [Addr.add, Value.ownBlock, hk0] using this

set_option maxRecDepth 100000 in
set_option maxHeartbeats 8000000 in
theorem keptRows_any (va ve v : Value) (L LA : List RowV) (E : List Ent) (base : Nat) (w : World) (h : Rws w v L) (hlnt : Lnt w base va ve LA E) (hrows : rws LA = rws L ++ mks70 70) (hents : E.map (·.2) = lentOf L) (hn : L.length ≤ 1048576) (hl : ∀ x ∈ L, x.2.2.length ≤ 1048576) :
    Calls Tryd.prog 14 #[.agg #[va, ve], v] w fun e w' => e = .returned (.bool true) ∧ Below w.heap.size w w' := by
  have hlen : LA.length = L.length + 70 := by have := congrArg List.length hrows; simpa using this
  have hle : E.length = L.length := by have := congrArg List.length hents; simpa [lentOf] using this
  have HR := hide h
  obtain ⟨A, c, rfl, hc, hm, hcell⟩ := h.form
  have hRA := hlnt.rows.rws_
  have HRA := hide hRA
  obtain ⟨Aa, ca, rfl, hca, hma, hcella⟩ := hRA.form
  rw [hlen] at hca HRA
  rw [hlen]
  have HCELLA := hide hcella
  have HCELL := hide hcell
  have hve : ∃ Ae ce, ve = .slice Ae L.length ce := by
    rcases hlnt.each.2 with ⟨h0, h1⟩ | ⟨g, cap, cur, h0, _⟩
    · rw [hle] at h1; exact ⟨none, 0, by rw [h0, h1]⟩
    · rw [hle] at h0; exact ⟨_, _, h0⟩
  obtain ⟨Ae, ce, rfl⟩ := hve
  have hta : rws (LA.take L.length) = rws L := by
    have : (rws LA).take L.length = rws L := by rw [hrows, List.take_left' (by simp)]
    rw [← this]
    simp [rws, List.map_take]
  have HSR := hide (fun W (hb : Below w.heap.size w W) => (sameRows_eq (.slice Aa L.length ca) (.slice A L.length c) (LA.take L.length) L W ((HRA.out.take_ L.length (by omega)).below hb) (HR.out.below hb) hta).mono fun e w' hh => (show e = .returned (.bool true) ∧ Below w.heap.size w w' ∧ Below W.heap.size W w' from ⟨hh.1, hb.trans (hh.2.mono hb.size), hh.2⟩))
  have HLN := hide hlnt
  have HRW := hide hrows
  have HEN := hide hents
  have HLE := hide hle
  have HLN2 := hide hlen
  have HL := hide hl
  have i1 : (L.length : Int) ≤ (ca : Int) := by omega
  have i1' : L.length ≤ ca := by omega
  have e0 : IntKind.i64.wrap ((L.length : Int) + 70) = ((L.length + 70 : Nat) : Int) := by rw [IntWalk.i64_in _ (by omega)]; omega
  clear h hRA hcella hcell hlnt hrows hents hle hlen hta hl
  obtain ⟨n70, hn70⟩ : ∃ x, x = L.length + 70 := ⟨_, rfl⟩
  rw [← hn70] at HRA e0 HLN2 hca
  rw [← hn70]
  have HN7 := hide hn70
  clear hn70
  go_enter Tryd.func14, Tryd.ntmps14
  go_wp2_with fail
  refine (HSR.out _ ((Below.refl w.heap.size w).alloc (Nat.le_refl _) _)).mono ?_
  rintro e w1 ⟨rfl, b1, b1'⟩
  have hbx := (Blk.new w 25 #[.slice Aa n70 ca, .slice Ae L.length ce]).below' b1'
  clear b1'
  go_wp2
  go_loopw [5] (fun u5 wr => ∃ k : Nat, u5 = .int .i64 (k : Int) ∧ k ≤ L.length ∧ Blk wr w.heap.size 25 #[.slice Aa n70 ca, .slice Ae L.length ce] ∧ Below w.heap.size w wr) (fun u5 _ => L.length + 1 - (intOf u5).toNat)
  case atStart => exact ⟨0, rfl, by omega, hbx, b1⟩
  case round =>
    clear b1 hbx
    obtain ⟨k, rfl, hk, hbx, hbel⟩ := hrel
    by_cases hlt : k < L.length
    · obtain ⟨x, hx⟩ : ∃ x, L[k]? = some x := ⟨_, List.getElem?_eq_getElem hlt⟩
      obtain ⟨z, hz⟩ : ∃ z, E[k]? = some z := ⟨_, List.getElem?_eq_getElem (by have := HLE.out; omega)⟩
      obtain ⟨b, o, rfl, hbl, h1, h2⟩ := HCELL.out k x hx
      have hby := HR.out.2 x (List.mem_of_getElem? hx)
      have hxl := HL.out x (List.mem_of_getElem? hx)
      obtain ⟨A3, c3, hv3, _⟩ := hby.form
      have hoz := HLN.out.own z (List.mem_of_getElem? hz)
      obtain ⟨A5, c5, hv5, _⟩ := hoz.by_.form
      obtain ⟨g, cg, hvg, hgl, hcg⟩ := own_cell1 HLN.out.each (k := k) (u := z.1) (by simp [hz])
      obtain ⟨rfl, _, _⟩ : Ae = some ⟨g, 0, none⟩ ∧ True ∧ True := by injection hvg with e1 _ _; exact ⟨e1, trivial, trivial⟩
      have hzl : z.2 = x.2.2 ++ marks 0 x.2.2.length 70 := by
        have := congrArg (·[k]?) HEN.out
        simp [hz, hx, lentOf] at this
        exact this
      have hzn : z.2.length = x.2.2.length + 70 := by rw [hzl]; simp [marks]
      have HC := hide (fun W (hb : Below w.heap.size w W) (hB : Blk W w.heap.size 25 #[.slice Aa n70 ca, .slice (some ⟨g, 0, none⟩) L.length ce]) => (kept_any z.1 x.2.1 z.2 x.2.2 W (hoz.by_.below hb) (hby.below hb) (by omega)).mono fun e w' hh => (show e = .returned (.bool true) ∧ Below w.heap.size w w' ∧ Blk w' w.heap.size 25 #[.slice Aa n70 ca, .slice (some ⟨g, 0, none⟩) L.length ce] from ⟨by rw [hh.1, decide_eq_true hzl], hb.trans (hh.2.mono hb.size), hB.below' hh.2⟩))
      rw [hv3] at h2 HC
      rw [hv5] at hcg HC
      rw [hzn] at hcg HC
      have HS := hide (fun W (hb : Below w.heap.size w W) (hB : Blk W w.heap.size 25 #[.slice Aa n70 ca, .slice (some ⟨g, 0, none⟩) L.length ce]) => And.intro (show W.cell? ⟨w.heap.size, 1, none⟩ = some (.slice (some ⟨g, 0, none⟩) L.length ce) from hB.cell 1) (And.intro ((hb.cell (p := ⟨g, k, none⟩) hgl).trans hcg) ((hb.cell (p := ⟨b, o + k * 2 + 1, none⟩) hbl).trans h2)))
      obtain ⟨s1, s2, s3⟩ := HS.out _ hbel hbx
      have i3 : (k : Int) < (L.length : Int) := by omega
      have i4 : (0 : Int) ≤ (k : Int) := by omega
      have HBX := hide hbx
      have HBE := hide hbel
      clear hx hz h1 h2 hby hv3 hoz hv5 hvg hcg hzl hzn hbx hbel
      go_wp2_with fail
      go_region_held3 (fun w' => w'.cell? ⟨w.heap.size, 1, none⟩ = some (.slice (some ⟨g, 0, none⟩) L.length ce) ∧ w'.cell? ⟨g, k, none⟩ = some (.slice A5 (x.2.2.length + 70) c5) ∧ w'.cell? ⟨b, o + k * 2 + 1, none⟩ = some (.slice A3 x.2.2.length c3))
        (first | go_keep | exact HS.out _ q1 q2)
        ((go_at_call 21; (with_reducible refine (HC.out _ ?bb ?b2).mono ?_); (case bb => (repeat (first | with_reducible exact HBE.out | with_reducible refine Below.drew ?_))); (case b2 => (repeat (first | with_reducible exact HBX.out | with_reducible refine Blk.drew ?_))); rintro e w2 ⟨rfl, q1, q2⟩))
      all_goals
        go_wp2
        go_roundw
        case rel => exact ⟨k + 1, by go_num, by omega, q2, q1⟩
        case measure => simp [intOf]; omega
    · have hk2 : k = L.length := by omega
      subst hk2
      have i3 : ¬ (L.length : Int) < (L.length : Int) := by omega
      go_wp2
      generalize wr = wz at *
      go_loopw [6] (fun u6 wr => ∃ j : Nat, u6 = .int .i64 (j : Int) ∧ j ≤ 70 ∧ Blk wr w.heap.size 25 #[.slice Aa n70 ca, .slice Ae L.length ce] ∧ Below w.heap.size w wr) (fun u6 _ => 71 - (intOf u6).toNat)
      case atStart => exact ⟨0, rfl, by omega, hbx, hbel⟩
      case round =>
        clear hbx hbel
        obtain ⟨j, rfl, hj, hbx, hbel⟩ := hrel
        by_cases h70 : j < 70
        · obtain ⟨m, hm⟩ : ∃ m, m = L.length + j := ⟨_, rfl⟩
          obtain ⟨y, hy⟩ : ∃ y, LA[m]? = some y := ⟨_, List.getElem?_eq_getElem (by have := HLN2.out; have := HN7.out; omega)⟩
          have hyr : (lst y.1, y.2.2) = (tMark, [UInt8.ofNat j]) := by
            have e1 := rws_get hy
            rw [HRW.out, List.getElem?_append_right (by simp; omega), rws_length, hm, Nat.add_sub_cancel_left] at e1
            simp [mks70, h70] at e1
            simp [e1]
          have hy1 : y.1 = ⟨#[109, 97, 114, 107]⟩ := lst_inj (Prod.mk.inj hyr).1
          have hy2 : y.2.2 = [UInt8.ofNat j] := (Prod.mk.inj hyr).2
          have hoy := (HLN.out.rows.2 y (List.mem_of_getElem? hy)).by_
          rw [hy2] at hoy
          obtain ⟨A3, c3, hv3, hc3, _, hcy⟩ := hoy.form
          obtain ⟨b2, o2, rfl, hbl2, h3⟩ := hcy 0 _ rfl
          obtain ⟨b, o, rfl, hbl, h1, h2⟩ := HCELLA.out m y hy
          rw [hy1] at h1
          rw [hv3] at h2
          have hju : ((UInt8.ofNat j).toNat : Int) = (j : Int) := by simp; omega
          rw [hju] at h3
          have s1 : wr.cell? ⟨w.heap.size, 0, none⟩ = some (.slice (some ⟨b, o, none⟩) n70 ca) := hbx.cell 0
          have s2 := (hbel.cell (p := ⟨b, o + m * 2, none⟩) hbl).trans h1
          have s3 := (hbel.cell (p := ⟨b, o + m * 2 + 1, none⟩) hbl).trans h2
          have s4 : wr.cell? ⟨b2, o2, none⟩ = some (.int .u8 (j : Int)) := (hbel.cell (p := ⟨b2, o2, none⟩) hbl2).trans h3
          have hb5 : ¬ b2 = wr.heap.size := by have := hbel.size; omega
          have e1 : IntKind.i64.wrap ((L.length : Int) + (j : Int)) = (m : Int) := by rw [hm, IntWalk.i64_in _ (by omega)]; omega
          have e2 : IntKind.u8.wrap (j : Int) = (j : Int) := IntWalk.u8_in _ (by omega)
          have i5 : (j : Int) < 70 := by omega
          have i6 : (m : Int) < (n70 : Int) := by have := HN7.out; omega
          have i7 : (0 : Int) ≤ (m : Int) := by omega
          have hsz := hbel.size
          have hb3 : b < wr.heap.size := by omega
          have hb4 : b2 < wr.heap.size := by omega
          have HBX := hide hbx
          have HBE := hide hbel
          clear hm hy hyr hy1 hy2 hoy hv3 hcy h1 h2 h3 hju hbx hbel hc3
          go_wp2
          go_roundw
          case rel => exact ⟨j + 1, by go_num, by omega, HBX.out.alloc _, HBE.out.alloc HBE.out.size _⟩
          case measure => simp [intOf]; omega
        · have hj2 : j = 70 := by omega
          subst hj2
          go_wp2
          go_ret
          exact ⟨rfl, hbel⟩
end Go.Proofs.YteaagngikiaokaaDoor
