/- Joined texts: RdB, RdS, BigP, SbP, Free, BigA, SbM, SbI, SbJ, SbC. -/
import Derived.Test.YtdohebhbiokljaaDoorJ4
import Derived.Test.YtdohebhbiokljaaDoorJ1
import Derived.Test.YtdohebhbiokljaaDoorJ3
import Derived.Laws.BitsAllLaws
import Derived.Deep.MidRow
import Derived.Maps.AppendAt

/- The contract of the program's Read. -/
namespace Go.Proofs.YtdohebhbiokljaaDoor
open Go.RowKit

theorem zero_cells : Tryd.zeroCells37 = US.zero.cells := by kernel_rfl
theorem results_row_tmp2 {P : Program} {fn : Func} {p u v : Tmp} {ty : TypeId} (h : fn.results = #[.cell p ty, .tmp u, .tmp v]) (tmps : Array Value) (w : World) (g : Nat) (t : TypeId) (cs : Array Value) (fr : Nat × Nat) (d : TypeDesc)
    (hp : tmps.getD p undef = .pointer (some ⟨g, 0, none⟩)) (hg : w.heap[g]? = some (.cells cs t fr))
    (hu : P.underlying ty = some d) (hd : (match d with | .struct _ | .array _ _ => true | _ => false) = true) (hi : (P.info? ty).map (·.size) = some cs.size) :
    (results fn tmps).run P w = .ok (.tuple #[.agg cs, tmps.getD u undef, tmps.getD v undef]) w := by
  have hp' : tmps[p]?.getD undef = .pointer (some ⟨g, 0, none⟩) := by simpa using hp
  simp only [results, h]
  simp [Sem.run_bind, Result.andThen, hp', asAddr, run_loadVar_row w g t ty cs fr d hg hu hd hi]

theorem below_grown {w w' : World} (h : Below w.heap.size w w') (row : Option Nat) : w.grownBy w' row := ⟨h.os, h.tape, h.output, h.size, fun k hk _ => h.block k hk⟩

theorem cell_grown {w W : World} {row : Option Nat} {p : Addr} {v : Value} (h : w.cell? p = some v) (hg : w.grownBy W row) (hne : some p.block ≠ row) : W.cell? p = some v := by
  have hb := World.block_lt_of_cell? _ _ h
  have := hg.block p.block hb hne
  unfold World.cell? at h ⊢
  rw [this]
  exact h

set_option maxRecDepth 100000 in
theorem call_clo (k : Nat) (args : Array Value) (W : World) : (callFunc (cloF k) args).run Tryd.prog W = .ok (.enter (cloF k) args) W := by
  unfold cloF
  by_cases h : k < 4
  · rw [if_pos h]; rfl
  · rw [if_neg h]; rfl

theorem ueb_one (u : US) : u.cells.all (·.oneCell') = true := by
  unfold US.cells uebC
  rw [← Array.all_toList]
  simp [bcells, Value.oneCell']

/-- A row is laid. -/
theorem laid_row (k b g : Nat) (v : Value) (l : List UInt8) (u : US) (w : World) (hk : k < 6) (h : By w v l) (hl : l.length ≤ 1048576) (ht : Tab w) (he : Err w) (hb : w.cell? ⟨b, 0, none⟩ = some (.pointer (some (tgt g k)))) (hg : Blk w g 37 u.cells) (hu : u.wf) :
    Calls Tryd.prog (cloF k) #[v, .pointer (some ⟨b, 0, none⟩)] w fun e w' => e = .returned (.bool (okV k l)) ∧ w.grownBy w' (some g) ∧ (okV k l = true → Blk w' g 37 (putU u k l).cells) := by
  have hsz := US.size_ hu
  by_cases h4 : k < 4
  · have e1 : cloF k = 83 := by unfold cloF; rw [if_pos h4]
    have e2 : tgt g k = ⟨g, k, none⟩ := by
      have hc : k = 0 ∨ k = 1 ∨ k = 2 ∨ k = 3 := by omega
      rcases hc with rfl | rfl | rfl | rfl <;> rfl
    rw [e1]
    rw [e2] at hb
    obtain ⟨old, hq⟩ : ∃ old, w.cell? ⟨g, k, none⟩ = some old := ⟨_, (hg.cell k).trans (Array.getElem?_eq_getElem (by omega))⟩
    refine (num_lay v l b ⟨g, k, none⟩ w h hl ht he hb old hq (hg.frozen k) rfl).mono ?_
    rintro e w' ⟨rfl, w1, b1, rfl⟩
    refine ⟨by unfold okV; rw [if_pos h4], (below_grown b1 _).trans_ (store_grown _ _ _ _), fun _ => ?_⟩
    rw [putU_num h4]
    exact (hg.below' b1).set_ k _
  · have e1 : cloF k = 86 := by unfold cloF; rw [if_neg h4]
    rw [e1]
    obtain ⟨_, A, c, rfl, hc, _, hcell⟩ := h
    by_cases h32 : l.length = 32
    · obtain ⟨gA, oA, rfl, _, hcs⟩ := hcell (by omega)
      have e2 : ∃ q, tgt g k = ⟨g, q, none⟩ ∧ q = (tgt 0 k).off ∧ q + 32 ≤ 68 := by
        have hc : k = 4 ∨ k = 5 := by omega
        rcases hc with rfl | rfl
        · exact ⟨36, rfl, rfl, by omega⟩
        · exact ⟨4, rfl, rfl, by omega⟩
      obtain ⟨q, e2, e3, e4⟩ := e2
      rw [e2] at hb
      rw [h32]
      refine (dig_lay gA oA c l b g q w h32 (by omega) (fun j v hv => ?_) hb (fun j hj => ⟨?_, hg.frozen _⟩)).mono ?_
      · rw [hcs j (by have := (List.getElem?_eq_some_iff.1 hv).1; simpa using this)]
        exact hv
      · rw [hg.cell, Array.getElem?_eq_getElem (by omega)]; rfl
      · rintro e w' ⟨rfl, rfl⟩
        refine ⟨by unfold okV; rw [if_neg h4, decide_eq_true h32], (grown_drew (World.grownBy.refl w _)).trans_ (stores_grown _ _ _ _), fun _ => ?_⟩
        rw [putU_dig hu hk h4 h32, ← e3]
        exact blk_setCells _ _ _ _ hg.drew (by simp [h32]; omega)
    · refine (dig_no A l.length c b w h32).mono ?_
      rintro e w' ⟨rfl, rfl⟩
      refine ⟨by unfold okV; rw [if_neg h4, decide_eq_false h32], World.grownBy.refl _ _, fun h' => ?_⟩
      unfold okV at h'
      rw [if_neg h4] at h'
      simp [h32] at h'

theorem look_yes {w W : World} {m n g : Nat} {D : DataW Unit} {B : Nat → Nat} (hown : w.ownsMap Tryd.prog 9 rFun m n D) (hne : m ≠ g) (hgr : w.grownBy W (some g)) (hhas : ∀ k, k < 6 → Maps.has D (keyL k) = true) (hat : ∀ k, k < 6 → ∀ z, D.atKey (keyL k) z = cloD k (B k)) (s : ByteArray) (k : Nat) (hk : kx (lst s) = k) (h6 : k < 6) :
    (Instr.lookup 89 (.map (some m)) (.string s) true).run Tryd.prog W = .ok (.tuple #[.func (.func (cloF k)) #[] #[.pointer (some ⟨B k, 0, none⟩)], .bool true]) W := by
  have hs : lst s = (keyB k).data.toList := key_kx hk h6
  have hsz : s.size ≤ maxLen := by
    have := lst_len s
    rw [hs] at this
    have h2 := key_len k
    have h3 : (keyB k).data.toList.length = (keyB k).size := lst_len _
    omega
  have hkey := WideMaps.keyOf_string_mk (P := Tryd.prog) Tryd.underlying9 hsz
  have hz : (zeroValue 52).run Tryd.prog W = .ok .nilFunc W := by kernel_rfl
  have hzd : rFun .nilFunc = some (.nil, []) := by
    unfold rFun
    rw [dif_neg (by rintro ⟨b, hb⟩; cases hb), dif_neg (by rintro ⟨b, hb⟩; cases hb)]
  obtain ⟨v, ps, hrun, hR⟩ := (hown.kept hgr (fun h => hne (Option.some.inj h))).look_ok keyed_str Tryd.underlying89 hz hzd hkey
  have hkl : (Lit.string s.data.toList) = keyL k := by unfold keyL; rw [← hs]
  rw [hkl, hhas k h6] at hrun
  rw [hkl, hat k h6] at hR
  rw [hrun, rFun_back hR]
  rfl
theorem look_no {w W : World} {m n g : Nat} {D : DataW Unit} (hown : w.ownsMap Tryd.prog 9 rFun m n D) (hne : m ≠ g) (hgr : w.grownBy W (some g)) (hno : ∀ s : List UInt8, (∀ k, k < 6 → s ≠ (keyB k).data.toList) → Maps.has D (.string s) = false) (s : ByteArray) (hs : s.size ≤ maxLen) (hk : ¬ kx (lst s) < 6) :
    ∃ v, ∀ X, X = W → (Instr.lookup 89 (.map (some m)) (.string s) true).run Tryd.prog X = .ok (.tuple #[v, .bool false]) X := by
  have hkey := WideMaps.keyOf_string_mk (P := Tryd.prog) Tryd.underlying9 hs
  have hz : (zeroValue 52).run Tryd.prog W = .ok .nilFunc W := by kernel_rfl
  have hzd : rFun .nilFunc = some (.nil, []) := by
    unfold rFun
    rw [dif_neg (by rintro ⟨b, hb⟩; cases hb), dif_neg (by rintro ⟨b, hb⟩; cases hb)]
  obtain ⟨v, ps, hrun, hR⟩ := (hown.kept hgr (fun h => hne (Option.some.inj h))).look_ok keyed_str Tryd.underlying89 hz hzd hkey
  rw [hno _ (key_no hk)] at hrun
  exact ⟨v, fun X hX => by rw [hX]; exact hrun⟩

set_option maxRecDepth 100000 in
set_option maxHeartbeats 4000000 in
theorem read_any (v : Value) (b : List UInt8) (w : World) (h : By w v b) (hl : b.length ≤ 9223372036854775807) (ht : Tab w) (he : Err w) :
    Calls Tryd.prog 24 #[v] w fun e w' => Below w.heap.size w w' ∧ e = readV (readU b) := by
  obtain ⟨A, c, rfl, hc, hm, _⟩ := h.form
  have Q1 := hide (fun W (hW : Below w.heap.size w W) => unpack_any (.slice A b.length c) b W (h.below hW) hl (ht.below hW) (he.below hW))
  have HT := hide (And.intro ht he)
  clear h ht he
  go_enter Tryd.func24, Tryd.ntmps24
  go_wp2_with fail
  refine (Q1.out _ ((Below.refl _ w).alloc (Nat.le_refl _) _)).mono ?_
  rintro e w1 ⟨b1, ⟨L, v', hu, rfl, hL⟩ | ⟨p, hu, rfl⟩⟩
  · have HB0 := hide ((Blk.new w 37 US.zero.cells).below' (zero_cells ▸ b1))
    have B1 := hide (((Below.refl w.heap.size w).alloc (Nat.le_refl _) _).trans (b1.mono (by simp)))
    have HU := hide hu
    have HL := hide hL
    have hL2 := hide hL.rws_
    obtain ⟨_, A2, c2, rfl, hc2, hm2, _⟩ := hL.rws_.1
    have Q2 := hide (fun W => layers_any w1.heap.size W)
    clear b1 hu hL Q1
    go_wp2_with fail
    refine (Q2.out _).mono ?_
    rintro e w2 ⟨m, B, D, n, rfl, b2, hmm, hown, hn, hsz, hhas, hat, hno, hcell⟩
    have hlen := hown.len (ty := 3) Tryd.underlying89
    rw [hsz] at hlen
    have hrw := hL2.out
    have HOWN := hide hown
    have HM := hide (And.intro hhas (And.intro hat (And.intro hno hcell)))
    have B2 := hide ((Below.refl w1.heap.size w1).alloc (Nat.le_refl _) _ |>.trans (b2.mono (by simp)))
    have HBU := hide ((Blk.new w1 37 US.zero.cells).below' (zero_cells ▸ b2))
    have HMAY : Hid (may (rws L)) := by
      rcases unpack_cases b with ⟨rs, h1, _, h3⟩ | ⟨p, _, h1⟩
      · have h2 := HU.out
        rw [h1] at h2
        simp only [Prod.mk.injEq] at h2
        rw [← h2.1]; exact h3
      · have h2 := HU.out
        rw [h1] at h2
        simp at h2
    have hmm' : w1.heap.size < m := by simp at hmm; omega
    have HROW := hide hL2.out.form
    clear hown hhas hat hno hcell b2 hmm Q2 hrw
    by_cases h6 : L.length = 6
    · have i6 : (L.length : Int) = 6 := by omega
      go_wp2
      go_loopw [35] (fun u35 wr => ∃ (i : Nat) (u : US), i ≤ L.length ∧ u35 = .int .i64 i ∧ Below w1.heap.size w1 wr ∧ w2.grownBy wr (some w1.heap.size) ∧ Blk wr w1.heap.size 37 u.cells ∧ u.wf ∧ u.in ∧ foldU u (rws (L.drop i)) = foldU US.zero (rws L)) (fun u35 _ => L.length - (intOf u35).toNat)
      case atStart => exact ⟨0, US.zero, by omega, rfl, B2.out, World.grownBy.refl _ _, HBU.out, US.zero_wf, US.zero_in, rfl⟩
      case round =>
        obtain ⟨i, u, hi, rfl, hb, hgr, hblk, hwf, hin, hfold⟩ := hrel
        by_cases hlt : i < L.length
        · have i1 : (i : Int) < 6 := by omega
          obtain ⟨x, hx⟩ : ∃ x, L[i]? = some x := ⟨_, List.getElem?_eq_getElem hlt⟩
          obtain ⟨A', c', hv, _, _, hcl⟩ := HROW.out
          injection hv with e1 _ e3
          subst e1 e3
          obtain ⟨bb, o, rfl, hbl, h1, h2⟩ := hcl i x hx
          have i2 : (i : Int) < (L.length : Int) := by omega
          have i3 : (0 : Int) ≤ (i : Int) := by omega
          have hb1 : wr.cell? ⟨bb, o + i * 2, none⟩ = some (.string x.1) := (hb.cell (p := ⟨bb, o + i * 2, none⟩) hbl).trans h1
          have hb2 : wr.cell? ⟨bb, o + i * 2 + 1, none⟩ = some x.2.1 := (hb.cell (p := ⟨bb, o + i * 2 + 1, none⟩) hbl).trans h2
          have hby := (hL2.out.2 x (List.mem_of_getElem? hx)).below hb
          obtain ⟨A3, c3, hv3, _⟩ := hby.form
          rw [hv3] at hb2 hby
          have HBY := hide hby
          have HBB := hide hb
          have HGR := hide hgr
          have HBK := hide hblk
          have HF := hide hfold
          clear hcl h1 h2 hby hb hgr hblk hfold hv3
          have hsp := (may_mem HMAY.out _ (List.mem_of_getElem? (rws_get hx)))
          have hdrop : rws (L.drop i) = (lst x.1, x.2.2) :: rws (L.drop (i + 1)) := by
            obtain ⟨hlt', hge⟩ := List.getElem?_eq_some_iff.1 hx
            rw [List.drop_eq_getElem_cons hlt', hge]
            rfl
          rw [hdrop] at HF
          have hg1 : w2.grownBy (wr.alloc (.cells #[.string x.1, .slice A3 x.2.2.length c3] 87)) (some w1.heap.size) := HGR.out.trans_ (World.grownBy_alloc wr _ _)
          have hBW := Below.al0 HBB.out (.cells #[.string x.1, .slice A3 x.2.2.length c3] 87)
          by_cases hk : kx (lst x.1) < 6
          · have hlk := look_yes HOWN.out (by omega) hg1 HM.out.1 HM.out.2.1 x.1 _ rfl hk
            have Q3 := hide (laid_row _ (B (kx (lst x.1))) w1.heap.size _ x.2.2 u _ hk (HBY.out.alloc _) (Nat.le_trans hsp.2 (by omega)) (HT.out.1.below (Below.step B1.out hBW)) (HT.out.2.below (Below.step B1.out hBW)) (cell_grown (HM.out.2.2.2 _ hk).1 hg1 (fun h => by have := (HM.out.2.2.2 _ hk).2; have h' := Option.some.inj h; simp at h' this; omega)) (HBK.out.alloc _) hwf)
            have hcf := call_clo (kx (lst x.1))
            generalize hkk : kx (lst x.1) = k at *
            have HG1 := hide hg1
            have HBW := hide hBW
            have hb0 := (HB0.out.below' HBB.out).alloc (.cells #[.string x.1, .slice A3 x.2.2.length c3] 87)
            have hlt1 := HB0.out.lt
            rcases hok : okV k x.2.2 with _ | _
            · rw [hok] at Q3
              have hno' : foldU US.zero (rws L) = none := by
                rw [← HF.out]
                unfold foldU stepU
                simp only [hkk, hok]
                rw [if_neg (by simp)]
              have HNO := hide hno'
              clear hdrop hg1 hBW hkk hok hno'
              go_wp2_with fail
              refine Q3.out.mono ?_
              rintro e w4 ⟨rfl, g4, -⟩
              have HB4 := hide (hb0.grown g4 (fun h => by have := Option.some.inj h; omega))
              have BB4 := hide ((Below.step B1.out HBW.out).grown g4 (Below.step B1.out HBW.out).size (fun k hk => by cases hk; exact B1.out.size))
              clear g4 hb0 Q3
              go_wp2_with (refine wpList_store_row (o := ⟨none, .store _ _ _, _, _, _, _⟩) HB4.out US.zero.cells rfl (by kernel_rfl) rfl 37 _ _ rfl (by kernel_rfl) rfl (by rw [← zero_cells]; rfl) ?_; intro wf hb1 hg1)
              refine bodyPost_ret (results_row_tmp2 rfl _ _ w.heap.size 37 US.zero.cells (0, 0) _ rfl hb1 Tryd.underlying37 rfl (by kernel_rfl)) rfl ⟨BB4.out.grown hg1 (by have := HB4.out.lt; omega) (fun k hk => by cases hk; omega), ?_⟩
              rw [readU_no HU.out HNO.out]; rfl
            · rw [hok] at Q3
              have hnext : foldU (putU u k x.2.2) (rws (L.drop (i + 1))) = foldU US.zero (rws L) := by
                rw [← HF.out]
                conv => rhs; unfold foldU stepU
                simp only [hkk, hok]
                rw [if_pos (by simp [hk])]
              have HNX := hide hnext
              have HWF := hide (And.intro (putU_wf hwf hk hok) (putU_in (v := x.2.2) hin hk))
              clear hdrop hg1 hBW hkk hok hnext hwf hin
              go_wp2_with fail
              refine Q3.out.mono ?_
              rintro e w4 ⟨rfl, g4, hb4⟩
              have HG4 := hide g4
              have HB4 := hide (hb4 trivial)
              have BB4 := hide (HBW.out.grown g4 HBW.out.size (fun k hk => by cases hk; exact Nat.le_refl _))
              clear g4 hb0 Q3 hb4
              go_wp2_with fail
              go_roundw
              case rel => exact ⟨i + 1, putU u k x.2.2, by omega, by simp, BB4.out, HG1.out.trans_ HG4.out, HB4.out, HWF.out.1, HWF.out.2, HNX.out⟩
              case measure => simp [intOf]; omega
          · obtain ⟨vv, hlk0⟩ := look_no HOWN.out (by omega) hg1 HM.out.2.2.1 x.1 (by have := hsp.1; rw [lst_len] at this; unfold maxLen; omega) hk
            have hlk := hlk0 _ rfl
            have hb0 := (HB0.out.below' HBB.out).alloc (.cells #[.string x.1, .slice A3 x.2.2.length c3] 87)
            have hlt1 := HB0.out.lt
            have hno' : foldU US.zero (rws L) = none := by
              rw [← HF.out]
              unfold foldU stepU
              simp only
              rw [if_neg (fun h => hk h.1)]
            have HNO := hide hno'
            have HB4 := hide hb0
            have BB4 := hide (Below.step B1.out hBW)
            clear hdrop hg1 hBW hno' hb0 hlk0
            go_wp2_with (refine wpList_store_row (o := ⟨none, .store _ _ _, _, _, _, _⟩) HB4.out US.zero.cells rfl (by kernel_rfl) rfl 37 _ _ rfl (by kernel_rfl) rfl (by rw [← zero_cells]; rfl) ?_; intro wf hb1 hg1)
            refine bodyPost_ret (results_row_tmp2 rfl _ _ w.heap.size 37 US.zero.cells (0, 0) _ rfl hb1 Tryd.underlying37 rfl (by kernel_rfl)) rfl ⟨BB4.out.grown hg1 (by have := HB4.out.lt; omega) (fun k hk => by cases hk; omega), ?_⟩
            rw [readU_no HU.out HNO.out]; rfl
        · have hi6 : i = L.length := by omega
          subst hi6
          have hf6 : foldU US.zero (rws L) = some u := by rw [← hfold, List.drop_length]; rfl
          have i1 : ¬ (L.length : Int) < 6 := by omega
          have hsz6 := US.size_ hwf
          unfold US.in at hin
          have q4 : ∀ W, Calls Tryd.prog 20 #[.agg u.cells] W _ := fun W => check_any_ueb u.k u.n u.seg u.size (bcells u.sh ++ bcells u.sg) W (by omega) (by omega) (by omega) (by omega)
          have Q4 := hide q4
          have HR := hide (readU_some HU.out (by rw [rws_length]; exact h6) hf6)
          have HBK := hide hblk
          have HBB := hide hb
          have HSZ := hide hsz6
          have H1C := hide (ueb_one u)
          have hb0 := HB0.out.below' hb
          have hlt1 := HB0.out.lt
          have hle1 := hb.size
          clear q4 hf6 hfold hgr hblk hb hsz6 hin hwf
          obtain ⟨k0, n0, g0, z0, sh0, sg0⟩ := u
          generalize hcs : US.cells ⟨k0, n0, g0, z0, sh0, sg0⟩ = cs at *
          go_wp2_with (refine wpList_load_row (o := ⟨some 57, .load _ _, _, _, _, _⟩) rfl 37 _ rfl w1.heap.size rfl 37 cs (0, 0) _ HBK.out Tryd.underlying37 rfl (by rw [HSZ.out]; kernel_rfl) ?_)
          refine (Q4.out _).mono ?_
          rintro e w4 ⟨b4, rfl⟩
          have HB4 := hide (hb0.below' b4)
          have HK4 := hide (HBK.out.below' b4)
          have BB4 := hide ((B1.out.trans (HBB.out.mono B1.out.size)).trans (b4.mono (Nat.le_trans B1.out.size hle1)))
          clear b4 hb0 Q4
          by_cases hag : agOK k0 n0 g0 z0
          · rw [if_pos hag]
            simp only [if_pos hag] at HR
            clear hag
            go_wp2_with first
              | ((with_reducible change wpList _ _ _ (⟨some 63, _, _, _, _, _⟩ :: _) _ _); refine wpList_load_row (o := ⟨some 63, .load _ _, _, _, _, _⟩) rfl 37 _ rfl w1.heap.size rfl 37 cs (0, 0) _ HK4.out Tryd.underlying37 rfl (by rw [HSZ.out]; kernel_rfl) ?_)
              | (refine wpList_store_row (o := ⟨none, .store _ _ _, _, _, _, _⟩) HB4.out cs (by rw [HSZ.out]; rfl) H1C.out rfl 37 _ _ rfl (by rw [HSZ.out]; kernel_rfl) rfl rfl ?_; intro wf hb1 hg1)
            refine bodyPost_ret (results_row_tmp2 rfl _ _ w.heap.size 37 cs (0, 0) _ rfl hb1 Tryd.underlying37 rfl (by rw [HSZ.out]; kernel_rfl)) rfl ⟨BB4.out.grown hg1 (by have := HB4.out.lt; omega) (fun k hk => by cases hk; omega), ?_⟩
            rw [HR.out]
            unfold readV
            simp only [hcs]
            rfl
          · rw [if_neg hag]
            simp only [if_neg hag] at HR
            clear hag
            go_wp2_with (refine wpList_store_row (o := ⟨none, .store _ _ _, _, _, _, _⟩) HB4.out US.zero.cells rfl (by kernel_rfl) rfl 37 _ _ rfl (by kernel_rfl) rfl (by rw [← zero_cells]; rfl) ?_; intro wf hb1 hg1)
            refine bodyPost_ret (results_row_tmp2 rfl _ _ w.heap.size 37 US.zero.cells (0, 0) _ rfl hb1 Tryd.underlying37 rfl (by kernel_rfl)) rfl ⟨BB4.out.grown hg1 (by have := HB4.out.lt; omega) (fun k hk => by cases hk; omega), ?_⟩
            rw [HR.out]; rfl
    · have i6 : ¬ (L.length : Int) = 6 := by omega
      go_wp2_with (refine wpList_store_row (o := ⟨none, .store _ _ _, _, _, _, _⟩) (HB0.out.below' B2.out) US.zero.cells rfl (by kernel_rfl) rfl 37 _ _ rfl (by kernel_rfl) rfl (by rw [← zero_cells]; rfl) ?_; intro wf hb1 hg1)
      refine bodyPost_ret (results_row_tmp2 rfl _ _ w.heap.size 37 US.zero.cells (0, 0) _ rfl hb1 Tryd.underlying37 rfl (by kernel_rfl)) rfl ⟨?_, ?_⟩
      · exact (B1.out.trans (B2.out.mono B1.out.size)).grown hg1 (by have := HB0.out.lt; have := B2.out.size; omega) (fun k hk => by cases hk; omega)
      · rw [readU_len HU.out (by rw [rws_length]; exact h6)]; rfl
  · have HB0 := hide ((Blk.new w 37 US.zero.cells).below' (zero_cells ▸ b1))
    have B1 := hide (((Below.refl w.heap.size w).alloc (Nat.le_refl _) _).trans (b1.mono (by simp)))
    have HU := hide hu
    clear b1 hu Q1
    go_wp2_with (refine wpList_store_row (o := ⟨none, .store _ _ _, _, _, _, _⟩) HB0.out US.zero.cells rfl (by kernel_rfl) rfl 37 _ _ rfl (by kernel_rfl) rfl (by rw [← zero_cells]; rfl) ?_; intro wf hb1 hg1)
    refine bodyPost_ret (results_row_tmp2 rfl _ _ w.heap.size 37 US.zero.cells (0, 0) _ rfl hb1 Tryd.underlying37 rfl (by kernel_rfl)) rfl ⟨?_, ?_⟩
    · exact B1.out.grown hg1 (by have := HB0.out.lt; omega) (fun k hk => by cases hk; omega)
    · rw [readU_form HU.out]; rfl
end Go.Proofs.YtdohebhbiokljaaDoor

/- The contracts of the program's Write and Check, said of a Ueb. -/
namespace Go.Proofs.YtdohebhbiokljaaDoor
open Go.RowKit

def US.in64 (u : US) : Prop := (-9223372036854775808 ≤ u.k ∧ u.k ≤ 9223372036854775807) ∧ (-9223372036854775808 ≤ u.n ∧ u.n ≤ 9223372036854775807) ∧ (-9223372036854775808 ≤ u.seg ∧ u.seg ≤ 9223372036854775807) ∧ (-9223372036854775808 ≤ u.size ∧ u.size ≤ 9223372036854775807)
theorem US.may_in64 {u : US} (h : u.may) : u.in64 := by
  have := agOK_in h
  unfold US.in64
  omega
theorem writeU_ok (u : US) (hw : u.wf) (ha : u.may) (w : World) (ht : Tab w) :
    Calls Tryd.prog 17 #[.agg u.cells] w fun e w' => Below w.heap.size w w' ∧ ∃ A c, e = .returned (.tuple #[.slice A (writeU u).length c, .int .i64 0]) ∧ Own w' w.heap.size 5 (.slice A (writeU u).length c) (writeU u) := by
  obtain ⟨h1, h2, h3, h4⟩ := US.may_in64 ha
  refine Calls.mono (write_ok u.k u.n u.seg u.size u.sh u.sg w h1 h2 h3 h4 hw.1 hw.2 ht ha) ?_
  rintro e w' ⟨b, A, n', c, rfl, o⟩
  have hn : n' = (writeU u).length := by
    obtain ⟨A', c', hv, _⟩ := o.by_.form
    injection hv
  subst hn
  exact ⟨b, A, c, rfl, o⟩
theorem writeU_bad (u : US) (hw : u.wf) (hi : u.in64) (hn : ¬ u.may) (w : World) :
    Calls Tryd.prog 17 #[.agg u.cells] w fun e w' => Below w.heap.size w w' ∧ e = .returned (.tuple #[.slice none 0 0, .int .i64 133]) :=
  write_bad u.k u.n u.seg u.size (bcells u.sh ++ bcells u.sg) w hi.1 hi.2.1 hi.2.2.1 hi.2.2.2 (by simp [hw.1, hw.2]) hn
theorem checkU (u : US) (hi : u.in64) (w : World) :
    Calls Tryd.prog 20 #[.agg u.cells] w fun e w' => Below w.heap.size w w' ∧ e = .returned (.int .i64 (if agOK u.k u.n u.seg u.size then 0 else 133)) :=
  check_any_ueb u.k u.n u.seg u.size (bcells u.sh ++ bcells u.sg) w hi.1 hi.2.1 hi.2.2.1 hi.2.2.2
theorem writeU_len {u : US} (hw : u.wf) (ha : u.may) : (writeU u).length ≤ 67108864 := by
  obtain ⟨h1, h2, h3, h4⟩ := US.may_in64 ha
  have hm := uebRows_may u.k u.n u.seg u.size u.sh u.sg h1 h2 h3 h4 hw.1 hw.2
  have h5 := encs_len _ 64 (may_len hm) (may_mem hm)
  unfold writeU
  omega
end Go.Proofs.YtdohebhbiokljaaDoor

/- Numbers as bytes, the highest first, plainly. -/
namespace Go.Proofs.YtdohebhbiokljaaDoor
open Go.RowKit

/-- A number in n bytes, the highest first. -/
def bigL (x n : Nat) : List UInt8 := (List.range n).map fun i => UInt8.ofNat (x / 256 ^ (n - 1 - i))
@[simp] theorem bigL_length (x n : Nat) : (bigL x n).length = n := by simp [bigL]
theorem bigL_get (x n i : Nat) (h : i < n) : (bigL x n)[i]? = some (UInt8.ofNat (x / 256 ^ (n - 1 - i))) := by simp [bigL, h]
/-- The last k bytes written, noughts ahead. -/
def bigF (x n k : Nat) : List UInt8 := List.replicate (n - k) 0 ++ (bigL x n).drop (n - k)
theorem bigF_zero (x n : Nat) : bigF x n 0 = List.replicate n 0 := by simp [bigF]
theorem bigF_full (x n : Nat) : bigF x n n = bigL x n := by simp [bigF]
theorem bigF_length (x n k : Nat) : (bigF x n k).length = n := by simp only [bigF, List.length_append, List.length_replicate, List.length_drop, bigL_length]; omega
theorem bigF_set (x n k : Nat) (h : k < n) : (bigF x n k).set (n - 1 - k) (UInt8.ofNat (x / 256 ^ k)) = bigF x n (k + 1) := by
  apply List.ext_getElem?
  intro i
  have hl : n - 1 - k < (bigF x n k).length := by rw [bigF_length]; omega
  rw [List.getElem?_set]
  unfold bigF at hl ⊢
  by_cases h1 : i < n - 1 - k
  · rw [if_neg (by omega), List.getElem?_append_left (by simp; omega), List.getElem?_append_left (by simp; omega), List.getElem?_replicate, List.getElem?_replicate, if_pos (by omega), if_pos (by omega)]
  · by_cases h2 : i = n - 1 - k
    · subst h2
      rw [if_pos rfl, if_pos hl, List.getElem?_append_right (by simp; omega), List.length_replicate, List.getElem?_drop, bigL_get _ _ _ (by omega)]
      congr 4
      omega
    · rw [if_neg (by omega), List.getElem?_append_right (by simp; omega), List.getElem?_append_right (by simp; omega), List.length_replicate, List.length_replicate, List.getElem?_drop, List.getElem?_drop]
      congr 1
      omega
/-- The first k bytes. -/
theorem bigL_take (x n k : Nat) (h : k < n) : (bigL x n).take (k + 1) = (bigL x n).take k ++ [UInt8.ofNat (x / 256 ^ (n - 1 - k))] := take_snoc _ _ _ (bigL_get x n k h)
theorem u8_of (m : Nat) : ((UInt8.ofNat m).toNat : Int) = (m : Int) % 256 := by simp [UInt8.toNat_ofNat']
theorem byte_of (x i : Nat) : (x : Int) / 2 ^ (8 * i) % 256 = ((UInt8.ofNat (x / 256 ^ i)).toNat : Int) := by
  rw [u8_of, show (256 : Nat) ^ i = 2 ^ (8 * i) by rw [show (256 : Nat) = 2 ^ 8 from rfl, ← Nat.pow_mul]]
  simp
theorem bigF_cells (x n k j : Nat) (h : k < n) (hj : n - 1 - k = j) : (bcells (bigF x n k)).toArray.setIfInBounds j (.int .u8 ((x : Int) / 2 ^ (8 * k) % 256)) = (bcells (bigF x n (k + 1))).toArray := by
  rw [← bigF_set x n k h, hj, byte_of]
  simp [bcells, List.map_set]
end Go.Proofs.YtdohebhbiokljaaDoor

/- Shares' bytes, plainly: written, opened; there and back. -/
namespace Go.Proofs.YtdohebhbiokljaaDoor
open Go.RowKit

/-- A front: its number, Ueb, chain, block tree, segment tree. -/
structure FS where
  num : Int
  u : US
  ch : List (List UInt8)
  bs : List (List UInt8)
  sg : List (List UInt8)
structure SS where
  f : FS
  data : List (List UInt8)
def Dg (l : List (List UInt8)) : Prop := ∀ x ∈ l, x.length = 32
def FS.wf (f : FS) : Prop := f.u.wf ∧ Dg f.ch ∧ Dg f.bs ∧ Dg f.sg
/-- The sizes of a Ueb's parts: the chain, a tree's nodes, the segments, a block, the last block. -/
def CU (u : US) : Nat := chainLen u.n.toNat
def SG (u : US) : Nat := upN u.size.toNat u.seg.toNat
def TU (u : US) : Nat := 2 * wid (SG u) - 1
def BL (u : US) : Nat := u.seg.toNat / u.k.toNat
def LS (u : US) : Nat := upN (u.size.toNat - (SG u - 1) * u.seg.toNat) u.k.toNat
def pl (u : US) (L : Nat) : Nat → Nat
  | 0 => 36
  | 1 => 36 + L
  | 2 => 36 + L + 32 * CU u
  | 3 => 36 + L + 32 * CU u + 32 * TU u
  | 4 => 36 + L + 32 * CU u + 32 * TU u + 32 * TU u
  | _ => 36 + L + 32 * CU u + 32 * TU u + 32 * TU u + ((SG u - 1) * BL u + LS u)
theorem u_bounds {u : US} (h : u.may) : 1 ≤ SG u ∧ SG u ≤ 512 ∧ BL u ≤ 65536 ∧ LS u ≤ BL u ∧ 1 ≤ LS u ∧ CU u ≤ 10 ∧ TU u ≤ 1023 ∧ 1 ≤ TU u ∧ u.n ≤ 255 ∧ 1 ≤ u.n := by
  obtain ⟨K, N, G, Z, sh, sg⟩ := u
  obtain ⟨⟨h1, h2, h3, h4, h5⟩, h6, h7, h8, h9, h10⟩ := h
  unfold SG TU BL LS CU
  unfold SG
  simp only at *
  obtain ⟨k, rfl⟩ := Int.eq_ofNat_of_zero_le (show 0 ≤ K by omega)
  obtain ⟨n, rfl⟩ := Int.eq_ofNat_of_zero_le (show 0 ≤ N by omega)
  obtain ⟨g, rfl⟩ := Int.eq_ofNat_of_zero_le (show 0 ≤ G by omega)
  obtain ⟨z, rfl⟩ := Int.eq_ofNat_of_zero_le (show 0 ≤ Z by omega)
  simp only [Int.toNat_natCast] at *
  have hs := upN_spec z g (by omega) (by omega)
  have hb1 : g / k ≤ upN 65536 k := by omega
  have hb2 := upN_le 65536 k (by omega)
  have hkg : k ∣ g := Nat.dvd_of_mod_eq_zero (by omega)
  have hc := chainLen_le n
  have hw := wid_le (upN z g)
  have hw1 := wid_pos (upN z g)
  obtain ⟨q, hq⟩ := hkg
  have hqb : g / k = q := by rw [hq]; exact Nat.mul_div_cancel_left q (by omega)
  have ht : 1 ≤ z - (upN z g - 1) * g := by omega
  have ht2 : z - (upN z g - 1) * g ≤ g := by
    have : (upN z g - 1) * g + g = upN z g * g := by
      conv => rhs; rw [show upN z g = (upN z g - 1) + 1 by omega]
      rw [Nat.add_mul, Nat.one_mul]
    omega
  have hl := upN_spec (z - (upN z g - 1) * g) k (by omega) ht
  have hl2 : upN (z - (upN z g - 1) * g) k ≤ q := by
    refine Nat.le_of_lt_succ (Nat.lt_of_mul_lt_mul_right (a := k) (show upN (z - (upN z g - 1) * g) k * k < (q + 1) * k from ?_))
    have h1 : (upN (z - (upN z g - 1) * g) k - 1) * k + k = upN (z - (upN z g - 1) * g) k * k := by
      conv => rhs; rw [show upN (z - (upN z g - 1) * g) k = (upN (z - (upN z g - 1) * g) k - 1) + 1 by omega]
      rw [Nat.add_mul, Nat.one_mul]
    have h2 : (q + 1) * k = k * q + k := by rw [Nat.add_mul, Nat.one_mul, Nat.mul_comm]
    omega
  refine ⟨hs.1, by omega, by omega, by omega, hl.1, hc, by omega, by omega, by omega, by omega⟩
theorem pl_lt {u : US} (h : u.may) {L : Nat} (hL : L ≤ 67108864) (i : Nat) : pl u L i < 4294967296 := by
  obtain ⟨h1, h2, h3, h4, h5, h6, h7, h8, _⟩ := u_bounds h
  have : (SG u - 1) * BL u ≤ 511 * 65536 := Nat.mul_le_mul (by omega) h3
  unfold pl
  split <;> omega
/-- Four bytes. -/
def bw4 (x : Nat) : List UInt8 := [UInt8.ofNat (x / 16777216), UInt8.ofNat (x / 65536), UInt8.ofNat (x / 256), UInt8.ofNat x]
theorem bigL_bw4 (x : Nat) : bigL x 4 = bw4 x := by
  simp [bigL, bw4, List.range_succ]
def vw4 (a b c d : UInt8) : Nat := ((a.toNat * 256 + b.toNat) * 256 + c.toNat) * 256 + d.toNat
def val4 : List UInt8 → Nat
  | [a, b, c, d] => vw4 a b c d
  | _ => 0
theorem vw4_lt (a b c d : UInt8) : vw4 a b c d < 4294967296 := by
  unfold vw4
  have := a.toNat_lt; have := b.toNat_lt; have := c.toNat_lt; have := d.toNat_lt
  omega
theorem val4_bw4 {x : Nat} (h : x < 4294967296) : val4 (bw4 x) = x := by
  simp only [bw4, val4, vw4, UInt8.toNat_ofNat']
  omega
theorem bw4_val4 {l : List UInt8} (h : l.length = 4) : bw4 (val4 l) = l := by
  match l, h with
  | [a, b, c, d], _ =>
    have h1 := a.toNat_lt; have h2 := b.toNat_lt; have h3 := c.toNat_lt; have h4 := d.toNat_lt
    have e : ∀ (x : UInt8) (n : Nat), n % 256 = x.toNat → UInt8.ofNat n = x := fun x n hx => by
      apply UInt8.toNat_inj.1
      rw [UInt8.toNat_ofNat', hx]
    simp only [val4, bw4, vw4]
    rw [e a _ (by omega), e b _ (by omega), e c _ (by omega), e d _ (by omega)]
def w4 (b : List UInt8) (at_ : Nat) : Nat := val4 ((b.drop at_).take 4)
theorem val4_lt (l : List UInt8) : val4 l < 4294967296 := by
  unfold val4
  split
  · exact vw4_lt _ _ _ _
  · omega
theorem w4_lt (b : List UInt8) (i : Nat) : w4 b i < 4294967296 := val4_lt _
def mark4 : List UInt8 := [82, 79, 79, 77]
def hdF (num : Nat) (u : US) (L : Nat) : List UInt8 :=
  mark4 ++ (bw4 1 ++ (bw4 num ++ (bw4 (pl u L 0) ++ (bw4 (pl u L 1) ++ (bw4 (pl u L 2) ++ (bw4 (pl u L 3) ++ (bw4 (pl u L 4) ++ bw4 (pl u L 5))))))))
theorem hdF_length (num : Nat) (u : US) (L : Nat) : (hdF num u L).length = 36 := by simp [hdF, mark4, bw4]
def okF (f : FS) : Prop := f.u.may ∧ 0 ≤ f.num ∧ f.num < f.u.n ∧ f.ch.length = CU f.u ∧ f.bs.length = TU f.u ∧ f.sg.length = TU f.u
def packF (f : FS) : List UInt8 := hdF f.num.toNat f.u (writeU f.u).length ++ (writeU f.u ++ (f.ch.flatten ++ (f.bs.flatten ++ f.sg.flatten)))
def lens (u : US) : List Nat := (List.range (SG u)).map fun j => if j + 1 = SG u then LS u else BL u
def okS (s : SS) : Prop := okF s.f ∧ s.data.map List.length = lens s.f.u
def packS (s : SS) : List UInt8 := packF s.f ++ s.data.flatten
/-- Pieces of 32 bytes. -/
def ck : Nat → List UInt8 → List (List UInt8)
  | 0, _ => []
  | n + 1, l => l.take 32 :: ck n (l.drop 32)
theorem ck_length : ∀ (n : Nat) (l : List UInt8), (ck n l).length = n
  | 0, _ => rfl
  | n + 1, l => by simp [ck, ck_length n]
theorem ck_flat : ∀ (n : Nat) (l : List UInt8), l.length = 32 * n → (ck n l).flatten = l
  | 0, l, h => by simp at h; simp [ck, h]
  | n + 1, l, h => by
    have := ck_flat n (l.drop 32) (by simp; omega)
    simp only [ck, List.flatten_cons, this, List.take_append_drop]
theorem ck_dg : ∀ (n : Nat) (l : List UInt8), 32 * n ≤ l.length → Dg (ck n l)
  | 0, _, _ => fun x hx => by simp [ck] at hx
  | n + 1, l, h => fun x hx => by
    simp only [ck, List.mem_cons] at hx
    rcases hx with rfl | hx
    · simp; omega
    · exact ck_dg n (l.drop 32) (by simp; omega) x hx
theorem ck_of : ∀ (D : List (List UInt8)), Dg D → ck D.length D.flatten = D
  | [], _ => rfl
  | x :: D, h => by
    have hx : x.length = 32 := h x (by simp)
    simp only [List.length_cons, ck, List.flatten_cons]
    rw [show (x ++ D.flatten).take 32 = x by rw [← hx, List.take_left], show (x ++ D.flatten).drop 32 = D.flatten by rw [← hx, List.drop_left], ck_of D fun y hy => h y (by simp [hy])]
theorem flat_len {D : List (List UInt8)} (h : Dg D) : D.flatten.length = 32 * D.length := by
  induction D with
  | nil => rfl
  | cons x D ih =>
    have hx : x.length = 32 := h x (by simp)
    have := ih fun y hy => h y (by simp [hy])
    simp only [List.flatten_cons, List.length_append, List.length_cons]
    omega
def cutD : List Nat → List UInt8 → List (List UInt8)
  | [], _ => []
  | n :: ns, l => l.take n :: cutD ns (l.drop n)
theorem cutD_of : ∀ (D : List (List UInt8)), cutD (D.map List.length) D.flatten = D
  | [] => rfl
  | x :: D => by simp only [List.map_cons, cutD, List.flatten_cons, List.take_left, List.drop_left, cutD_of D]
theorem cutD_flat : ∀ (ns : List Nat) (l : List UInt8), l.length = ns.sum → (cutD ns l).flatten = l
  | [], l, h => by simp at h; simp [cutD, h]
  | n :: ns, l, h => by
    rw [List.sum_cons] at h
    have := cutD_flat ns (l.drop n) (by simp; omega)
    simp only [cutD, List.flatten_cons, this, List.take_append_drop]
theorem cutD_lens : ∀ (ns : List Nat) (l : List UInt8), ns.sum ≤ l.length → (cutD ns l).map List.length = ns
  | [], _, _ => rfl
  | n :: ns, l, h => by
    rw [List.sum_cons] at h
    have := cutD_lens ns (l.drop n) (by simp; omega)
    simp only [cutD, List.map_cons, this, List.length_take]
    rw [Nat.min_eq_left (by omega)]
theorem lens_sum {u : US} (h : 1 ≤ SG u) : (lens u).sum = (SG u - 1) * BL u + LS u := by
  have key : ∀ n, n < SG u → ((List.range n).map fun j => if j + 1 = SG u then LS u else BL u).sum = n * BL u := by
    intro n
    induction n with
    | zero => intro _; simp
    | succ n ih =>
      intro hn
      rw [List.range_succ, List.map_append, List.sum_append, ih (by omega), List.map_singleton, List.sum_singleton, if_neg (by omega), Nat.add_mul, Nat.one_mul]
  unfold lens
  conv => lhs; rw [show SG u = (SG u - 1) + 1 by omega, List.range_succ, List.map_append, List.sum_append, List.map_singleton, List.sum_singleton]
  rw [← show SG u = (SG u - 1) + 1 by omega, if_pos (by omega), key _ (by omega)]
/-- The bytes between two places. -/
def sub (b : List UInt8) (i j : Nat) : List UInt8 := (b.drop i).take (j - i)
def txt (b : List UInt8) : List UInt8 := sub b 36 (w4 b 16)
def openF (e : Nat) (b : List UInt8) : Option FS × Nat :=
  if b.length < 36 then (none, b.length)
  else if b.take 4 ≠ mark4 then (none, 0)
  else if w4 b 4 ≠ 1 then (none, 4)
  else if w4 b 12 ≠ 36 then (none, 12)
  else if w4 b 16 < 36 ∨ b.length < w4 b 16 then (none, 16)
  else if (readU (txt b)).2.2 ≠ 0 then (none, 36)
  else if (readU (txt b)).1.n ≤ (w4 b 8 : Int) then (none, 8)
  else if w4 b 20 ≠ pl (readU (txt b)).1 (w4 b 16 - 36) 2 then (none, 20)
  else if w4 b 24 ≠ pl (readU (txt b)).1 (w4 b 16 - 36) 3 then (none, 24)
  else if w4 b 28 ≠ pl (readU (txt b)).1 (w4 b 16 - 36) 4 then (none, 28)
  else if w4 b 32 ≠ pl (readU (txt b)).1 (w4 b 16 - 36) 5 then (none, 32)
  else if b.length ≠ pl (readU (txt b)).1 (w4 b 16 - 36) e then (none, min b.length (pl (readU (txt b)).1 (w4 b 16 - 36) e))
  else (some ⟨(w4 b 8 : Int), (readU (txt b)).1, ck (CU (readU (txt b)).1) (sub b (pl (readU (txt b)).1 (w4 b 16 - 36) 1) (pl (readU (txt b)).1 (w4 b 16 - 36) 2)),
    ck (TU (readU (txt b)).1) (sub b (pl (readU (txt b)).1 (w4 b 16 - 36) 2) (pl (readU (txt b)).1 (w4 b 16 - 36) 3)), ck (TU (readU (txt b)).1) (sub b (pl (readU (txt b)).1 (w4 b 16 - 36) 3) (pl (readU (txt b)).1 (w4 b 16 - 36) 4))⟩, 0)
def openS (b : List UInt8) : Option SS × Nat :=
  match openF 5 b with
  | (some f, _) => (some ⟨f, cutD (lens f.u) (b.drop (pl f.u (w4 b 16 - 36) 4))⟩, 0)
  | (none, at_) => (none, at_)
theorem cond_at {c : Prop} [Decidable c] {x : Option FS × Nat} {k at_ : Nat} (h : (if c then (none, k) else x) = (none, at_)) : (at_ = k ∧ c) ∨ (¬ c ∧ x = (none, at_)) := by
  by_cases hc : c
  · rw [if_pos hc] at h
    simp only [Prod.mk.injEq, true_and] at h
    exact .inl ⟨h.symm, hc⟩
  · rw [if_neg hc] at h
    exact .inr ⟨hc, h⟩
theorem openF_at {e : Nat} {b : List UInt8} {at_ : Nat} (h : openF e b = (none, at_)) : at_ ≤ b.length := by
  unfold openF at h
  rcases cond_at h with ⟨h, _⟩ | ⟨h0, h⟩
  · omega
  rcases cond_at h with ⟨h, _⟩ | ⟨_, h⟩
  · omega
  rcases cond_at h with ⟨h, _⟩ | ⟨_, h⟩
  · omega
  rcases cond_at h with ⟨h, _⟩ | ⟨_, h⟩
  · omega
  rcases cond_at h with ⟨h, _⟩ | ⟨_, h⟩
  · omega
  rcases cond_at h with ⟨h, _⟩ | ⟨_, h⟩
  · omega
  rcases cond_at h with ⟨h, _⟩ | ⟨_, h⟩
  · omega
  rcases cond_at h with ⟨h, _⟩ | ⟨_, h⟩
  · omega
  rcases cond_at h with ⟨h, _⟩ | ⟨_, h⟩
  · omega
  rcases cond_at h with ⟨h, _⟩ | ⟨_, h⟩
  · omega
  rcases cond_at h with ⟨h, _⟩ | ⟨_, h⟩
  · omega
  rcases cond_at h with ⟨h, _⟩ | ⟨_, h⟩
  · omega
  simp at h
theorem cond_ok {c : Prop} [Decidable c] {x : Option FS × Nat} {k : Nat} {f : FS} {m : Nat} (h : (if c then (none, k) else x) = (some f, m)) : ¬ c ∧ x = (some f, m) := by
  by_cases hc : c
  · rw [if_pos hc] at h
    simp at h
  · rw [if_neg hc] at h
    exact ⟨hc, h⟩
/-- What stands when a front was opened. -/
structure Opened (e : Nat) (b : List UInt8) (f : FS) : Prop where
  long : 36 ≤ b.length
  mrk : b.take 4 = mark4
  form : w4 b 4 = 1
  head : w4 b 12 = 36
  text : 36 ≤ w4 b 16 ∧ w4 b 16 ≤ b.length
  ueb : readU (txt b) = (f.u, 0, 0)
  num : f.num = (w4 b 8 : Int) ∧ (w4 b 8 : Int) < f.u.n
  p2 : w4 b 20 = pl f.u (w4 b 16 - 36) 2
  p3 : w4 b 24 = pl f.u (w4 b 16 - 36) 3
  p4 : w4 b 28 = pl f.u (w4 b 16 - 36) 4
  p5 : w4 b 32 = pl f.u (w4 b 16 - 36) 5
  len : b.length = pl f.u (w4 b 16 - 36) e
  ch : f.ch = ck (CU f.u) (sub b (pl f.u (w4 b 16 - 36) 1) (pl f.u (w4 b 16 - 36) 2))
  bs : f.bs = ck (TU f.u) (sub b (pl f.u (w4 b 16 - 36) 2) (pl f.u (w4 b 16 - 36) 3))
  sg : f.sg = ck (TU f.u) (sub b (pl f.u (w4 b 16 - 36) 3) (pl f.u (w4 b 16 - 36) 4))
theorem openF_ok {e : Nat} {b : List UInt8} {f : FS} {m : Nat} (h : openF e b = (some f, m)) : Opened e b f ∧ m = 0 := by
  unfold openF at h
  obtain ⟨h0, h⟩ := cond_ok h
  obtain ⟨h1, h⟩ := cond_ok h
  obtain ⟨h2, h⟩ := cond_ok h
  obtain ⟨h3, h⟩ := cond_ok h
  obtain ⟨h4, h⟩ := cond_ok h
  obtain ⟨h5, h⟩ := cond_ok h
  obtain ⟨h6, h⟩ := cond_ok h
  obtain ⟨h7, h⟩ := cond_ok h
  obtain ⟨h8, h⟩ := cond_ok h
  obtain ⟨h9, h⟩ := cond_ok h
  obtain ⟨h10, h⟩ := cond_ok h
  obtain ⟨h11, h⟩ := cond_ok h
  simp only [Prod.mk.injEq, Option.some.injEq] at h
  obtain ⟨rfl, hm⟩ := h
  refine ⟨⟨by omega, Classical.not_not.1 h1, by omega, by omega, by omega, ?_, ⟨rfl, by simp only; omega⟩, by simp only; omega, by simp only; omega, by simp only; omega, by simp only; omega, by simp only; omega, rfl, rfl, rfl⟩, hm.symm⟩
  rcases readU_cases (txt b) with ⟨u, hu⟩ | ⟨p, q, hu, hq, _⟩
  · rw [hu]
  · rw [hu] at h5; exact absurd h5 (by simp; exact hq)
theorem openF_of {e : Nat} {b : List UInt8} {f : FS} (h : Opened e b f) : openF e b = (some f, 0) := by
  obtain ⟨num, u, ch, bs, sg⟩ := f
  obtain ⟨h0, h1, h2, h3, h4, h5, ⟨h6, h6'⟩, h7, h8, h9, h10, h11, h12, h13, h14⟩ := h
  simp only at *
  unfold openF
  rw [h5]
  simp only
  rw [if_neg (by omega), if_neg (by simp [h1]), if_neg (by omega), if_neg (by omega), if_neg (by omega), if_neg (by omega), if_neg (by omega), if_neg (by omega), if_neg (by omega), if_neg (by omega), if_neg (by omega), if_neg (by omega), h6, h12, h13, h14]
/-- Bytes in pieces. -/
theorem take_split (b : List UInt8) (i n m : Nat) : (b.drop i).take (n + m) = (b.drop i).take n ++ (b.drop (i + n)).take m := by
  rw [List.take_add, List.drop_drop]
theorem head_split (b : List UInt8) : b.take 36 = b.take 4 ++ ((b.drop 4).take 4 ++ ((b.drop 8).take 4 ++ ((b.drop 12).take 4 ++ ((b.drop 16).take 4 ++ ((b.drop 20).take 4 ++ ((b.drop 24).take 4 ++ ((b.drop 28).take 4 ++ (b.drop 32).take 4))))))) := by
  have := take_split b 0 4 32
  simp only [List.drop_zero] at this
  rw [this, take_split b _ 4 28, take_split b _ 4 24, take_split b _ 4 20, take_split b _ 4 16, take_split b _ 4 12, take_split b _ 4 8, take_split b _ 4 4]
theorem bw4_w4 {b : List UInt8} {i : Nat} (h : i + 4 ≤ b.length) : (b.drop i).take 4 = bw4 (w4 b i) := (bw4_val4 (by simp; omega)).symm
theorem sub_length {b : List UInt8} {i j : Nat} (h : j ≤ b.length) : (sub b i j).length = j - i := by simp [sub]; omega
theorem sub_glue (b : List UInt8) {i j k : Nat} (h1 : i ≤ j) (h2 : j ≤ k) : sub b i j ++ sub b j k = sub b i k := by
  unfold sub
  rw [show k - i = (j - i) + (k - j) by omega, take_split, show i + (j - i) = j by omega]
theorem sub_all (b : List UInt8) (i : Nat) : sub b i b.length = b.drop i := by
  unfold sub
  rw [List.take_of_length_le (by simp)]
theorem pl_0 (u : US) (L : Nat) : pl u L 0 = 36 := rfl
theorem pl_1 (u : US) (L : Nat) : pl u L 1 = 36 + L := rfl
theorem pl_2 (u : US) (L : Nat) : pl u L 2 = pl u L 1 + 32 * CU u := rfl
theorem pl_3 (u : US) (L : Nat) : pl u L 3 = pl u L 2 + 32 * TU u := rfl
theorem pl_4 (u : US) (L : Nat) : pl u L 4 = pl u L 3 + 32 * TU u := rfl
theorem pl_5 (u : US) (L : Nat) : pl u L 5 = pl u L 4 + ((SG u - 1) * BL u + LS u) := rfl
/-- The text's length is the Ueb's. -/
theorem Opened.txt_len {e : Nat} {b : List UInt8} {f : FS} (h : Opened e b f) : (writeU f.u).length = w4 b 16 - 36 := by
  have := (readU_one h.ueb).1
  rw [← this]
  exact sub_length h.text.2
theorem Opened.may {e : Nat} {b : List UInt8} {f : FS} (h : Opened e b f) : f.u.may := (readU_one h.ueb).2.2
theorem Opened.okF {e : Nat} {b : List UInt8} {f : FS} (h : Opened e b f) : okF f :=
  ⟨h.may, by have := h.num.1; omega, by have := h.num; omega, by rw [h.ch, ck_length], by rw [h.bs, ck_length], by rw [h.sg, ck_length]⟩
/-- What was opened is the bytes up to the blocks. -/
theorem Opened.pack {e : Nat} {b : List UInt8} {f : FS} (h : Opened e b f) (hl : pl f.u (w4 b 16 - 36) 4 ≤ b.length) : packF f = b.take (pl f.u (w4 b 16 - 36) 4) := by
  have ht := h.txt_len
  have h4 := pl_4 f.u (w4 b 16 - 36)
  have h3 := pl_3 f.u (w4 b 16 - 36)
  have h2 := pl_2 f.u (w4 b 16 - 36)
  have h1 := pl_1 f.u (w4 b 16 - 36)
  have hx := h.text
  have e1 : hdF f.num.toNat f.u (writeU f.u).length = sub b 0 36 := by
    have hs := head_split b
    have hlong := h.long
    unfold sub
    rw [List.drop_zero, Nat.sub_zero, hs, h.mrk, bw4_w4 (by omega), bw4_w4 (by omega), bw4_w4 (by omega), bw4_w4 (by omega), bw4_w4 (by omega), bw4_w4 (by omega), bw4_w4 (by omega), bw4_w4 (by omega), h.form, h.head, h.p2, h.p3, h.p4, h.p5]
    unfold hdF
    rw [ht, pl_0, pl_1, h.num.1, Int.toNat_natCast, show 36 + (w4 b 16 - 36) = w4 b 16 by omega]
  have e2 : writeU f.u = sub b 36 (pl f.u (w4 b 16 - 36) 1) := by
    rw [h1, show 36 + (w4 b 16 - 36) = w4 b 16 by omega]
    exact (readU_one h.ueb).1.symm
  have e3 : f.ch.flatten = sub b (pl f.u (w4 b 16 - 36) 1) (pl f.u (w4 b 16 - 36) 2) := by
    rw [h.ch]
    exact ck_flat _ _ (by rw [sub_length (by omega)]; omega)
  have e4 : f.bs.flatten = sub b (pl f.u (w4 b 16 - 36) 2) (pl f.u (w4 b 16 - 36) 3) := by
    rw [h.bs]
    exact ck_flat _ _ (by rw [sub_length (by omega)]; omega)
  have e5 : f.sg.flatten = sub b (pl f.u (w4 b 16 - 36) 3) (pl f.u (w4 b 16 - 36) 4) := by
    rw [h.sg]
    exact ck_flat _ _ (by rw [sub_length (by omega)]; omega)
  unfold packF
  rw [e1, e2, e3, e4, e5, sub_glue b (by omega) (by omega), sub_glue b (by omega) (by omega), sub_glue b (by omega) (by omega), sub_glue b (by omega) (by omega)]
  simp [sub]
theorem openF_one {b : List UInt8} {f : FS} {m : Nat} (h : openF 4 b = (some f, m)) : packF f = b ∧ okF f := by
  obtain ⟨ho, _⟩ := openF_ok h
  refine ⟨?_, ho.okF⟩
  rw [ho.pack (by rw [← ho.len]; omega), ← ho.len, List.take_length]
theorem openS_one {b : List UInt8} {s : SS} {m : Nat} (h : openS b = (some s, m)) : packS s = b ∧ okS s := by
  unfold openS at h
  rcases hf : openF 5 b with ⟨_ | f, k⟩
  · rw [hf] at h; simp at h
  · rw [hf] at h
    simp only [Prod.mk.injEq, Option.some.injEq] at h
    obtain ⟨rfl, _⟩ := h
    obtain ⟨ho, _⟩ := openF_ok hf
    have h5 := pl_5 f.u (w4 b 16 - 36)
    have hlen := ho.len
    have hsum := lens_sum (u_bounds ho.may).1
    have hdl : (b.drop (pl f.u (w4 b 16 - 36) 4)).length = (lens f.u).sum := by rw [List.length_drop]; omega
    refine ⟨?_, ho.okF, cutD_lens _ _ (by omega)⟩
    unfold packS
    simp only
    rw [ho.pack (by omega), cutD_flat _ _ hdl, List.take_append_drop]
/-- There and back. -/
theorem w4_hd (num : Nat) (u : US) (L : Nat) (r : List UInt8) : (hdF num u L ++ r).take 4 = mark4 ∧ ((hdF num u L ++ r).drop 4).take 4 = bw4 1 ∧ ((hdF num u L ++ r).drop 8).take 4 = bw4 num ∧ ((hdF num u L ++ r).drop 12).take 4 = bw4 (pl u L 0) ∧ ((hdF num u L ++ r).drop 16).take 4 = bw4 (pl u L 1) ∧
    ((hdF num u L ++ r).drop 20).take 4 = bw4 (pl u L 2) ∧ ((hdF num u L ++ r).drop 24).take 4 = bw4 (pl u L 3) ∧ ((hdF num u L ++ r).drop 28).take 4 = bw4 (pl u L 4) ∧ ((hdF num u L ++ r).drop 32).take 4 = bw4 (pl u L 5) := by
  unfold hdF bw4 mark4
  refine ⟨rfl, rfl, rfl, rfl, rfl, rfl, rfl, rfl, rfl⟩
theorem opened_pack {e : Nat} (f : FS) (hw : f.wf) (ho : okF f) (r : List UInt8) (hr : (packF f).length + r.length = pl f.u (writeU f.u).length e) : Opened e (packF f ++ r) f := by
  obtain ⟨hm, h0, hn, hc, hb, hg⟩ := ho
  obtain ⟨hu, d1, d2, d3⟩ := hw
  have hL := writeU_len hu hm
  have hbd := u_bounds hm
  have hp := pl_lt hm hL
  have l1 := flat_len d1
  have l2 := flat_len d2
  have l3 := flat_len d3
  obtain ⟨T, hT⟩ : ∃ T, T = writeU f.u := ⟨_, rfl⟩
  have hread := readU_write hu hm
  have hbt : packF f ++ r = hdF f.num.toNat f.u T.length ++ (T ++ (f.ch.flatten ++ (f.bs.flatten ++ (f.sg.flatten ++ r)))) := by
    unfold packF
    rw [hT]
    simp only [List.append_assoc]
  rw [← hT] at hread hL hp hr
  have hlen : (packF f ++ r).length = pl f.u T.length e := by rw [List.length_append]; exact hr
  obtain ⟨x1, x2, x3, x4, x5, x6, x7, x8, x9⟩ := w4_hd f.num.toNat f.u T.length (T ++ (f.ch.flatten ++ (f.bs.flatten ++ (f.sg.flatten ++ r))))
  rw [← hbt] at x1 x2 x3 x4 x5 x6 x7 x8 x9
  have y2 : w4 (packF f ++ r) 4 = 1 := by unfold w4; rw [x2]; exact val4_bw4 (by omega)
  have y3 : w4 (packF f ++ r) 8 = f.num.toNat := by unfold w4; rw [x3]; exact val4_bw4 (by omega)
  have y4 : w4 (packF f ++ r) 12 = 36 := by unfold w4; rw [x4]; exact val4_bw4 (hp 0)
  have y5 : w4 (packF f ++ r) 16 = 36 + T.length := by unfold w4; rw [x5]; exact val4_bw4 (hp 1)
  have y6 : w4 (packF f ++ r) 20 = pl f.u T.length 2 := by unfold w4; rw [x6]; exact val4_bw4 (hp 2)
  have y7 : w4 (packF f ++ r) 24 = pl f.u T.length 3 := by unfold w4; rw [x7]; exact val4_bw4 (hp 3)
  have y8 : w4 (packF f ++ r) 28 = pl f.u T.length 4 := by unfold w4; rw [x8]; exact val4_bw4 (hp 4)
  have y9 : w4 (packF f ++ r) 32 = pl f.u T.length 5 := by unfold w4; rw [x9]; exact val4_bw4 (hp 5)
  have hl0 : (packF f ++ r).length = 36 + (T.length + (f.ch.flatten.length + (f.bs.flatten.length + (f.sg.flatten.length + r.length)))) := by
    rw [hbt]; simp only [List.length_append, hdF_length]
  have hs : ∀ (A B C : List UInt8) (i j : Nat), packF f ++ r = A ++ (B ++ C) → A.length = i → i + B.length = j → sub (packF f ++ r) i j = B := fun A B C i j h1 h2 h3 => by
    unfold sub
    rw [h1, ← h2, List.drop_left, show j - A.length = B.length by omega, List.take_left]
  have hS : 36 + T.length - 36 = T.length := by omega
  have t0 : txt (packF f ++ r) = T := by
    unfold txt
    rw [y5]
    exact hs _ _ _ _ _ hbt (hdF_length _ _ _) rfl
  refine ⟨by omega, x1, y2, y4, by omega, by rw [t0]; exact hread, ⟨by rw [y3]; omega, by rw [y3]; omega⟩, by rw [y5, hS]; exact y6, by rw [y5, hS]; exact y7, by rw [y5, hS]; exact y8, by rw [y5, hS]; exact y9, by rw [y5, hS]; exact hlen, ?_, ?_, ?_⟩
  · rw [y5, hS, hs (hdF f.num.toNat f.u T.length ++ T) f.ch.flatten (f.bs.flatten ++ (f.sg.flatten ++ r)) _ _ (by rw [hbt]; simp only [List.append_assoc]) (by simp [hdF_length, pl_1]) (by rw [pl_2]; omega), ← hc, ck_of _ d1]
  · rw [y5, hS, hs (hdF f.num.toNat f.u T.length ++ (T ++ f.ch.flatten)) f.bs.flatten (f.sg.flatten ++ r) _ _ (by rw [hbt]; simp only [List.append_assoc]) (by simp only [List.length_append, hdF_length]; rw [pl_2, pl_1]; omega) (by rw [pl_3]; omega), ← hb, ck_of _ d2]
  · rw [y5, hS, hs (hdF f.num.toNat f.u T.length ++ (T ++ (f.ch.flatten ++ f.bs.flatten))) f.sg.flatten r _ _ (by rw [hbt]; simp only [List.append_assoc]) (by simp only [List.length_append, hdF_length]; rw [pl_3, pl_2, pl_1]; omega) (by rw [pl_4]; omega), ← hg, ck_of _ d3]
theorem packF_len (f : FS) (hw : f.wf) (ho : okF f) : (packF f).length = pl f.u (writeU f.u).length 4 := by
  obtain ⟨hm, h0, hn, hc, hb, hg⟩ := ho
  obtain ⟨hu, d1, d2, d3⟩ := hw
  have l1 := flat_len d1
  have l2 := flat_len d2
  have l3 := flat_len d3
  unfold packF
  simp only [List.length_append, hdF_length]
  rw [pl_4, pl_3, pl_2, pl_1]
  omega
theorem openF_pack (f : FS) (hw : f.wf) (ho : okF f) : openF 4 (packF f) = (some f, 0) := by
  have := openF_of (opened_pack (e := 4) f hw ho [] (by simp [packF_len f hw ho]))
  rwa [List.append_nil] at this
theorem flat_sum (D : List (List UInt8)) : D.flatten.length = (D.map List.length).sum := by simp
theorem openS_pack (s : SS) (hw : s.f.wf) (ho : okS s) : openS (packS s) = (some s, 0) := by
  obtain ⟨h1, h2⟩ := ho
  have hsum := lens_sum (u_bounds h1.1).1
  have hfl := flat_sum s.data
  rw [h2, hsum] at hfl
  have hop := opened_pack (e := 5) s.f hw h1 s.data.flatten (by rw [packF_len s.f hw h1, hfl, ← pl_5])
  have := openF_of hop
  unfold openS packS
  rw [this]
  simp only
  rw [← hop.txt_len, ← packF_len s.f hw h1, List.drop_left, ← h2, cutD_of]
theorem packF_front (s : SS) : (packS s).take (packF s.f).length = packF s.f := by
  unfold packS
  rw [List.take_left]
end Go.Proofs.YtdohebhbiokljaaDoor

/- A region that draws its order, by what each operation's result is known to be once it is done: each such knowledge outlasts whatever is laid later. It holds of every program. -/
namespace Go.Proofs.YtdohebhbiokljaaDoor
open Go Go.RowKit

section
variable {P : Program} {ops : Array Oper} {Q : Exit → Act → World → Prop} {md : Region.Mode}

structure FI (R : World → World → Prop) (a0 : Act) (w0 : World) (n : Nat) (d : Nat → Nat) (S : Nat → World → Value → Prop) (listed : Array Bool) (a : Act) (w : World) : Prop where
  size : listed.size = n
  tsz : a.tmps.size = a0.tmps.size
  df : a.defers = a0.defers
  old : ∀ t, (∀ i, i < n → d i ≠ t) → a.tmps[t]? = a0.tmps[t]?
  bel : R w0 w
  slots : ∀ i, i < n → listed.getD i false = true → ∃ v, a.tmps[d i]? = some v ∧ S i w v

theorem FI.put {R : World → World → Prop} (hRt : ∀ a b c, R a b → R b c → R a c) {a0 : Act} {w0 : World} {n : Nat} {d : Nat → Nat} {S : Nat → World → Value → Prop} {listed : Array Bool} {a : Act} {w W' : World} (h : FI R a0 w0 n d S listed a w)
    (hinj : ∀ i j, i < n → j < n → d i = d j → i = j) (hlt : ∀ i, i < n → d i < a0.tmps.size) (hst : ∀ i, i < n → ∀ W W' v, S i W v → R W W' → S i W' v)
    {i : Nat} (hi : i < n) {v : Value} (hb : R w W') (hv : S i W' v) : FI R a0 w0 n d S (listed.setIfInBounds i true) (a.put (some (d i)) v) W' := by
  refine ⟨by simpa using h.size, by simpa [Act.put] using h.tsz, h.df, fun t ht => ?_, hRt _ _ _ h.bel hb, fun j hj hl => ?_⟩
  · have := ht i hi
    rw [show (a.put (some (d i)) v).tmps[t]? = a.tmps[t]? by simp [Act.put, Array.getElem?_setIfInBounds, this]]
    exact h.old t ht
  · rw [getD_set (by rw [h.size]; exact hi)] at hl
    by_cases e : j = i
    · subst e
      exact ⟨v, by simp [Act.put, h.tsz, hlt j hj], hv⟩
    · rw [if_neg e] at hl
      obtain ⟨x, hx, hs⟩ := h.slots j hj hl
      have hne : d i ≠ d j := fun he => e (hinj i j hi hj he).symm
      exact ⟨x, by simp [Act.put, Array.getElem?_setIfInBounds, hne, hx], hst j hj _ _ _ hs hb⟩

/-- All results put where they belong. -/
def puts (d : Nat → Nat) (v : Nat → Value) (a0 : Act) (n : Nat) : Act := (List.range n).foldl (fun a i => a.put (some (d i)) (v i)) a0
theorem puts_succ (d : Nat → Nat) (v : Nat → Value) (a0 : Act) (n : Nat) : puts d v a0 (n + 1) = (puts d v a0 n).put (some (d n)) (v n) := by simp [puts, List.range_succ]
theorem puts_size (d : Nat → Nat) (v : Nat → Value) (a0 : Act) (n : Nat) : (puts d v a0 n).tmps.size = a0.tmps.size := by
  induction n with
  | zero => rfl
  | succ n ih => rw [puts_succ]; simpa [Act.put] using ih
theorem puts_defers (d : Nat → Nat) (v : Nat → Value) (a0 : Act) (n : Nat) : (puts d v a0 n).defers = a0.defers := by
  induction n with
  | zero => rfl
  | succ n ih => rw [puts_succ]; exact ih
theorem puts_old (d : Nat → Nat) (v : Nat → Value) (a0 : Act) (n t : Nat) (h : ∀ i, i < n → d i ≠ t) : (puts d v a0 n).tmps[t]? = a0.tmps[t]? := by
  induction n with
  | zero => rfl
  | succ n ih =>
    rw [puts_succ, show ((puts d v a0 n).put (some (d n)) (v n)).tmps[t]? = (puts d v a0 n).tmps[t]? by simp [Act.put, Array.getElem?_setIfInBounds, h n (by omega)]]
    exact ih fun i hi => h i (by omega)
theorem puts_at (d : Nat → Nat) (v : Nat → Value) (a0 : Act) (n : Nat) (hinj : ∀ i j, i < n → j < n → d i = d j → i = j) (hlt : ∀ i, i < n → d i < a0.tmps.size) : ∀ i, i < n → (puts d v a0 n).tmps[d i]? = some (v i) := by
  induction n with
  | zero => intro i hi; omega
  | succ n ih =>
    intro i hi
    rw [puts_succ]
    by_cases e : i = n
    · subst e
      simp [Act.put, puts_size, hlt i hi]
    · have hne : d n ≠ d i := fun he => e (hinj n i (by omega) hi he).symm
      rw [show ((puts d v a0 n).put (some (d n)) (v n)).tmps[d i]? = (puts d v a0 n).tmps[d i]? by simp [Act.put, Array.getElem?_setIfInBounds, hne]]
      exact ih (fun i j hi hj => hinj i j (by omega) (by omega)) (fun i hi => hlt i (by omega)) i (by omega)
theorem act_eq {a b : Act} (h1 : a.tmps = b.tmps) (h2 : a.defers = b.defers) : a = b := by
  cases a; cases b; simp_all

theorem region_free (R : World → World → Prop) (hRr : ∀ a, R a a) (hRt : ∀ a b c, R a b → R b c → R a c) (a0 : Act) (w0 : World) (n : Nat) (d : Nat → Nat) (S : Nat → World → Value → Prop) (deps : Nat → List Nat) (hn : ops.size = n)
    (hinj : ∀ i j, i < n → j < n → d i = d j → i = j) (hlt : ∀ i, i < n → d i < a0.tmps.size) (hst : ∀ i, i < n → ∀ W W' v, S i W v → R W W' → S i W' v)
    (hord : ((List.range ops.size).all fun i => ((ops[i]?).map fun o => o.after.all fun e => decide (e.on < i)).getD true) = true)
    (hdeps : ((List.range n).all fun i => (deps i).all fun j => decide (j < n) && ((ops[i]?).map fun o => o.after.any fun e => e.on == j && Region.binds md e).getD false) = true)
    (hstep : ∀ i, i < n → ∀ a W, a.tmps.size = a0.tmps.size → (∀ t, (∀ i, i < n → d i ≠ t) → a.tmps[t]? = a0.tmps[t]?) → R w0 W → (∀ j, j ∈ deps i → ∃ v, a.tmps[d j]? = some v ∧ S j W v) →
      wpOp P ops Q i (fun a' W' => ∃ v, a' = a.put (some (d i)) v ∧ R W W' ∧ S i W' v) a W)
    (hfin : ∀ (v : Nat → Value) W, R w0 W → (∀ i, i < n → S i W (v i)) → Q .normal (puts d v a0 n) W) :
    ∀ fuel listed, listed.toList.count false ≤ fuel → listed.size = n → (∀ i, listed.getD i false = false) → wpAny P md ops Q fuel listed a0 w0 := by
  intro fuel listed hc hs h0
  refine wpAny_inv (FI R a0 w0 n d S) (fun listed a w h => h.size.trans hn.symm) ?step ?fin fuel listed a0 w0 hc ⟨hs, rfl, rfl, fun _ _ => rfl, hRr _, fun i _ hl => by rw [h0 i] at hl; cases hl⟩
  case step =>
    intro listed a W i h hi
    obtain ⟨hlt', hf, o, ho, hdep⟩ := ready_at hi
    have hin : i < n := hn ▸ hlt'
    refine wpOp_mono (fun a' W' hh => ?_) (hstep i hin a W h.tsz h.old h.bel fun j hj => ?_)
    · obtain ⟨v, rfl, hb, hv⟩ := hh
      exact FI.put hRt h hinj hlt hst hin hb hv
    · have h1 := List.all_eq_true.1 (List.all_eq_true.1 hdeps i (List.mem_range.2 hin)) j hj
      rw [Bool.and_eq_true, ho] at h1
      simp only [Option.map_some, Option.getD_some] at h1
      obtain ⟨hjn, he⟩ := h1
      rw [Array.any_eq_true] at he
      obtain ⟨z, hz, he2⟩ := he
      obtain ⟨e, hze⟩ : ∃ e, e = o.after[z] := ⟨_, rfl⟩
      have hem : e ∈ o.after := hze ▸ Array.getElem_mem hz
      rw [← hze, Bool.and_eq_true] at he2
      have hej : e.on = j := by simpa using he2.1
      rw [Array.all_eq_true_iff_forall_mem] at hdep
      have h3 := hdep e hem
      rw [he2.2, hej] at h3
      exact h.slots j (of_decide_eq_true hjn) (by simpa using h3)
  case fin =>
    intro listed a W h hr
    have hall : ∀ i, i < n → listed.getD i false = true := fun i hi => all_ready (h.size.trans hn.symm) hord hr i (by omega)
    have hval : ∀ i, i < n → a.tmps[d i]? = some (a.tmps.getD (d i) undef) ∧ S i W (a.tmps.getD (d i) undef) := fun i hi => by
      obtain ⟨v, hv, hs⟩ := h.slots i hi (hall i hi)
      have : a.tmps.getD (d i) undef = v := by simp [Array.getD_eq_getD_getElem?, hv]
      rw [this]
      exact ⟨hv, hs⟩
    have hae : a = puts d (fun i => a.tmps.getD (d i) undef) a0 n := by
      refine act_eq ?_ (h.df.trans (puts_defers _ _ _ _).symm)
      apply Array.ext_getElem?
      intro t
      by_cases ht : ∃ i, i < n ∧ d i = t
      · obtain ⟨i, hi, rfl⟩ := ht
        rw [(hval i hi).1, puts_at d _ a0 n hinj hlt i hi]
      · have ht' : ∀ i, i < n → d i ≠ t := fun i hi he => ht ⟨i, hi, he⟩
        rw [h.old t ht', puts_old _ _ _ _ _ ht']
    rw [hae]
    exact hfin _ W h.bel fun i hi => (hval i hi).2
/-- An operation that is a value, whatever it is. -/
theorem free_value {R : World → World → Prop} {o : Oper} {i dd : Nat} {a : Act} {W W' : World} {v : Value} {S : World → Value → Prop} (hi : ops[i]? = some o) (hd : o.dst = some dd) (hg : o.guard = none) (hr : (execOp a.eval o).run P W = .ok (.value v) W')
    (hb : R W W') (hs : S W' v) : wpOp P ops Q i (fun a' W' => ∃ v, a' = a.put (some dd) v ∧ R W W' ∧ S W' v) a W :=
  op_value hi hg hr ⟨v, by rw [hd], hb, hs⟩
end
end Go.Proofs.YtdohebhbiokljaaDoor

/- Contracts of numbers as bytes: the program's Big of eight and of four bytes, the document's. -/
namespace Go.Proofs.YtdohebhbiokljaaDoor
open Go.RowKit

set_option maxHeartbeats 1000000 in
theorem width64_any (w : World) : Calls Tryd.prog 161 #[] w fun e w' => e = .returned (.int .i64 8) ∧ w = w' := by
  go_enter Tryd.func161, Tryd.ntmps161
  go_wp2
  go_loopw [1, 2] (fun u1 u2 wr => ((u1 = .int .i64 0 ∧ u2 = .int .u64 18446744073709551615) ∨ (u1 = .int .i64 1 ∧ u2 = .int .u64 72057594037927935) ∨ (u1 = .int .i64 2 ∧ u2 = .int .u64 281474976710655) ∨ (u1 = .int .i64 3 ∧ u2 = .int .u64 1099511627775) ∨ (u1 = .int .i64 4 ∧ u2 = .int .u64 4294967295) ∨ (u1 = .int .i64 5 ∧ u2 = .int .u64 16777215) ∨ (u1 = .int .i64 6 ∧ u2 = .int .u64 65535) ∨ (u1 = .int .i64 7 ∧ u2 = .int .u64 255) ∨ (u1 = .int .i64 8 ∧ u2 = .int .u64 0)) ∧ w = wr) (fun u1 _ _ => 8 - (intOf u1).toNat)
  case atStart => exact ⟨.inl ⟨rfl, rfl⟩, rfl⟩
  case round =>
    obtain ⟨hh, rfl⟩ := hrel
    rcases hh with ⟨rfl, rfl⟩ | ⟨rfl, rfl⟩ | ⟨rfl, rfl⟩ | ⟨rfl, rfl⟩ | ⟨rfl, rfl⟩ | ⟨rfl, rfl⟩ | ⟨rfl, rfl⟩ | ⟨rfl, rfl⟩ | ⟨rfl, rfl⟩
    case inr.inr.inr.inr.inr.inr.inr.inr =>
      go_wp2
      go_ret
      exact ⟨rfl, rfl⟩
    all_goals
      go_wp2
      go_roundw
      case rel => simp
      case measure => simp [intOf]
set_option maxHeartbeats 1000000 in
theorem width32_any (w : World) : Calls Tryd.prog 99 #[] w fun e w' => e = .returned (.int .i64 4) ∧ w = w' := by
  go_enter Tryd.func99, Tryd.ntmps99
  go_wp2
  go_loopw [1, 2] (fun u1 u2 wr => ((u1 = .int .i64 0 ∧ u2 = .int .u32 4294967295) ∨ (u1 = .int .i64 1 ∧ u2 = .int .u32 16777215) ∨ (u1 = .int .i64 2 ∧ u2 = .int .u32 65535) ∨ (u1 = .int .i64 3 ∧ u2 = .int .u32 255) ∨ (u1 = .int .i64 4 ∧ u2 = .int .u32 0)) ∧ w = wr) (fun u1 _ _ => 4 - (intOf u1).toNat)
  case atStart => exact ⟨.inl ⟨rfl, rfl⟩, rfl⟩
  case round =>
    obtain ⟨hh, rfl⟩ := hrel
    rcases hh with ⟨rfl, rfl⟩ | ⟨rfl, rfl⟩ | ⟨rfl, rfl⟩ | ⟨rfl, rfl⟩ | ⟨rfl, rfl⟩
    case inr.inr.inr.inr =>
      go_wp2
      go_ret
      exact ⟨rfl, rfl⟩
    all_goals
      go_wp2
      go_roundw
      case rel => simp
      case measure => simp [intOf]
theorem made_bytes (n : Nat) : madeCells #[.int .u8 0] n = (bcells (List.replicate n 0)).toArray := by
  apply Array.ext
  · simp [madeCells]
  · intro i h1 h2
    simp [madeCells, bcells, Nat.mod_one]
/-- 'make([]byte, l, c)', l and c small. -/
theorem make_bytes (l c : Nat) (hl : l ≤ c) (hc : c ≤ 1000) (w : World) : (Instr.makeSlice 38 (.int .i64 (l : Int)) (.int .i64 (c : Int))).run Tryd.prog w = .ok (.slice (some ⟨w.heap.size, 0, none⟩) l c) (w.alloc (.cells (bcells (List.replicate c 0)).toArray 5)) := by
  obtain ⟨i, hi, hz, h1, h2⟩ := info_parts elem8.hi
  have := run_make (P := Tryd.prog) w 38 5 i _ elem8.ht hi hz .i64 .i64 (l : Int) (c : Int) (by omega) (by omega) (by rw [h2]; omega) (by omega)
  rw [show (Value.int .u8 0).cells = #[.int .u8 0] from rfl, made_bytes, h1] at this
  simpa using this
set_option maxHeartbeats 1000000 in
theorem big64_any (x : Nat) (w : World) (hx : x < 18446744073709551616) :
    Calls Tryd.prog 147 #[.int .u64 (x : Int)] w fun e w' => Below w.heap.size w w' ∧ e = .returned (.slice (some ⟨w.heap.size, 0, none⟩) 8 8) ∧ Own w' w.heap.size 5 (.slice (some ⟨w.heap.size, 0, none⟩) 8 8) (bigL x 8) := by
  have HX := hide hx
  clear hx
  have hmk := make_bytes 8 8 (by omega) (by omega)
  have HMK := hide (fun w => show (Instr.makeSlice 38 (.int .i64 8) (.int .i64 8)).run Tryd.prog w = .ok (.slice (some ⟨w.heap.size, 0, none⟩) 8 8) (w.alloc (.cells (bcells (List.replicate 8 0)).toArray 5)) from hmk w)
  clear hmk
  obtain ⟨Z, hZ⟩ : ∃ Z, Z = (bcells (List.replicate 8 0)).toArray := ⟨_, rfl⟩
  rw [← hZ] at HMK
  have HZ := hide hZ
  clear hZ
  have hmk := HMK.out
  go_enter Tryd.func147, Tryd.ntmps147
  go_wp2_with fail
  refine (width64_any w).mono ?_
  rintro e w1 ⟨rfl, rfl⟩
  go_wp2
  have HI := hide (show Blk (w.alloc (.cells Z 5)) w.heap.size 5 (bcells (bigF x 8 0)).toArray by rw [bigF_zero, ← HZ.out]; exact Blk.new _ _ _)
  go_loopw [11] (fun u11 wr => ∃ i : Nat, i ≤ 8 ∧ u11 = .int .i64 (i : Int) ∧ Blk wr w.heap.size 5 (bcells (bigF x 8 i)).toArray ∧ Below w.heap.size w wr) (fun i _ => 8 - (intOf i).toNat)
  case atStart => exact ⟨0, by omega, rfl, HI.out, (Below.refl _ w).alloc (Nat.le_refl _) _⟩
  case round =>
    clear HI
    obtain ⟨i, hi, rfl, hb, hbel⟩ := hrel
    have HB := hide hb
    clear hb
    by_cases hlt : i < 8
    · obtain ⟨j, hj⟩ : ∃ j, j = 7 - i := ⟨_, rfl⟩
      have e1 : (7 : Int) - (i : Int) = (j : Int) := by omega
      have e3 : (j : Int) < 8 := by omega
      have e4 : (0 : Int) ≤ (j : Int) := by omega
      have e5 : (i : Int) < 8 := by omega
      have gs := HB.out.frozen j
      obtain ⟨z, hz⟩ : ∃ z, wr.cell? ⟨w.heap.size, j, none⟩ = some z := ⟨_, (HB.out.cell j).trans (Array.getElem?_eq_getElem (by simp [bigF_length]; omega))⟩
      have HJ := hide hj
      clear hj
      go_wp2
      go_roundw
      case rel =>
        refine ⟨i + 1, by omega, by go_num, ?_, hbel.setCell (Nat.le_refl _) _⟩
        rw [← bigF_cells x 8 i j hlt (by have := HJ.out; omega)]
        exact HB.out.set_ j _
      case measure => simp [intOf]; omega
    · have hi8 : i = 8 := by omega
      subst hi8
      go_wp2
      go_ret
      refine ⟨hbel, rfl, ?_⟩
      have hh := HB.out
      rw [bigF_full] at hh
      have h2 := hh.own (base := w.heap.size) (n := 8) (cap := 8) (sz := 1) rfl (Nat.le_refl _) (by simp) (Nat.le_refl _) (by unfold maxLen; omega)
      unfold Own
      rw [bigL_length]
      rw [List.take_of_length_le (by simp)] at h2
      simpa using h2

set_option maxHeartbeats 1000000 in
theorem big32_any (x : Nat) (w : World) (hx : x < 4294967296) :
    Calls Tryd.prog 65 #[.int .u32 (x : Int)] w fun e w' => Below w.heap.size w w' ∧ e = .returned (.slice (some ⟨w.heap.size, 0, none⟩) 4 4) ∧ Own w' w.heap.size 5 (.slice (some ⟨w.heap.size, 0, none⟩) 4 4) (bigL x 4) := by
  have hw : IntKind.u64.wrap (x : Int) = (x : Int) := by simp [IntKind.wrap, IntKind.bits, IntKind.signed]; omega
  have HX := hide hx
  clear hx
  have hmk := make_bytes 4 4 (by omega) (by omega)
  have HMK := hide (fun w => show (Instr.makeSlice 38 (.int .i64 4) (.int .i64 4)).run Tryd.prog w = .ok (.slice (some ⟨w.heap.size, 0, none⟩) 4 4) (w.alloc (.cells (bcells (List.replicate 4 0)).toArray 5)) from hmk w)
  clear hmk
  obtain ⟨Z, hZ⟩ : ∃ Z, Z = (bcells (List.replicate 4 0)).toArray := ⟨_, rfl⟩
  rw [← hZ] at HMK
  have HZ := hide hZ
  clear hZ
  have hmk := HMK.out
  go_enter Tryd.func65, Tryd.ntmps65
  go_wp2_with fail
  refine (width32_any w).mono ?_
  rintro e w1 ⟨rfl, rfl⟩
  go_wp2
  have HI := hide (show Blk (w.alloc (.cells Z 5)) w.heap.size 5 (bcells (bigF x 4 0)).toArray by rw [bigF_zero, ← HZ.out]; exact Blk.new _ _ _)
  go_loopw [11] (fun u11 wr => ∃ i : Nat, i ≤ 4 ∧ u11 = .int .i64 (i : Int) ∧ Blk wr w.heap.size 5 (bcells (bigF x 4 i)).toArray ∧ Below w.heap.size w wr) (fun i _ => 4 - (intOf i).toNat)
  case atStart => exact ⟨0, by omega, rfl, HI.out, (Below.refl _ w).alloc (Nat.le_refl _) _⟩
  case round =>
    clear HI
    obtain ⟨i, hi, rfl, hb, hbel⟩ := hrel
    have HB := hide hb
    clear hb
    by_cases hlt : i < 4
    · obtain ⟨j, hj⟩ : ∃ j, j = 3 - i := ⟨_, rfl⟩
      have e1 : (3 : Int) - (i : Int) = (j : Int) := by omega
      have e3 : (j : Int) < 4 := by omega
      have e4 : (0 : Int) ≤ (j : Int) := by omega
      have e5 : (i : Int) < 4 := by omega
      have gs := HB.out.frozen j
      obtain ⟨z, hz⟩ : ∃ z, wr.cell? ⟨w.heap.size, j, none⟩ = some z := ⟨_, (HB.out.cell j).trans (Array.getElem?_eq_getElem (by simp [bigF_length]; omega))⟩
      have HJ := hide hj
      clear hj
      go_wp2
      go_roundw
      case rel =>
        refine ⟨i + 1, by omega, by go_num, ?_, hbel.setCell (Nat.le_refl _) _⟩
        rw [← bigF_cells x 4 i j hlt (by have := HJ.out; omega)]
        exact HB.out.set_ j _
      case measure => simp [intOf]; omega
    · have hi4 : i = 4 := by omega
      subst hi4
      go_wp2
      go_ret
      refine ⟨hbel, rfl, ?_⟩
      have hh := HB.out
      rw [bigF_full] at hh
      have h2 := hh.own (base := w.heap.size) (n := 4) (cap := 4) (sz := 1) rfl (Nat.le_refl _) (by simp) (Nat.le_refl _) (by unfold maxLen; omega)
      unfold Own
      rw [bigL_length]
      rw [List.take_of_length_le (by simp)] at h2
      simpa using h2

set_option maxHeartbeats 1000000 in
theorem rbig_any (x n : Nat) (w : World) (hx : x < 18446744073709551616) (hn : n ≤ 8) :
    Calls Tryd.prog 121 #[.int .u64 (x : Int), .int .i64 (n : Int)] w fun e w' => ∃ v, e = .returned v ∧ Own w' w.heap.size 5 v (bigL x n) ∧ Below w.heap.size w w' := by
  have HX := hide hx
  clear hx
  go_enter Tryd.func121, Tryd.ntmps121
  go_wp2
  go_loopw [5, 6] (fun u5 u6 wr => ∃ i : Nat, i ≤ n ∧ u6 = .int .i64 ((n : Int) - 1 - (i : Int)) ∧ Own wr w.heap.size 5 u5 ((bigL x n).take i) ∧ Below w.heap.size w wr) (fun _ u6 _ => (intOf u6 + 1).toNat)
  case atStart => exact ⟨0, by omega, by simp, Own.nil _ _ _, Below.refl _ _⟩
  case round =>
    obtain ⟨i, hi, rfl, ho, hbel⟩ := hrel
    have HO := hide ho
    clear ho
    by_cases hlt : i < n
    · obtain ⟨j, hj⟩ : ∃ j, j = n - 1 - i := ⟨_, rfl⟩
      have e1 : (n : Int) - 1 - (i : Int) = (j : Int) := by omega
      have e3 : (j : Int) < 8 := by omega
      have e4 : (0 : Int) ≤ (j : Int) := by omega
      have hlen : ((bigL x n).take i).length + 1 ≤ 140737488355328 := by rw [List.length_take, bigL_length]; omega
      have HLEN := hide hlen
      have HV := hide (show ((x : Int) / 2 ^ (8 * j) % 256) = ((UInt8.ofNat (x / 256 ^ (n - 1 - i))).toNat : Int) by rw [byte_of, hj])
      have HT := hide (bigL_take x n i hlt)
      clear hj hlen
      rw [e1]
      go_wp2_with (at_builtin; go_loud (rw [HV.out]; refine wpList_pushB elem8 HO.out hbel hbel.size HLEN.out (UInt8.ofNat (x / 256 ^ (n - 1 - i))) rfl _ _ rfl rfl rfl ?_); intro v1 w1 hown1 hbel1 _ _)
      go_roundw
      case rel => exact ⟨i + 1, by omega, by rw [← e1, Int.natCast_add, Int.sub_sub ((n : Int) - 1)]; rfl, by rw [HT.out]; exact hown1, hbel1⟩
      case measure => simp [intOf] <;> omega
    · have hin : i = n := by omega
      subst hin
      have e1 : (i : Int) - 1 - (i : Int) = -1 := by omega
      rw [e1]
      go_wp2
      go_ret
      refine ⟨_, rfl, ?_, hbel⟩
      have := HO.out
      rwa [List.take_of_length_le (by simp)] at this
end Go.Proofs.YtdohebhbiokljaaDoor

/- Words out of bytes, digests as bytes: the program's Small, word, digests. -/
namespace Go.Proofs.YtdohebhbiokljaaDoor
open Go.RowKit

/-- A slice of digests. -/
def Ds (w : World) (v : Value) (L : List (List UInt8)) : Prop := Sl w 32 v L.length (L.flatMap bcells) ∧ Dg L
theorem Ds.below {w w' : World} {v : Value} {L : List (List UInt8)} (h : Ds w v L) (hb : Below w.heap.size w w') : Ds w' v L := ⟨h.1.below hb, h.2⟩
theorem flat_get : ∀ (L : List (List UInt8)), Dg L → ∀ (k : Nat) (d : List UInt8), L[k]? = some d → ∀ j, j < 32 → (L.flatMap bcells)[k * 32 + j]? = (bcells d)[j]?
  | [], _, k, d, h => by simp at h
  | x :: L, hd, 0, d, h => fun j hj => by
    simp only [List.getElem?_cons_zero, Option.some.injEq] at h
    subst h
    have : x.length = 32 := hd x (by simp)
    rw [List.flatMap_cons, Nat.zero_mul, Nat.zero_add, List.getElem?_append_left (by simp; omega)]
  | x :: L, hd, k + 1, d, h => fun j hj => by
    have hx : x.length = 32 := hd x (by simp)
    have ih := flat_get L (fun y hy => hd y (by simp [hy])) k d (by simpa using h) j hj
    rw [List.flatMap_cons, List.getElem?_append_right (by simp [hx]; omega), bcells_length, hx, ← ih]
    congr 1
    omega
theorem flat_size {L : List (List UInt8)} (h : Dg L) : (L.flatMap bcells).length = 32 * L.length := by
  induction L with
  | nil => rfl
  | cons x L ih =>
    have hx : x.length = 32 := h x (by simp)
    have := ih fun y hy => h y (by simp [hy])
    simp only [List.flatMap_cons, List.length_append, bcells_length, List.length_cons]
    omega
/-- Where digest k lies. -/
theorem Ds.at {w : World} {A : Option Addr} {n c : Nat} {L : List (List UInt8)} (h : Ds w (.slice A n c) L) {k : Nat} {d : List UInt8} (hk : L[k]? = some d) :
    ∃ b o, A = some ⟨b, o, none⟩ ∧ w.rangeAt b (o + k * 32) (bcells d) ∧ d.length = 32 ∧ b < w.heap.size := by
  have hd : d.length = 32 := h.2 d (List.mem_of_getElem? hk)
  have hkl : k < L.length := (List.getElem?_eq_some_iff.1 hk).1
  obtain ⟨A', c', hv, _, _, hca⟩ := h.1.form
  injection hv with hA hn hc
  obtain ⟨b, o, hb, hlt, hcell⟩ := hca (by omega)
  refine ⟨b, o, hA.trans hb, fun j v hj => ?_, hd, hlt⟩
  have hj32 : j < 32 := by
    have := (List.getElem?_eq_some_iff.1 hj).1
    simp [hd] at this
    exact this
  have h1 := hcell (k * 32 + j) (by omega)
  rw [flat_get L h.2 k d hk j hj32, hj] at h1
  rw [← h1]
  congr 2
  omega
theorem wpList_load_midW {P : Program} {ops : Array Oper} {rest : List Oper} {op : Oper} {a : Act} {w : World} {Q : Exit → Act → World → Prop} (hw : Region.wanted op (yielded ops a.tmps) = true) (ty : TypeId) (x : Operand) (ho : op.op = .load ty x)
    (b o : Nat) (hx : a.eval x = .pointer (some ⟨b, o, none⟩)) (cs : List Value) (d : TypeDesc) (hc : w.rangeAt b o cs)
    (hu : P.underlying ty = some d) (hd : d.isRow = true) (hi : (P.info? ty).map (·.size) = some cs.length)
    (h : wpList P ops Q rest (a.put op.dst (.agg cs.toArray)) w) : wpList P ops Q (op :: rest) a w :=
  wpList_step fun K hK => by
    rw [if_pos hw]
    exact wp_load_mid ty x ho b o hx cs d hc hu hd hi (hK _ _ h)

theorem wpList_load_midF {P : Program} {ops : Array Oper} {rest : List Oper} {op : Oper} {a : Act} {w : World} {Q : Exit → Act → World → Prop} (hw : Region.wanted op (yielded ops a.tmps) = true) (ty : TypeId) (x : Operand) (ho : op.op = .load ty x)
    (b o : Nat) (hx : a.eval x = .pointer (some ⟨b, o, none⟩)) (F : Array Value) (d : TypeDesc) (hc : w.rangeAt b o F.toList)
    (hu : P.underlying ty = some d) (hd : d.isRow = true) (hi : (P.info? ty).map (·.size) = some F.size)
    (h : wpList P ops Q rest (a.put op.dst (.agg F)) w) : wpList P ops Q (op :: rest) a w :=
  wpList_load_midW hw ty x ho b o hx F.toList d hc hu hd (by simpa using hi) (by simpa using h)
/-- A digest's cells. -/
theorem dig_cells {d : List UInt8} (h : d.length = 32) : ∃ F : Array Value, F = (bcells d).toArray ∧ F.size = 32 ∧ F.all (·.oneCell') = true ∧ F.toList = bcells d := by
  refine ⟨_, rfl, by simp [h], ?_, by simp⟩
  rw [List.all_toArray]
  simp [bcells, Value.oneCell']
theorem shl8_or (x : Nat) (c : UInt8) (h : x < 16777216) : bits .or .u64 ((x * 256 : Nat) : Int) (c.toNat : Int) = ((x * 256 + c.toNat : Nat) : Int) := by
  have hc := c.toNat_lt
  rw [u64_or_nat _ _ (by omega) (by omega)]
  congr 1
  have := Nat.two_pow_add_eq_or_of_lt (i := 8) (b := c.toNat) (by omega) x
  rw [show (256 : Nat) = 2 ^ 8 from rfl, Nat.mul_comm x]
  exact this.symm
/-- The number of the first k of four bytes. -/
def pre4 (a b c d : UInt8) : Nat → Nat
  | 0 => 0
  | 1 => a.toNat
  | 2 => a.toNat * 256 + b.toNat
  | 3 => (a.toNat * 256 + b.toNat) * 256 + c.toNat
  | _ => vw4 a b c d
def at4 (a b c d : UInt8) : Nat → UInt8
  | 0 => a | 1 => b | 2 => c | _ => d
theorem pre4_step (a b c d : UInt8) {k : Nat} (hk : k < 4) : pre4 a b c d (k + 1) = pre4 a b c d k * 256 + (at4 a b c d k).toNat ∧ pre4 a b c d k < 16777216 ∧ [a, b, c, d][k]? = some (at4 a b c d k) := by
  have h1 := a.toNat_lt; have h2 := b.toNat_lt; have h3 := c.toNat_lt; have h4 := d.toNat_lt
  have : k = 0 ∨ k = 1 ∨ k = 2 ∨ k = 3 := by omega
  rcases this with rfl | rfl | rfl | rfl <;> refine ⟨?_, ?_, rfl⟩ <;> simp only [pre4, at4, vw4] <;> omega
set_option maxRecDepth 100000 in
set_option maxHeartbeats 1000000 in
theorem small4_any (v : Value) (a b c d : UInt8) (w : World) (h : By w v [a, b, c, d]) :
    Calls Tryd.prog 107 #[v] w fun e w' => e = .returned (.tuple #[.int .u32 ((vw4 a b c d : Nat) : Int), .int .i64 0]) ∧ w = w' := by
  obtain ⟨A, cp, rfl, _, _, hca⟩ := h.form
  have HC := hide hca
  have hv := vw4_lt a b c d
  have hf : IntKind.u32.wrap ((vw4 a b c d : Nat) : Int) = ((vw4 a b c d : Nat) : Int) := by simp [IntKind.wrap, IntKind.bits, IntKind.signed]; omega
  have HV := hide (And.intro hv hf)
  have q := width32_any w
  clear h hca hv hf
  show Calls Tryd.prog 107 #[.slice A 4 cp] w _
  go_enter Tryd.func107, Tryd.ntmps107
  go_wp2_with fail
  refine q.mono ?_
  rintro e w' ⟨rfl, rfl⟩
  clear q
  go_wp2
  go_loopw [5, 7, 21] (fun u5 _ u21 wr => ∃ k : Nat, k ≤ 4 ∧ u21 = .int .i64 (k : Int) ∧ u5 = .int .u64 ((pre4 a b c d k : Nat) : Int) ∧ w = wr) (fun _ _ u21 _ => 4 - (intOf u21).toNat)
  case atStart => exact ⟨0, by omega, rfl, rfl, rfl⟩
  case round =>
    obtain ⟨k, hk, rfl, rfl, rfl⟩ := hrel
    by_cases hlt : k < 4
    · obtain ⟨hs, hb, hg⟩ := pre4_step a b c d hlt
      obtain ⟨bb, o, rfl, _, hcx⟩ := HC.out k _ hg
      have hx8 := (at4 a b c d k).toNat_lt
      have hor := shl8_or (pre4 a b c d k) (at4 a b c d k) hb
      have hw1 : IntKind.u64.wrap ((at4 a b c d k).toNat : Int) = ((at4 a b c d k).toNat : Int) := by simp [IntKind.wrap, IntKind.bits, IntKind.signed]; omega
      have hw2 : IntKind.u64.wrap (((pre4 a b c d k : Nat) : Int) * 256) = ((pre4 a b c d k * 256 : Nat) : Int) := by simp [IntKind.wrap, IntKind.bits, IntKind.signed]; omega
      rw [← hs, Int.natCast_mul] at hor
      obtain ⟨n1, hn1⟩ : ∃ n1, n1 = pre4 a b c d (k + 1) := ⟨_, rfl⟩
      rw [← hn1] at hor hs
      have HN := hide hn1
      clear hn1
      generalize pre4 a b c d k = n0 at *
      generalize (at4 a b c d k) = x at *
      clear hs hb hg
      have j1 : (k : Int) < 4 := by omega
      have j2 : (0 : Int) ≤ (k : Int) := by omega
      go_wp2
      go_roundw
      case rel => exact ⟨k + 1, by omega, by go_num, by rw [← HN.out]; simpa using hor, trivial⟩
      case measure => simp [intOf]; omega
    · have hkk : k = 4 := by omega
      subst hkk
      have hl : pre4 a b c d 4 = vw4 a b c d := rfl
      rw [hl]
      have hm : ((vw4 a b c d : Nat) : Int) % 4294967296 = ((vw4 a b c d : Nat) : Int) := by have := HV.out.1; omega
      go_wp2
      go_ret2
      exact ⟨rfl, rfl⟩
set_option maxRecDepth 100000 in
set_option maxHeartbeats 1000000 in
theorem word_any (v : Value) (l : List UInt8) (i : Nat) (w : World) (h : By w v l) (hi : i + 4 ≤ l.length) (hl : l.length ≤ 9223372036854775807) :
    Calls Tryd.prog 92 #[v, .int .i64 (i : Int)] w fun e w' => e = .returned (.int .i64 ((w4 l i : Nat) : Int)) ∧ w = w' := by
  obtain ⟨A, c, rfl, hc, hm, hca⟩ := h.form
  obtain ⟨g, o, rfl, _, _⟩ := hca 0 _ (List.getElem?_eq_getElem (show 0 < l.length by omega))
  have hs := h.sub i 4 (c - i) hi (by omega) (by omega)
  obtain ⟨a0, a1, a2, a3, hq⟩ : ∃ a0 a1 a2 a3, (l.drop i).take 4 = [a0, a1, a2, a3] := by
    have : ((l.drop i).take 4).length = 4 := by simp; omega
    match hx : (l.drop i).take 4, this with
    | [a0, a1, a2, a3], _ => exact ⟨a0, a1, a2, a3, rfl⟩
  have hw : w4 l i = vw4 a0 a1 a2 a3 := by unfold w4; rw [hq]; rfl
  rw [hq] at hs
  have q := small4_any _ a0 a1 a2 a3 w hs
  have hlt := w4_lt l i
  rw [← hw] at q
  generalize w4 l i = x at *
  have e1 : IntKind.i64.wrap ((i : Int) + 4) = (i : Int) + 4 := IntWalk.i64_in _ (by omega)
  have e2 : IntKind.i64.wrap ((x : Nat) : Int) = ((x : Nat) : Int) := IntWalk.i64_in _ (by omega)
  have i1 : (0 : Int) ≤ (i : Int) := by omega
  have i2 : (i : Int) ≤ (i : Int) + 4 := by omega
  have i3 : (i : Int) + 4 ≤ (c : Int) := by unfold maxLen at hm; omega
  have i4 : (i : Int) + 4 - (i : Int) = 4 := by omega
  have i5 : (c : Int) - (i : Int) = ((c - i : Nat) : Int) := by omega
  clear h hca hs hq hw hlt hc hm
  go_enter Tryd.func92, Tryd.ntmps92
  go_wp2_with fail
  refine q.mono ?_
  rintro e w' ⟨rfl, rfl⟩
  clear q
  go_wp2
  go_ret
  exact ⟨rfl, rfl⟩
set_option maxRecDepth 100000 in
set_option maxHeartbeats 1000000 in
theorem digests_any (v : Value) (L : List (List UInt8)) (w : World) (h : Ds w v L) (hl : L.length ≤ 1048576) :
    Calls Tryd.prog 67 #[v] w fun e w' => ∃ u, e = .returned u ∧ Own w' w.heap.size 5 u L.flatten ∧ Below w.heap.size w w' := by
  obtain ⟨A, c, rfl, hc, hm, _⟩ := h.1.form
  have H := hide h
  clear h
  go_enter Tryd.func67, Tryd.ntmps67
  go_wp2
  go_loopw [3, 5, 8] (fun u3 _ u8 wr => ∃ k : Nat, k ≤ L.length ∧ u8 = .int .i64 (k : Int) ∧ Own wr w.heap.size 5 u3 (L.take k).flatten ∧ Below w.heap.size w wr) (fun _ _ u8 _ => L.length - (intOf u8).toNat)
  case atStart => exact ⟨0, by omega, rfl, Own.nil _ _ _, Below.refl _ _⟩
  case round =>
    obtain ⟨k, hk, rfl, hown, hbel⟩ := hrel
    have HO := hide hown
    have HB := hide hbel
    clear hown hbel
    by_cases hlt : k < L.length
    · obtain ⟨d, hd⟩ : ∃ d, L[k]? = some d := ⟨_, List.getElem?_eq_getElem hlt⟩
      obtain ⟨b, o, rfl, hr, hd32, _⟩ := (H.out.below HB.out).at hd
      obtain ⟨F, hF, hF1, hF2, hF3⟩ := dig_cells hd32
      rw [← hF3] at hr
      have HR := hide hr
      have HD := hide hd
      have HF := hide (And.intro hF1 (And.intro hF2 (And.intro hF3 hd32)))
      have hlen : (L.take k).flatten.length ≤ 33554432 := by
        have := flat_len (D := L.take k) (fun x hx => H.out.2 x (List.mem_of_mem_take hx))
        rw [this, List.length_take]
        omega
      have j1 : (k : Int) < (L.length : Int) := by omega
      have j2 : (0 : Int) ≤ (k : Int) := by omega
      clear hr hd hF hF1 hF2 hF3 hd32
      go_wp2_with (first
        | (refine wpList_load_midF (by rfl) 35 _ rfl b (o + k * 32) rfl F _ HR.out Tryd.underlying35 rfl (by rw [HF.out.1]; kernel_rfl) ?_)
        | ((with_reducible change wpList _ _ _ (⟨none, .store _ (.tmp 5) _, _, _, _, _⟩ :: _) _ _); go_loud (refine wpList_store_row (o := ⟨none, .store _ (.tmp 5) _, _, _, _, _⟩) (Blk.new wr _ _) F (by rw [HF.out.1]; kernel_rfl) HF.out.2.1 rfl 35 _ _ rfl (by rw [HF.out.1]; kernel_rfl) rfl rfl ?_; intro w2 hb2 hg2; have hbb : Below wr.heap.size wr w2 := ((Below.refl _ wr).alloc (Nat.le_refl _) _).grown hg2 (by simp) (fun k hk => by cases hk; exact Nat.le_refl _); have hby := by_mid (o := 0) (l := d) HF.out.2.2.2.symm hb2 (fun j hj => by rw [Nat.zero_add, ← Array.getElem?_toList, HF.out.2.2.1]) (by have := HF.out.2.2.2; omega)))
        | (at_builtin; go_loud (refine wpList_pushV elem8 (Own.below HO.out hbb) (Below.step HB.out hbb) (Below.step HB.out hbb).size hby (by have := HF.out.2.2.2; omega) rfl _ _ rfl rfl rfl ?_; intro v3 w3 hown3 hbel3 _ _)))
      go_roundw
      case rel => exact ⟨k + 1, by omega, by go_num, by rw [take_snoc _ _ _ HD.out, List.flatten_append]; simpa using hown3, hbel3⟩
      case measure => simp [intOf]; omega
    · have hkl : k = L.length := by omega
      subst hkl
      have hO := HO.out
      rw [List.take_of_length_le (Nat.le_refl _)] at hO
      have HO2 := hide hO
      clear hO HO
      go_wp2
      go_ret
      exact ⟨_, rfl, HO2.out, HB.out⟩
set_option maxHeartbeats 400000 in
theorem join_any (v : Value) (L : List (Value × List UInt8)) (w : World) (h : Lsts w v L) (ht : total L ≤ 1099511627776) :
    Calls Tryd.prog 60 #[v] w fun e w' => ∃ v', e = .returned v' ∧ Own w' w.heap.size 5 v' (cat L) ∧ Below w.heap.size w w' := by
  obtain ⟨A, c, rfl, -, -, -⟩ := h.1.form
  have H := hide h
  clear h
  go_enter Tryd.func60, Tryd.ntmps60
  go_wp2_with fail
  refine (concat_any _ L w H.out ht).mono ?_
  rintro e w1 ⟨v1, rfl, o1, b1⟩
  go_wp2
  go_ret
  exact ⟨_, rfl, o1, b1⟩
/-- Rows laid in a new block. -/
theorem lsts_new {w : World} {cs : Array Value} {t : TypeId} (L : List (Value × List UInt8)) (hcs : cs.toList = L.map (·.1)) (hm : L.length ≤ 1000) (hby : ∀ x ∈ L, By w x.1 x.2) : Lsts (w.alloc (.cells cs t)) (.slice (some ⟨w.heap.size, 0, none⟩) L.length L.length) L :=
  lsts_row (Blk.new w t cs) L hcs hm fun x hx => (hby x hx).below ((Below.refl _ w).alloc (Nat.le_refl _) _)
theorem big4_any (x : Nat) (w : World) (hx : x < 4294967296) :
    Calls Tryd.prog 65 #[.int .u32 (x : Int)] w fun e w' => ∃ g, e = .returned (.slice (some ⟨g, 0, none⟩) 4 4) ∧ By w' (.slice (some ⟨g, 0, none⟩) 4 4) (bw4 x) ∧ Below w.heap.size w w' :=
  (big32_any x w hx).mono fun e w' ⟨hb, he, ho⟩ => ⟨_, he, by rw [← bigL_bw4]; exact ho.by_, hb⟩
theorem mark_new (W : World) : By (W.alloc (.cells #[.int .u8 82, .int .u8 79, .int .u8 79, .int .u8 77] 5)) (.slice (some ⟨W.heap.size, 0, none⟩) 4 4) mark4 :=
  by_mid (l := mark4) (o := 0) rfl (Blk.new W 5 #[.int .u8 82, .int .u8 79, .int .u8 79, .int .u8 77]) (fun j hj => by
    have : j = 0 ∨ j = 1 ∨ j = 2 ∨ j = 3 := by simp [mark4] at hj; omega
    rcases this with rfl | rfl | rfl | rfl <;> rfl) (by simp [mark4])
end Go.Proofs.YtdohebhbiokljaaDoor

/- The program's reader of bytes: made, taken from, digests. -/
namespace Go.Proofs.YtdohebhbiokljaaDoor
open Go.RowKit

/-- A reader with the bytes l left. -/
def Rd (w : World) (R g : Nat) (l : List UInt8) : Prop := (∃ o c, Blk w R 154 #[.slice (some ⟨g, o, none⟩) l.length c, .bool true, .bool false] ∧ By w (.slice (some ⟨g, o, none⟩) l.length c) l) ∧ g ≠ R ∧ g < w.heap.size
theorem Rd.below {w w' : World} {R g : Nat} {l : List UInt8} (h : Rd w R g l) (hb : Below w.heap.size w w') : Rd w' R g l := by
  obtain ⟨⟨o, c, h1, h2⟩, h3, h4⟩ := h
  exact ⟨⟨o, c, h1.below' hb, h2.below hb⟩, h3, Nat.lt_of_lt_of_le h4 hb.size⟩
theorem Rd.lt {w : World} {R g : Nat} {l : List UInt8} (h : Rd w R g l) : R < w.heap.size := by
  obtain ⟨⟨o, c, h1, _⟩, _⟩ := h
  exact h1.lt
theorem by_kept {w w' : World} {b o n c R : Nat} {l : List UInt8} (h : By w (.slice (some ⟨b, o, none⟩) n c) l) (hg : w.grownBy w' (some R)) (hne : b ≠ R) : By w' (.slice (some ⟨b, o, none⟩) n c) l := by
  obtain ⟨h1, A, c', hv, hn, hc, h2⟩ := h
  refine ⟨h1, A, c', hv, hn, hc, fun h0 => ?_⟩
  obtain ⟨b', o', hA, hlt, hcell⟩ := h2 h0
  injection hv with hA' _ _
  rw [hA] at hA'
  injection hA' with hA'
  injection hA' with hb ho
  subst hb ho
  exact ⟨b, o, hA, Nat.lt_of_lt_of_le hlt hg.size, fun j hj => by rw [← hcell j hj]; exact World.cell?_of_block (hg.block b hlt (by intro e; injection e with e; exact hne e))⟩
/-- A copy of bytes. -/
theorem clone_any (g o n c : Nat) (l : List UInt8) (w : World) (h : By w (.slice (some ⟨g, o, none⟩) n c) l) (hl : l.length ≤ 1099511627776) :
    Calls Tryd.prog 62 #[.slice (some ⟨g, o, none⟩) n c] w fun e w' => ∃ v, e = .returned v ∧ Own w' w.heap.size 5 v l ∧ Below w.heap.size w w' := by
  obtain ⟨A', c', hv, hlc, hcm, _⟩ := h.form
  injection hv with hA hn hc
  subst hn hc
  have q := Tryd.bytes_Clone_at ⟨g, o, none⟩ l.length c (l.map fun x => (x.toNat : Int)) w (by simp) (by unfold maxLen at hcm; omega) (fun i hi => by
    have ea : (⟨g, o, none⟩ : Addr).add i = ⟨g, o + i, none⟩ := by simp [Addr.add]
    rw [ea]
    exact by_ints h i hi)
  refine q.mono ?_
  rintro e w' ⟨v', he, ho, -, hbl⟩
  have hb3 : Own w' w.heap.size 5 v' l := by
    unfold Own
    have : (l.map fun x => (x.toNat : Int)).map (Value.int .u8) = bcells l := by rw [List.map_map]; rfl
    rw [← this]
    exact ho
  exact ⟨v', he, hb3, hbl⟩
set_option maxRecDepth 100000 in
set_option maxHeartbeats 1000000 in
theorem newReader_any (g o n c : Nat) (l : List UInt8) (w : World) (h : By w (.slice (some ⟨g, o, none⟩) n c) l) (h0 : 0 < l.length) (hl : l.length ≤ 1099511627776) :
    Calls Tryd.prog 93 #[.slice (some ⟨g, o, none⟩) n c] w fun e w' => ∃ R g', e = .returned (.pointer (some ⟨R, 0, none⟩)) ∧ Rd w' R g' l ∧ w.heap.size ≤ R ∧ w.heap.size ≤ g' ∧ Below w.heap.size w w' := by
  have Q := hide (clone_any g o n c l w h hl)
  clear h
  go_enter Tryd.func93, Tryd.ntmps93
  go_wp2_with fail
  refine Q.out.mono ?_
  rintro e w1 ⟨v1, rfl, o1, b1⟩
  obtain ⟨g1, c1, rfl, hg1, hg2⟩ := World.ownsRow.form o1 h0
  have H1 := hide (And.intro o1.by_ b1)
  have hne : g1 ≠ w1.heap.size := by omega
  clear o1 b1 Q
  go_wp2
  go_ret
  refine ⟨w1.heap.size, g1, rfl, ⟨⟨0, c1, Blk.new w1 154 _, H1.out.1.below ((Below.refl _ w1).alloc (Nat.le_refl _) _)⟩, hne, by simp; omega⟩, H1.out.2.size, hg1, H1.out.2.alloc H1.out.2.size _⟩
set_option maxRecDepth 100000 in
set_option maxHeartbeats 1000000 in
theorem take_any (R g n : Nat) (l : List UInt8) (w : World) (h : Rd w R g l) (hn : n ≤ l.length) (hl : l.length ≤ 1099511627776) :
    Calls Tryd.prog 108 #[.pointer (some ⟨R, 0, none⟩), .int .i64 (n : Int)] w fun e w' => ∃ o, e = .returned (.tuple #[.slice (some ⟨g, o, none⟩) n n, .bool true]) ∧ By w' (.slice (some ⟨g, o, none⟩) n n) (l.take n) ∧ Rd w' R g (l.drop n) ∧ w.grownBy w' (some R) := by
  obtain ⟨⟨o, c, hblk, hby⟩, hne, hgl⟩ := h
  have c0 : w.cell? ⟨R, 0, none⟩ = some (.slice (some ⟨g, o, none⟩) l.length c) := by rw [hblk.cell]; rfl
  have c1 : w.cell? ⟨R, 1, none⟩ = some (.bool true) := by rw [hblk.cell]; rfl
  have c2 : w.cell? ⟨R, 2, none⟩ = some (.bool false) := by rw [hblk.cell]; rfl
  obtain ⟨A', c', hv, hlc, hcm, _⟩ := hby.form
  injection hv with hA hn' hc
  subst hc
  have i1 : ¬ (n : Int) < 0 := by omega
  have i2 : ¬ (n : Int) > (l.length : Int) := by omega
  have i3 : (n : Int) ≤ (c : Int) := by omega
  have i4 : (0 : Int) ≤ (n : Int) := by omega
  have i5 : (n : Int) ≤ (l.length : Int) := by omega
  have hf := hblk.frozen 0
  have hld : (l.drop n).length = l.length - n := by simp
  have hst : ∀ v : Value, w.grownBy (w.setCell ⟨R, 0, none⟩ v) (some R) ∧ Blk (w.setCell ⟨R, 0, none⟩ v) R 154 #[v, .bool true, .bool false] := fun v =>
    ⟨store_grown _ _ _ _, by have := hblk.set_ 0 v; simpa using this⟩
  have hk1 : By w (.slice (some ⟨g, o, none⟩) n n) (l.take n) := by
    have := hby.sub 0 n n (by omega) (Nat.le_refl _) (by omega)
    simpa using this
  have hk2 : ∀ o' c', (o' = o + n ∧ c' = c - n) ∨ (o' = o ∧ c = n ∧ c' = 0) → By w (.slice (some ⟨g, o', none⟩) (l.length - n) c') (l.drop n) := fun o' c' hc' => by
    rcases hc' with ⟨rfl, rfl⟩ | ⟨rfl, hcn, rfl⟩
    · have := hby.sub n (l.length - n) (c - n) (by omega) (by omega) (by omega)
      rwa [List.take_of_length_le (by simp)] at this
    · have : l.drop n = [] := List.drop_of_length_le (by omega)
      rw [this, show l.length - n = 0 by omega]
      exact ⟨by simp, _, _, rfl, Nat.le_refl _, by unfold maxLen; omega, fun h => by simp at h⟩
  have hR := (Array.getElem?_eq_some_iff.1 (show w.heap[R]? = some _ from hblk)).1
  have HB := hide (And.intro hst (And.intro hk1 (And.intro hk2 (And.intro hld hne))))
  clear hblk hby hA hn' hst hk1 hk2 hld
  go_enter Tryd.func108, Tryd.ntmps108
  go_wp2
  all_goals
    go_ret2
    refine ⟨o, rfl, ?_, ?_, (HB.out.1 _).1⟩
    · exact by_kept HB.out.2.1 (HB.out.1 _).1 HB.out.2.2.2.2
  · refine ⟨⟨o, 0, ?_, ?_⟩, HB.out.2.2.2.2, Nat.lt_of_lt_of_le hgl (HB.out.1 _).1.size⟩
    · rw [HB.out.2.2.2.1]; exact (HB.out.1 _).2
    · rw [HB.out.2.2.2.1]; exact by_kept (HB.out.2.2.1 o 0 (.inr ⟨rfl, by assumption, rfl⟩)) (HB.out.1 _).1 HB.out.2.2.2.2
  · refine ⟨⟨o + n, c - n, ?_, ?_⟩, HB.out.2.2.2.2, Nat.lt_of_lt_of_le hgl (HB.out.1 _).1.size⟩
    · rw [HB.out.2.2.2.1]; exact (HB.out.1 _).2
    · rw [HB.out.2.2.2.1]; exact by_kept (HB.out.2.2.1 (o + n) (c - n) (.inl ⟨rfl, rfl⟩)) (HB.out.1 _).1 HB.out.2.2.2.2
theorem Rd.grown {w w' : World} {R g X : Nat} {l : List UInt8} (h : Rd w R g l) (hg : w.grownBy w' (some X)) (hne : X ≠ R) (hne2 : X ≠ g) : Rd w' R g l := by
  obtain ⟨⟨o, c, h1, h2⟩, h3, h4⟩ := h
  exact ⟨⟨o, c, h1.grown hg (by intro e; injection e with e; exact hne e.symm), by_kept h2 hg (Ne.symm hne2)⟩, h3, Nat.lt_of_lt_of_le h4 hg.size⟩
set_option maxRecDepth 100000 in
set_option maxHeartbeats 1000000 in
theorem rdigest_any (R gb : Nat) (l : List UInt8) (w : World) (h : Rd w R gb l) (hn : 32 ≤ l.length) (hl : l.length ≤ 1099511627776) :
    Calls Tryd.prog 95 #[.pointer (some ⟨R, 0, none⟩)] w fun e w' => e = .returned (.agg (bcells (l.take 32)).toArray) ∧ Rd w' R gb (l.drop 32) ∧ w.grownBy w' (some R) := by
  have hRlt : R < w.heap.size := h.lt
  have hglt : gb < w.heap.size := h.2.2
  have b0 := (Below.refl w.heap.size w).alloc (Nat.le_refl _) (.cells (bcells (List.replicate 32 0)).toArray 35)
  have n0 := Blk.new w 35 (bcells (List.replicate 32 0)).toArray
  have Q := hide (take_any R gb 32 l _ (h.below b0) hn hl)
  have HB := hide (And.intro b0 (And.intro n0 hRlt))
  clear h b0 n0
  obtain ⟨F, hF, hF1, hF2, hF3⟩ := dig_cells (d := l.take 32) (by rw [List.length_take]; omega)
  have HF := hide (And.intro hF1 (And.intro hF2 hF3))
  rw [← hF]
  clear hF hF1 hF2 hF3
  have hs2a : ∀ (o : Nat) (W : World), (Instr.arrayAt 35 (.slice (some ⟨gb, o, none⟩) 32 32)).run Tryd.prog W = .ok (.pointer (some ⟨gb, o, none⟩)) W := fun o W => s2a_dig gb o 32 W (by omega)
  go_enter Tryd.func95, Tryd.ntmps95
  go_wp2_with fail
  refine Q.out.mono ?_
  rintro e w1 ⟨o, rfl, hy, hrd, hgr⟩
  have hra : w1.rangeAt gb o F.toList := by
    rw [HF.out.2.2]
    intro j v hj
    obtain ⟨A', c', hv, _, _, hca⟩ := hy.form
    injection hv with hA _ _
    have hj32 : j < (l.take 32).length := by
      have := (List.getElem?_eq_some_iff.1 hj).1
      simpa using this
    obtain ⟨b2, o2, hb2, _, hc2⟩ := hca j _ (List.getElem?_eq_getElem hj32)
    rw [← hA] at hb2
    injection hb2 with hb2
    injection hb2 with e1 e2
    subst e1 e2
    rw [hc2, ← hj, bcells_get, List.getElem?_eq_getElem hj32]
    rfl
  obtain ⟨Z, hZ⟩ : ∃ Z : Array Value, Z = (bcells (List.replicate 32 0)).toArray := ⟨_, rfl⟩
  have hblk := HB.out.2.1.grown hgr (by intro e; injection e with e; have := HB.out.2.2; omega)
  rw [← hZ] at hblk
  have hZs : Z.size = 32 := by rw [hZ]; rfl
  have H1 := hide (And.intro hblk (And.intro hZs (And.intro hra (And.intro hrd hgr))))
  clear hblk hZ hZs hra hrd hgr hy Q
  go_wp2_with (first
    | (refine wpList_load_midF (by rfl) 35 _ rfl gb o rfl F _ H1.out.2.2.1 Tryd.underlying35 rfl (by rw [HF.out.1]; kernel_rfl) ?_)
    | ((with_reducible change wpList _ _ _ (⟨none, .store _ (.tmp 2) _, _, _, _, _⟩ :: _) _ _); go_loud (refine wpList_store_row (o := ⟨none, .store _ (.tmp 2) _, _, _, _, _⟩) H1.out.1 F (by rw [HF.out.1, H1.out.2.1]) HF.out.2.1 rfl 35 _ _ rfl (by rw [HF.out.1]; kernel_rfl) rfl rfl ?_; intro w7 hb7 hg7)))
  have hrd7 : Rd w7 R gb (l.drop 32) := H1.out.2.2.2.1.grown hg7 (by omega) (by omega)
  have hgr7 : w.grownBy w7 (some R) := by
    have h1 := H1.out.2.2.2.2
    refine ⟨hg7.os.trans h1.os, hg7.tape.trans h1.tape, hg7.output.trans h1.output, Nat.le_trans (Nat.le_trans (by simp) h1.size) hg7.size, fun b hb hne => ?_⟩
    rw [hg7.block b (Nat.lt_of_lt_of_le (by simp; omega) h1.size) (by intro e; injection e with e; omega), h1.block b (by simp; omega) hne]
    exact Below.heap_alloc w _ b hb
  refine bodyPost_ret (results_cell_row rfl _ _ w.heap.size 35 F (0, 0) _ rfl hb7 Tryd.underlying35 rfl (by rw [HF.out.1]; kernel_rfl)) rfl ⟨rfl, hrd7, hgr7⟩
end Go.Proofs.YtdohebhbiokljaaDoor

/- The program's reading of digests, one behind the other. -/
namespace Go.Proofs.YtdohebhbiokljaaDoor
open Go.RowKit

theorem ck_snoc : ∀ (k : Nat) (l : List UInt8), ck (k + 1) l = ck k l ++ [(l.drop (32 * k)).take 32]
  | 0, l => by simp [ck]
  | k + 1, l => by
    have ih := ck_snoc k (l.drop 32)
    rw [show ck (k + 1 + 1) l = l.take 32 :: ck (k + 1) (l.drop 32) from rfl, ih, List.drop_drop]
    show _ = (l.take 32 :: ck k (l.drop 32)) ++ _
    rw [show 32 + 32 * k = 32 * (k + 1) by omega]
    rfl
theorem Rd.same {w w' : World} {R g : Nat} {l : List UInt8} (h : Rd w R g l) (hs : w.heap.size ≤ w'.heap.size) (h1 : w'.heap[R]? = w.heap[R]?) (h2 : w'.heap[g]? = w.heap[g]?) : Rd w' R g l := by
  obtain ⟨⟨o, c, hb, hy⟩, h3, h4⟩ := h
  refine ⟨⟨o, c, h1.trans hb, ?_⟩, h3, Nat.lt_of_lt_of_le h4 hs⟩
  obtain ⟨e1, A, c', hv, hn, hc, e2⟩ := hy
  refine ⟨e1, A, c', hv, hn, hc, fun h0 => ?_⟩
  obtain ⟨b', o', hA, hlt, hcell⟩ := e2 h0
  injection hv with hA' _ _
  rw [hA] at hA'
  injection hA' with hA'
  injection hA' with hb ho
  subst hb ho
  exact ⟨g, o, hA, Nat.lt_of_lt_of_le hlt hs, fun j hj => by rw [← hcell j hj]; exact World.cell?_of_block h2⟩
theorem infoDig : (Tryd.prog.info? 35).map (fun i => (i.zero, i.size, i.bytes)) = some (some (.agg (Array.replicate 32 (.int .u8 0))), 32, 32) := by kernel_rfl
theorem fold_zip : ∀ (L : List Value) (k : Nat) (Z : Array Value), k + L.length ≤ Z.size → ∀ i : Nat, (List.foldl (fun (cs : Array Value) (x : Value × Nat) => cs.setIfInBounds x.snd x.fst) Z (L.zipIdx k))[i]? = if k ≤ i ∧ i < k + L.length then L[i - k]? else Z[i]?
  | [], k, Z, _, i => by simp; omega
  | x :: L, k, Z, h, i => by
    simp only [List.length_cons] at h
    rw [List.zipIdx_cons, List.foldl_cons, fold_zip L (k + 1) _ (by simp; omega) i]
    by_cases h1 : k + 1 ≤ i ∧ i < k + 1 + L.length
    · rw [if_pos h1, if_pos (by simp; omega), show i - k = (i - (k + 1)) + 1 by omega, List.getElem?_cons_succ]
    · rw [if_neg h1, Array.getElem?_setIfInBounds]
      by_cases h2 : k = i
      · subst h2
        rw [if_pos rfl, if_pos (by omega), if_pos (by simp), Nat.sub_self]
        rfl
      · rw [if_neg h2, if_neg (by simp; omega)]
theorem fold_set (Z F : Array Value) (h : Z.size = F.size) : Array.foldl (fun (cs : Array Value) (x : Value × Nat) => cs.setIfInBounds x.snd x.fst) Z F.zipIdx 0 F.size = F := by
  have h1 : Array.foldl (fun (cs : Array Value) (x : Value × Nat) => cs.setIfInBounds x.snd x.fst) Z F.zipIdx 0 F.size = List.foldl (fun (cs : Array Value) (x : Value × Nat) => cs.setIfInBounds x.snd x.fst) Z (F.toList.zipIdx 0) := by
    rw [← Array.toList_zipIdx, Array.foldl_toList]
    congr 1
    simp
  rw [h1]
  apply Array.ext_getElem?
  intro i
  rw [fold_zip _ _ _ (by simp; omega)]
  by_cases hi : i < F.size
  · rw [if_pos (by simp; omega)]
    simp
  · rw [if_neg (by simp; omega), Array.getElem?_eq_none (by omega), Array.getElem?_eq_none (by omega)]
set_option maxRecDepth 100000 in
set_option maxHeartbeats 1000000 in
theorem takes_any (V R gb m : Nat) (l : List UInt8) (w : World) (hV : w.cell? ⟨V, 0, none⟩ = some (.pointer (some ⟨R, 0, none⟩))) (hVR : V ≠ R) (h : Rd w R gb l) (hm : m ≤ 4096) (hn : 32 * m ≤ l.length) (hl : l.length ≤ 1099511627776) :
    Calls Tryd.prog 94 #[.int .i64 ((32 * m : Nat) : Int), .pointer (some ⟨V, 0, none⟩)] w fun e w' => ∃ v, e = .returned v ∧ w'.ownsRow w.heap.size 35 32 v m ((ck m l).flatMap bcells) ∧ Rd w' R gb (l.drop (32 * m)) ∧ w.grownBy w' (some R) := by
  have hq1 : ((32 * m : Nat) : Int) / 32 = (m : Int) := by omega
  have hq2 : ((32 * m : Nat) : Int).tdiv 32 = (m : Int) := by rw [Int.tdiv_eq_ediv_of_nonneg (by omega)]; omega
  have hq3 : IntKind.i64.wrap (m : Int) = (m : Int) := IntWalk.i64_in _ (by omega)
  obtain ⟨i0, hi, hz0, hz1, hz2⟩ := info_parts infoDig
  generalize hN : ((32 * m : Nat) : Int) = N at *
  have HI := hide (And.intro hi (And.intro hz0 (And.intro hz1 hz2)))
  have H := hide h
  have HVlt := hide (World.block_lt_of_cell? _ _ hV)
  clear h hi hz0 hz1 hz2 hN
  go_enter Tryd.func94, Tryd.ntmps94
  go_wp2
  go_loopw [4, 7] (fun u4 u7 wr => ∃ k : Nat, k ≤ m ∧ u7 = .int .i64 (k : Int) ∧ wr.ownsRow w.heap.size 35 32 u4 k ((ck k l).flatMap bcells) ∧ Rd wr R gb (l.drop (32 * k)) ∧ w.grownBy wr (some R)) (fun _ u7 _ => m - (intOf u7).toNat)
  case atStart => exact ⟨0, by omega, rfl, World.ownsRow_nil _ _ _ _, by simpa using H.out, ⟨rfl, rfl, rfl, Nat.le_refl _, fun _ _ _ => rfl⟩⟩
  case round =>
    obtain ⟨k, hk, rfl, hown, hrd, hgr⟩ := hrel
    have HR := hide (And.intro hown (And.intro hrd hgr))
    have hVr : wr.cell? ⟨V, 0, none⟩ = some (.pointer (some ⟨R, 0, none⟩)) := (World.cell?_of_block (hgr.block V HVlt.out (by intro e; injection e with e; exact hVR e))).trans hV
    clear hown hrd hgr
    by_cases hlt : k < m
    · have QD := hide (rdigest_any R gb _ wr HR.out.2.1 (by rw [List.length_drop]; omega) (by rw [List.length_drop]; omega))
      obtain ⟨F, hF, hF1, hF2, hF3⟩ := dig_cells (d := (l.drop (32 * k)).take 32) (by rw [List.length_take, List.length_drop]; omega)
      rw [← hF] at QD
      have HF := hide (And.intro hF1 (And.intro hF2 hF3))
      clear hF hF1 hF2 hF3
      have j1 : (k : Int) < (m : Int) := by omega
      have hFs := HF.out.1
      have hfz := fold_set #[.int .u8 0, .int .u8 0, .int .u8 0, .int .u8 0, .int .u8 0, .int .u8 0, .int .u8 0, .int .u8 0, .int .u8 0, .int .u8 0, .int .u8 0, .int .u8 0, .int .u8 0, .int .u8 0, .int .u8 0, .int .u8 0, .int .u8 0, .int .u8 0, .int .u8 0, .int .u8 0, .int .u8 0, .int .u8 0, .int .u8 0, .int .u8 0, .int .u8 0, .int .u8 0, .int .u8 0, .int .u8 0, .int .u8 0, .int .u8 0, .int .u8 0, .int .u8 0] F (by rw [HF.out.1]; rfl)
      have hfz2 := hfz
      rw [hFs] at hfz2
      go_wp2_with fail
      refine QD.out.mono ?_
      rintro e w2 ⟨rfl, hrd2, hgr2⟩
      have H2 := hide (And.intro hrd2 hgr2)
      clear hrd2 hgr2 QD
      have hRlt := H.out.lt
      have hglt := H.out.2.2
      have hob : ∀ b, u4.ownBlock = some b → w.heap.size ≤ b := fun b hb => (HR.out.1.lt b hb).1
      have hown2 := World.ownsRow.alloc (World.ownsRow.kept HR.out.1 H2.out.2 (by
        rcases hb : u4.ownBlock with _ | b
        · exact .inl rfl
        · refine .inr fun e => ?_
          injection e with e
          have := hob b hb
          omega)) (.cells F 35)
      have hsz2 : w.heap.size ≤ w2.heap.size := Nat.le_trans HR.out.2.2.size H2.out.2.size
      have HO2 := hide (And.intro hown2 (And.intro hob (And.intro hRlt (And.intro hglt hsz2))))
      have hnew : ∀ j u, F.toList[j]? = some u → (w2.alloc (.cells F 35)).cell? ((⟨w2.heap.size, 0, none⟩ : Addr).add j) = some u := fun j u hj => by
        rw [Addr.add_mid, Nat.zero_add, (Blk.new w2 35 F).cell j, ← Array.getElem?_toList]; exact hj
      have HNW := hide hnew
      clear hob hown2 hsz2 hRlt hglt hnew
      go_wp2_with (at_builtin; go_loud (refine wpList_append_own_at _ rfl _ _ 59 rfl w.heap.size 35 i0 (.agg (Array.replicate 32 (.int .u8 0))) 32 32 Tryd.underlying59 HI.out.1 HI.out.2.1 HI.out.2.2.1 HI.out.2.2.2 rfl (by decide) _ _ _ rfl HO2.out.1 ⟨w2.heap.size, 0, none⟩ 1 1 F.toList rfl (by simpa using HF.out.1) HNW.out (fun u hu => by have := HF.out.2.1; rw [Array.all_eq_true_iff_forall_mem] at this; exact this u (by simpa using hu)) (by unfold maxLen; omega) (by omega) (by have := HO2.out.2.2.2.2; simp; omega) ?_; intro v3 w3 hown3 hgr3 _ _))
      have hg13 : ∀ b, b < w.heap.size → b ≠ R → w3.heap[b]? = w.heap[b]? := fun b hb hne => by
        have h1 := HR.out.2.2.block b hb (by intro e; injection e with e; exact hne e)
        have h2 := H2.out.2.block b (Nat.lt_of_lt_of_le hb HR.out.2.2.size) (by intro e; injection e with e; exact hne e)
        have h3 := Below.heap_alloc w2 (.cells F 35) b (Nat.lt_of_lt_of_le hb HO2.out.2.2.2.2)
        have h4 := hgr3.block b (by have := HO2.out.2.2.2.2; simp; omega) (fun e => by have := HO2.out.2.1 b e.symm; omega)
        rw [h4, h3, h2, h1]
      have hg23 : ∀ b, b < w.heap.size → w3.heap[b]? = w2.heap[b]? := fun b hb => by
        have h3 := Below.heap_alloc w2 (.cells F 35) b (Nat.lt_of_lt_of_le hb HO2.out.2.2.2.2)
        have h4 := hgr3.block b (by have := HO2.out.2.2.2.2; simp; omega) (fun e => by have := HO2.out.2.1 b e.symm; omega)
        rw [h4, h3]
      have hsz3 : w2.heap.size ≤ w3.heap.size := Nat.le_trans (by simp) hgr3.size
      have hrd3 : Rd w3 R gb (l.drop (32 * (k + 1))) := by
        have := H2.out.1.same hsz3 (hg23 R HO2.out.2.2.1) (hg23 gb HO2.out.2.2.2.1)
        rw [List.drop_drop] at this
        rwa [show 32 * (k + 1) = 32 * k + 32 by omega]
      have hgw : w.grownBy w3 (some R) := ⟨(hgr3.os.trans H2.out.2.os).trans HR.out.2.2.os, (hgr3.tape.trans H2.out.2.tape).trans HR.out.2.2.tape, (hgr3.output.trans H2.out.2.output).trans HR.out.2.2.output, Nat.le_trans HO2.out.2.2.2.2 hsz3, fun b hb hne => hg13 b hb (fun e => hne (by rw [e]))⟩
      have hck : (ck (k + 1) l).flatMap bcells = (ck k l).flatMap bcells ++ F.toList := by rw [ck_snoc, List.flatMap_append, HF.out.2.2]; simp
      have HE := hide (And.intro (show w3.ownsRow w.heap.size 35 32 v3 (k + 1) ((ck (k + 1) l).flatMap bcells) by rw [hck]; exact hown3) (And.intro hrd3 hgw))
      clear hown3 hgr3 hg13 hg23 hsz3 hrd3 hgw hck
      go_roundw
      case rel => exact ⟨k + 1, by omega, by go_num, HE.out.1, HE.out.2.1, HE.out.2.2⟩
      case measure => simp [intOf]; omega
    · have hkm : k = m := by omega
      subst hkm
      go_wp2
      go_ret
      exact ⟨_, rfl, HR.out.1, HR.out.2.1, HR.out.2.2⟩
end Go.Proofs.YtdohebhbiokljaaDoor

/- The program's Chain for any leaf, and how long it is. -/
namespace Go.Proofs.YtdohebhbiokljaaDoor
open Go.RowKit Go.Shelf
theorem wd_pow : ∀ (f x n : Nat), ∃ k, k ≤ f ∧ wd f x n = x * 2 ^ k
  | 0, x, n => ⟨0, by omega, by simp [wd]⟩
  | f + 1, x, n => by
    unfold wd
    split
    · obtain ⟨k, hk, he⟩ := wd_pow f (x * 2) n
      exact ⟨k + 1, by omega, by rw [he, Nat.pow_succ, Nat.mul_assoc, Nat.mul_comm 2]⟩
    · exact ⟨0, by omega, by simp⟩
theorem wd_ge : ∀ (f x n : Nat), n ≤ x * 2 ^ f → n ≤ wd f x n
  | 0, x, n, h => by simpa [wd] using h
  | f + 1, x, n, h => by
    unfold wd
    split
    · exact wd_ge f (x * 2) n (by rw [Nat.mul_assoc, ← Nat.pow_succ']; exact h)
    · omega
theorem wid_ge {n : Nat} (h : n ≤ 512) : n ≤ wid n := wd_ge 9 1 n h
theorem abv_cons (x : Nat) (l : List Nat) : abv (x :: l) = if 1 < x then x :: abv l else abv l := by
  unfold abv
  by_cases h : 1 < x <;> simp [h]
theorem ups_zero (f : Nat) : ups f 0 = [] := by cases f <;> rfl
theorem abv_ups : ∀ (k f i : Nat), k + 1 ≤ f → i < 2 ^ k → (abv (ups f (2 ^ k + i))).length = k
  | 0, f, i, hf, hi => by
    obtain ⟨g, rfl⟩ : ∃ g, f = g + 1 := ⟨f - 1, by omega⟩
    have : i = 0 := by rw [Nat.pow_zero] at hi; omega
    subst this
    simp [ups, abv_cons, ups_zero, abv]
  | k + 1, f, i, hf, hi => by
    obtain ⟨g, rfl⟩ : ∃ g, f = g + 1 := ⟨f - 1, by omega⟩
    have hp : 0 < 2 ^ k := Nat.pow_pos (by omega)
    rw [Nat.pow_succ] at hi ⊢
    have h2 : (2 ^ k * 2 + i) / 2 = 2 ^ k + i / 2 := by omega
    have := abv_ups k g (i / 2) (by omega) (by omega)
    rw [show ups (g + 1) (2 ^ k * 2 + i) = (2 ^ k * 2 + i) :: ups g ((2 ^ k * 2 + i) / 2) by simp [ups]; omega, abv_cons, if_pos (by omega), h2, List.length_cons, this]
theorem chain_same {n i : Nat} (h : 1 ≤ n ∧ n ≤ 512) (hi : i < n) : (abv (ups 10 (wid n + i))).length = chainLen n := by
  obtain ⟨k, hk, he⟩ := wd_pow 9 1 n
  have hg := wid_ge h.2
  have hw : wid n = 2 ^ k := by unfold wid; rw [he, Nat.one_mul]
  have h0 := abv_ups k 10 0 (by omega) (Nat.pow_pos (by omega))
  have h1 := abv_ups k 10 i (by omega) (by omega)
  unfold chainLen
  rw [hw, h1]
  rw [Nat.add_zero] at h0
  exact h0.symm

set_option maxRecDepth 100000 in
set_option maxHeartbeats 400000 in
theorem nodei_any (n i : Nat) (w : World) (h : 1 ≤ n ∧ n ≤ 512) (hi : i < n) :
    Calls Tryd.prog 96 #[.int .i64 (n : Int), .int .i64 (i : Int)] w fun e w' => e = .returned (.tuple #[.int .i64 ((wid n + i : Nat) : Int), .int .i64 0]) ∧ w = w' := by
  have Q := hide (width_any n w h)
  have h1 := wid_le n
  have h2 := wid_pos n
  have i1 : ¬ (i : Int) < 0 := by omega
  have i2 : ¬ (i : Int) ≥ (n : Int) := by omega
  have hw1 : IntKind.i64.wrap ((wid n : Int) + (i : Int)) = ((wid n + i : Nat) : Int) := by rw [IntWalk.i64_in _ (by omega)]; omega
  have HW := hide hw1
  generalize hs : wid n + i = s at *
  generalize wid n = m at *
  clear hs
  go_enter Tryd.func96, Tryd.ntmps96
  go_wp2_with fail
  refine Q.out.mono ?_
  rintro e w1 ⟨rfl, rfl⟩
  go_wp2
  go_ret2
  exact ⟨rfl, rfl⟩
set_option maxRecDepth 100000 in
set_option maxHeartbeats 400000 in
theorem nodei_bad (n : Nat) (i : Int) (w : World) (h : 1 ≤ n ∧ n ≤ 512) (hi : ¬ (0 ≤ i ∧ i < (n : Int))) :
    Calls Tryd.prog 96 #[.int .i64 (n : Int), .int .i64 i] w fun e w' => e = .returned (.tuple #[.int .i64 0, .int .i64 111]) ∧ w = w' := by
  have Q := hide (width_any n w h)
  have h1 := wid_le n
  have h2 := wid_pos n
  generalize wid n = m at *
  by_cases h0 : i < 0
  · clear hi
    go_enter Tryd.func96, Tryd.ntmps96
    go_wp2_with fail
    refine Q.out.mono ?_
    rintro e w1 ⟨rfl, rfl⟩
    go_wp2
    go_ret2
    exact ⟨rfl, rfl⟩
  · have i2 : i ≥ (n : Int) := by omega
    clear hi
    go_enter Tryd.func96, Tryd.ntmps96
    go_wp2_with fail
    refine Q.out.mono ?_
    rintro e w1 ⟨rfl, rfl⟩
    go_wp2
    go_ret2
    exact ⟨rfl, rfl⟩
set_option maxRecDepth 100000 in
set_option maxHeartbeats 400000 in
theorem upi_tree (n i : Nat) (w : World) (h : 1 ≤ n ∧ n ≤ 512) (hi : i < n) :
    Calls Tryd.prog 97 #[.int .i64 (n : Int), .int .i64 (i : Int)] w fun e w' => e = .returned (.func (.func 109) #[] #[.pointer (some ⟨w.heap.size, 0, none⟩)]) ∧ w' = w.alloc (.cells #[.int .i64 ((wid n + i : Nat) : Int)] 3) := by
  have Q := hide (nodei_any n i w h hi)
  generalize wid n + i = m at *
  go_enter Tryd.func97, Tryd.ntmps97
  go_wp2_with fail
  refine Q.out.mono ?_
  rintro e w1 ⟨rfl, rfl⟩
  go_wp2
  go_ret
  exact ⟨rfl, rfl⟩
end Go.Proofs.YtdohebhbiokljaaDoor

namespace Go.Proofs.YtdohebhbiokljaaDoor
open Go.RowKit Go.Shelf
attribute [local go_sem] Oper.semAt_some
theorem row_put {W : World} {base : Nat} {e : TypeId} {sz : Nat} {v : Value} {n : Nat} {xs : List Value} {D : Nat} {ds : Option (List Deferred)} {o : Obj} (h : W.ownsRow base e sz v n xs) (hK : W.heap[D]? = some (.deferred ds)) : (W.putObj D o).ownsRow base e sz v n xs := by
  refine h.kept (w' := W.putObj D o) (row := some D) ⟨rfl, rfl, rfl, by simp [World.putObj], fun b hb hne => ?_⟩ ?_
  · have : D ≠ b := fun e => hne (by rw [e])
    simp [World.putObj, Array.getElem?_setIfInBounds, this]
  · rcases h.2 with ⟨rfl, _⟩ | ⟨g, cap, cur, rfl, _, hh, _⟩
    · exact .inl rfl
    · refine .inr fun he => ?_
      have : g = D := by simpa [Value.ownBlock] using he
      subst this
      rw [hK] at hh
      cases hh
set_option maxRecDepth 100000 in
set_option maxHeartbeats 1000000 in
theorem chaini_in (F : Fence) (hF : F = Fence.wide) (n i : Nat) (h : 1 ≤ n ∧ n ≤ 512) (hi0 : i < n) (w : World) :
    CallsIn F 5 Tryd.prog 63 #[.int .i64 (n : Int), .int .i64 (i : Int)] w fun e W' => ∃ A c, e = .returned (.tuple #[.slice A (chainLen n) c, .int .i64 0]) ∧ W'.ownsRow w.heap.size 3 1 (.slice A (chainLen n) c) (chainLen n) ((abv (ups 10 (wid n + i))).map xr) ∧ Below w.heap.size w W' := by
  have hch : F.fn 63 := by rw [hF]; trivial
  have hnode : F.fn 96 := by rw [hF]; trivial
  have hup : F.fn 97 := by rw [hF]; trivial
  have hup1 : F.fn 109 := by rw [hF]; trivial
  have hro : F.round = none := by rw [hF]; rfl
  have q1 : ∀ m w, CallsIn F m Tryd.prog 96 #[.int .i64 (n : Int), .int .i64 (i : Int)] w fun e w' => e = .returned (.tuple #[.int .i64 ((wid n + i : Nat) : Int), .int .i64 0]) ∧ w = w' := by
    subst hF; exact fun m w => callsIn_wide.2 (nodei_any n i w h hi0)
  have q2 : ∀ m w, CallsIn F m Tryd.prog 97 #[.int .i64 (n : Int), .int .i64 (i : Int)] w fun e w' => e = .returned (.func (.func 109) #[] #[.pointer (some ⟨w.heap.size, 0, none⟩)]) ∧ w' = w.alloc (.cells #[.int .i64 ((wid n + i : Nat) : Int)] 3) := by
    subst hF; exact fun m w => callsIn_wide.2 (upi_tree n i w h hi0)
  clear hF
  have hw1 := wid_le n
  have hw2 := wid_pos n
  rw [← chain_same h hi0]
  have hm0 : wid n + i < 1024 := by omega
  generalize wid n + i = m at *
  clear hw1 hw2
  obtain ⟨i0, hi, hz0, hz1, hz2⟩ := info_parts infoInt
  refine callsIn_of_wp_marks Tryd.func63 rfl hch ?_ hro
  simp only [Tryd.ntmps63, List.size_toArray, List.length_cons, List.length_nil, Nat.reduceAdd, Nat.reduceSub, Array.replicate_succ, Array.replicate_zero, List.push_toArray, List.append_toArray, List.nil_append, List.cons_append]
  gi_wp2_with (gi_at_call 96; refine (q1 _ _).mono ?_; rintro e w' ⟨rfl, rfl⟩)
  gi_wp2_with (gi_at_call 97; refine (q2 _ _).mono ?_; rintro e w' ⟨rfl, rfl⟩)
  have bO := Boxed.new w 103 (.slice none 0 0)
  have bN := Boxed.new (w.alloc (.cells #[.slice none 0 0] 103)) 3 (.int .i64 (m : Int))
  rw [World.size_alloc] at bN
  have hB0 : Below w.heap.size w ((w.alloc (.cells #[.slice none 0 0] 103)).alloc (.cells #[.int .i64 (m : Int)] 3)) := ((Below.refl _ w).alloc (Nat.le_refl _) _).alloc (by simp) _
  have hlen := ups_length 10 m
  have hml : 20 ≤ maxLen := by unfold maxLen; omega
  refine wpIn_rangeFunc_ownG hro (by omega) (gf := 109) (lb := #[.pointer (some ⟨w.heap.size + 1, 0, none⟩)]) rfl hup1 (enters_of Tryd.func109 (by kernel_rfl) rfl)
    (up1_stops F 4 hup1 hro (by omega) (w.heap.size + 1) w.heap.size m (by omega) _ (by simp) bN.cell) belowK_t (belowK_b (by simp; omega)) (Below.refl _ _) (fun _ => rfl)
    (fun pre W => (∃ v, Boxed W w.heap.size 103 v ∧ W.ownsRow w.heap.size 3 1 v (abv pre).length ((abv pre).map xr) ∧ True) ∧ Below w.heap.size w W)
    (fun _ _ _ => False)
    (OwnFrom.and (Own.from (holdsRow_own w.heap.size w.heap.size 103 3 1 (fun pre => (abv pre).length) (fun pre => (abv pre).map xr) (fun _ _ => True)) _) (ownFrom_below (Nat.le_refl _) (by simp; omega)))
    (fun _ _ _ _ _ hs _ _ => hs)
    ⟨⟨_, bO.alloc _, World.ownsRow_nil _ _ _ _, trivial⟩, hB0⟩
    (fun x => { tmps := #[.int .i64 (n : Int), .int .i64 (i : Int), undef, undef, .slice none 0 0, .int .i64 0, .int .i64 (m : Int), .int .i64 0, .pointer (some ⟨w.heap.size, 0, none⟩), .int .i64 (x : Int), .tuple #[.int .i64 (m : Int), .int .i64 0], .int .i64 (n : Int), .int .i64 (i : Int), .tuple #[.int .i64 (m : Int), .int .i64 0], .int .i64 (m : Int), .int .i64 0, .int .i64 0, .bool false, undef, .int .i64 (n : Int), .int .i64 (i : Int), .func (.func 109) #[] #[.pointer (some ⟨w.heap.size + 1, 0, none⟩)], .int .i64 (x : Int), undef, undef, undef, undef, undef, undef, undef, undef], defers := [] }) ?assign ?body ?done ?stop
  case assign =>
    intro l x W K hK
    gi_wp2
    exact hK
  case body =>
    rintro l pre x W ⟨⟨v, hv, hrow, -⟩, hB⟩ hlt
    have hc := hv.cell
    have hpl : (abv pre).length ≤ pre.length := List.length_filter_le _ _
    gi_wp2_with (gi_at_builtin; refine wpListIn_append_own _ rfl _ _ 103 rfl w.heap.size 3 i0 (.int .i64 0) 1 8 Tryd.underlying103 hi hz0 hz1 hz2 rfl (by decide) _ _ _ rfl (hrow.alloc _) ⟨W.heap.size, 0, none⟩ 1 1 [xr x] rfl rfl (cell_one_new _ _ _) (by simp [Value.oneCell', xr]) (by omega) (by omega) (by have := hB.size; simp; omega) ?_; intro v' w1 hown' hgrow _; obtain ⟨g', cap', rfl⟩ := ownsRow_succ hown'; obtain ⟨hv1, hv2, hr2, hk2, hb2⟩ := hv.appended (by decide) hrow hB.size (Nat.le_refl _) hown' hgrow; have hc1 := hv1.cell; have hf1 := hv1.frozen)
    · have hx : 1 < x := by omega
      exact ⟨hk2.from _, hb2, ⟨_, hv2, by rw [abv_hit pre hx]; simpa using hr2, trivial⟩, hB.trans hb2⟩
    · have hx : ¬ 1 < x := by omega
      exact ⟨KeepsFrom.refl _ _, Below.refl _ _, ⟨v, hv, by rw [abv_miss pre hx]; exact hrow, trivial⟩, hB⟩
  case done =>
    rintro D ys W hD rfl ⟨⟨v, hv, hrow, -⟩, hB⟩ hK
    have hc := hv.cell
    gi_wp2
    refine ⟨by simp, .inl ⟨_, _, rfl, run_takeDeferred hK, ?_⟩⟩
    have hrow2 := hrow
    have hv' : ∃ A c, v = .slice A (abv (ups 10 m)).length c := by
      rcases hrow.2 with ⟨rfl, h0⟩ | ⟨g, cap, cur, rfl, _⟩
      · exact ⟨none, 0, by rw [h0]⟩
      · exact ⟨_, _, rfl⟩
    obtain ⟨A, c, rfl⟩ := hv'
    refine ⟨_, results_tmp2 rfl _ _ _, A, c, rfl, ?_, hB.trans (belowK_b (w := w) (Nat.le_refl _) W D _ _ (by simp at hD; omega) hK rfl rfl)⟩
    exact row_put hrow2 hK
  case stop =>
    rintro D c pre W _ _ h _
    exact h.elim

theorem chaini_any (n i : Nat) (w : World) (h : 1 ≤ n ∧ n ≤ 512) (hi : i < n) :
    Calls Tryd.prog 63 #[.int .i64 (n : Int), .int .i64 (i : Int)] w fun e W' => ∃ A c, e = .returned (.tuple #[.slice A (chainLen n) c, .int .i64 0]) ∧ W'.ownsRow w.heap.size 3 1 (.slice A (chainLen n) c) (chainLen n) ((abv (ups 10 (wid n + i))).map xr) ∧ Below w.heap.size w W' :=
  callsIn_wide.1 (chaini_in Fence.wide rfl n i h hi w)

set_option maxRecDepth 100000 in
set_option maxHeartbeats 400000 in
theorem chaini_bad (n : Nat) (i : Int) (w : World) (h : 1 ≤ n ∧ n ≤ 512) (hi : ¬ (0 ≤ i ∧ i < (n : Int))) :
    Calls Tryd.prog 63 #[.int .i64 (n : Int), .int .i64 i] w fun e w' => e = .returned (.tuple #[.slice none 0 0, .int .i64 111]) ∧ w = w' := by
  have Q := hide (nodei_bad n i w h hi)
  clear hi
  go_enter Tryd.func63, Tryd.ntmps63
  go_wp2_with fail
  refine Q.out.mono ?_
  rintro e w1 ⟨rfl, rfl⟩
  go_wp2
  go_ret2
  exact ⟨rfl, rfl⟩
end Go.Proofs.YtdohebhbiokljaaDoor

