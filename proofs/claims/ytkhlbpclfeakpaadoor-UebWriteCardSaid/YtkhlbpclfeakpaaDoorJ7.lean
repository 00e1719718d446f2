/- Joined texts: RdB. -/
import Derived.Test.YtkhlbpclfeakpaaDoorJ4

/- The contract of the program's Read. -/
namespace Go.Proofs.YtkhlbpclfeakpaaDoor
open Go.RowKit

theorem zero_cells : Tryd.zeroCells49 = US.zero.cells := by kernel_rfl
theorem results_row_tmp2 {P : Program} {fn : Func} {p u v : Tmp} {ty : TypeId} (h : fn.results = #[.cell p ty, .tmp u, .tmp v]) (tmps : Array Value) (w : World) (g : Nat) (t : TypeId) (cs : Array Value) (fr : Nat × Nat) (d : TypeDesc)
    (hp : tmps.getD p undef = .pointer (some ⟨g, 0, none⟩)) (hg : w.heap[g]? = some (.cells cs t fr))
    (hu : P.underlying ty = some d) (hd : (match d with | .struct _ | .array _ _ => true | _ => false) = true) (hi : (P.info? ty).map (·.size) = some cs.size) :
    (results fn tmps).run P w = .ok (.tuple #[.agg cs, tmps.getD u undef, tmps.getD v undef]) w := by
  have hp' : tmps[p]?.getD undef = .pointer (some ⟨g, 0, none⟩) := by simpa using hp
  simp only [results, h]
  simp [Sem.run_bind, Result.andThen, hp', asAddr, run_loadVar_row w g t ty cs fr d hg hu hd hi]

theorem below_grown {w w' : World} (h : Below w.heap.size w w') (row : Option Nat) : w.grownBy w' row := ⟨h.os, h.tape, h.output, h.size, fun k hk _ => h.block k hk⟩

theorem cell_grown {w W : World} {row : Option Nat} {p : Addr} {v : Value} (h : w.cell? p = some v) (hg : w.grownBy W row) (hne : some p.block ≠ row) : W.cell? p = some v := by
  have hb := World.block_lt_of_cell? _ _ h
  have := hg.block p.block hb hne
  unfold World.cell? at h ⊢
  rw [this]
  exact h

set_option maxRecDepth 100000 in
theorem call_clo (k : Nat) (args : Array Value) (W : World) : (callFunc (cloF k) args).run Tryd.prog W = .ok (.enter (cloF k) args) W := by
  unfold cloF
  by_cases h : k < 4
  · rw [if_pos h]; rfl
  · rw [if_neg h]; rfl

theorem ueb_one (u : US) : u.cells.all (·.oneCell') = true := by
  unfold US.cells uebC
  rw [← Array.all_toList]
  simp [bcells, Value.oneCell']

/-- A row is laid. -/
theorem laid_row (k b g : Nat) (v : Value) (l : List UInt8) (u : US) (w : World) (hk : k < 6) (h : By w v l) (hl : l.length ≤ 1048576) (ht : Tab w) (he : Err w) (hb : w.cell? ⟨b, 0, none⟩ = some (.pointer (some (tgt g k)))) (hg : Blk w g 49 u.cells) (hu : u.wf) :
    Calls Tryd.prog (cloF k) #[v, .pointer (some ⟨b, 0, none⟩)] w fun e w' => e = .returned (.bool (okV k l)) ∧ w.grownBy w' (some g) ∧ (okV k l = true → Blk w' g 49 (putU u k l).cells) := by
  have hsz := US.size_ hu
  by_cases h4 : k < 4
  · have e1 : cloF k = 100 := by unfold cloF; rw [if_pos h4]
    have e2 : tgt g k = ⟨g, k, none⟩ := by
      have hc : k = 0 ∨ k = 1 ∨ k = 2 ∨ k = 3 := by omega
      rcases hc with rfl | rfl | rfl | rfl <;> rfl
    rw [e1]
    rw [e2] at hb
    obtain ⟨old, hq⟩ : ∃ old, w.cell? ⟨g, k, none⟩ = some old := ⟨_, (hg.cell k).trans (Array.getElem?_eq_getElem (by omega))⟩
    refine (num_lay v l b ⟨g, k, none⟩ w h hl ht he hb old hq (hg.frozen k) rfl).mono ?_
    rintro e w' ⟨rfl, w1, b1, rfl⟩
    refine ⟨by unfold okV; rw [if_pos h4], (below_grown b1 _).trans_ (store_grown _ _ _ _), fun _ => ?_⟩
    rw [putU_num h4]
    exact (hg.below' b1).set_ k _
  · have e1 : cloF k = 102 := by unfold cloF; rw [if_neg h4]
    rw [e1]
    obtain ⟨_, A, c, rfl, hc, _, hcell⟩ := h
    by_cases h32 : l.length = 32
    · obtain ⟨gA, oA, rfl, _, hcs⟩ := hcell (by omega)
      have e2 : ∃ q, tgt g k = ⟨g, q, none⟩ ∧ q = (tgt 0 k).off ∧ q + 32 ≤ 68 := by
        have hc : k = 4 ∨ k = 5 := by omega
        rcases hc with rfl | rfl
        · exact ⟨36, rfl, rfl, by omega⟩
        · exact ⟨4, rfl, rfl, by omega⟩
      obtain ⟨q, e2, e3, e4⟩ := e2
      rw [e2] at hb
      rw [h32]
      refine (dig_lay gA oA c l b g q w h32 (by omega) (fun j v hv => ?_) hb (fun j hj => ⟨?_, hg.frozen _⟩)).mono ?_
      · rw [hcs j (by have := (List.getElem?_eq_some_iff.1 hv).1; simpa using this)]
        exact hv
      · rw [hg.cell, Array.getElem?_eq_getElem (by omega)]; rfl
      · rintro e w' ⟨rfl, rfl⟩
        refine ⟨by unfold okV; rw [if_neg h4, decide_eq_true h32], (grown_drew (World.grownBy.refl w _)).trans_ (stores_grown _ _ _ _), fun _ => ?_⟩
        rw [putU_dig hu hk h4 h32, ← e3]
        exact blk_setCells _ _ _ _ hg.drew (by simp [h32]; omega)
    · refine (dig_no A l.length c b w h32).mono ?_
      rintro e w' ⟨rfl, rfl⟩
      refine ⟨by unfold okV; rw [if_neg h4, decide_eq_false h32], World.grownBy.refl _ _, fun h' => ?_⟩
      unfold okV at h'
      rw [if_neg h4] at h'
      simp [h32] at h'

theorem look_yes {w W : World} {m n g : Nat} {D : DataW Unit} {B : Nat → Nat} (hown : w.ownsMap Tryd.prog 9 rFun m n D) (hne : m ≠ g) (hgr : w.grownBy W (some g)) (hhas : ∀ k, k < 6 → Maps.has D (keyL k) = true) (hat : ∀ k, k < 6 → ∀ z, D.atKey (keyL k) z = cloD k (B k)) (s : ByteArray) (k : Nat) (hk : kx (lst s) = k) (h6 : k < 6) :
    (Instr.lookup 107 (.map (some m)) (.string s) true).run Tryd.prog W = .ok (.tuple #[.func (.func (cloF k)) #[] #[.pointer (some ⟨B k, 0, none⟩)], .bool true]) W := by
  have hs : lst s = (keyB k).data.toList := key_kx hk h6
  have hsz : s.size ≤ maxLen := by
    have := lst_len s
    rw [hs] at this
    have h2 := key_len k
    have h3 : (keyB k).data.toList.length = (keyB k).size := lst_len _
    omega
  have hkey := WideMaps.keyOf_string_mk (P := Tryd.prog) Tryd.underlying9 hsz
  have hz : (zeroValue 64).run Tryd.prog W = .ok .nilFunc W := by kernel_rfl
  have hzd : rFun .nilFunc = some (.nil, []) := by
    unfold rFun
    rw [dif_neg (by rintro ⟨b, hb⟩; cases hb), dif_neg (by rintro ⟨b, hb⟩; cases hb)]
  obtain ⟨v, ps, hrun, hR⟩ := (hown.kept hgr (fun h => hne (Option.some.inj h))).look_ok keyed_str Tryd.underlying107 hz hzd hkey
  have hkl : (Lit.string s.data.toList) = keyL k := by unfold keyL; rw [← hs]
  rw [hkl, hhas k h6] at hrun
  rw [hkl, hat k h6] at hR
  rw [hrun, rFun_back hR]
  rfl
theorem look_no {w W : World} {m n g : Nat} {D : DataW Unit} (hown : w.ownsMap Tryd.prog 9 rFun m n D) (hne : m ≠ g) (hgr : w.grownBy W (some g)) (hno : ∀ s : List UInt8, (∀ k, k < 6 → s ≠ (keyB k).data.toList) → Maps.has D (.string s) = false) (s : ByteArray) (hs : s.size ≤ maxLen) (hk : ¬ kx (lst s) < 6) :
    ∃ v, ∀ X, X = W → (Instr.lookup 107 (.map (some m)) (.string s) true).run Tryd.prog X = .ok (.tuple #[v, .bool false]) X := by
  have hkey := WideMaps.keyOf_string_mk (P := Tryd.prog) Tryd.underlying9 hs
  have hz : (zeroValue 64).run Tryd.prog W = .ok .nilFunc W := by kernel_rfl
  have hzd : rFun .nilFunc = some (.nil, []) := by
    unfold rFun
    rw [dif_neg (by rintro ⟨b, hb⟩; cases hb), dif_neg (by rintro ⟨b, hb⟩; cases hb)]
  obtain ⟨v, ps, hrun, hR⟩ := (hown.kept hgr (fun h => hne (Option.some.inj h))).look_ok keyed_str Tryd.underlying107 hz hzd hkey
  rw [hno _ (key_no hk)] at hrun
  exact ⟨v, fun X hX => by rw [hX]; exact hrun⟩

set_option maxRecDepth 100000 in
set_option maxHeartbeats 4000000 in
theorem read_any (v : Value) (b : List UInt8) (w : World) (h : By w v b) (hl : b.length ≤ 9223372036854775807) (ht : Tab w) (he : Err w) :
    Calls Tryd.prog 40 #[v] w fun e w' => Below w.heap.size w w' ∧ e = readV (readU b) := by
  obtain ⟨A, c, rfl, hc, hm, _⟩ := h.form
  have Q1 := hide (fun W (hW : Below w.heap.size w W) => unpack_any (.slice A b.length c) b W (h.below hW) hl (ht.below hW) (he.below hW))
  have HT := hide (And.intro ht he)
  clear h ht he
  go_enter Tryd.func40, Tryd.ntmps40
  go_wp2_with fail
  refine (Q1.out _ ((Below.refl _ w).alloc (Nat.le_refl _) _)).mono ?_
  rintro e w1 ⟨b1, ⟨L, v', hu, rfl, hL⟩ | ⟨p, hu, rfl⟩⟩
  · have HB0 := hide ((Blk.new w 49 US.zero.cells).below' (zero_cells ▸ b1))
    have B1 := hide (((Below.refl w.heap.size w).alloc (Nat.le_refl _) _).trans (b1.mono (by simp)))
    have HU := hide hu
    have HL := hide hL
    have hL2 := hide hL.rws_
    obtain ⟨_, A2, c2, rfl, hc2, hm2, _⟩ := hL.rws_.1
    have Q2 := hide (fun W => layers_any w1.heap.size W)
    clear b1 hu hL Q1
    go_wp2_with fail
    refine (Q2.out _).mono ?_
    rintro e w2 ⟨m, B, D, n, rfl, b2, hmm, hown, hn, hsz, hhas, hat, hno, hcell⟩
    have hlen := hown.len (ty := 3) Tryd.underlying107
    rw [hsz] at hlen
    have hrw := hL2.out
    have HOWN := hide hown
    have HM := hide (And.intro hhas (And.intro hat (And.intro hno hcell)))
    have B2 := hide ((Below.refl w1.heap.size w1).alloc (Nat.le_refl _) _ |>.trans (b2.mono (by simp)))
    have HBU := hide ((Blk.new w1 49 US.zero.cells).below' (zero_cells ▸ b2))
    have HMAY : Hid (may (rws L)) := by
      rcases unpack_cases b with ⟨rs, h1, _, h3⟩ | ⟨p, _, h1⟩
      · have h2 := HU.out
        rw [h1] at h2
        simp only [Prod.mk.injEq] at h2
        rw [← h2.1]; exact h3
      · have h2 := HU.out
        rw [h1] at h2
        simp at h2
    have hmm' : w1.heap.size < m := by simp at hmm; omega
    have HROW := hide hL2.out.form
    clear hown hhas hat hno hcell b2 hmm Q2 hrw
    by_cases h6 : L.length = 6
    · have i6 : (L.length : Int) = 6 := by omega
      go_wp2
      go_loopw [35] (fun u35 wr => ∃ (i : Nat) (u : US), i ≤ L.length ∧ u35 = .int .i64 i ∧ Below w1.heap.size w1 wr ∧ w2.grownBy wr (some w1.heap.size) ∧ Blk wr w1.heap.size 49 u.cells ∧ u.wf ∧ u.in ∧ foldU u (rws (L.drop i)) = foldU US.zero (rws L)) (fun u35 _ => L.length - (intOf u35).toNat)
      case atStart => exact ⟨0, US.zero, by omega, rfl, B2.out, World.grownBy.refl _ _, HBU.out, US.zero_wf, US.zero_in, rfl⟩
      case round =>
        obtain ⟨i, u, hi, rfl, hb, hgr, hblk, hwf, hin, hfold⟩ := hrel
        by_cases hlt : i < L.length
        · have i1 : (i : Int) < 6 := by omega
          obtain ⟨x, hx⟩ : ∃ x, L[i]? = some x := ⟨_, List.getElem?_eq_getElem hlt⟩
          obtain ⟨A', c', hv, _, _, hcl⟩ := HROW.out
          injection hv with e1 _ e3
          subst e1 e3
          obtain ⟨bb, o, rfl, hbl, h1, h2⟩ := hcl i x hx
          have i2 : (i : Int) < (L.length : Int) := by omega
          have i3 : (0 : Int) ≤ (i : Int) := by omega
          have hb1 : wr.cell? ⟨bb, o + i * 2, none⟩ = some (.string x.1) := (hb.cell (p := ⟨bb, o + i * 2, none⟩) hbl).trans h1
          have hb2 : wr.cell? ⟨bb, o + i * 2 + 1, none⟩ = some x.2.1 := (hb.cell (p := ⟨bb, o + i * 2 + 1, none⟩) hbl).trans h2
          have hby := (hL2.out.2 x (List.mem_of_getElem? hx)).below hb
          obtain ⟨A3, c3, hv3, _⟩ := hby.form
          rw [hv3] at hb2 hby
          have HBY := hide hby
          have HBB := hide hb
          have HGR := hide hgr
          have HBK := hide hblk
          have HF := hide hfold
          clear hcl h1 h2 hby hb hgr hblk hfold hv3
          have hsp := (may_mem HMAY.out _ (List.mem_of_getElem? (rws_get hx)))
          have hdrop : rws (L.drop i) = (lst x.1, x.2.2) :: rws (L.drop (i + 1)) := by
            obtain ⟨hlt', hge⟩ := List.getElem?_eq_some_iff.1 hx
            rw [List.drop_eq_getElem_cons hlt', hge]
            rfl
          rw [hdrop] at HF
          have hg1 : w2.grownBy (wr.alloc (.cells #[.string x.1, .slice A3 x.2.2.length c3] 69)) (some w1.heap.size) := HGR.out.trans_ (World.grownBy_alloc wr _ _)
          have hBW := Below.al0 HBB.out (.cells #[.string x.1, .slice A3 x.2.2.length c3] 69)
          by_cases hk : kx (lst x.1) < 6
          · have hlk := look_yes HOWN.out (by omega) hg1 HM.out.1 HM.out.2.1 x.1 _ rfl hk
            have Q3 := hide (laid_row _ (B (kx (lst x.1))) w1.heap.size _ x.2.2 u _ hk (HBY.out.alloc _) (Nat.le_trans hsp.2 (by omega)) (HT.out.1.below (Below.step B1.out hBW)) (HT.out.2.below (Below.step B1.out hBW)) (cell_grown (HM.out.2.2.2 _ hk).1 hg1 (fun h => by have := (HM.out.2.2.2 _ hk).2; have h' := Option.some.inj h; simp at h' this; omega)) (HBK.out.alloc _) hwf)
            have hcf := call_clo (kx (lst x.1))
            generalize hkk : kx (lst x.1) = k at *
            have HG1 := hide hg1
            have HBW := hide hBW
            have hb0 := (HB0.out.below' HBB.out).alloc (.cells #[.string x.1, .slice A3 x.2.2.length c3] 69)
            have hlt1 := HB0.out.lt
            rcases hok : okV k x.2.2 with _ | _
            · rw [hok] at Q3
              have hno' : foldU US.zero (rws L) = none := by
                rw [← HF.out]
                unfold foldU stepU
                simp only [hkk, hok]
                rw [if_neg (by simp)]
              have HNO := hide hno'
              clear hdrop hg1 hBW hkk hok hno'
              go_wp2_with fail
              refine Q3.out.mono ?_
              rintro e w4 ⟨rfl, g4, -⟩
              have HB4 := hide (hb0.grown g4 (fun h => by have := Option.some.inj h; omega))
              have BB4 := hide ((Below.step B1.out HBW.out).grown g4 (Below.step B1.out HBW.out).size (fun k hk => by cases hk; exact B1.out.size))
              clear g4 hb0 Q3
              go_wp2_with (refine wpList_store_row (o := ⟨none, .store _ _ _, _, _, _, _⟩) HB4.out US.zero.cells rfl (by kernel_rfl) rfl 49 _ _ rfl (by kernel_rfl) rfl (by rw [← zero_cells]; rfl) ?_; intro wf hb1 hg1)
              refine bodyPost_ret (results_row_tmp2 rfl _ _ w.heap.size 49 US.zero.cells (0, 0) _ rfl hb1 Tryd.underlying49 rfl (by kernel_rfl)) rfl ⟨BB4.out.grown hg1 (by have := HB4.out.lt; omega) (fun k hk => by cases hk; omega), ?_⟩
              rw [readU_no HU.out HNO.out]; rfl
            · rw [hok] at Q3
              have hnext : foldU (putU u k x.2.2) (rws (L.drop (i + 1))) = foldU US.zero (rws L) := by
                rw [← HF.out]
                conv => rhs; unfold foldU stepU
                simp only [hkk, hok]
                rw [if_pos (by simp [hk])]
              have HNX := hide hnext
              have HWF := hide (And.intro (putU_wf hwf hk hok) (putU_in (v := x.2.2) hin hk))
              clear hdrop hg1 hBW hkk hok hnext hwf hin
              go_wp2_with fail
              refine Q3.out.mono ?_
              rintro e w4 ⟨rfl, g4, hb4⟩
              have HG4 := hide g4
              have HB4 := hide (hb4 trivial)
              have BB4 := hide (HBW.out.grown g4 HBW.out.size (fun k hk => by cases hk; exact Nat.le_refl _))
              clear g4 hb0 Q3 hb4
              go_wp2_with fail
              go_roundw
              case rel => exact ⟨i + 1, putU u k x.2.2, by omega, by simp, BB4.out, HG1.out.trans_ HG4.out, HB4.out, HWF.out.1, HWF.out.2, HNX.out⟩
              case measure => simp [intOf]; omega
          · obtain ⟨vv, hlk0⟩ := look_no HOWN.out (by omega) hg1 HM.out.2.2.1 x.1 (by have := hsp.1; rw [lst_len] at this; unfold maxLen; omega) hk
            have hlk := hlk0 _ rfl
            have hb0 := (HB0.out.below' HBB.out).alloc (.cells #[.string x.1, .slice A3 x.2.2.length c3] 69)
            have hlt1 := HB0.out.lt
            have hno' : foldU US.zero (rws L) = none := by
              rw [← HF.out]
              unfold foldU stepU
              simp only
              rw [if_neg (fun h => hk h.1)]
            have HNO := hide hno'
            have HB4 := hide hb0
            have BB4 := hide (Below.step B1.out hBW)
            clear hdrop hg1 hBW hno' hb0 hlk0
            go_wp2_with (refine wpList_store_row (o := ⟨none, .store _ _ _, _, _, _, _⟩) HB4.out US.zero.cells rfl (by kernel_rfl) rfl 49 _ _ rfl (by kernel_rfl) rfl (by rw [← zero_cells]; rfl) ?_; intro wf hb1 hg1)
            refine bodyPost_ret (results_row_tmp2 rfl _ _ w.heap.size 49 US.zero.cells (0, 0) _ rfl hb1 Tryd.underlying49 rfl (by kernel_rfl)) rfl ⟨BB4.out.grown hg1 (by have := HB4.out.lt; omega) (fun k hk => by cases hk; omega), ?_⟩
            rw [readU_no HU.out HNO.out]; rfl
        · have hi6 : i = L.length := by omega
          subst hi6
          have hf6 : foldU US.zero (rws L) = some u := by rw [← hfold, List.drop_length]; rfl
          have i1 : ¬ (L.length : Int) < 6 := by omega
          have hsz6 := US.size_ hwf
          unfold US.in at hin
          have q4 : ∀ W, Calls Tryd.prog 32 #[.agg u.cells] W _ := fun W => check_any_ueb u.k u.n u.seg u.size (bcells u.sh ++ bcells u.sg) W (by omega) (by omega) (by omega) (by omega)
          have Q4 := hide q4
          have HR := hide (readU_some HU.out (by rw [rws_length]; exact h6) hf6)
          have HBK := hide hblk
          have HBB := hide hb
          have HSZ := hide hsz6
          have H1C := hide (ueb_one u)
          have hb0 := HB0.out.below' hb
          have hlt1 := HB0.out.lt
          have hle1 := hb.size
          clear q4 hf6 hfold hgr hblk hb hsz6 hin hwf
          obtain ⟨k0, n0, g0, z0, sh0, sg0⟩ := u
          generalize hcs : US.cells ⟨k0, n0, g0, z0, sh0, sg0⟩ = cs at *
          go_wp2_with (refine wpList_load_row (o := ⟨some 57, .load _ _, _, _, _, _⟩) rfl 49 _ rfl w1.heap.size rfl 49 cs (0, 0) _ HBK.out Tryd.underlying49 rfl (by rw [HSZ.out]; kernel_rfl) ?_)
          refine (Q4.out _).mono ?_
          rintro e w4 ⟨b4, rfl⟩
          have HB4 := hide (hb0.below' b4)
          have HK4 := hide (HBK.out.below' b4)
          have BB4 := hide ((B1.out.trans (HBB.out.mono B1.out.size)).trans (b4.mono (Nat.le_trans B1.out.size hle1)))
          clear b4 hb0 Q4
          by_cases hag : agOK k0 n0 g0 z0
          · rw [if_pos hag]
            simp only [if_pos hag] at HR
            clear hag
            go_wp2_with first
              | ((with_reducible change wpList _ _ _ (⟨some 63, _, _, _, _, _⟩ :: _) _ _); refine wpList_load_row (o := ⟨some 63, .load _ _, _, _, _, _⟩) rfl 49 _ rfl w1.heap.size rfl 49 cs (0, 0) _ HK4.out Tryd.underlying49 rfl (by rw [HSZ.out]; kernel_rfl) ?_)
              | (refine wpList_store_row (o := ⟨none, .store _ _ _, _, _, _, _⟩) HB4.out cs (by rw [HSZ.out]; rfl) H1C.out rfl 49 _ _ rfl (by rw [HSZ.out]; kernel_rfl) rfl rfl ?_; intro wf hb1 hg1)
            refine bodyPost_ret (results_row_tmp2 rfl _ _ w.heap.size 49 cs (0, 0) _ rfl hb1 Tryd.underlying49 rfl (by rw [HSZ.out]; kernel_rfl)) rfl ⟨BB4.out.grown hg1 (by have := HB4.out.lt; omega) (fun k hk => by cases hk; omega), ?_⟩
            rw [HR.out]
            unfold readV
            simp only [hcs]
            rfl
          · rw [if_neg hag]
            simp only [if_neg hag] at HR
            clear hag
            go_wp2_with (refine wpList_store_row (o := ⟨none, .store _ _ _, _, _, _, _⟩) HB4.out US.zero.cells rfl (by kernel_rfl) rfl 49 _ _ rfl (by kernel_rfl) rfl (by rw [← zero_cells]; rfl) ?_; intro wf hb1 hg1)
            refine bodyPost_ret (results_row_tmp2 rfl _ _ w.heap.size 49 US.zero.cells (0, 0) _ rfl hb1 Tryd.underlying49 rfl (by kernel_rfl)) rfl ⟨BB4.out.grown hg1 (by have := HB4.out.lt; omega) (fun k hk => by cases hk; omega), ?_⟩
            rw [HR.out]; rfl
    · have i6 : ¬ (L.length : Int) = 6 := by omega
      go_wp2_with (refine wpList_store_row (o := ⟨none, .store _ _ _, _, _, _, _⟩) (HB0.out.below' B2.out) US.zero.cells rfl (by kernel_rfl) rfl 49 _ _ rfl (by kernel_rfl) rfl (by rw [← zero_cells]; rfl) ?_; intro wf hb1 hg1)
      refine bodyPost_ret (results_row_tmp2 rfl _ _ w.heap.size 49 US.zero.cells (0, 0) _ rfl hb1 Tryd.underlying49 rfl (by kernel_rfl)) rfl ⟨?_, ?_⟩
      · exact (B1.out.trans (B2.out.mono B1.out.size)).grown hg1 (by have := HB0.out.lt; have := B2.out.size; omega) (fun k hk => by cases hk; omega)
      · rw [readU_len HU.out (by rw [rws_length]; exact h6)]; rfl
  · have HB0 := hide ((Blk.new w 49 US.zero.cells).below' (zero_cells ▸ b1))
    have B1 := hide (((Below.refl w.heap.size w).alloc (Nat.le_refl _) _).trans (b1.mono (by simp)))
    have HU := hide hu
    clear b1 hu Q1
    go_wp2_with (refine wpList_store_row (o := ⟨none, .store _ _ _, _, _, _, _⟩) HB0.out US.zero.cells rfl (by kernel_rfl) rfl 49 _ _ rfl (by kernel_rfl) rfl (by rw [← zero_cells]; rfl) ?_; intro wf hb1 hg1)
    refine bodyPost_ret (results_row_tmp2 rfl _ _ w.heap.size 49 US.zero.cells (0, 0) _ rfl hb1 Tryd.underlying49 rfl (by kernel_rfl)) rfl ⟨?_, ?_⟩
    · exact B1.out.grown hg1 (by have := HB0.out.lt; omega) (fun k hk => by cases hk; omega)
    · rw [readU_form HU.out]; rfl
end Go.Proofs.YtkhlbpclfeakpaaDoor
