/- The contract of the law's apartRows. -/
import Derived.Test.YteaagngikiaokaaDoorApR
import Derived.Deep.RegionHeld3
import Derived.Deep.DrawnRows
namespace Go.Proofs.YteaagngikiaokaaDoor.Apr
open Go.RowKit
open Go.Proofs.YteaagngikiaokaaDoor.Apk (Apt Dist KeepT apt_new)
attribute [local go_sem ↓] Go.wp_at_zero Go.wp_at_succ

/-- The values of the tables before k, and of the first i rows of table k. -/
def gat (X : Nat → List RowV) (k i : Nat) : List (Value × List UInt8) := ((List.range k).flatMap fun j => (X j).map (·.2)) ++ ((X k).take i).map (·.2)
theorem gat_next (X : Nat → List RowV) (k : Nat) : gat X k (X k).length = gat X (k + 1) 0 := by simp [gat, List.range_succ]
theorem gat_succ (X : Nat → List RowV) (k i : Nat) (x : RowV) (h : (X k)[i]? = some x) : gat X k (i + 1) = gat X k i ++ [x.2] := by
  unfold gat
  rw [List.take_add_one, h]
  simp
/-- What stands while the values are gathered. -/
structure Gth (w0 : World) (base : Nat) (vls : Value) (n : Nat) (vs : Nat → Value) (X : Nat → List RowV) (k i : Nat) (va : Value) (wr : World) : Prop where
  ls : wr.ownsRow base 22 1 vls n ((List.range n).map vs)
  row : ∀ j, j < n → OwnR wr base (vs j) (X j)
  all : wr.ownsRow base 27 1 va (gat X k i).length ((gat X k i).map (·.1))
  below : Below base w0 wr
theorem OwnR.keptE {w w' : World} {base : Nat} {v va : Value} {L : List RowV} (h : OwnR w base v L) {n : Nat} {xs : List Value} (ha : w.ownsRow base 27 1 va n xs) (hg : w.grownBy w' va.ownBlock) : OwnR w' base v L :=
  ⟨h.1.kept hg (Apk.own_ne h.1 ha (by decide)), fun x hx => World.ownsRow.kept (h.2 x hx) hg (Apk.own_ne (h.2 x hx) ha (by decide))⟩
theorem Gth.push {w0 : World} {base : Nat} {vls : Value} {n : Nat} {vs : Nat → Value} {X : Nat → List RowV} {k i : Nat} {va va' : Value} {wr w1 : World} (h : Gth w0 base vls n vs X k i va wr) {x : RowV} (hx : (X k)[i]? = some x)
    (hown : w1.ownsRow base 27 1 va' ((gat X k i).length + 1) ((gat X k i).map (·.1) ++ [x.2.1])) (hg : wr.grownBy w1 va.ownBlock) (hbel : Below base w0 w1) : Gth w0 base vls n vs X k (i + 1) va' w1 := by
  refine ⟨h.ls.kept hg (Apk.own_ne h.ls h.all (by decide)), fun j hj => OwnR.keptE (h.row j hj) h.all hg, ?_, hbel⟩
  rw [gat_succ X k i x hx, List.length_append, List.map_append]
  exact hown
theorem range_getD {α : Type} (l : List α) (d : α) : (List.range l.length).map (fun j => l.getD j d) = l := by
  refine List.ext_getElem? fun i => ?_
  by_cases h : i < l.length
  · simp [List.getElem?_range h, h]
  · rw [List.getElem?_eq_none (by simp; omega), List.getElem?_eq_none (by omega)]

theorem elemRR : Elem1 Tryd.prog 40 22 (.slice none 0 0) 24 := ⟨Tryd.underlying40, by kernel_rfl, rfl⟩
theorem gat_mem {X : Nat → List RowV} {k : Nat} {y : Value × List UInt8} (h : y ∈ gat X k 0) : ∃ j, j < k ∧ ∃ x ∈ X j, y = x.2 := by
  unfold gat at h
  simp only [List.take_zero, List.map_nil, List.append_nil, List.mem_flatMap, List.mem_range, List.mem_map] at h
  obtain ⟨j, hj, x, hx, rfl⟩ := h
  exact ⟨j, hj, x, hx, rfl⟩
theorem _root_.Go.World.ownsRow.sl {w : World} {base : Nat} {e : TypeId} {sz n : Nat} {v : Value} {xs : List Value} (h : w.ownsRow base e sz v n xs) : ∃ A c, v = .slice A n c ∧ True := by
  obtain ⟨_, A, c, hv, _⟩ := Sl.of_own h
  exact ⟨A, c, hv, trivial⟩
set_option maxRecDepth 100000 in
set_option maxHeartbeats 4000000 in
theorem apartRows_any (base : Nat) (vls : Value) (n : Nat) (vs : Nat → Value) (X : Nat → List RowV) (w : World) (hbase : base ≤ w.heap.size) (hn0 : 0 < n) (hn : n ≤ 100) (hlen : ∀ j, (X j).length ≤ 64) (hbig : ∀ j, j < n → ∀ x ∈ X j, x.2.2.length ≤ 140737488355000)
    (h0 : w.ownsRow base 22 1 vls n ((List.range n).map vs)) (h1 : ∀ j, j < n → OwnR w base (vs j) (X j)) (hd : Dist n vs) (hp : (gat X n 0).Pairwise fun a b => Apt a.1 b.1) :
    Calls Tryd.prog 25 #[vls] w fun e w' => e = .returned (.bool true) ∧ Below base w w' := by
  have hgl : ∀ k i, k ≤ n → (gat X k i).length ≤ 64 * k + 64 := by
    intro k i hk
    unfold gat
    rw [List.length_append, List.length_map]
    have h2 : ∀ k, ((List.range k).flatMap fun j => (X j).map (·.2)).length ≤ 64 * k := by
      intro k
      induction k with
      | zero => simp
      | succ k ih =>
        rw [List.range_succ, List.flatMap_append, List.length_append]
        have := hlen k
        simp at ih ⊢
        omega
    have h3 := h2 k
    have h4 : ((X k).take i).length ≤ (X k).length := List.length_take_le' _ _
    have := hlen k
    omega
  have HGL := hide hgl
  have HG := hide (show Gth w base vls n vs X 0 0 (.slice none 0 0) w from ⟨h0, h1, World.ownsRow_nil _ _ _ _, Below.refl _ _⟩)
  have HL := hide hlen
  have HB := hide hbig
  have HD := hide hd
  have HP := hide hp
  obtain ⟨G, capG, hvls, _, _⟩ := h0.form hn0
  subst hvls
  clear hgl hlen hbig hd hp h0 h1
  go_enter Tryd.func25, Tryd.ntmps25
  go_wp2
  go_loopw [3, 4, 5] (fun u3 u4 _ wr => ∃ k : Nat, k ≤ n ∧ u4 = .int .i64 (k : Int) ∧ Gth w base (.slice (some ⟨G, 0, none⟩) n capG) n vs X k 0 u3 wr) (fun _ u4 _ _ => n - (intOf u4).toNat)
  case atStart => exact ⟨0, by omega, rfl, HG.out⟩
  case round =>
    clear HG
    obtain ⟨k, hk, rfl, hg⟩ := hrel
    have HG := hide hg
    clear hg
    obtain ⟨wo, rfl⟩ : ∃ wo : World, wo = wr := ⟨_, rfl⟩
    by_cases hlt : k < n
    · go_wp2
      go_loopw [3, 5] (fun u3 u5 wr => ∃ i : Nat, i ≤ (X k).length ∧ u5 = .int .i64 (i : Int) ∧ Gth w base (.slice (some ⟨G, 0, none⟩) n capG) n vs X k i u3 wr) (fun _ u5 _ => (X k).length - (intOf u5).toNat)
      case atStart => exact ⟨0, by omega, rfl, HG.out⟩
      case round =>
        clear HG
        obtain ⟨i, hi, rfl, hg⟩ := hrel
        have HG := hide hg
        clear hg
        have hlk := HL.out k
        have i1 : (0 : Int) ≤ (k : Int) := by omega
        have i2 : (k : Int) < (n : Int) := by omega
        have i3 : (0 : Int) ≤ (i : Int) := by omega
        have hcG : wr.cell? ⟨G, k, none⟩ = some (vs k) := by
          rw [HG.out.ls.cellAt k (by omega)]; simp [hlt]
        have hrk := HG.out.row k hlt
        obtain ⟨A, c, hvk, _, _, hcell⟩ := hrk.rws_.form
        rw [hvk] at hcG
        by_cases hli : i < (X k).length
        · obtain ⟨x, hx⟩ : ∃ x, (X k)[i]? = some x := ⟨_, List.getElem?_eq_getElem hli⟩
          obtain ⟨b, o, rfl, hbl, g1, g2⟩ := hcell i x hx
          have i4 : (i : Int) < ((X k).length : Int) := by omega
          obtain ⟨A3, c3, hv3, _⟩ := World.ownsRow.sl (hrk.2 x (List.mem_of_getElem? hx))
          rw [hv3] at g2
          have HX := hide (show (X k)[i]? = some x from hx)
          have HV3 := hide hv3
          have hgl := HGL.out k i hk
          have HLN := hide hgl
          clear hrk hcell hx hv3 hvk
          go_wp2_with (at_builtin; go_loud (refine wpList_push1 Apk.elem88 HG.out.all HG.out.below (Nat.le_trans hbase HG.out.below.size) (by unfold maxLen; omega) (by omega) (.slice A3 x.2.2.length c3) rfl rfl _ _ rfl rfl rfl ?_); intro v1 w1 hown1 hbel1 _ hgr1 _)
          go_roundw
          case rel => exact ⟨i + 1, by omega, by go_num, HG.out.push HX.out (by rw [HV3.out]; exact hown1) hgr1 hbel1⟩
          case measure => simp [intOf]; omega
        · have hil : i = (X k).length := by omega
          subst hil
          clear hrk hcell hvk
          go_wp2
          go_roundw
          case rel => exact ⟨k + 1, by omega, by go_num, by have h := HG.out; rw [show (List.length (X k)) = (X k).length from rfl] at h; exact ⟨h.ls, h.row, by rw [← gat_next]; exact h.all, h.below⟩⟩
          case measure => simp [intOf]; omega
    · have hkn : k = n := by omega
      subst hkn
      -- the values lie apart
      have hgl := HGL.out k 0 (Nat.le_refl _)
      have hall := HG.out.all
      obtain ⟨A5, c5, hv5, _⟩ := World.ownsRow.sl hall
      subst hv5
      have hget : ∀ j, j < (gat X k 0).length → ∃ y, (gat X k 0)[j]? = some y ∧ (gat X k 0).getD j (.slice none 0 0, []) = y ∧ y ∈ gat X k 0 := fun j hj => ⟨(gat X k 0)[j], List.getElem?_eq_getElem hj, by simp [hj], List.getElem_mem hj⟩
      have q := Apk.apart_any base _ (gat X k 0).length (fun j => ((gat X k 0).getD j (.slice none 0 0, [])).1) (fun j => ((gat X k 0).getD j (.slice none 0 0, [])).2.length) (fun j => bcells ((gat X k 0).getD j (.slice none 0 0, [])).2) wo
        (Nat.le_trans hbase HG.out.below.size) (fun j => by simp) (fun j hj => by
          obtain ⟨y, _, h2, h3⟩ := hget j hj
          obtain ⟨j', hj', x, hx, rfl⟩ := gat_mem h3
          simp only [h2]
          exact HB.out j' hj' x hx) (by omega) (by
          have e : (List.range (gat X k 0).length).map (fun j => ((gat X k 0).getD j (.slice none 0 0, [])).1) = (gat X k 0).map (·.1) := by
            have := congrArg (List.map (·.1)) (range_getD (gat X k 0) (.slice none 0 0, []))
            rw [List.map_map] at this
            exact this
          rw [e]; exact hall) (fun j hj => by
          obtain ⟨y, _, h2, h3⟩ := hget j hj
          obtain ⟨j', hj', x, hx, rfl⟩ := gat_mem h3
          simp only [h2]
          exact (HG.out.row j' hj').2 x hx) (fun i j hi hj hne => by
          obtain ⟨y, h1, h2, _⟩ := hget i hi
          obtain ⟨z, h3, h4, _⟩ := hget j hj
          simp only [h2, h4]
          obtain ⟨hi', rfl⟩ := List.getElem?_eq_some_iff.1 h1
          obtain ⟨hj', rfl⟩ := List.getElem?_eq_some_iff.1 h3
          have hp := List.pairwise_iff_getElem.1 HP.out
          rcases Nat.lt_or_gt_of_ne hne with hlt | hlt
          · exact hp i j hi' hj' hlt
          · exact (hp j i hj' hi' hlt).symm)
      have Q := hide q
      have hw3 := HG.out.below
      have H1 := hide (And.intro HG.out.ls (And.intro HG.out.row hw3))
      clear hall q hget HG hw3
      go_wp2_with fail
      refine Q.out.mono ?_
      rintro e w1 ⟨rfl, b1, k1⟩
      have hp1 : Ph1 w base (.slice (some ⟨G, 0, none⟩) k capG) k vs (fun j => (X j).length) (fun j => rcells (X j)) 0 0 w1 := by
        refine ⟨own_keepT H1.out.1 k1 (by decide) (by decide), fun j hj => ?_, H1.out.2.2.trans b1⟩
        have := own_keepT (H1.out.2.1 j hj).1 k1 (by decide) (by decide)
        unfold st1
        rw [if_neg (by omega)]
        split
        · next h => subst h; simpa [mks] using this
        · exact this
      obtain ⟨ln, hln⟩ : ∃ ln : Nat → Nat, ln = fun j => (X j).length := ⟨_, rfl⟩
      obtain ⟨Xc, hXc⟩ : ∃ Xc : Nat → List Value, Xc = fun j => rcells (X j) := ⟨_, rfl⟩
      have HLN : Hid (∀ j, ln j ≤ 64) := by rw [hln]; exact HL.out
      have HXL : Hid (∀ j, (Xc j).length = ln j * 2) := by rw [hln, hXc]; exact fun j => rcells_length _
      rw [← hln, ← hXc] at hp1
      have HP1 := hide hp1
      clear hp1 hln hXc b1 k1 Q H1 HL HB HGL HP hgl
      go_wp2
      go_loopw [6] (fun u6 wr => ∃ q : Nat, q ≤ k ∧ u6 = .int .i64 (q : Int) ∧ Ph1 w base (.slice (some ⟨G, 0, none⟩) k capG) k vs ln Xc q 0 wr) (fun u6 _ => k - (intOf u6).toNat)
      case atStart => exact ⟨0, by omega, rfl, HP1.out⟩
      case round =>
        clear HP1 hk hlt
        obtain ⟨q, hq, rfl, hp⟩ := hrel
        have HP1 := hide hp
        clear hp
        obtain ⟨wz, rfl⟩ : ∃ wz : World, wz = wr := ⟨_, rfl⟩
        by_cases hlt : q < k
        · go_wp2
          go_loopw [7] (fun u7 wr => ∃ i : Nat, i ≤ ln q ∧ u7 = .int .i64 (i : Int) ∧ Ph1 w base (.slice (some ⟨G, 0, none⟩) k capG) k vs ln Xc q i wr) (fun u7 _ => ln q - (intOf u7).toNat)
          case atStart => exact ⟨0, by omega, rfl, HP1.out⟩
          case round =>
            clear HP1
            obtain ⟨i, hi, rfl, hp⟩ := hrel
            have HP1 := hide hp
            clear hp
            have hlq := HLN.out q
            have i1 : (0 : Int) ≤ (q : Int) := by omega
            have i2 : (q : Int) < (k : Int) := by omega
            have i3 : (0 : Int) ≤ (i : Int) := by omega
            have hcG : wr.cell? ⟨G, q, none⟩ = some (vs q) := by
              rw [HP1.out.1.cellAt q (by omega)]; simp [hlt]
            by_cases hli : i < ln q
            · obtain ⟨g, cap, hvk, hbg, _⟩ := (HP1.out.2.1 q hlt).form (by omega)
              have hcg := HP1.out.2.1 q hlt
              rw [hvk] at hcg
              have hf0 := hcg.frozenAt (i * 2)
              have hf1 := hcg.frozenAt (i * 2 + 1)
              have hc0 := hcg.cellAt (i * 2) (by omega)
              have hc1 := hcg.cellAt (i * 2 + 1) (by omega)
              obtain ⟨y0, hy0⟩ : ∃ y, wr.cell? ⟨g, i * 2, none⟩ = some y := by
                rw [hc0]; exact ⟨_, List.getElem?_eq_getElem (by have := hcg.1; omega)⟩
              obtain ⟨y1, hy1⟩ : ∃ y, wr.cell? ⟨g, i * 2 + 1, none⟩ = some y := by
                rw [hc1]; exact ⟨_, List.getElem?_eq_getElem (by have := hcg.1; omega)⟩
              have hlg : g < wr.heap.size := (hcg.lt g rfl).2
              have hlG : G < wr.heap.size := (HP1.out.1.lt G rfl).2
              rw [hvk] at hcG
              have i4 : (i : Int) < (ln q : Int) := by omega
              have e1 : IntKind.u8.wrap (q : Int) = (q : Int) := IntWalk.u8_in _ (by omega)
              have e2 : IntKind.u8.wrap (i : Int) = (i : Int) := IntWalk.u8_in _ (by omega)
              have HV := hide hvk
              have hcv : ∀ W : World, (convert 27 9 (.slice (some ⟨W.heap.size, 0, none⟩) 2 2)).run Tryd.prog (W.alloc (.cells #[.int .u8 (q : Int), .int .u8 (i : Int)] 5)) = .ok (.string (mkS q i)) (W.alloc (.cells #[.int .u8 (q : Int), .int .u8 (i : Int)] 5)) := fun W => conv2 q i (by omega) (by omega) (Blk.new W _ _)
              have hcv2 : ∀ W : World, (convert 27 9 (.slice (some ⟨W.heap.size, 0, none⟩) 2 2)).run Tryd.prog (W.alloc (.cells #[.int .u8 (q : Int), .int .u8 (i : Int)] 5)).drew = .ok (.string (mkS q i)) (W.alloc (.cells #[.int .u8 (q : Int), .int .u8 (i : Int)] 5)).drew := fun W => conv2 q i (by omega) (by omega) (Blk.new W _ _).drew
              clear hcg hc0 hc1 hvk
              go_wp2
              go_region
              go_wp2
              go_roundw
              case rel => exact ⟨i + 1, by omega, by go_num, ((HP1.out.store HXL.out HD.out hlt hli HV.out).alloc _ (by have := HP1.out.2.2.size; simp; omega)).drew⟩
              case measure => simp [intOf]; omega
            · have hil : i = ln q := by omega
              obtain ⟨_, A, c, hvk, _, _, _⟩ := Sl.of_own (HP1.out.2.1 q hlt)
              rw [hvk] at hcG
              clear hvk
              have i4 : (ln q : Int) ≤ (i : Int) := by omega
              have HI := hide hil
              clear hil
              go_wp2
              go_roundw
              case rel =>
                refine ⟨q + 1, by omega, by go_num, ?_⟩
                have h := HP1.out
                rw [HI.out] at h
                exact ⟨h.1, fun j hj => by rw [← st1_next Xc ln q j HXL.out]; exact h.2.1 j hj, h.2.2⟩
              case measure => simp [intOf]; omega
        · have hqk : q = k := by omega
          subst hqk
          have hp2 : Ph2 w base (.slice (some ⟨G, 0, none⟩) q capG) (.slice none 0 0) q vs ln [] wz := by
            obtain ⟨h1, h2, h3⟩ := HP1.out
            refine ⟨h1, World.ownsRow_nil _ _ _ _, fun j hj => ?_, fun j g hg => by simp at hg, fun i j g hg => by simp at hg, fun i j g h hg => by simp at hg, .inl rfl, HD.out, h3⟩
            have := h2 j hj
            unfold st1 at this
            rwa [if_pos hj] at this
          have HP := hide hp2
          clear hp2 HP1 hlt hq
          generalize q = k at *
          go_wp2
          go_loopw [8, 9] (fun u8 u9 wr => ∃ Gs : List Value, Gs.length ≤ k ∧ u9 = .int .i64 (Gs.length : Int) ∧ Ph2 w base (.slice (some ⟨G, 0, none⟩) k capG) u8 k vs ln Gs wr) (fun _ i _ => k - (intOf i).toNat)
          case atStart => exact ⟨[], by simp, rfl, HP.out⟩
          case round =>
            clear HP
            obtain ⟨Gs, hGs, rfl, hp⟩ := hrel
            have HP := hide hp
            clear hp
            obtain ⟨q, hq⟩ : ∃ q, q = Gs.length := ⟨_, rfl⟩
            rw [← hq] at hGs ⊢
            have HQ := hide hq
            clear hq
            obtain ⟨wp, rfl⟩ : ∃ wp : World, wp = wr := ⟨_, rfl⟩
            by_cases hql : q < k
            · have hcG : wp.cell? ⟨G, q, none⟩ = some (vs q) := by
                rw [HP.out.ls.cellAt q (by omega)]; simp [hql]
              have i1 : (0 : Int) ≤ (q : Int) := by omega
              go_wp2
              go_loopw [10, 11] (fun u10 u11 wr => ∃ i : Nat, i ≤ 70 ∧ u11 = .int .i64 (i : Int) ∧ Ph2 w base (.slice (some ⟨G, 0, none⟩) k capG) u8 k vs ln Gs wr ∧ Cur base k vs ln Gs q i u10 wr) (fun _ i _ => 70 - (intOf i).toNat)
              case atStart => exact ⟨0, by omega, rfl, HP.out, HP.out.old q hql, fun j hj hne => HP.out.dist q j hql hj hne, fun j h hh => (HP.out.apt j q h hh hql (by have := (List.getElem?_eq_some_iff.1 hh).1; have := HQ.out; omega)).symm⟩
              case round =>
                clear HP hcG
                obtain ⟨i, hi, rfl, hp, hc⟩ := hrel
                have HP := hide hp
                have HC := hide hc
                clear hp hc
                have hcG : wr.cell? ⟨G, q, none⟩ = some (vs q) := by
                  rw [HP.out.ls.cellAt q (by omega)]; simp [hql]
                obtain ⟨_, A, c, hvk, _, _, _⟩ := Sl.of_own (HP.out.old q hql)
                rw [hvk] at hcG
                clear hvk
                have hlq := HLN.out q
                by_cases hi70 : i < 70
                · obtain ⟨m, hm⟩ : ∃ m, m = ln q + i := ⟨_, rfl⟩
                  have e0 : IntKind.i64.wrap ((ln q : Int) + (i : Int)) = (m : Int) := by rw [IntWalk.i64_in _ (by omega), hm]; omega
                  have e1 : IntKind.u8.wrap (q : Int) = (q : Int) := IntWalk.u8_in _ (by omega)
                  have e2 : IntKind.u8.wrap (m : Int) = (m : Int) := IntWalk.u8_in _ (by omega)
                  have hcv : ∀ W : World, (convert 27 9 (.slice (some ⟨W.heap.size, 0, none⟩) 2 2)).run Tryd.prog (W.alloc (.cells #[.int .u8 (q : Int), .int .u8 (m : Int)] 5)) = .ok (.string (mkS q m)) (W.alloc (.cells #[.int .u8 (q : Int), .int .u8 (m : Int)] 5)) := fun W => conv2 q m (by omega) (by omega) (Blk.new W _ _)
                  have HM := hide hm
                  have HP' := hide (HP.out.alloc (.cells #[.int .u8 (q : Int), .int .u8 (m : Int)] 5) (Nat.le_trans hbase HP.out.below.size))
                  have HC' := hide (HC.out.alloc (.cells #[.int .u8 (q : Int), .int .u8 (m : Int)] 5))
                  clear hm
                  obtain ⟨i0, hi0, hz0, hs0, hb0⟩ := info_parts Tryd.infoRow
                  have HI := hide (And.intro hi0 (And.intro hz0 (And.intro hs0 hb0)))
                  clear hi0 hz0 hs0 hb0
                  go_wp2_with (at_builtin; go_loud (refine wpList_push2h Tryd.underlying22 HI.out.1 HI.out.2.1 HI.out.2.2.1 HI.out.2.2.2 rfl HC'.out.own HP'.out.below (Nat.le_trans hbase HP'.out.below.size) (.string (mkS q m)) (.slice none 0 0) rfl rfl (by unfold maxLen; omega) (by omega) rfl _ _ rfl rfl (by rw [World.size_alloc]; rfl) ?_); intro v1 w1 hown1 hbel1 hold1 hgr1 hblk1)
                  go_roundw
                  case rel => exact ⟨i + 1, by omega, by go_num, HP'.out.push HC'.out hql (by have h := hown1; rw [HM.out] at h; exact h) hold1 hgr1 hblk1 hbel1⟩
                  case measure => simp [intOf]; omega
                · have hi0 : i = 70 := by omega
                  subst hi0
                  have hqG := HQ.out
                  subst hqG
                  obtain ⟨ub, uc, hu7, _, _⟩ := HC.out.own.form (by omega)
                  subst hu7
                  go_wp2_with (at_builtin; go_loud (refine wpList_push1 elemRR HP.out.gs HP.out.below (Nat.le_trans hbase HP.out.below.size) (by unfold maxLen; omega) (by omega) (.slice (some ⟨ub, 0, none⟩) (ln Gs.length + 70) uc) rfl rfl _ _ rfl rfl rfl ?_); intro v1 w1 hown1 hbel1 hold1 hgr1 hblk1)
                  go_roundw
                  case rel => exact ⟨_, by simp; omega, by simp, HP.out.lay HC.out hown1 hgr1 hblk1 hbel1⟩
                  case measure => simp [intOf]; omega
            · have hqk : q = k := by omega
              subst hqk
              obtain ⟨H, capH, hvgs, _, _⟩ := HP.out.gs.form (by have := HQ.out; omega)
              subst hvgs
              go_wp2
              go_loopw [12, 2, 13, 14] (fun u12 _ _ _ wr => ∃ p : Nat, p ≤ q ∧ u12 = .int .i64 (p : Int) ∧ Ph2 w base (.slice (some ⟨G, 0, none⟩) q capG) (.slice (some ⟨H, 0, none⟩) Gs.length capH) q vs ln Gs wr) (fun i _ _ _ _ => q - (intOf i).toNat)
              case atStart => exact ⟨0, by omega, rfl, HP.out⟩
              case round =>
                obtain ⟨p, hp, rfl, h2⟩ := hrel
                clear HP
                have HP := hide h2
                clear h2
                obtain ⟨wz, rfl⟩ : ∃ wz : World, wz = wr := ⟨_, rfl⟩
                by_cases hpq : p < q
                · obtain ⟨g, hg⟩ : ∃ g, Gs[p]? = some g := ⟨_, List.getElem?_eq_getElem (by have := HQ.out; omega)⟩
                  have hog := HP.out.new p g hg
                  obtain ⟨gb, gc, hgv, _, _⟩ := hog.form (by omega)
                  subst hgv
                  have hlp := HLN.out p
                  go_wp2
                  go_loopw [13, 2, 14] (fun u13 _ _ wr => ∃ i : Nat, i ≤ ln p + 70 ∧ u13 = .int .i64 (i : Int) ∧ Ph2 w base (.slice (some ⟨G, 0, none⟩) q capG) (.slice (some ⟨H, 0, none⟩) Gs.length capH) q vs ln Gs wr) (fun i _ _ _ => ln p + 70 - (intOf i).toNat)
                  case atStart => exact ⟨0, by omega, rfl, HP.out⟩
                  case round =>
                    obtain ⟨i, hi, rfl, h2⟩ := hrel
                    clear HP hog
                    have HP := hide h2
                    clear h2
                    have hcH : wr.cell? ⟨H, p, none⟩ = some (.slice (some ⟨gb, 0, none⟩) (ln p + 70) gc) := by
                      rw [HP.out.gs.cellAt p (by have := HQ.out; omega)]; exact hg
                    have hog := HP.out.new p _ hg
                    have HG := hide hg
                    clear hg
                    have i3 : (0 : Int) ≤ (i : Int) := by omega
                    have i4 : (0 : Int) ≤ (p : Int) := by omega
                    have i5 : (p : Int) < (q : Int) := by omega
                    have i6 : (p : Int) < (Gs.length : Int) := by have := HQ.out; omega
                    by_cases hi7 : i < ln p + 70
                    · have hcg : wr.cell? ⟨gb, i * 2, none⟩ = some (.string (mkS p i)) := by
                        rw [hog.cellAt (i * 2) (by omega), mks_get _ _ _ hi7]
                      have hcG : wr.cell? ⟨G, p, none⟩ = some (vs p) := by
                        rw [HP.out.ls.cellAt p (by omega)]; simp [hpq]
                      have hov := HP.out.old p hpq
                      have e1 : IntKind.u8.wrap (p : Int) = (p : Int) := IntWalk.u8_in _ (by omega)
                      have e2 : IntKind.u8.wrap (i : Int) = (i : Int) := IntWalk.u8_in _ (by omega)
                      have hcv : ∀ W : World, (convert 27 9 (.slice (some ⟨W.heap.size, 0, none⟩) 2 2)).run Tryd.prog (W.alloc (.cells #[.int .u8 (p : Int), .int .u8 (i : Int)] 5)) = .ok (.string (mkS p i)) (W.alloc (.cells #[.int .u8 (p : Int), .int .u8 (i : Int)] 5)) := fun W => conv2 p i (by omega) (by omega) (Blk.new W _ _)
                      have HP' := hide (HP.out.alloc (.cells #[.int .u8 (p : Int), .int .u8 (i : Int)] 5) (Nat.le_trans hbase HP.out.below.size))
                      have hlH := (HP.out.gs.lt H rfl).2
                      have hlg := (hog.lt gb rfl).2
                      have hlG := (HP.out.ls.lt G rfl).2
                      have i8 : (i : Int) < (ln p : Int) + 70 := by omega
                      obtain ⟨M, hM⟩ : ∃ M, M = mkS p i := ⟨_, rfl⟩
                      rw [← hM] at hcg hcv
                      by_cases hil : i < ln p
                      · obtain ⟨vb, vc, hvp, _, _⟩ := hov.form (by omega)
                        rw [hvp] at hcG hov
                        have hlv := (hov.lt vb rfl).2
                        have hcv2 : wr.cell? ⟨vb, i * 2, none⟩ = some (.string M) := by
                          rw [hov.cellAt (i * 2) (by omega), mks_get _ _ _ hil, hM]
                        have i9 : (i : Int) < (ln p : Int) := by omega
                        clear hov hog hvp hM
                        go_wp2
                        go_roundw
                        case rel => exact ⟨i + 1, by omega, by go_num, HP'.out⟩
                        case measure => simp [intOf]; omega
                      · obtain ⟨_, A, c, hvp, _, _, _⟩ := Sl.of_own hov
                        rw [hvp] at hcG
                        have i9 : decide ((i : Int) < (ln p : Int)) = false := by simp; omega
                        clear hov hog hvp hM
                        go_wp2
                        go_roundw
                        case rel => exact ⟨i + 1, by omega, by go_num, HP'.out⟩
                        case measure => simp [intOf]; omega
                    · have i8 : (ln p : Int) + 70 ≤ (i : Int) := by omega
                      go_wp2
                      go_roundw
                      case rel => exact ⟨p + 1, by omega, by go_num, HP.out⟩
                      case measure => simp [intOf]; omega
                · go_wp2
                  go_ret
                  exact ⟨rfl, HP.out.below⟩
end Go.Proofs.YteaagngikiaokaaDoor.Apr
