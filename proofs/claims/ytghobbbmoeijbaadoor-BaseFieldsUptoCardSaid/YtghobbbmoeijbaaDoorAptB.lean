/- The contract of the helper that asks whether lists of texts that were handed out have memory of their own. -/
import Derived.Test.YtghobbbmoeijbaaDoorAptA
import Derived.Deep.RegionHeld3
namespace Go.Proofs.YtghobbbmoeijbaaDoor
open Go.RowKit
attribute [local go_sem ↓] Go.wp_at_zero Go.wp_at_succ

theorem Ph1.undrew {w0 : World} {base : Nat} {e E : TypeId} {vls : Value} {n : Nat} {vs : Nat → Value} {ln : Nat → Nat} {X : Nat → List Value} {k i : Nat} {wr : World} (h : Ph1 w0 base e E vls n vs ln X k i wr.drew) :
    Ph1 w0 base e E vls n vs ln X k i wr := ⟨h.1, h.2.1, ⟨h.2.2.os, h.2.2.tape, h.2.2.output, h.2.2.size, h.2.2.block⟩⟩

set_option maxHeartbeats 800000 in
theorem apart_any (base : Nat) (vls : Value) (n : Nat) (vs : Nat → Value) (ln : Nat → Nat) (X : Nat → List Value) (w : World) (hbase : base ≤ w.heap.size) (hX : ∀ j, (X j).length = ln j)
    (hlen : ∀ j, j < n → ln j ≤ 1099511627776) (hn : n ≤ 1000000000)
    (h0 : w.ownsRow base 22 1 vls n ((List.range n).map vs)) (h1 : ∀ j, j < n → w.ownsRow base 9 1 (vs j) (ln j) (X j)) (hd : Dist n vs) :
    Calls Tryd.prog 12 #[vls] w fun e w' => e = .returned (.bool true) ∧ Below base w w' := by
  have hp : Ph1 w base 9 22 vls n vs ln X 0 0 w := ⟨h0, fun j hj => by have := h1 j hj; unfold st1; rw [if_neg (by omega)]; split <;> simpa [mks] using this, Below.refl _ _⟩
  have HP := hide hp
  have HX := hide hX
  have HD := hide hd
  clear hp h0 h1 hX hd
  by_cases hn0 : n = 0
  · subst hn0
    obtain ⟨_, A, c, hv, _, _, _⟩ := Sl.of_own HP.out.1
    subst hv
    go_enter Tryd.func12, Tryd.ntmps12
    go_wp2
    go_loopw [3] (fun u3 wr => u3 = .int .i64 0 ∧ Below base w wr) (fun _ _ => 0)
    case atStart => exact ⟨rfl, Below.refl _ _⟩
    case round =>
      obtain ⟨rfl, hb1⟩ := hrel
      go_wp2
      go_loopw [6] (fun u3 wx => u3 = .int .i64 0 ∧ Below base w wx) (fun _ _ => 0)
      case atStart => exact ⟨rfl, hb1⟩
      case round =>
        obtain ⟨rfl, hb2⟩ := hrel
        go_wp2
        go_loopw [9] (fun u3 wy => u3 = .int .i64 0 ∧ Below base w wy) (fun _ _ => 0)
        case atStart => exact ⟨rfl, hb2⟩
        case round =>
          obtain ⟨rfl, hb3⟩ := hrel
          go_wp2
          go_ret
          exact ⟨rfl, hb3⟩
  obtain ⟨G, capG, hvls, _, _⟩ := HP.out.1.form (by omega)
  subst hvls
  go_enter Tryd.func12, Tryd.ntmps12
  go_wp2
  go_loopw [3] (fun u3 wr => ∃ k : Nat, k ≤ n ∧ u3 = .int .i64 k ∧ Ph1 w base 9 22 (.slice (some ⟨G, 0, none⟩) n capG) n vs ln X k 0 wr) (fun i _ => n - (intOf i).toNat)
  case atStart => exact ⟨0, by omega, rfl, HP.out⟩
  case round =>
    clear HP
    obtain ⟨k, hk, rfl, hp⟩ := hrel
    have HP := hide hp
    clear hp
    obtain ⟨wo, rfl⟩ : ∃ wo : World, wo = wr := ⟨_, rfl⟩
    by_cases hlt : k < n
    · go_wp2
      go_loopw [4] (fun u4 wr => ∃ i : Nat, i ≤ ln k ∧ u4 = .int .i64 i ∧ Ph1 w base 9 22 (.slice (some ⟨G, 0, none⟩) n capG) n vs ln X k i wr) (fun i _ => ln k - (intOf i).toNat)
      case atStart => exact ⟨0, by omega, rfl, HP.out⟩
      case round =>
        clear HP
        obtain ⟨i, hi, rfl, hp⟩ := hrel
        have HP := hide hp
        clear hp
        have hlk := hlen k hlt
        have i1 : (0 : Int) ≤ (k : Int) := by omega
        have i2 : (k : Int) < (n : Int) := by omega
        have i3 : (0 : Int) ≤ (i : Int) := by omega
        have hcG : wr.cell? ⟨G, k, none⟩ = some (vs k) := by
          rw [HP.out.1.cellAt k (by omega)]; simp [hlt]
        by_cases hli : i < ln k
        · obtain ⟨g, cap, hvk, hbg, _⟩ := (HP.out.2.1 k hlt).form (by omega)
          have hcg := (HP.out.2.1 k hlt)
          rw [hvk] at hcg
          have hfz := hcg.frozenAt i
          have hcc := hcg.cellAt i (by omega)
          have hcv : ∃ y, wr.cell? ⟨g, i, none⟩ = some y := by
            rw [hcc]; exact ⟨_, List.getElem?_eq_getElem (by have := hcg.1; omega)⟩
          obtain ⟨y, hcy⟩ := hcv
          rw [hvk] at hcG
          have i4 : (i : Int) < (ln k : Int) := by omega
          have hgG : g ≠ G := by
            have := own_ne hcg HP.out.1 (by decide)
            simpa [Value.ownBlock] using this
          have hGg : G ≠ g := Ne.symm hgG
          have hgl0 := (hcg.lt g rfl).2
          have HV := hide hvk
          clear hcg hcc hvk
          have hbw : base ≤ wr.heap.size := Nat.le_trans hbase HP.out.2.2.size
          have hmk : ∀ w', Below wr.heap.size wr w' → Calls Tryd.prog 25 #[.int .i64 ((k : Int) + 1), .int .i64 (i : Int)] w' fun e w'' => e = .returned (.string (mkS (k + 1) i)) ∧ Below wr.heap.size wr w'' := fun w' hb' =>
            (markT_any (k + 1) i w' (by omega) (by omega)).mono fun e w'' ⟨he, hb⟩ => ⟨he, hb'.trans (hb.mono hb'.size)⟩
          have KEEP := hide (show ∀ w', Below wr.heap.size wr w' → w'.cell? ⟨G, k, none⟩ = some (.slice (some ⟨g, 0, none⟩) (ln k) cap) ∧ w'.cell? ⟨g, i, none⟩ = some y ∧ w'.frozen? ⟨g, i, none⟩ = false from fun w' hb' => by
            have hG := (HP.out.1.lt G rfl).2
            have hgl := hgl0
            refine ⟨(hb'.cell (p := ⟨G, k, none⟩) hG).trans hcG, (hb'.cell (p := ⟨g, i, none⟩) hgl).trans hcy, ?_⟩
            have h2 := own_below' (HP.out.2.1 k hlt) hb'
            rw [HV.out] at h2
            exact h2.frozenAt i)
          go_wp2
          have hw1 : IntKind.i64.wrap ((k : Int) + 1) = (k : Int) + 1 := IntWalk.i64_in _ (by omega)
          go_region_held3 (fun w' => w'.cell? ⟨G, k, none⟩ = some (.slice (some ⟨g, 0, none⟩) (ln k) cap)) (first | go_keep | exact (KEEP.out _ hbm).1)
            (first | (go_at_call 25; refine (hmk _ ?_).mono ?_; (first | exact Below.refl _ _ | exact (Below.refl _ _).drew); rintro e wm ⟨rfl, hbm⟩; have hcy2 := (KEEP.out _ hbm).2.1; have hfz2 := (KEEP.out _ hbm).2.2))
          clear hw1
          all_goals
            go_wp2
            have HM := hide ((HP.out.below hbm hbw).store (by decide) HX.out HD.out hlt hli HV.out)
            go_roundw
            case rel => exact ⟨i + 1, by omega, by go_num, HM.out.undrew⟩
            case measure => simp [intOf]; omega
        · have hil : i = ln k := by omega
          obtain ⟨_, A, c, hvk, _, _, _⟩ := Sl.of_own (HP.out.2.1 k hlt)
          rw [hvk] at hcG
          clear hvk
          have i4 : (ln k : Int) ≤ (i : Int) := by omega
          have HI := hide hil
          clear hil
          go_wp2
          go_roundw
          case rel =>
            refine ⟨k + 1, by omega, by go_num, ?_⟩
            have h := HP.out
            rw [HI.out] at h
            exact ⟨h.1, fun j hj => by rw [← st1_next X ln k j HX.out]; exact h.2.1 j hj, h.2.2⟩
          case measure => simp [intOf]; omega
    · have hkn : k = n := by omega
      subst hkn
      have hp2 : Ph2 w base 9 22 (.slice (some ⟨G, 0, none⟩) k capG) (.slice none 0 0) k vs ln [] wo := by
        obtain ⟨h1, h2, h3⟩ := HP.out
        refine ⟨h1, World.ownsRow_nil _ _ _ _, fun j hj => ?_, fun j g hg => by simp at hg, fun i j g hg => by simp at hg, fun i j g h hg => by simp at hg, .inl rfl, HD.out, h3⟩
        have := h2 j hj
        unfold st1 at this
        rwa [if_pos hj] at this
      clear HP
      have HP := hide hp2
      clear hp2
      go_wp2
      go_loopw [5, 6] (fun u5 u6 wr => ∃ Gs : List Value, Gs.length ≤ k ∧ u6 = .int .i64 (Gs.length : Int) ∧ Ph2 w base 9 22 (.slice (some ⟨G, 0, none⟩) k capG) u5 k vs ln Gs wr) (fun _ i _ => k - (intOf i).toNat)
      case atStart => exact ⟨[], by simp, rfl, HP.out⟩
      case round =>
        clear HP
        obtain ⟨Gs, hGs, rfl, hp⟩ := hrel
        have HP := hide hp
        clear hp
        obtain ⟨q, hq⟩ : ∃ q, q = Gs.length := ⟨_, rfl⟩
        rw [← hq] at hGs ⊢
        have HQ := hide hq
        clear hq
        obtain ⟨wp, rfl⟩ : ∃ wp : World, wp = wr := ⟨_, rfl⟩
        by_cases hql : q < k
        · have hcG : wp.cell? ⟨G, q, none⟩ = some (vs q) := by
            rw [HP.out.ls.cellAt q (by omega)]; simp [hql]
          have i1 : (0 : Int) ≤ (q : Int) := by omega
          go_wp2
          go_loopw [7, 8] (fun u7 u8 wr => ∃ i : Nat, i ≤ 70 ∧ u8 = .int .i64 (i : Int) ∧ Ph2 w base 9 22 (.slice (some ⟨G, 0, none⟩) k capG) u5 k vs ln Gs wr ∧ Cur base 9 k vs ln Gs q i u7 wr) (fun _ i _ => 70 - (intOf i).toNat)
          case atStart => exact ⟨0, by omega, rfl, HP.out, HP.out.old q hql, fun j hj hne => HP.out.dist q j hql hj hne, fun j h hh => (HP.out.apt j q h hh hql (by have := (List.getElem?_eq_some_iff.1 hh).1; have := HQ.out; omega)).symm⟩
          case round =>
            clear HP hcG
            obtain ⟨i, hi, rfl, hp, hc⟩ := hrel
            have HP := hide hp
            have HC := hide hc
            clear hp hc
            have hcG : wr.cell? ⟨G, q, none⟩ = some (vs q) := by
              rw [HP.out.ls.cellAt q (by omega)]; simp [hql]
            obtain ⟨_, A, c, hvk, _, _, _⟩ := Sl.of_own (HP.out.old q hql)
            rw [hvk] at hcG
            clear hvk
            have hlq := hlen q hql
            by_cases hi70 : i < 70
            · have hbw : base ≤ wr.heap.size := Nat.le_trans hbase HP.out.below.size
              have hmk : ∀ w', Calls Tryd.prog 25 #[.int .i64 ((q : Int) + 1), .int .i64 ((ln q : Int) + (i : Int))] w' fun e w'' => e = .returned (.string (mkS (q + 1) (ln q + i))) ∧ Below w'.heap.size w' w'' := fun w' => by
                have h := markT_any (q + 1) (ln q + i) w' (by omega) (by omega)
                rw [Int.natCast_add (ln q) i] at h
                exact h
              go_wp2_with (first
                | (go_at_call 25; ((with_reducible refine (hmk _).mono ?_)); rintro e wm ⟨rfl, hbm⟩; have HP2 := hide (HP.out.belowB hbm hbw); have HC2 := hide (HC.out.belowB hbm); clear hbm)
                | (at_builtin; go_loud (refine wpList_push1 elemT HC2.out.own HP2.out.below (Nat.le_trans hbase HP2.out.below.size) (by unfold maxLen; omega) (by omega) (.string (mkS (q + 1) (ln q + i))) rfl rfl _ _ rfl rfl rfl ?_); intro v1 w1 hown1 hbel1 hold1 hgr1 hblk1))
              go_roundw
              case rel => exact ⟨i + 1, by omega, by go_num, HP2.out.push (by decide) HC2.out hql hown1 hold1 hgr1 hblk1 hbel1⟩
              case measure => simp [intOf]; omega
            · have hi0 : i = 70 := by omega
              subst hi0
              have hqG := HQ.out
              subst hqG
              obtain ⟨ub, uc, hu7, _, _⟩ := HC.out.own.form (by omega)
              subst hu7
              go_wp2_with (at_builtin; go_loud (refine wpList_push1 elemTT HP.out.gs HP.out.below (Nat.le_trans hbase HP.out.below.size) (by unfold maxLen; omega) (by omega) (.slice (some ⟨ub, 0, none⟩) (ln Gs.length + 70) uc) rfl rfl _ _ rfl rfl rfl ?_); intro v1 w1 hown1 hbel1 hold1 hgr1 hblk1)
              go_roundw
              case rel => exact ⟨_, by simp; omega, by simp, HP.out.lay (by decide) HC.out hown1 hgr1 hblk1 hbel1⟩
              case measure => simp [intOf]; omega
        · have hqk : q = k := by omega
          subst hqk
          obtain ⟨H, capH, hvgs, _, _⟩ := HP.out.gs.form (by have := HQ.out; omega)
          subst hvgs
          go_wp2
          go_loopw [9, 2, 10, 11] (fun u9 _ _ _ wr => ∃ p : Nat, p ≤ q ∧ u9 = .int .i64 (p : Int) ∧ Ph2 w base 9 22 (.slice (some ⟨G, 0, none⟩) q capG) (.slice (some ⟨H, 0, none⟩) Gs.length capH) q vs ln Gs wr) (fun i _ _ _ _ => q - (intOf i).toNat)
          case atStart => exact ⟨0, by omega, rfl, HP.out⟩
          case round =>
            obtain ⟨p, hp, rfl, h2⟩ := hrel
            clear HP
            have HP := hide h2
            clear h2
            obtain ⟨wz, rfl⟩ : ∃ wz : World, wz = wr := ⟨_, rfl⟩
            by_cases hpq : p < q
            · obtain ⟨g, hg⟩ : ∃ g, Gs[p]? = some g := ⟨_, List.getElem?_eq_getElem (by have := HQ.out; omega)⟩
              have hog := HP.out.new p g hg
              obtain ⟨gb, gc, hgv, _, _⟩ := hog.form (by omega)
              subst hgv
              have hlp := hlen p hpq
              go_wp2
              go_loopw [10, 2, 11] (fun u10 _ _ wr => ∃ i : Nat, i ≤ ln p + 70 ∧ u10 = .int .i64 (i : Int) ∧ Ph2 w base 9 22 (.slice (some ⟨G, 0, none⟩) q capG) (.slice (some ⟨H, 0, none⟩) Gs.length capH) q vs ln Gs wr) (fun i _ _ _ => ln p + 70 - (intOf i).toNat)
              case atStart => exact ⟨0, by omega, rfl, HP.out⟩
              case round =>
                obtain ⟨i, hi, rfl, h2⟩ := hrel
                clear HP hog
                have HP := hide h2
                clear h2
                have hcH : wr.cell? ⟨H, p, none⟩ = some (.slice (some ⟨gb, 0, none⟩) (ln p + 70) gc) := by
                  rw [HP.out.gs.cellAt p (by have := HQ.out; omega)]; exact hg
                have hog := HP.out.new p _ hg
                have HG := hide hg
                clear hg
                have i3 : (0 : Int) ≤ (i : Int) := by omega
                have i4 : (0 : Int) ≤ (p : Int) := by omega
                have i5 : (p : Int) < (q : Int) := by omega
                have i6 : (p : Int) < (Gs.length : Int) := by have := HQ.out; omega
                by_cases hi7 : i < ln p + 70
                · have hbw : base ≤ wr.heap.size := Nat.le_trans hbase HP.out.below.size
                  obtain ⟨m, hm⟩ : ∃ m, m = mkS (p + 1) i := ⟨_, rfl⟩
                  have hcg : wr.cell? ⟨gb, i, none⟩ = some (.string m) := by
                    rw [hog.cellAt i (by omega), mks_get _ _ _ hi7, hm]; rfl
                  have hmk : ∀ w', Calls Tryd.prog 25 #[.int .i64 ((p : Int) + 1), .int .i64 (i : Int)] w' fun e w'' => e = .returned (.string m) ∧ Below w'.heap.size w' w'' := fun w' => by
                    rw [hm]; exact markT_any (p + 1) i w' (by omega) (by omega)
                  have hHl := (HP.out.gs.lt H rfl).2
                  have hGl := (HP.out.ls.lt G rfl).2
                  have hgbl := (hog.lt gb rfl).2
                  have hcG : wr.cell? ⟨G, p, none⟩ = some (vs p) := by
                    rw [HP.out.ls.cellAt p (by omega)]; simp [hpq]
                  have hov := HP.out.old p hpq
                  have i8 : (i : Int) < (ln p : Int) + 70 := by omega
                  by_cases hil : i < ln p
                  · obtain ⟨vb, vc, hvp, _, _⟩ := hov.form (by omega)
                    rw [hvp] at hcG hov
                    have hvbl := (hov.lt vb rfl).2
                    have hcv : wr.cell? ⟨vb, i, none⟩ = some (.string m) := by
                      rw [hov.cellAt i (by omega), mks_get _ _ _ hil, hm]; rfl
                    have i9 : (i : Int) < (ln p : Int) := by omega
                    have KEEP := hide (show ∀ w', Below wr.heap.size wr w' → w'.cell? ⟨H, p, none⟩ = some (.slice (some ⟨gb, 0, none⟩) (ln p + 70) gc) ∧ w'.cell? ⟨gb, i, none⟩ = some (.string m) ∧ w'.cell? ⟨G, p, none⟩ = some (.slice (some ⟨vb, 0, none⟩) (ln p) vc) ∧ w'.cell? ⟨vb, i, none⟩ = some (.string m) from fun w' hb' =>
                      ⟨(hb'.cell (p := ⟨H, p, none⟩) hHl).trans hcH, (hb'.cell (p := ⟨gb, i, none⟩) hgbl).trans hcg, (hb'.cell (p := ⟨G, p, none⟩) hGl).trans hcG, (hb'.cell (p := ⟨vb, i, none⟩) hvbl).trans hcv⟩)
                    clear hog hov hvp hm
                    go_wp2_with (go_at_call 25; ((with_reducible refine (hmk _).mono ?_)); rintro e wm ⟨rfl, hbm⟩; obtain ⟨k1, k2, k3, k4⟩ := KEEP.out _ hbm; have HP2 := hide (HP.out.belowB hbm hbw); clear hbm)
                    go_roundw
                    case rel => exact ⟨i + 1, by omega, by go_num, HP2.out⟩
                    case measure => simp [intOf]; omega
                  · obtain ⟨_, A, c, hvp, _, _, _⟩ := Sl.of_own hov
                    rw [hvp] at hcG
                    have i9 : decide ((i : Int) < (ln p : Int)) = false := by simp; omega
                    have KEEP := hide (show ∀ w', Below wr.heap.size wr w' → w'.cell? ⟨H, p, none⟩ = some (.slice (some ⟨gb, 0, none⟩) (ln p + 70) gc) ∧ w'.cell? ⟨gb, i, none⟩ = some (.string m) ∧ w'.cell? ⟨G, p, none⟩ = some (.slice A (ln p) c) from fun w' hb' =>
                      ⟨(hb'.cell (p := ⟨H, p, none⟩) hHl).trans hcH, (hb'.cell (p := ⟨gb, i, none⟩) hgbl).trans hcg, (hb'.cell (p := ⟨G, p, none⟩) hGl).trans hcG⟩)
                    clear hog hov hvp hm
                    go_wp2_with (go_at_call 25; ((with_reducible refine (hmk _).mono ?_)); rintro e wm ⟨rfl, hbm⟩; obtain ⟨k1, k2, k3⟩ := KEEP.out _ hbm; have HP2 := hide (HP.out.belowB hbm hbw); clear hbm)
                    go_roundw
                    case rel => exact ⟨i + 1, by omega, by go_num, HP2.out⟩
                    case measure => simp [intOf]; omega
                · have i8 : (ln p : Int) + 70 ≤ (i : Int) := by omega
                  go_wp2
                  go_roundw
                  case rel => exact ⟨p + 1, by omega, by go_num, HP.out⟩
                  case measure => simp [intOf]; omega
            · go_wp2
              go_ret
              exact ⟨rfl, HP.out.below⟩
theorem own_base {w : World} {base base' : Nat} {e : TypeId} {sz n : Nat} {v : Value} {xs : List Value} (h : w.ownsRow base e sz v n xs) (hb : base' ≤ base) : w.ownsRow base' e sz v n xs := by
  obtain ⟨h1, h2 | ⟨g, cap, cur, hv, hg, r⟩⟩ := h
  · exact ⟨h1, .inl h2⟩
  · exact ⟨h1, .inr ⟨g, cap, cur, hv, by omega, r⟩⟩
/-- What was made earlier and what was made later share no block. -/
theorem apt_later {w1 w2 : World} {b1 b2 : Nat} {e1 e2 : TypeId} {s1 s2 n1 n2 : Nat} {a b : Value} {xs ys : List Value} (ha : w1.ownsRow b1 e1 s1 a n1 xs) (hb : w2.ownsRow b2 e2 s2 b n2 ys) (h : w1.heap.size ≤ b2) : Apt a b := by
  unfold Apt
  rcases hg : a.ownBlock with _ | g
  · exact .inl rfl
  · refine .inr ?_
    intro he
    have h1 := (ha.lt g hg).2
    have h2 := (hb.lt g he.symm).1
    omega

/-- Three lists of texts that share no block lie apart. -/
theorem apartT3 {w : World} (base : Nat) {a b c : Value} {la lb lc : List ByteArray} (hbase : base ≤ w.heap.size) (ha : OwnT w base a la) (hb : OwnT w base b lb) (hc : OwnT w base c lc)
    (hab : Apt a b) (hac : Apt a c) (hbc : Apt b c) (h1 : la.length ≤ 1099511627776) (h2 : lb.length ≤ 1099511627776) (h3 : lc.length ≤ 1099511627776) :
    Calls Tryd.prog 12 #[.slice (some ⟨w.heap.size, 0, none⟩) 3 3] (w.alloc (.cells #[a, b, c] 22)) fun e w' => e = .returned (.bool true) ∧ Below base w w' := by
  have hblk := Blk.new w 22 #[a, b, c]
  have hown := hblk.own (base := base) (n := 3) (cap := 3) (sz := 1) rfl hbase rfl (Nat.le_refl _) (by simp [maxLen])
  have := apart_any base (.slice (some ⟨w.heap.size, 0, none⟩) 3 3) 3 (fun j => match j with | 0 => a | 1 => b | _ => c) (fun j => match j with | 0 => la.length | 1 => lb.length | _ => lc.length)
    (fun j => match j with | 0 => la.map Value.string | 1 => lb.map Value.string | _ => lc.map Value.string) (w.alloc (.cells #[a, b, c] 22)) (by simp; omega) (fun j => by split <;> simp) (fun j _ => by split <;> assumption) (by omega) hown
    (fun j hj => by
      match j, hj with
      | 0, _ => exact World.ownsRow.alloc ha _
      | 1, _ => exact World.ownsRow.alloc hb _
      | 2, _ => exact World.ownsRow.alloc hc _)
    (fun i j hi hj hne => by
      match i, hi, j, hj with
      | 0, _, 0, _ => exact absurd rfl hne
      | 1, _, 1, _ => exact absurd rfl hne
      | 2, _, 2, _ => exact absurd rfl hne
      | 0, _, 1, _ => exact hab
      | 0, _, 2, _ => exact hac
      | 1, _, 2, _ => exact hbc
      | 1, _, 0, _ => exact hab.symm
      | 2, _, 0, _ => exact hac.symm
      | 2, _, 1, _ => exact hbc.symm)
  exact this.mono fun e w' ⟨he, hb⟩ => ⟨he, ((Below.refl base w).alloc hbase _).trans hb⟩


end Go.Proofs.YtghobbbmoeijbaaDoor
