/- Contract of the document's names read again. -/
import Derived.Test.YtghobbbmoeijbaaEscC
namespace Go.Proofs.Ytghobbbmoeijbaa
open Go.RowKit
attribute [local go_sem ↓] Go.wp_at_zero Go.wp_at_succ

theorem digit_val (c : UInt8) (i : Int) (h : digI c.toNat = i) (w : World) :
    Calls Try.prog 31 #[.int .u8 (c.toNat : Int)] w fun e w' => e = .returned (.int .i64 i) ∧ w = w' :=
  (digit_any c w).mono fun _ _ ⟨h1, h2⟩ => ⟨by rw [h1, h], h2⟩
theorem digit_quiet {x : UInt8} {i : Int} (h : ∀ w : World, Calls Try.prog 31 #[.int .u8 (x.toNat : Int)] w fun e w' => e = .returned (.int .i64 i) ∧ w = w') (w : World) :
    Calls Try.prog 31 #[.int .u8 (x.toNat : Int)] w fun e w' => e = .returned (.int .i64 i) ∧ w' = w := (h w).mono fun _ _ ⟨h1, h2⟩ => ⟨h1, h2.symm⟩

set_option maxRecDepth 100000 in
set_option maxHeartbeats 2000000 in
theorem runesc_any (s : ByteArray) (w : World) (hs : s.size ≤ 140737488355000) :
    Calls Try.prog 19 #[.string s] w fun e w' => ∃ v, e = .returned (.tuple #[v, .int .i64 ((unescape (lst s)).2.1 : Int), .int .i64 ((unescape (lst s)).2.2 : Int)]) ∧
      Own w' w.heap.size 5 v (unescape (lst s)).1 ∧ Below w.heap.size w w' := by
  by_cases h1 : lst s = [37]
  · have g1 : (s.toList == [37]) = true := by rw [str_toList]; simpa using h1
    have hr : unescape (lst s) = ([], 0, 0) := by unfold unescape; rw [if_pos h1]
    rw [hr]
    clear hr h1
    go_enter Try.func19, Try.ntmps19
    go_wp2
    go_ret3
    exact ⟨.slice none 0 0, rfl, Own.nil _ _ _, Below.refl _ _⟩
  · have g1 : (s.toList == [37]) = false := by rw [str_toList, beq_eq_false_iff_ne]; exact h1
    by_cases h2 : lst s = []
    · have g2 : s.toList = [] := by rw [str_toList]; exact h2
      have g3 : s.toList.isEmpty = true := by rw [g2]; rfl
      have hr : unescape (lst s) = ([], 0, 103) := by unfold unescape; rw [if_neg h1, if_pos h2]
      rw [hr]
      clear hr h1 h2 g2
      go_enter Try.func19, Try.ntmps19
      go_wp2
      go_ret3
      exact ⟨.slice none 0 0, rfl, Own.nil _ _ _, Below.refl _ _⟩
    · have g3 : s.toList.isEmpty = false := by rw [str_toList]; simpa using h2
      obtain ⟨R, hR⟩ : ∃ R, R = unescape (lst s) := ⟨_, rfl⟩
      rw [← hR]
      have hR2 : R = unescL (lst s) 0 [] := by rw [hR]; unfold unescape; rw [if_neg h1, if_neg h2]
      have HR := hide hR2
      clear hR hR2 h1 h2
      go_enter Try.func19, Try.ntmps19
      go_wp2
      go_loopw [5, 6, 7] (fun u5 u6 _ wr => ∃ (k : Nat) (acc : List UInt8), k ≤ s.size ∧ u6 = .int .i64 (k : Int) ∧ Own wr w.heap.size 5 u5 acc ∧ acc.length ≤ k ∧ R = unescL ((lst s).drop k) k acc ∧ Below w.heap.size w wr) (fun _ u6 _ _ => s.size - (intOf u6).toNat)
      case atStart => exact ⟨0, [], by omega, rfl, Own.nil _ _ _, by simp, HR.out, Below.refl _ _⟩
      case round =>
        clear HR
        obtain ⟨k, acc, hk, rfl, hown, hacc, hr, hbel⟩ := hrel
        have HO := hide hown
        have HR := hide hr
        clear hown hr
        by_cases hlt : k < s.size
        · have hd := lst_drop s k hlt
          obtain ⟨x, hx⟩ : ∃ x, x = s[k] := ⟨_, rfl⟩
          rw [← hx] at hd
          have ex : ((s[k]).toNat : Int) = (x.toNat : Int) := by rw [hx]
          have hpl := plain_any x
          have HD := hide hd
          have HX := hide hx
          have hx8 := x.toNat_lt
          clear hd hx
          by_cases hp : plainN x.toNat = true
          · rw [hp] at hpl
            have HP := hide hp
            clear hp
            go_wp2_with (first
              | (go_at_call 30; ((with_reducible refine (hpl _).mono ?_)); rintro e w' ⟨rfl, rfl⟩)
              | (at_builtin; go_loud (refine wpList_pushB elem8 HO.out hbel hbel.size (by omega) x rfl _ _ rfl rfl rfl ?_); intro v1 w1 hown1 hbel1 hgr1 _))
            go_roundw
            case rel => exact ⟨k + 1, _, by omega, by go_num, hown1, by simp; omega, by rw [HR.out, HD.out, unescL_plain _ _ _ _ HP.out], hbel1⟩
            case measure => simp [intOf]; omega
          · have hpf : plainN x.toNat = false := by simpa using hp
            have HP := hide hpf
            rw [hpf] at hpl
            by_cases h37 : x.toNat = 37
            · have q37 : ((x.toNat : Int) != 37) = false := by simp [h37]
              have H37 := hide h37
              clear hp hpf h37
              by_cases hsh : s.size < k + 3
              · have hle : (s.size : Int) ≤ (k : Int) + 2 := by omega
                have hres : R = ([], k, 103) := by rw [HR.out, HD.out, unescL_short _ _ _ _ H37.out (by rw [List.length_drop, lst_len]; omega)]
                have HRES := hide hres
                clear hres
                go_wp2_with (go_at_call 30; ((with_reducible refine (hpl _).mono ?_)); rintro e w' ⟨rfl, rfl⟩)
                go_ret3
                rw [HRES.out]
                exact ⟨.slice none 0 0, rfl, Own.nil _ _ _, hbel⟩
              · have hk1 : k + 1 < s.size := by omega
                have hk2 : k + 2 < s.size := by omega
                have hlt2 : (k : Int) + 2 < (s.size : Int) := by omega
                have hd1 := lst_drop s (k + 1) hk1
                have hd2 := lst_drop s (k + 2) hk2
                obtain ⟨y, hy⟩ : ∃ y, y = s[k + 1] := ⟨_, rfl⟩
                obtain ⟨z, hz⟩ : ∃ z, z = s[k + 2] := ⟨_, rfl⟩
                rw [← hy] at hd1
                rw [← hz] at hd2
                have ey : ((s[k + 1]).toNat : Int) = (y.toNat : Int) := by rw [hy]
                have ez : ((s[k + 2]).toNat : Int) = (z.toNat : Int) := by rw [hz]
                have hy8 := y.toNat_lt
                have hz8 := z.toNat_lt
                have HD1 := hide hd1
                have HD2 := hide hd2
                clear hd1 hd2 hy hz
                rcases hyn : digN y.toNat with _ | a
                · have hres : R = ([], k, 103) := by rw [HR.out, HD.out, HD1.out, HD2.out, unescL_pair _ _ _ _ _ _ H37.out, hyn]
                  have hdy := digit_val y (-1) (digI_none _ hyn)
                  have HRES := hide hres
                  clear hres hyn
                  go_wp2_with (first
                    | (go_at_call 30; ((with_reducible refine (hpl _).mono ?_)); rintro e w' ⟨rfl, rfl⟩)
                    | (go_at_call 31; ((with_reducible refine (hdy _).mono ?_)); rintro e w' ⟨rfl, rfl⟩))
                  go_ret3
                  rw [HRES.out]
                  exact ⟨.slice none 0 0, rfl, Own.nil _ _ _, hbel⟩
                · have hdy := digit_val y (a : Int) (digI_some _ _ hyn)
                  have ha := dig_lt16 _ _ hyn
                  rcases hzn : digN z.toNat with _ | b
                  · have hres : R = ([], k, 103) := by rw [HR.out, HD.out, HD1.out, HD2.out, unescL_pair _ _ _ _ _ _ H37.out, hyn, hzn]
                    have hdz := digit_val z (-1) (digI_none _ hzn)
                    have HRES := hide hres
                    clear hres hyn hzn
                    go_wp2_with (first
                      | (go_at_call 30; ((with_reducible refine (hpl _).mono ?_)); rintro e w' ⟨rfl, rfl⟩)
                      | (go_at_call 31; first | ((with_reducible refine (hdy _).mono ?_); rintro e w' ⟨rfl, rfl⟩) | ((with_reducible refine (hdz _).mono ?_); rintro e w' ⟨rfl, rfl⟩)))
                    go_ret3
                    rw [HRES.out]
                    exact ⟨.slice none 0 0, rfl, Own.nil _ _ _, hbel⟩
                  · have hdz := digit_val z (b : Int) (digI_some _ _ hzn)
                    have hb := dig_lt16 _ _ hzn
                    obtain ⟨c, hc⟩ : ∃ c : UInt8, c.toNat = 16 * a + b := ⟨UInt8.ofNat (16 * a + b), by rw [UInt8.toNat_ofNat']; omega⟩
                    have hcn : UInt8.ofNat (16 * a + b) = c := by apply UInt8.toNat_inj.1; rw [UInt8.toNat_ofNat', hc]; omega
                    have hres : R = if plainN c.toNat then ([], k, 103) else unescL ((lst s).drop (k + 3)) (k + 3) (acc ++ [c]) := by
                      rw [HR.out, HD.out, HD1.out, HD2.out, unescL_pair _ _ _ _ _ _ H37.out, hyn, hzn]
                      simp only []
                      rw [hcn, hc]
                    have hpc := plain_any c
                    have hc8 := c.toNat_lt
                    have HRES := hide hres
                    have i0 : (0 : Int) ≤ (k : Int) + 1 := by omega
                    have i1 : (k : Int) + 1 < (s.size : Int) := by omega
                    have i2 : (0 : Int) ≤ (k : Int) + 2 := by omega
                    have i5 : ((k : Int) + 1).toNat = k + 1 := by omega
                    have i6 : ((k : Int) + 2).toNat = k + 2 := by omega
                    have HC := hide hc
                    clear hres hyn hzn hc hcn
                    go_wp2_with (first
                      | (go_at_call 30; ((with_reducible refine (hpl _).mono ?_)); rintro e w' ⟨rfl, rfl⟩)
                      | (go_at_call 31; first | ((with_reducible refine (hdy _).mono ?_); rintro e w' ⟨rfl, rfl⟩) | ((with_reducible refine (hdz _).mono ?_); rintro e w' ⟨rfl, rfl⟩)))
                    have i3 : IntKind.i64.wrap ((k : Int) + 1) = (k : Int) + 1 := IntWalk.i64_in _ (by omega)
                    have i4 : IntKind.i64.wrap ((k : Int) + 2) = (k : Int) + 2 := IntWalk.i64_in _ (by omega)
                    have i7 : IntKind.i64.wrap (16 * (a : Int)) = 16 * (a : Int) := IntWalk.i64_in _ (by omega)
                    have i8 : IntKind.i64.wrap (16 * (a : Int) + (b : Int)) = 16 * (a : Int) + (b : Int) := IntWalk.i64_in _ (by omega)
                    have i9 : IntKind.u8.wrap (16 * (a : Int) + (b : Int)) = (c.toNat : Int) := by rw [IntKind.wrap_u8]; have := HC.out; omega
                    go_quiet ((go_at_call 31; first | (with_reducible exact Calls.quiet_of_same (digit_quiet hdy _)) | (with_reducible exact Calls.quiet_of_same (digit_quiet hdz _))))
                    clear i3 i4 i7 i8 i9 i5 i6
                    rcases hpcv : plainN c.toNat with _ | _
                    · rw [hpcv] at hpc
                      have hres := HRES.out
                      rw [hpcv] at hres
                      have hres2 : R = unescL ((lst s).drop (k + 3)) (k + 3) (acc ++ [c]) := hres
                      have HRES2 := hide hres2
                      clear hpcv hres hres2 HRES
                      go_wp2_with (first
                        | (go_at_call 30; ((with_reducible refine (hpc _).mono ?_)); rintro e w' ⟨rfl, rfl⟩)
                        | (at_builtin; go_loud (refine wpList_pushB elem8 (w := wr.drewN _) HO.out (below_drewN hbel _) hbel.size (by omega) c rfl _ _ rfl rfl rfl ?_); intro v1 w1 hown1 hbel1 hgr1 _))
                      go_roundw
                      case rel => exact ⟨k + 3, _, by omega, by go_num, hown1, by simp; omega, HRES2.out, hbel1⟩
                      case measure => simp [intOf]; omega
                    · rw [hpcv] at hpc
                      have hres := HRES.out
                      rw [hpcv] at hres
                      have hres2 : R = ([], k, 103) := hres
                      have HRES2 := hide hres2
                      clear hpcv hres hres2 HRES
                      go_wp2_with (go_at_call 30; ((with_reducible refine (hpc _).mono ?_)); rintro e w' ⟨rfl, rfl⟩)
                      go_ret3
                      rw [HRES2.out]
                      exact ⟨.slice none 0 0, rfl, Own.nil _ _ _, below_drewN hbel _⟩
            · have q37 : ((x.toNat : Int) != 37) = true := by rw [bne_iff_ne]; omega
              have hres : R = ([], k, 103) := by rw [HR.out, HD.out, unescL_other _ _ _ _ HP.out h37]
              have HRES := hide hres
              clear hp hpf h37 hres
              go_wp2_with (go_at_call 30; ((with_reducible refine (hpl _).mono ?_)); rintro e w' ⟨rfl, rfl⟩)
              go_ret3
              rw [HRES.out]
              exact ⟨.slice none 0 0, rfl, Own.nil _ _ _, hbel⟩
        · have hres : R = (acc, 0, 0) := by rw [HR.out, List.drop_of_length_le (by rw [lst_len]; omega), unescL_nil]
          have HRES := hide hres
          clear hres
          go_wp2
          go_ret3
          rw [HRES.out]
          exact ⟨u5, rfl, HO.out, hbel⟩
end Go.Proofs.Ytghobbbmoeijbaa
