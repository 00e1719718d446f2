/- Contracts of the names read again: the program's and the document's. -/
import Derived.Test.YtghobbbmoeijbaaDoorEscB
import Derived.Test.YtghobbbmoeijbaaDoorBaseD
namespace Go.Proofs.YtghobbbmoeijbaaDoor
open Go.RowKit
attribute [local go_sem ↓] Go.wp_at_zero Go.wp_at_succ

theorem ofInt64 (a : Nat) (ha : a < 9223372036854775808) : (BitVec.ofInt 64 (a : Int)).toNat = a := by
  rw [BitVec.ofInt_natCast, BitVec.toNat_ofNat]; exact Nat.mod_eq_of_lt (by omega)
theorem i64_and (a b : Nat) (ha : a < 9223372036854775808) (hb : b < 9223372036854775808) : bits .and .i64 (a : Int) (b : Int) = ((a &&& b : Nat) : Int) := by
  have hx : a &&& b < 2 ^ 63 := Nat.and_lt_two_pow _ (by omega)
  show IntKind.i64.wrap ((BitVec.ofInt 64 (a : Int) &&& BitVec.ofInt 64 (b : Int)).toNat : Int) = _
  rw [BitVec.toNat_and, ofInt64 a ha, ofInt64 b hb]
  exact IntWalk.i64_in _ (by omega)
theorem i64_or (a b : Nat) (ha : a < 9223372036854775808) (hb : b < 9223372036854775808) : bits .or .i64 (a : Int) (b : Int) = ((a ||| b : Nat) : Int) := by
  have hx : a ||| b < 2 ^ 63 := Nat.or_lt_two_pow (by omega) (by omega)
  show IntKind.i64.wrap ((BitVec.ofInt 64 (a : Int) ||| BitVec.ofInt 64 (b : Int)).toNat : Int) = _
  rw [BitVec.toNat_or, ofInt64 a ha, ofInt64 b hb]
  exact IntWalk.i64_in _ (by omega)

theorem index_dig_all : ∀ c : Fin 256, Lib.indexByte hexS.data.toList (UInt8.ofNat c.1) = digI c.1 := by decide +kernel
theorem index_dig (x : UInt8) : Lib.indexByte hexS.data.toList ((x.toNat : Int).toNat.toUInt8) = digI x.toNat := by
  have := index_dig_all ⟨x.toNat, x.toNat_lt⟩
  exact this

set_option maxRecDepth 100000 in
theorem idx_any (x : UInt8) (w : World) :
    Calls Tryd.prog 38 #[.string hexS, .int .u8 (x.toNat : Int)] w fun e w' => e = .returned (.int .i64 (digI x.toNat)) ∧ w' = w := by
  have := Tryd.strings_IndexByte hexS (x.toNat : Int) w
  rw [index_dig] at this
  exact this

theorem quiet_same' {P : Program} {f : FuncId} {args : Array Value} {w : World} {n : Nat} {v : Value}
    (h : Calls P f args (w.drewN n) fun e w' => e = .returned v ∧ w' = w.drewN n) : Calls P f args (w.drewN n) fun e w' => e = .returned v ∧ ∃ m, w' = w.drewN m :=
  h.mono fun _ _ ⟨h1, h2⟩ => ⟨h1, n, h2⟩

set_option maxHeartbeats 1000000 in
set_option maxRecDepth 100000 in
theorem pair_short (s : ByteArray) (k : Nat) (w : World) (hs : s.size ≤ 140737488355328) (hk : s.size < k + 2) (hk2 : k ≤ 140737488355328) :
    Calls Tryd.prog 31 #[.string s, .int .i64 (k : Int)] w fun e w' => e = .returned (.tuple #[.int .u8 0, .bool false]) ∧ w = w' := by
  have h1 : (s.size : Int) < (k : Int) + 2 := by omega
  go_enter Tryd.func31, Tryd.ntmps31
  go_wp2
  go_ret2
  exact ⟨rfl, rfl⟩

set_option maxHeartbeats 1000000 in
set_option maxRecDepth 100000 in
theorem pair_long (s : ByteArray) (k : Nat) (x y : UInt8) (w : World) (hs : s.size ≤ 140737488355328) (hk : k + 2 ≤ s.size) (hx : s[k]'(by omega) = x) (hy : s[k + 1]'(by omega) = y) :
    Calls Tryd.prog 31 #[.string s, .int .i64 (k : Int)] w fun e w' => (∃ n, w' = w.drewN n) ∧
      ((∀ a b, digN x.toNat = some a → digN y.toNat = some b → e = .returned (.tuple #[.int .u8 ((16 * a + b : Nat) : Int), .bool true])) ∧
       ((digN x.toNat = none ∨ digN y.toNat = none) → ∃ g : Int, e = .returned (.tuple #[.int .u8 g, .bool false]))) := by
  have h1 : (k : Int) + 2 ≤ (s.size : Int) := by omega
  have hi1 := idx_any x
  have hi2 := idx_any y
  have ex : ((s[k]'(by omega)).toNat : Int) = (x.toNat : Int) := by rw [hx]
  have ey : ((s[k + 1]'(by omega)).toNat : Int) = (y.toNat : Int) := by rw [hy]
  have k1 : (0 : Int) ≤ (k : Int) := by omega
  have k2 : (k : Int) < (s.size : Int) := by omega
  have k3 : (k : Int) + 1 < (s.size : Int) := by omega
  have k4 : (0 : Int) ≤ (k : Int) + 1 := by omega
  have k5 : IntKind.i64.wrap ((k : Int) + 1) = (k : Int) + 1 := IntWalk.i64_in _ (by omega)
  have k6 : ((k : Int) + 1).toNat = k + 1 := by omega
  have HX := hide hx
  have HY := hide hy
  clear hx hy
  go_enter Tryd.func31, Tryd.ntmps31
  go_wp2
  go_quiet ((go_at_call 38; first | exact Calls.quiet_of_same (hi1 _) | exact Calls.quiet_of_same (hi2 _)))
  clear k5 k6 k4 hi1 hi2 ex ey
  rcases hdx : digN x.toNat with _ | a
  · have e1 := digI_none _ hdx
    have HDX := hide hdx
    clear hdx
    go_wp2
    all_goals
      go_ret2
      exact ⟨⟨_, rfl⟩, (fun a b h => by rw [HDX.out] at h; cases h), fun _ => ⟨_, rfl⟩⟩
  · have e1 := digI_some _ _ hdx
    have ha := dig_lt16 _ _ hdx
    have HDX := hide hdx
    clear hdx
    rcases hdy : digN y.toNat with _ | b
    · have e2 := digI_none _ hdy
      have HDY := hide hdy
      clear hdy
      go_wp2
      all_goals
        go_ret2
        exact ⟨⟨_, rfl⟩, (fun a b _ h => by rw [HDY.out] at h; cases h), fun _ => ⟨_, rfl⟩⟩
    · have e2 := digI_some _ _ hdy
      have hb := dig_lt16 _ _ hdy
      have g1 : bits .and .i64 (b : Int) 15 = (b : Int) := by
        have := i64_and b 15 (by omega) (by omega)
        rw [show (15 : Nat) = 2 ^ 4 - 1 from rfl, Nat.and_two_pow_sub_one_eq_mod, Nat.mod_eq_of_lt (by omega)] at this
        exact this
      have g2 : bits .or .i64 ((a : Int) * 16) (b : Int) = ((16 * a + b : Nat) : Int) := by
        have := i64_or (a * 2 ^ 4) b (by omega) (by omega)
        rw [or_low a b 4 (by omega)] at this
        have e : ((a * 2 ^ 4 : Nat) : Int) = (a : Int) * 16 := by omega
        rw [e] at this
        rw [this]
        omega
      have HDY := hide hdy
      have hab : ((16 * a + b : Nat) : Int) ≤ 255 := by omega
      clear hdy
      go_wp2
      go_ret2
      refine ⟨⟨_, rfl⟩, fun a' b' h1 h2 => ?_, fun h => ?_⟩
      · rw [HDX.out] at h1
        rw [HDY.out] at h2
        injection h1 with h1
        injection h2 with h2
        subst h1 h2
        rfl
      · rcases h with h | h
        · rw [HDX.out] at h; cases h
        · rw [HDY.out] at h; cases h
theorem lst_drop (s : ByteArray) (k : Nat) (h : k < s.size) : (lst s).drop k = s[k] :: (lst s).drop (k + 1) := by
  have hl : k < (lst s).length := by rw [lst_len]; exact h
  rw [List.drop_eq_getElem_cons hl]
  congr 1

set_option maxRecDepth 100000 in
set_option maxHeartbeats 2000000 in
set_option maxRecDepth 100000 in
theorem bunesc_any (s : ByteArray) (w : World) (hs : s.size ≤ 140737488355000) :
    Calls Tryd.prog 19 #[.string s] w fun e w' => ∃ v, e = .returned (.tuple #[v, .int .i64 ((unescape (lst s)).2.1 : Int), .int .i64 ((unescape (lst s)).2.2 : Int)]) ∧
      Own w' w.heap.size 5 v (unescape (lst s)).1 ∧ Below w.heap.size w w' := by
  by_cases h1 : lst s = [37]
  · have g1 : (s.toList == [37]) = true := by rw [str_toList]; simpa using h1
    have hr : unescape (lst s) = ([], 0, 0) := by unfold unescape; rw [if_pos h1]
    rw [hr]
    clear hr h1
    go_enter Tryd.func19, Tryd.ntmps19
    go_wp2
    go_ret3
    exact ⟨.slice none 0 0, rfl, Own.nil _ _ _, Below.refl _ _⟩
  · have g1 : (s.toList == [37]) = false := by rw [str_toList, beq_eq_false_iff_ne]; exact h1
    by_cases h2 : lst s = []
    · have g2 : s.toList = [] := by rw [str_toList]; exact h2
      have g3 : s.toList.isEmpty = true := by rw [g2]; rfl
      have hr : unescape (lst s) = ([], 0, 103) := by unfold unescape; rw [if_neg h1, if_pos h2]
      rw [hr]
      clear hr h1 h2 g2
      go_enter Tryd.func19, Tryd.ntmps19
      go_wp2
      go_ret3
      exact ⟨.slice none 0 0, rfl, Own.nil _ _ _, Below.refl _ _⟩
    · have g3 : s.toList.isEmpty = false := by rw [str_toList]; simpa using h2
      obtain ⟨R, hR⟩ : ∃ R, R = unescape (lst s) := ⟨_, rfl⟩
      rw [← hR]
      have hR2 : R = unescL (lst s) 0 [] := by rw [hR]; unfold unescape; rw [if_neg h1, if_neg h2]
      have HR := hide hR2
      clear hR hR2 h1 h2
      go_enter Tryd.func19, Tryd.ntmps19
      go_wp2
      go_loopw [5, 6, 7, 8] (fun u5 u6 _ _ wr => ∃ (k : Nat) (acc : List UInt8), k ≤ s.size ∧ u6 = .int .i64 (k : Int) ∧ Own wr w.heap.size 5 u5 acc ∧ acc.length ≤ k ∧ R = unescL ((lst s).drop k) k acc ∧ Below w.heap.size w wr) (fun _ u6 _ _ _ => s.size - (intOf u6).toNat)
      case atStart => exact ⟨0, [], by omega, rfl, Own.nil _ _ _, by simp, HR.out, Below.refl _ _⟩
      case round =>
        clear HR
        obtain ⟨k, acc, hk, rfl, hown, hacc, hr, hbel⟩ := hrel
        have HO := hide hown
        have HR := hide hr
        clear hown hr
        by_cases hlt : k < s.size
        · have hd := lst_drop s k hlt
          obtain ⟨x, hx⟩ : ∃ x, x = s[k] := ⟨_, rfl⟩
          rw [← hx] at hd
          have ex : ((s[k]).toNat : Int) = (x.toNat : Int) := by rw [hx]
          have hsx := sort_any x
          have HD := hide hd
          have HX := hide hx
          have hx8 := x.toNat_lt
          clear hd hx
          by_cases hp : plainN x.toNat = true
          · have hs1 : (sortN x.toNat : Int) = 1 := by unfold sortN; rw [if_pos hp]; rfl
            rw [hs1] at hsx
            have HP := hide hp
            clear hp hs1
            go_wp2_with (first
              | (go_at_call 30; ((with_reducible refine (hsx _).mono ?_)); rintro e w' ⟨rfl, rfl⟩)
              | (at_builtin; go_loud (refine wpList_pushB elem8 HO.out hbel hbel.size (by omega) x rfl _ _ rfl rfl rfl ?_); intro v1 w1 hown1 hbel1 hgr1 _))
            go_roundw
            case rel => exact ⟨k + 1, _, by omega, by go_num, hown1, by simp; omega, by rw [HR.out, HD.out, unescL_plain _ _ _ _ HP.out], hbel1⟩
            case measure => simp [intOf]; omega
          · have hpf : plainN x.toNat = false := by simpa using hp
            have HP := hide hpf
            by_cases h37 : x.toNat = 37
            · have hs1 : (sortN x.toNat : Int) = 2 := by unfold sortN; rw [if_neg hp, if_pos h37]; rfl
              rw [hs1] at hsx
              have H37 := hide h37
              clear hp hs1 hpf h37
              by_cases hsh : s.size < k + 3
              · have hps := fun wx => pair_short s (k + 1) wx (by omega) (by omega) (by omega)
                rw [show ((k + 1 : Nat) : Int) = (k : Int) + 1 from rfl] at hps
                have hres : R = ([], k, 103) := by rw [HR.out, HD.out, unescL_short _ _ _ _ H37.out (by rw [List.length_drop, lst_len]; omega)]
                have HRES := hide hres
                clear hres
                go_wp2_with (first
                  | (go_at_call 30; ((with_reducible refine (hsx _).mono ?_)); rintro e w' ⟨rfl, rfl⟩)
                  | (go_at_call 31; ((with_reducible refine (hps _).mono ?_)); rintro e w' ⟨rfl, rfl⟩))
                go_ret3
                rw [HRES.out]
                exact ⟨.slice none 0 0, rfl, Own.nil _ _ _, hbel⟩
              · have hk1 : k + 1 < s.size := by omega
                have hk2 : k + 2 < s.size := by omega
                have hd1 := lst_drop s (k + 1) hk1
                have hd2 := lst_drop s (k + 1 + 1) hk2
                have hpl := fun wx => pair_long s (k + 1) (s[k + 1]) (s[k + 1 + 1]) wx (by omega) (by omega) rfl rfl
                rw [show ((k + 1 : Nat) : Int) = (k : Int) + 1 from rfl] at hpl
                obtain ⟨y, hy⟩ : ∃ y, y = s[k + 1] := ⟨_, rfl⟩
                obtain ⟨z, hz⟩ : ∃ z, z = s[k + 1 + 1] := ⟨_, rfl⟩
                rw [← hy] at hd1
                rw [← hz] at hd2
                rw [← hy, ← hz] at hpl
                have HD1 := hide hd1
                have HD2 := hide hd2
                clear hd1 hd2 hy hz
                have hcase : (digN y.toNat = none ∨ digN z.toNat = none) ∨ ∃ a b, digN y.toNat = some a ∧ digN z.toNat = some b := by
                  rcases digN y.toNat with _ | a
                  · exact .inl (.inl rfl)
                  · rcases digN z.toNat with _ | b
                    · exact .inl (.inr rfl)
                    · exact .inr ⟨a, b, rfl, rfl⟩
                rcases hcase with hnone | ⟨a, b, hya, hzb⟩
                · have hres : R = ([], k, 103) := by
                    rw [HR.out, HD.out, HD1.out, HD2.out, unescL_pair _ _ _ _ _ _ H37.out]
                    rcases hnone with h | h
                    · rw [h]
                    · rw [h]; rcases digN y.toNat with _ | a <;> rfl
                  have HRES := hide hres
                  have HPL := hide hpl
                  have HNN := hide hnone
                  clear hres hpl hnone
                  go_wp2_with (first
                    | (go_at_call 30; ((with_reducible refine (hsx _).mono ?_)); rintro e w' ⟨rfl, rfl⟩)
                    | (go_at_call 31; ((with_reducible refine (HPL.out _).mono ?_)); rintro e w' ⟨⟨q, rfl⟩, _, hno⟩; obtain ⟨g, rfl⟩ := hno HNN.out; clear hno))
                  go_ret3
                  rw [HRES.out]
                  exact ⟨.slice none 0 0, rfl, Own.nil _ _ _, below_drewN hbel _⟩
                · have ha := dig_lt16 _ _ hya
                  have hb := dig_lt16 _ _ hzb
                  obtain ⟨c, hc⟩ : ∃ c : UInt8, c.toNat = 16 * a + b := ⟨UInt8.ofNat (16 * a + b), by rw [UInt8.toNat_ofNat']; omega⟩
                  have hcn : UInt8.ofNat (16 * a + b) = c := by apply UInt8.toNat_inj.1; rw [UInt8.toNat_ofNat', hc]; omega
                  have hres : R = if plainN c.toNat then ([], k, 103) else unescL ((lst s).drop (k + 3)) (k + 3) (acc ++ [c]) := by
                    rw [HR.out, HD.out, HD1.out, HD2.out, unescL_pair _ _ _ _ _ _ H37.out, hya, hzb]
                    simp only []
                    rw [hcn, hc]
                  have hpl2 : ∀ wx, Calls Tryd.prog 31 #[.string s, .int .i64 ((k : Int) + 1)] wx fun e w' => e = .returned (.tuple #[.int .u8 (c.toNat : Int), .bool true]) ∧ ∃ q, w' = wx.drewN q := fun wx =>
                    (hpl wx).mono fun e w' ⟨h1, h2, _⟩ => ⟨by rw [h2 a b hya hzb, hc], h1⟩
                  have hsc := sort_any c
                  have hc8 := c.toNat_lt
                  have HRES := hide hres
                  clear hres hpl hya hzb hc hcn
                  by_cases hpc : plainN c.toNat = true
                  · have hs2 : (sortN c.toNat : Int) = 1 := by unfold sortN; rw [if_pos hpc]; rfl
                    rw [hs2] at hsc
                    have hres := HRES.out
                    rw [if_pos hpc] at hres
                    have HRES2 := hide hres
                    clear hpc hs2 hres HRES
                    go_wp2_with (first
                      | (go_at_call 30; first | ((with_reducible refine (hsx _).mono ?_); rintro e w' ⟨rfl, rfl⟩) | ((with_reducible refine (hsc _).mono ?_); rintro e w' ⟨rfl, rfl⟩))
                      | (go_at_call 31; ((with_reducible refine (hpl2 _).mono ?_)); rintro e w' ⟨rfl, q, rfl⟩))
                    go_ret3
                    rw [HRES2.out]
                    exact ⟨.slice none 0 0, rfl, Own.nil _ _ _, below_drewN hbel _⟩
                  · have hs2 : (sortN c.toNat : Int) ≠ 1 := by unfold sortN; rw [if_neg hpc]; split <;> decide
                    have gs : ((sortN c.toNat : Int) == 1) = false := by rw [beq_eq_false_iff_ne]; exact hs2
                    have hres := HRES.out
                    rw [if_neg hpc] at hres
                    have HRES2 := hide hres
                    clear hpc hs2 hres HRES
                    go_wp2_with (first
                      | (go_at_call 30; first | ((with_reducible refine (hsx _).mono ?_); rintro e w' ⟨rfl, rfl⟩) | ((with_reducible refine (hsc _).mono ?_); rintro e w' ⟨rfl, rfl⟩))
                      | (go_at_call 31; ((with_reducible refine (hpl2 _).mono ?_)); rintro e w' ⟨rfl, q, rfl⟩)
                      | (at_builtin; go_loud (refine wpList_pushB elem8 (w := wr.drewN q) HO.out (below_drewN hbel q) hbel.size (by omega) c rfl _ _ rfl rfl rfl ?_); intro v1 w1 hown1 hbel1 hgr1 _))
                    go_roundw
                    case rel => exact ⟨k + 3, _, by omega, by go_num, hown1, by simp; omega, HRES2.out, hbel1⟩
                    case measure => simp [intOf]; omega
            · have hs1 : (sortN x.toNat : Int) = 0 := by unfold sortN; rw [if_neg hp, if_neg h37]; rfl
              rw [hs1] at hsx
              have hres : R = ([], k, 103) := by rw [HR.out, HD.out, unescL_other _ _ _ _ HP.out h37]
              have HRES := hide hres
              clear hp hs1 hpf h37 hres
              go_wp2_with (go_at_call 30; ((with_reducible refine (hsx _).mono ?_)); rintro e w' ⟨rfl, rfl⟩)
              go_ret3
              rw [HRES.out]
              exact ⟨.slice none 0 0, rfl, Own.nil _ _ _, hbel⟩
        · have hres : R = (acc, 0, 0) := by rw [HR.out, List.drop_of_length_le (by rw [lst_len]; omega), unescL_nil]
          have HRES := hide hres
          clear hres
          go_wp2
          go_ret3
          rw [HRES.out]
          exact ⟨u5, rfl, HO.out, hbel⟩
end Go.Proofs.YtghobbbmoeijbaaDoor
