/- The contract of what adds blocks up, each times its factor. -/
import Derived.Test.YtoaaplngdomdcaaMatH
import Derived.Test.YtoaaplngdomdcaaRsAlg
import Derived.StillTailTactics
namespace Go.Proofs.Ytoaaplngdomdcaa
open Go.RowKit

/-- The products of f so far. -/
def tarr (f : UInt8) (m : Nat) : Array Value := (bcells ((List.range m).map fun x => bmul f (UInt8.ofNat x)) ++ List.replicate (256 - m) (Value.int .u8 0)).toArray
theorem tarr_size (f : UInt8) {m : Nat} (h : m ≤ 256) : (tarr f m).size = 256 := by simp [tarr]; omega
theorem tarr_set (f : UInt8) {m : Nat} (h : m < 256) : (tarr f m).setIfInBounds m (Value.int .u8 ((bmul f (UInt8.ofNat m)).toNat : Int)) = tarr f (m + 1) := by
  unfold tarr
  rw [show 256 - m = (256 - (m + 1)) + 1 by omega, List.replicate_succ, List.setIfInBounds_toArray, List.set_append_right _ _ (by simp), bcells_length, List.length_map, List.length_range, Nat.sub_self, List.set_cons_zero, List.range_succ, List.map_append, bcells_append, List.append_assoc]
  rfl
theorem tarr_get (f x : UInt8) : (tarr f 256)[x.toNat]? = some (.int .u8 ((bmul f x).toNat : Int)) := by
  have hx := x.toNat_lt
  unfold tarr
  rw [List.getElem?_toArray, List.getElem?_append_left (by simp; omega), bcells_get, List.getElem?_map, List.getElem?_range (by omega)]
  simp
/-- The sums so far. -/
def mixs (F : Nat → UInt8) (D : Nat → Nat → UInt8) (j : Nat) (t : Nat) : UInt8 := sm (List.range j) fun i => bmul (F i) (D i t)
theorem mixs_succ (F : Nat → UInt8) (D : Nat → Nat → UInt8) (j t : Nat) : mixs F D (j + 1) t = mixs F D j t ^^^ bmul (F j) (D j t) := by
  unfold mixs
  rw [List.range_succ, sm_append, sm_cons, sm_nil, UInt8.xor_zero]
/-- A row of n bytes of which the first t are f's, the others g's. -/
def half (n t : Nat) (f g : Nat → UInt8) : List UInt8 := (List.range n).map fun i => if i < t then f i else g i
theorem half_length (n t : Nat) (f g : Nat → UInt8) : (half n t f g).length = n := by simp [half]
theorem half_get {n t i : Nat} (f g : Nat → UInt8) (h : i < n) : (half n t f g)[i]? = some (if i < t then f i else g i) := by
  rw [half, List.getElem?_map, List.getElem?_range h]; rfl
theorem half_set {n t : Nat} (f g : Nat → UInt8) (h : t < n) : (half n t f g).set t (f t) = half n (t + 1) f g := by
  apply List.ext_getElem?
  intro i
  rw [List.getElem?_set]
  by_cases hi : i < n
  · rw [half_get (t := t + 1) f g hi]
    split
    · rename_i e; subst e; rw [if_pos (by rw [half_length]; exact h), if_pos (by omega)]
    · rename_i e
      rw [half_get f g hi]
      by_cases h1 : i < t
      · rw [if_pos h1, if_pos (by omega)]
      · rw [if_neg h1, if_neg (by omega)]
  · rw [if_neg (by omega), List.getElem?_eq_none (by rw [half_length]; omega), List.getElem?_eq_none (by rw [half_length]; omega)]
theorem half_zero (n : Nat) (f g : Nat → UInt8) : half n 0 f g = (List.range n).map g := by simp [half]
theorem half_full (n : Nat) (f g : Nat → UInt8) : half n n f g = (List.range n).map f := by
  unfold half
  exact List.map_congr_left fun i hi => if_pos (List.mem_range.1 hi)

set_option maxRecDepth 100000 in
set_option maxHeartbeats 3200000 in
theorem mixed_any (vf vb : Value) (k n : Nat) (F : Nat → UInt8) (D : Nat → Nat → UInt8) (w : World) (hf : By w vf ((List.range k).map F)) (hb : Ls w vb (rowsOf n D k)) (hk : 1 ≤ k ∧ k ≤ 256) (hn : n ≤ 140737488355328) :
    Calls Try.prog 72 #[vf, vb] w fun e w' => ∃ v, e = .returned v ∧ Own w' w.heap.size 5 v ((List.range n).map (mixs F D k)) ∧ Below w.heap.size w w' := by
  obtain ⟨A, c, rfl, hfc, hfm, hfcell⟩ := hf.form
  obtain ⟨B, d, rfl, hbc, hbm, hbcell⟩ := hb.form
  rw [List.length_map, List.length_range] at hfc ⊢
  rw [rowsOf_length] at hbc ⊢
  have HF := hide (And.intro hf hb)
  clear hf hb
  unfold maxLen at hfm hbm
  have hrow : ∀ j, j < k → ∃ b o A2 c2, B = some ⟨b, o, none⟩ ∧ b < w.heap.size ∧ w.cell? ⟨b, o + j, none⟩ = some (.slice A2 n c2) ∧ n ≤ c2 ∧ c2 ≤ maxLen ∧
      ∀ t, t < n → ∃ b2 o2, A2 = some ⟨b2, o2, none⟩ ∧ b2 < w.heap.size ∧ w.cell? ⟨b2, o2 + t, none⟩ = some (.int .u8 ((D j t).toNat : Int)) := by
    intro j hj
    obtain ⟨b, o, x, hB, hlt, hx, hby⟩ := hbcell j _ (rowsOf_get n D hj)
    obtain ⟨A2, c2, rfl, h1, h2, h3⟩ := hby.form
    rw [List.length_map, List.length_range] at h1 hx
    exact ⟨b, o, A2, c2, hB, hlt, hx, h1, h2, fun t ht => h3 t _ (by rw [List.getElem?_map, List.getElem?_range ht]; rfl)⟩
  have hfac : ∀ j, j < k → ∃ b o, A = some ⟨b, o, none⟩ ∧ b < w.heap.size ∧ w.cell? ⟨b, o + j, none⟩ = some (.int .u8 ((F j).toNat : Int)) := fun j hj => hfcell j _ (by rw [List.getElem?_map, List.getElem?_range hj]; rfl)
  clear hbcell hfcell
  obtain ⟨b0, o0, A0, c0, hB0, hlt0, hx0, hn0, hc0, _⟩ := hrow 0 (by omega)
  subst hB0
  rw [Nat.add_zero] at hx0
  unfold maxLen at hc0
  have i0 : (0 : Int) < (k : Int) := by omega
  obtain ⟨z, hi, hz, h1, h2⟩ := info_parts elem8.hi
  have HI := hide (And.intro hi (And.intro hz (And.intro h1 h2)))
  clear hi hz h1 h2
  go_enter Try.func72, Try.ntmps72
  go_wp2_with (at_make; refine wpList_make_full w rfl _ _ 38 rfl w.heap.size 5 z (.int .u8 0) 1 Try.underlying38 HI.out.1 HI.out.2.1 HI.out.2.2.1 .i64 .i64 _ _ n rfl rfl rfl rfl (by rw [HI.out.2.2.2]; omega) (by unfold maxLen; omega) (Nat.le_refl _) ?_; intro w1 ho1 hg1)
  rw [made_bytes] at ho1
  have hb1 : Below w.heap.size w w1 := (Below.refl w.heap.size w).grown hg1 (Nat.le_refl _) (fun k hk => by cases hk)
  have HO := hide (show Own w1 w.heap.size 5 (.slice (some ⟨w.heap.size, 0, none⟩) n n) ((List.range n).map (mixs F D 0)) by
    have e : (List.range n).map (mixs F D 0) = List.replicate n 0 := by
      apply List.ext_getElem?
      intro i
      rw [List.getElem?_map, List.getElem?_replicate]
      by_cases h : i < n
      · rw [List.getElem?_range h, if_pos h]; rfl
      · rw [List.getElem?_eq_none (by simp; omega), if_neg h]; rfl
    rw [e]; unfold Own; rw [List.length_replicate]; exact ho1)
  clear ho1 hg1 HI hx0 hlt0 hn0
  go_loopw [6, 7, 8, 9, 10, 18, 25, 37] (fun _ _ _ _ _ u18 _ _ wr => ∃ j : Nat, j ≤ k ∧ u18 = .int .i64 (j : Int) ∧ Own wr w.heap.size 5 (.slice (some ⟨w.heap.size, 0, none⟩) n n) ((List.range n).map (mixs F D j)) ∧ Below w.heap.size w wr) (fun _ _ _ _ _ u18 _ _ _ => k - (intOf u18).toNat)
  case atStart => exact ⟨0, by omega, rfl, HO.out, hb1⟩
  case round =>
    clear HO hb1
    obtain ⟨j, hj, rfl, hown, hb2⟩ := hrel
    obtain ⟨wo, hwo⟩ : ∃ x, x = wr := ⟨_, rfl⟩
    subst hwo
    have HO := hide hown
    have hgl : w.heap.size < wo.heap.size := (own_lt hown) _ rfl
    clear hown
    by_cases hjl : j < k
    · have i2 : (j : Int) < (k : Int) := by omega
      have i3 : (0 : Int) ≤ (j : Int) := by omega
      obtain ⟨bf, of, rfl, hlf, hcf⟩ := hfac j hjl
      have hcf2 : wo.cell? ⟨bf, of + j, none⟩ = some (.int .u8 ((F j).toNat : Int)) := (hb2.cell (p := ⟨bf, of + j, none⟩) hlf).trans hcf
      clear hcf
      by_cases hF : F j = 0
      · have hF0 : ((F j).toNat : Int) = 0 := by rw [hF]; rfl
        rw [hF0] at hcf2
        go_wp2
        go_roundw
        case rel =>
          refine ⟨j + 1, by omega, by go_num, ?_, hb2⟩
          have e : (List.range n).map (mixs F D (j + 1)) = (List.range n).map (mixs F D j) := List.map_congr_left fun t _ => by rw [mixs_succ, hF, zero_bmul, UInt8.xor_zero]
          rw [e]
          exact HO.out
        case measure => simp [intOf]; omega
      · have hF0 : (((F j).toNat : Int) == 0) = false := by
          have : ¬ (((F j).toNat : Int) = 0) := fun h => hF (UInt8.toNat_inj.1 (by simpa using h))
          simp only [beq_eq_false_iff_ne]
          exact this
        have n1 := Blk.new wo 172 (tarr (F j) 0)
        have n2 := (Below.refl wo.heap.size wo).alloc (Nat.le_refl _) (.cells (tarr (F j) 0) 172)
        have H := hide (And.intro n1 n2)
        clear n1 n2
        go_wp2
        go_loopw [9, 25] (fun _ u25 wr => ∃ m : Nat, m ≤ 256 ∧ u25 = .int .i64 (m : Int) ∧ Blk wr wo.heap.size 172 (tarr (F j) m) ∧ Below wo.heap.size wo wr) (fun _ u25 _ => 256 - (intOf u25).toNat)
        case atStart => exact ⟨0, by omega, rfl, H.out.1, H.out.2⟩
        case round =>
          clear H
          obtain ⟨m, hm, rfl, hblk, hb3⟩ := hrel
          have H := hide (And.intro hblk hb3)
          by_cases hml : m < 256
          · have j2 : (m : Int) < 256 := by omega
            have j3 : (0 : Int) ≤ (m : Int) := by omega
            have hcc := hblk.cell m
            have hfz := hblk.frozen m
            obtain ⟨y, hcy⟩ : ∃ y, wr.cell? ⟨wo.heap.size, m, none⟩ = some y := by rw [hcc]; exact ⟨_, Array.getElem?_eq_getElem (by rw [tarr_size _ hm]; omega)⟩
            have q := gmul_any (F j) (UInt8.ofNat m) wr
            rw [ofNat_toNat8 (by omega)] at q
            clear hcc hblk hb3
            go_wp2_with fail
            refine q.mono ?_
            rintro e w' ⟨rfl, rfl⟩
            go_wp2
            go_roundw
            case rel =>
              refine ⟨m + 1, by omega, by go_num, ?_, H.out.2.setCell (Nat.le_refl _) _⟩
              rw [← tarr_set (F j) hml]
              exact H.out.1.set_ m _
            case measure => simp [intOf]; omega
          · have hm6 : m = 256 := by omega
            have H := hide (show Blk wr wo.heap.size 172 (tarr (F j) 256) ∧ Below wo.heap.size wo wr by rw [← hm6]; exact H.out)
            clear hm6
            have HO3 := hide (half_zero n (mixs F D (j + 1)) (mixs F D j) ▸ HO.out.below hb3)
            clear HO hblk hb3
            go_wp2
            go_loopw [10, 37] (fun _ u37 wr => ∃ t : Nat, t ≤ n ∧ u37 = .int .i64 (t : Int) ∧ Own wr w.heap.size 5 (.slice (some ⟨w.heap.size, 0, none⟩) n n) (half n t (mixs F D (j + 1)) (mixs F D j)) ∧ Blk wr wo.heap.size 172 (tarr (F j) 256) ∧ Below w.heap.size w wr) (fun _ u37 _ => n - (intOf u37).toNat)
            case atStart => exact ⟨0, by omega, rfl, HO3.out, H.out.1, hb2.trans (H.out.2.mono hb2.size)⟩
            case round =>
              clear H HO3
              obtain ⟨t, ht, rfl, hown, hblk, hb3⟩ := hrel
              have HO := hide hown
              have HB := hide hblk
              by_cases htl : t < n
              · have k2 : (t : Int) < (n : Int) := by omega
                have k3 : (0 : Int) ≤ (t : Int) := by omega
                obtain ⟨X, hX⟩ : ∃ X, X = mixs F D j t := ⟨_, rfl⟩
                obtain ⟨Y, hY⟩ : ∃ Y, Y = D j t := ⟨_, rfl⟩
                obtain ⟨Z, hZ⟩ : ∃ Z, Z = bmul (F j) Y := ⟨_, rfl⟩
                have hlen := half_length n t (mixs F D (j + 1)) (mixs F D j)
                have hfz := World.ownsRow.frozenAt (n := n) (xs := bcells (half n t (mixs F D (j + 1)) (mixs F D j))) (by unfold Own at hown; rw [hlen] at hown; exact hown) t
                have hcc := World.ownsRow.cellAt (n := n) (xs := bcells (half n t (mixs F D (j + 1)) (mixs F D j))) (by unfold Own at hown; rw [hlen] at hown; exact hown) t (by omega)
                rw [bcells_get, half_get _ _ htl, if_neg (by omega), ← hX, Option.map_some] at hcc
                obtain ⟨bb, ob, A2, c2, hB, hlb, hcb, _, hc2m, hcells⟩ := hrow j hjl
                injection hB with hB
                injection hB with e1 e2 _
                subst e1 e2
                obtain ⟨b2, o2, rfl, hlb2, hcy⟩ := hcells t htl
                rw [← hY] at hcy
                have hcb2 : wr.cell? ⟨b0, o0 + j, none⟩ = some (.slice (some ⟨b2, o2, none⟩) n c2) := (hb3.cell (p := ⟨b0, o0 + j, none⟩) hlb).trans hcb
                have hcy2 : wr.cell? ⟨b2, o2 + t, none⟩ = some (.int .u8 (Y.toNat : Int)) := (hb3.cell (p := ⟨b2, o2 + t, none⟩) hlb2).trans hcy
                have hct : wr.cell? ⟨wo.heap.size, Y.toNat, none⟩ = some (.int .u8 (Z.toNat : Int)) := by rw [hblk.cell, tarr_get, hZ]
                have hyl : (Y.toNat : Int) < 256 := by have := Y.toNat_lt; omega
                have hy0 : (0 : Int) ≤ (Y.toNat : Int) := by omega
                have hx : bits .xor .u8 (X.toNat : Int) (Z.toNat : Int) = ((X ^^^ Z).toNat : Int) := by rw [UInt8.toNat_xor]; exact u8_xor_nat _ _ X.toNat_lt Z.toNat_lt
                have HX := hide (show X ^^^ Z = mixs F D (j + 1) t by rw [mixs_succ, hX, hZ, hY])
                unfold maxLen at hc2m
                clear hcb hcy hcells hown hblk hlen hX hY hZ
                generalize X ^^^ Z = R at *
                go_wp2
                go_still_tail 15, (by kernel_rfl)
                go_wp2
                go_roundw
                case rel =>
                  refine ⟨t + 1, by omega, by go_num, ?_, HB.out.far (by simp; omega) _, (hb3.setCell (Nat.le_refl _) _).drew⟩
                  rw [← half_set _ _ htl, ← HX.out]
                  exact HO.out.store t _
                case measure => simp [intOf]; omega
              · have htn : t = n := by omega
                subst htn
                rw [half_full] at HO
                go_wp2
                go_roundw
                case rel => exact ⟨j + 1, by omega, by go_num, HO.out, hb3⟩
                case measure => simp [intOf]; omega
    · have hjc : j = k := by omega
      subst hjc
      go_wp2
      go_ret
      exact ⟨_, rfl, HO.out, hb2⟩
end Go.Proofs.Ytoaaplngdomdcaa
