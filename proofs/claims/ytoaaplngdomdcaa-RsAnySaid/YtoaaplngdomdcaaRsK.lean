/- Contracts of the statements' helpers on codes: numbers that are chosen. -/
import Derived.Test.YtoaaplngdomdcaaRsJ
namespace Go.Proofs.Ytoaaplngdomdcaa
open Go.RowKit

theorem elemB1 : Elem1 Try.prog 148 4 (.bool false) 1 := ⟨Try.underlying148, by kernel_rfl, rfl⟩
theorem elemInt : Elem1 Try.prog 68 3 (.int .i64 0) 8 := ⟨Try.underlying68, by kernel_rfl, rfl⟩
/-- Which of n are in L. -/
def bl (L : List Nat) (n : Nat) : List Value := (List.range n).map fun y => .bool (decide (y ∈ L))
@[simp] theorem bl_length (L : List Nat) (n : Nat) : (bl L n).length = n := by simp [bl]
theorem bl_get (L : List Nat) {n y : Nat} (h : y < n) : (bl L n)[y]? = some (.bool (decide (y ∈ L))) := by rw [bl, List.getElem?_map, List.getElem?_range h]; rfl
theorem bl_set (L : List Nat) {n x : Nat} (h : x < n) : (bl L n).set x (.bool true) = bl (L ++ [x]) n := by
  apply List.ext_getElem?
  intro i
  rw [List.getElem?_set]
  by_cases hi : i < n
  · rw [bl_get _ hi]
    split
    · rename_i e; subst e; rw [if_pos (by rw [bl_length]; exact h), bl_get _ h, decide_eq_true (by simp)]
    · rename_i e
      rw [bl_get _ hi]
      have : (i ∈ L ++ [x]) ↔ i ∈ L := by simp [show ¬ i = x from fun q => e q.symm]
      simp only [this]
  · rw [if_neg (by omega), List.getElem?_eq_none (by rw [bl_length]; omega), List.getElem?_eq_none (by rw [bl_length]; omega)]
theorem made_bools (n : Nat) : (madeCells (Value.bool false).cells (n * 1)).toList = bl [] n := by
  apply List.ext_getElem?
  intro i
  simp only [madeCells, Value.cells, Nat.mul_one, Array.toList_map, Array.toList_range, List.getElem?_map]
  by_cases h : i < n
  · rw [List.getElem?_range h, bl_get _ h]; simp [Nat.mod_one]
  · rw [List.getElem?_eq_none (by rw [List.length_range]; omega), List.getElem?_eq_none (by rw [bl_length]; omega)]; rfl
/-- Fewer than n numbers leave one out. -/
theorem some_free (L : List Nat) (n : Nat) (h : L.length < n) : ∃ f, f < n ∧ f ∉ L := by
  refine Classical.byContradiction fun hno => ?_
  have hall : ∀ y ∈ List.range n, y ∈ L := fun y hy => Classical.byContradiction fun hy2 => hno ⟨y, List.mem_range.1 hy, hy2⟩
  have := nodup_len (List.range n) L List.nodup_range hall
  rw [List.length_range] at this
  omega
theorem Nums.push {i n x : Nat} {L : List Nat} (h : Nums i n L) (hx : x < n) (hxl : x ∉ L) : Nums (i + 1) n (L ++ [x]) := by
  refine ⟨by simp [h.1], fun a r ha => ?_, fun a b r ha hb => ?_⟩
  · rcases Nat.lt_or_ge a L.length with hl | hl
    · rw [List.getElem?_append_left hl] at ha; exact h.2.1 a r ha
    · rw [List.getElem?_append_right hl] at ha
      have := List.mem_of_getElem? ha
      simp at this; omega
  · have one : ∀ c, (L ++ [x])[c]? = some r → (c < L.length ∧ L[c]? = some r) ∨ (c = L.length ∧ r = x) := fun c hc => by
      rcases Nat.lt_or_ge c L.length with hl | hl
      · rw [List.getElem?_append_left hl] at hc; exact .inl ⟨hl, hc⟩
      · have h2 := (List.getElem?_eq_some_iff.1 hc).1
        rw [List.length_append, List.length_singleton] at h2
        rw [List.getElem?_append_right hl, show c - L.length = 0 by omega] at hc
        simp at hc
        exact .inr ⟨by omega, hc.symm⟩
    rcases one a ha with ⟨_, h1⟩ | ⟨h1, e1⟩ <;> rcases one b hb with ⟨_, h2⟩ | ⟨h2, e2⟩
    · exact h.2.2 a b r h1 h2
    · exact absurd (by rw [← e2]; exact List.mem_of_getElem? h1) hxl
    · exact absurd (by rw [← e1]; exact List.mem_of_getElem? h2) hxl
    · omega
/-- How far it is from x round to f. -/
def dst (n f x : Nat) : Nat := if x ≤ f then f - x else f + n - x
theorem dst_step {n f x : Nat} (hf : f < n) (hx : x < n) (hne : x ≠ f) : dst n f ((x + 1) % n) < dst n f x := by
  unfold dst
  by_cases h : x + 1 < n
  · rw [Nat.mod_eq_of_lt h]; split <;> split <;> omega
  · have : x + 1 = n := by omega
    rw [this, Nat.mod_self]; split <;> split <;> omega

set_option maxRecDepth 100000 in
set_option maxHeartbeats 4000000 in
theorem chosen_any (k n : Nat) (vp : Value) (zs : List Int) (w : World) (h2 : k ≤ n) (h1 : 1 ≤ n) (h3 : n ≤ 255) (hp : Iy .i64 w vp zs) :
    Calls Try.prog 53 #[.int .i64 (k : Int), .int .i64 (n : Int), vp] w fun e w' => ∃ v L, e = .returned v ∧ Nums k n L ∧ OwnN w' w.heap.size 3 .i64 v L ∧ Below w.heap.size w w' := by
  obtain ⟨E, e, rfl, hle, hlm, hwf, hcell⟩ := hp
  unfold maxLen at hlm
  have HC := hide (And.intro hcell hwf)
  obtain ⟨z, hi, hz, g1, g2⟩ := info_parts elemB1.hi
  have HI := hide (And.intro hi (And.intro hz (And.intro g1 g2)))
  clear hi hz g1 g2 hcell hwf
  go_enter Try.func53, Try.ntmps53
  go_wp2_with (at_make; refine wpList_make_full w rfl _ _ 148 rfl w.heap.size 4 z (.bool false) 1 Try.underlying148 HI.out.1 HI.out.2.1 HI.out.2.2.1 .i64 .i64 _ _ n rfl rfl rfl rfl (by rw [HI.out.2.2.2]; omega) (by unfold maxLen; omega) (Nat.le_refl _) ?_; intro w1 ho1 hg1)
  rw [made_bools] at ho1
  have HO := hide (And.intro ho1 ((Below.refl w.heap.size w).grown hg1 (Nat.le_refl _) (fun k hk => by cases hk)))
  clear ho1 hg1 HI
  go_loopg [7, 9, 10] k (fun q u7 u9 _ wr => ∃ (i : Nat) (L : List Nat), i ≤ k ∧ q = k - i ∧ u9 = .int .i64 (i : Int) ∧ Nums i n L ∧ OwnN wr w.heap.size 3 .i64 u7 L ∧ wr.ownsRow w.heap.size 4 1 (.slice (some ⟨w.heap.size, 0, none⟩) n n) n (bl L n) ∧ Below w.heap.size w wr)
  case atStart => exact ⟨0, [], by omega, by omega, rfl, ⟨rfl, fun i r h => by simp at h, fun i j r h => by simp at h⟩, OwnN.nil _ _ _ _, HO.out.1, HO.out.2⟩
  case round =>
    clear HO
    obtain ⟨i, L, hik, rfl, rfl, hN, hown, hrow, hbel⟩ := hrel
    have HX := hide (And.intro hN (And.intro hown (And.intro hrow hbel)))
    by_cases hlt : i < k
    · have i1 : (i : Int) < (k : Int) := by omega
      have i2 : (0 : Int) ≤ (i : Int) := by omega
      obtain ⟨f, hf, hfL⟩ := some_free L n (by rw [hN.1]; omega)
      have HF := hide (And.intro hf hfL)
      clear hN hown hrow hfL
      by_cases hiz : i < zs.length
      · obtain ⟨zi, hzi⟩ : ∃ zi, zs[i]? = some zi := ⟨_, List.getElem?_eq_getElem hiz⟩
        obtain ⟨b, o, rfl, hbl, hcx⟩ := HC.out.1 i zi hzi
        have hcx2 := (hbel.cell (p := ⟨b, o + i, none⟩) hbl).trans hcx
        have j0 : (i : Int) < (zs.length : Int) := by omega
        have q := pick_any zi n wr h1 (by omega) (HC.out.2 zi (List.mem_of_getElem? hzi))
        obtain ⟨x0, hx0⟩ : ∃ x0, x0 = pickN zi n := ⟨_, rfl⟩
        rw [← hx0] at q
        have hx0n : x0 < n := by rw [hx0]; exact pickN_lt h1
        clear hx0 hcx hzi hbel
        go_wp2_with fail
        refine q.mono ?_
        rintro e w' ⟨rfl, rfl⟩
        clear q
        go_wp2_with fail
        go_loopg [10] (dst n f x0) (fun q u10 wx => ∃ x : Nat, x < n ∧ q = dst n f x ∧ u10 = .int .i64 (x : Int) ∧ wr = wx)
        case atStart => exact ⟨x0, hx0n, rfl, rfl, rfl⟩
        case round =>
          obtain ⟨x, hx, rfl, rfl, rfl⟩ := hrel
          have hcc := HX.out.2.2.1.cellAt x (by omega)
          rw [bl_get L hx] at hcc
          have hfz := HX.out.2.2.1.frozenAt x
          have j1 : (x : Int) < (n : Int) := by omega
          have j2 : (0 : Int) ≤ (x : Int) := by omega
          by_cases hxl : x ∈ L
          · rw [decide_eq_true hxl] at hcc
            have hm : ((x : Int) + 1).tmod (n : Int) = (((x + 1) % n : Nat) : Int) := by
              rw [Int.tmod_eq_emod_of_nonneg (by omega)]
              simp
            have i0 : ((n : Int) == 0) = false := by simp; omega
            have i00 : ¬ n = 0 := by omega
            have hml := Nat.mod_lt (x + 1) (show 0 < n by omega)
            have HS := hide (And.intro hml (dst_step HF.out.1 hx (fun e => HF.out.2 (e ▸ hxl))))
            generalize (x + 1) % n = y at *
            clear hxl
            go_wp2
            go_roundg (dst n f y)
            case rel => exact ⟨y, HS.out.1, rfl, by go_num, rfl⟩
            case measure => exact HS.out.2
          · rw [decide_eq_false hxl] at hcc
            obtain ⟨A7, c7, rfl⟩ := HX.out.2.1.slice
            have hst := (HX.out.2.2.1.stored x (.bool true)).1
            rw [bl_set L hx] at hst
            have hkp : (wr.setCell ⟨w.heap.size, x, none⟩ (.bool true)).ownsRow w.heap.size 3 1 (.slice A7 L.length c7) L.length (ncells .i64 L) := World.ownsRow.kept HX.out.2.1 (store_grown _ _ _ _) (own_ne' HX.out.2.1 HX.out.2.2.1 (by decide))
            have H2 := hide (And.intro hkp (And.intro hst (And.intro (HX.out.2.2.2.setCell (p := ⟨w.heap.size, x, none⟩) (Nat.le_refl _) (.bool true)) (And.intro hx hxl))))
            clear hkp hst hxl
            go_wp2_with (at_builtin; go_loud (refine wpList_push1 elemInt H2.out.1 H2.out.2.2.1 H2.out.2.2.1.size (by have := HX.out.1.1; unfold maxLen; omega) (by have := HX.out.1.1; omega) (.int .i64 (x : Int)) rfl rfl _ (.tmp 41) rfl rfl (by show Value.slice (some ⟨wr.heap.size, 0, none⟩) 1 1 = Value.slice (some ⟨(wr.setCell _ _).heap.size, 0, none⟩) 1 1; simp [World.setCell]) ?_); intro v1 w4 ho4 hb4 _ hg4 _; have H4 := hide (And.intro ho4 (And.intro hb4 (H2.out.2.1.kept hg4 (own_ne' H2.out.2.1 H2.out.1 (by decide))))); clear ho4 hg4 hb4)
            go_roundg (k - (i + 1))
            case rel => exact ⟨i + 1, L ++ [x], by omega, rfl, by go_num, HX.out.1.push H2.out.2.2.2.1 H2.out.2.2.2.2, OwnN.push H4.out.1, H4.out.2.2, H4.out.2.1⟩
            case measure => omega
      · have j0 : ¬ (i : Int) < (zs.length : Int) := by omega
        clear hbel
        go_wp2_with fail
        go_loopg [10] (dst n f 0) (fun q u10 wx => ∃ x : Nat, x < n ∧ q = dst n f x ∧ u10 = .int .i64 (x : Int) ∧ wr = wx)
        case atStart => exact ⟨0, (by omega), rfl, rfl, rfl⟩
        case round =>
          obtain ⟨x, hx, rfl, rfl, rfl⟩ := hrel
          have hcc := HX.out.2.2.1.cellAt x (by omega)
          rw [bl_get L hx] at hcc
          have hfz := HX.out.2.2.1.frozenAt x
          have j1 : (x : Int) < (n : Int) := by omega
          have j2 : (0 : Int) ≤ (x : Int) := by omega
          by_cases hxl : x ∈ L
          · rw [decide_eq_true hxl] at hcc
            have hm : ((x : Int) + 1).tmod (n : Int) = (((x + 1) % n : Nat) : Int) := by
              rw [Int.tmod_eq_emod_of_nonneg (by omega)]
              simp
            have i0 : ((n : Int) == 0) = false := by simp; omega
            have i00 : ¬ n = 0 := by omega
            have hml := Nat.mod_lt (x + 1) (show 0 < n by omega)
            have HS := hide (And.intro hml (dst_step HF.out.1 hx (fun e => HF.out.2 (e ▸ hxl))))
            generalize (x + 1) % n = y at *
            clear hxl
            go_wp2
            go_roundg (dst n f y)
            case rel => exact ⟨y, HS.out.1, rfl, by go_num, rfl⟩
            case measure => exact HS.out.2
          · rw [decide_eq_false hxl] at hcc
            obtain ⟨A7, c7, rfl⟩ := HX.out.2.1.slice
            have hst := (HX.out.2.2.1.stored x (.bool true)).1
            rw [bl_set L hx] at hst
            have hkp : (wr.setCell ⟨w.heap.size, x, none⟩ (.bool true)).ownsRow w.heap.size 3 1 (.slice A7 L.length c7) L.length (ncells .i64 L) := World.ownsRow.kept HX.out.2.1 (store_grown _ _ _ _) (own_ne' HX.out.2.1 HX.out.2.2.1 (by decide))
            have H2 := hide (And.intro hkp (And.intro hst (And.intro (HX.out.2.2.2.setCell (p := ⟨w.heap.size, x, none⟩) (Nat.le_refl _) (.bool true)) (And.intro hx hxl))))
            clear hkp hst hxl
            go_wp2_with (at_builtin; go_loud (refine wpList_push1 elemInt H2.out.1 H2.out.2.2.1 H2.out.2.2.1.size (by have := HX.out.1.1; unfold maxLen; omega) (by have := HX.out.1.1; omega) (.int .i64 (x : Int)) rfl rfl _ (.tmp 41) rfl rfl (by show Value.slice (some ⟨wr.heap.size, 0, none⟩) 1 1 = Value.slice (some ⟨(wr.setCell _ _).heap.size, 0, none⟩) 1 1; simp [World.setCell]) ?_); intro v1 w4 ho4 hb4 _ hg4 _; have H4 := hide (And.intro ho4 (And.intro hb4 (H2.out.2.1.kept hg4 (own_ne' H2.out.2.1 H2.out.1 (by decide))))); clear ho4 hg4 hb4)
            go_roundg (k - (i + 1))
            case rel => exact ⟨i + 1, L ++ [x], by omega, rfl, by go_num, HX.out.1.push H2.out.2.2.2.1 H2.out.2.2.2.2, OwnN.push H4.out.1, H4.out.2.2, H4.out.2.1⟩
            case measure => omega
    · have hin : i = k := by omega
      subst hin
      go_wp2
      go_ret
      exact ⟨_, L, rfl, HX.out.1, HX.out.2.1, HX.out.2.2.2⟩
end Go.Proofs.Ytoaaplngdomdcaa
