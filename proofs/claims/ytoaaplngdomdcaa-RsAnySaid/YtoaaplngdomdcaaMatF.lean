/- Contracts of the matrices of bytes: what lays one out of a function of places, New, Rows, Cols, At. -/
import Derived.Test.YtoaaplngdomdcaaLists
import Derived.Test.YtoaaplngdomdcaaGfW
namespace Go.Proofs.Ytoaaplngdomdcaa
open Go.RowKit

theorem elemL : Elem1 Try.prog 43 38 (.slice none 0 0) 24 := ⟨Try.underlying43, by kernel_rfl, rfl⟩

/-- The rows of a matrix, by its elements. -/
def rowsOf (cols : Nat) (E : Nat → Nat → UInt8) (rows : Nat) : List (List UInt8) := (List.range rows).map fun i => (List.range cols).map (E i)
theorem rowsOf_succ (cols : Nat) (E : Nat → Nat → UInt8) (k : Nat) : rowsOf cols E (k + 1) = rowsOf cols E k ++ [(List.range cols).map (E k)] := by simp [rowsOf, List.range_succ]
@[simp] theorem rowsOf_length (cols : Nat) (E : Nat → Nat → UInt8) (k : Nat) : (rowsOf cols E k).length = k := by simp [rowsOf]

/-- The field of 256 elements, as matrices hold it. -/
abbrev gfF : Value := .iface 128 (.agg #[])

/-- A matrix of bytes: its block holds the field and the rows L, which are of the call's own. -/
def Mx (w : World) (base g : Nat) (L : List (List UInt8)) : Prop :=
  base ≤ g ∧ ∃ v, Blk w g 179 #[gfF, v] ∧ OwnL w base 5 38 v L
theorem Mx.below {w w' : World} {base g : Nat} {L : List (List UInt8)} (h : Mx w base g L) (hb : Below w.heap.size w w') : Mx w' base g L := by
  obtain ⟨h0, v, h1, h2⟩ := h
  exact ⟨h0, v, h1.below' hb, h2.below hb⟩

theorem laid_step {w w' : World} {base g : Nat} {v v' u : Value} {L : List (List UInt8)} {l : List UInt8} {xs : List Value} (hb : Blk w g 179 #[gfF, v]) (h1 : w.ownsRow base 38 1 v L.length xs)
    (h2 : ∀ (i : Nat) (l : List UInt8), L[i]? = some l → ∃ x, xs[i]? = some x ∧ Own w base 5 x l) (hu : Own w base 5 u l) (h' : w'.ownsRow base 38 1 v' (L.length + 1) (xs ++ [u])) (hg : w.grownBy w' v.ownBlock) :
    w'.cell? ⟨g, 1, none⟩ = some v ∧ w'.frozen? ⟨g, 1, none⟩ = false ∧ Blk w' g 179 #[gfF, v] ∧ OwnL w' base 5 38 v' (L ++ [l]) := by
  have hk := hb.grown hg (by
    rcases own_blk_ne h1 hb (by decide) with h | h
    · intro e; rw [h] at e; cases e
    · exact fun e => h e.symm)
  exact ⟨by rw [hk.cell]; rfl, hk.frozen 1, hk, OwnL.pushed (by decide) h1 h2 hu h' hg⟩

set_option maxRecDepth 100000 in
set_option maxHeartbeats 1600000 in
theorem laid_any (rows cols : Nat) (K : FuncId) (cap : Array Value) (E : Nat → Nat → UInt8) (w : World) (hr : rows ≤ 256) (hc : cols ≤ 256)
    (hent : ∀ (args : Array Value) (w : World), (callFunc K args).run Try.prog w = .ok (.enter K args) w)
    (hcl : ∀ (i j : Nat) (w' : World), i < rows → j < cols → Below w.heap.size w w' → Calls Try.prog K (#[.int .i64 (i : Int), .int .i64 (j : Int)] ++ cap) w' fun e w'' => e = .returned (.int .u8 ((E i j).toNat : Int)) ∧ Below w'.heap.size w' w'') :
    Calls Try.prog 117 #[gfF, .int .i64 (rows : Int), .int .i64 (cols : Int), .func (.func K) #[] cap] w fun e w' => ∃ g, e = .returned (.pointer (some ⟨g, 0, none⟩)) ∧ Mx w' w.heap.size g (rowsOf cols E rows) ∧ Below w.heap.size w w' := by
  have hn1 := Blk.new w 179 #[gfF, .slice none 0 0]
  have hn2 := (Below.refl w.heap.size w).alloc (Nat.le_refl _) (.cells #[gfF, .slice none 0 0] 179)
  have H := hide (And.intro hn1 hn2)
  clear hn1 hn2
  go_enter Try.func117, Try.ntmps117
  go_wp2
  go_loopw [10, 11, 12, 17, 24] (fun _ _ _ u17 _ wr => ∃ k : Nat, k ≤ rows ∧ u17 = .int .i64 (k : Int) ∧ Mx wr w.heap.size w.heap.size (rowsOf cols E k) ∧ Below w.heap.size w wr) (fun _ _ _ u17 _ _ => rows - (intOf u17).toNat)
  case atStart => exact ⟨0, by omega, rfl, ⟨Nat.le_refl _, _, H.out.1, OwnL.nil _ _ _ _⟩, H.out.2⟩
  case round =>
    clear H
    obtain ⟨k, hk, rfl, hmx, hbel⟩ := hrel
    obtain ⟨wr', hwr'⟩ : ∃ x, x = wr := ⟨_, rfl⟩
    subst hwr'
    have HM := hide hmx
    clear hmx
    by_cases hlt : k < rows
    · have i1 : (k : Int) < (rows : Int) := by omega
      obtain ⟨i, hi, hz, h1, h2⟩ := info_parts elem8.hi
      have HI := hide (And.intro hi (And.intro hz (And.intro h1 h2)))
      clear hi hz h1 h2
      go_wp2_with (at_make; refine wpList_make_full wr' rfl _ _ 38 rfl wr'.heap.size 5 i (.int .u8 0) 1 Try.underlying38 HI.out.1 HI.out.2.1 HI.out.2.2.1 .i64 .i64 _ _ cols rfl rfl rfl rfl (by rw [HI.out.2.2.2]; omega) (by unfold maxLen; omega) (Nat.le_refl _) ?_; intro w1 ho1 hg1)
      rw [made_bytes] at ho1
      have hb1 : Below wr'.heap.size wr' w1 := (Below.refl wr'.heap.size wr').grown hg1 (Nat.le_refl _) (fun k hk => by cases hk)
      have HO := hide (show Own w1 wr'.heap.size 5 (.slice (some ⟨wr'.heap.size, 0, none⟩) cols cols) (fillr cols 0 (E k)) by
        rw [fillr_zero]; unfold Own; rw [List.length_replicate]; exact ho1)
      clear ho1 hg1 HI
      go_loopw [12, 24] (fun _ u24 w2 => ∃ j : Nat, j ≤ cols ∧ u24 = .int .i64 (j : Int) ∧ Own w2 wr'.heap.size 5 (.slice (some ⟨wr'.heap.size, 0, none⟩) cols cols) (fillr cols j (E k)) ∧ Below wr'.heap.size wr' w2) (fun _ u24 _ => cols - (intOf u24).toNat)
      case atStart => exact ⟨0, by omega, rfl, HO.out, hb1⟩
      case round =>
        clear HO hb1
        obtain ⟨j, hj, rfl, hown, hb2⟩ := hrel
        have HO := hide hown
        clear hown
        by_cases hjl : j < cols
        · have i2 : (j : Int) < (cols : Int) := by omega
          have i3 : (0 : Int) ≤ (j : Int) := by omega
          have q := hcl k j _ hlt hjl (hbel.trans (hb2.mono hbel.size))
          have hE := hent #[.int .i64 (k : Int), .int .i64 (j : Int)]
          go_wp2_with fail
          refine q.mono ?_
          rintro e w3 ⟨rfl, hb3⟩
          have ho3 := HO.out.below hb3
          have hlen := fillr_length (E k) hj
          have hfz := World.ownsRow.frozenAt (n := cols) (xs := bcells (fillr cols j (E k))) (by unfold Own at ho3; rw [hlen] at ho3; exact ho3) j
          have hcc := World.ownsRow.cellAt (n := cols) (xs := bcells (fillr cols j (E k))) (by unfold Own at ho3; rw [hlen] at ho3; exact ho3) j (by omega)
          obtain ⟨y, hcy⟩ : ∃ y, w3.cell? ⟨wr'.heap.size, j, none⟩ = some y := by rw [hcc]; exact ⟨_, List.getElem?_eq_getElem (by rw [bcells_length]; omega)⟩
          have HO3 := hide ho3
          have HL := hide hlen
          clear hcc ho3 hlen q HO hE
          go_wp2
          go_roundw
          case rel =>
            refine ⟨j + 1, by omega, by go_num, ?_, (hb2.trans (hb3.mono hb2.size)).setCell (Nat.le_refl _) _⟩
            rw [← fillr_set (E k) hjl]
            exact HO3.out.store j _
          case measure => simp [intOf]; omega
        · have hjc : j = cols := by omega
          subst hjc
          rw [fillr_full] at HO
          have hm2 := HM.out.below hb2
          obtain ⟨_, v, hblk, xs, hxs, hxl⟩ := hm2
          have hbel2 := hbel.trans (hb2.mono hbel.size)
          have hcv : wr.cell? ⟨w.heap.size, 1, none⟩ = some v := by rw [hblk.cell]; rfl
          have H1 := hide (And.intro hblk (And.intro hxs hxl))
          have hlr := rowsOf_length j E k
          have HLR := hide hlr
          clear hblk hxs hxl hlr HM
          go_wp2_with (at_builtin; go_loud (refine wpList_push1 elemL H1.out.2.1 hbel2 hbel2.size (by rw [HLR.out]; unfold maxLen; omega) (by rw [HLR.out]; omega) (.slice (some ⟨wr'.heap.size, 0, none⟩) j j) rfl rfl _ _ rfl rfl rfl ?_); intro v1 w4 ho4 hb4 _ hg4 _; obtain ⟨A1, c1, hv1, _⟩ := (Sl.of_own ho4).form; subst hv1; have h4 := laid_step H1.out.1 H1.out.2.1 H1.out.2.2 (HO.out.mono_ hbel.size) ho4 hg4; have hc4 := h4.1; have hf4 := h4.2.1; have HK4 := hide h4.2.2.1; have HP4 := hide h4.2.2.2; clear h4 ho4)
          go_roundw
          case rel =>
            refine ⟨k + 1, by omega, by go_num, ⟨Nat.le_refl _, _, HK4.out.set_ 1 _, ?_⟩, hb4.setCell (Nat.le_refl _) _⟩
            rw [rowsOf_succ]
            have hP := HP4.out
            rw [HLR.out] at hP
            exact hP.kept HK4.out (by decide) (by decide) (store_grown _ _ _ _)
          case measure => simp [intOf]; omega
    · have hkr : k = rows := by omega
      subst hkr
      go_wp2
      go_ret
      exact ⟨_, rfl, HM.out, hbel⟩
end Go.Proofs.Ytoaaplngdomdcaa
