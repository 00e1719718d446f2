/- Contracts of the letters' functions, the program's and the document's. -/
import Derived.Test.YtghobbbmoeijbaaDoorKit
import Derived.Test.YtghobbbmoeijbaaDoorB10
namespace Go.Proofs.YtghobbbmoeijbaaDoor
open Go.RowKit

/-- How many letters, as the program reckons it. -/
def blen (n : Int) : Int := if n < 1 then 0 else n / 5 * 8 + (n % 5 * 8 + 4) / 5
theorem blen_lets (n : Nat) : blen n = lets n := by
  unfold blen lets
  split <;> omega
set_option maxHeartbeats 400000 in
theorem blength_any (n : Int) (w : World) (hn : n ≤ 1152921504606846975) :
    Calls Tryd.prog 22 #[.int .i64 n] w fun e w' => e = .returned (.int .i64 (blen n)) ∧ w = w' := by
  by_cases h : n < 1
  · go_enter Tryd.func22, Tryd.ntmps22
    go_wp2
    go_ret
    exact ⟨ret_int (by rw [blen, if_pos h]), rfl⟩
  · have h1 : 1 ≤ n := by omega
    go_enter Tryd.func22, Tryd.ntmps22
    go_wp2
    go_ret
    exact ⟨ret_int (by rw [blen, if_neg (by omega)]), rfl⟩


def worthI (c : UInt8) : Int := match worthN c with
  | some n => (n : Int)
  | none => -1
theorem worthI_eq (c : UInt8) : worthI c = if 97 ≤ (c.toNat : Int) ∧ (c.toNat : Int) ≤ 122 then (c.toNat : Int) - 97 else if 50 ≤ (c.toNat : Int) ∧ (c.toNat : Int) ≤ 55 then (c.toNat : Int) - 50 + 26 else -1 := by
  unfold worthI worthN
  split
  · rename_i n h
    split at h
    · injection h with h; rw [if_pos (by omega)]; omega
    · split at h
      · injection h with h; rw [if_neg (by omega), if_pos (by omega)]; omega
      · cases h
  · rename_i h
    split at h
    · cases h
    · split at h
      · cases h
      · rw [if_neg (by omega), if_neg (by omega)]
set_option maxHeartbeats 400000 in
theorem worth_any (c : UInt8) (w : World) :
    Calls Tryd.prog 29 #[.int .u8 (c.toNat : Int)] w fun e w' => e = .returned (.int .i64 (worthI c)) ∧ w = w' := by
  have hc := c.toNat_lt
  go_enter Tryd.func29, Tryd.ntmps29
  go_wp2
  all_goals go_ret
  all_goals refine ⟨ret_int ?_, rfl⟩
  all_goals rw [worthI_eq]
  all_goals repeat' split
  all_goals omega

def alph : List UInt8 := (List.range 32).map letterN
/-- The array while it is being filled. -/
def filled (k : Nat) : Array Value := (bcells (alph.take k) ++ List.replicate (32 - k) (Value.int .u8 0)).toArray
theorem filled_set (k : Nat) (h : k < 32) : (filled k).setIfInBounds k (Value.int .u8 ((letterN k).toNat : Int)) = filled (k + 1) := by
  have ha : alph[k]? = some (letterN k) := by simp [alph, h]
  unfold filled
  rw [take_snoc alph k _ ha, show 32 - k = (32 - (k + 1)) + 1 by omega, List.replicate_succ]
  have hl : (bcells (alph.take k)).length = k := by simp [alph]; omega
  simp only [List.setIfInBounds_toArray, bcells_append, bcells_one]
  rw [List.set_append_right _ _ (by omega), hl, Nat.sub_self, List.set_cons_zero, List.append_assoc]
  rfl
theorem filled_size (k : Nat) (h : k ≤ 32) : (filled k).size = 32 := by simp [filled, alph]; omega

set_option maxHeartbeats 800000 in
set_option maxRecDepth 100000 in
theorem alphabet_any (w : World) :
    Calls Tryd.prog 28 #[] w fun e w' => e = .returned (.agg (filled 32)) ∧ Below w.heap.size w w' := by
  have hn1 := (Blk.new w 54 (filled 0)).alloc (.cells (filled 0) 54)
  have hn2 := Blk.new (w.alloc (.cells (filled 0) 54)) 54 (filled 0)
  rw [World.size_alloc] at hn2
  have hn3 := ((Below.refl w.heap.size w).alloc (Nat.le_refl _) (.cells (filled 0) 54)).alloc (by simp) (.cells (filled 0) 54)
  have H := hide (And.intro hn1 (And.intro hn2 hn3))
  clear hn1 hn2 hn3
  go_enter Tryd.func28, Tryd.ntmps28
  go_wp2
  go_loopw [2, 4] (fun _ u4 wr => ∃ k : Nat, k ≤ 26 ∧ u4 = .int .i64 (k : Int) ∧ Blk wr w.heap.size 54 (filled 0) ∧ Blk wr (w.heap.size + 1) 54 (filled k) ∧ Below w.heap.size w wr) (fun _ i _ => 26 - (intOf i).toNat)
  case atStart =>
    exact ⟨0, by omega, rfl, H.out.1, H.out.2.1, H.out.2.2⟩
  case round =>
    clear H
    obtain ⟨k, hk, rfl, hb0, hb1, hbel⟩ := hrel
    have h0 := hide hb0
    have h1 := hide hb1
    by_cases hlt : k < 26
    · obtain ⟨y, hy⟩ : ∃ y, wr.cell? ⟨w.heap.size + 1, k, none⟩ = some y := by rw [hb1.cell]; exact ⟨_, Array.getElem?_eq_getElem (by rw [filled_size k (by omega)]; omega)⟩
      have hf := hb1.frozen k
      clear hb0 hb1
      go_wp2
      go_roundw
      case rel =>
        refine ⟨k + 1, by omega, by go_num, h0.out.far (by simp) _, ?_, hbel.setCell (by simp) _⟩
        have := h1.out.set_ k (.int .u8 ((letterN k).toNat : Int))
        rw [filled_set k (by omega), letterN_toNat k (by omega), if_pos hlt] at this
        exact this
      case measure => simp [intOf]; omega
    · have hk26 : k = 26 := by omega
      subst hk26
      clear hb0 hb1
      go_wp2
      go_loopw [3, 13] (fun _ u4 wr => ∃ k : Nat, k ≤ 6 ∧ u4 = .int .i64 (k : Int) ∧ Blk wr w.heap.size 54 (filled 0) ∧ Blk wr (w.heap.size + 1) 54 (filled (26 + k)) ∧ Below w.heap.size w wr) (fun _ i _ => 6 - (intOf i).toNat)
      case atStart => exact ⟨0, by omega, rfl, h0.out, h1.out, hbel⟩
      case round =>
        clear h0 h1 hbel
        obtain ⟨k, hk, rfl, hb0, hb1, hbel⟩ := hrel
        have h0 := hide hb0
        have h1 := hide hb1
        by_cases hlt : k < 6
        · obtain ⟨y, hy⟩ : ∃ y, wr.cell? ⟨w.heap.size + 1, 26 + k, none⟩ = some y := by rw [hb1.cell]; exact ⟨_, Array.getElem?_eq_getElem (by rw [filled_size (26 + k) (by omega)]; omega)⟩
          have hf := hb1.frozen (26 + k)
          clear hb0 hb1
          go_wp2
          go_roundw
          case rel =>
            refine ⟨k + 1, by omega, by go_num, h0.out.far (by simp) _, ?_, hbel.setCell (by simp) _⟩
            have := h1.out.set_ (26 + k) (.int .u8 ((letterN (26 + k)).toNat : Int))
            rw [filled_set (26 + k) (by omega), letterN_toNat (26 + k) (by omega), if_neg (by omega)] at this
            rw [show ((24 + (26 + k) : Nat) : Int) = 50 + (k : Int) by omega] at this
            exact this
          case measure => simp [intOf]; omega
        · have hk6 : k = 6 := by omega
          subst hk6
          clear hb0 hb1
          have hfl := h1.out
          rw [show 26 + 6 = 32 from rfl] at hfl
          clear h1
          have h1 := hide hfl
          clear hfl
          go_wp2_with (first
            | (refine wpList_load_row (o := ⟨some 23, .load _ _, _, _, _, _⟩) rfl 54 _ rfl (w.heap.size + 1) rfl 54 (filled 32) (0, 0) _ h1.out Tryd.underlying54 rfl (by kernel_rfl) ?_)
            | (refine wpList_store_row (o := ⟨none, .store _ _ _, _, _, _, _⟩) h0.out (filled 32) rfl (by decide +kernel) rfl 54 _ _ rfl (by kernel_rfl) rfl rfl ?_; intro w1 hb1 hg1))
          exact bodyPost_ret (results_cell_row rfl _ _ w.heap.size 54 (filled 32) (0, 0) _ rfl hb1 Tryd.underlying54 rfl (by kernel_rfl)) rfl ⟨rfl, hbel.grown hg1 hbel.size fun k hk => by injection hk with hk; omega⟩

end Go.Proofs.YtghobbbmoeijbaaDoor
