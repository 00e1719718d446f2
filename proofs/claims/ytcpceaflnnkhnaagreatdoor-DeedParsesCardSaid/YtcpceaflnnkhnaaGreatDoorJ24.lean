/- Joined texts: BigP, BigA. -/
import Derived.Test.YtcpceaflnnkhnaaGreatDoorJ1

/- Numbers as bytes, the highest first, plainly. -/
namespace Go.Proofs.YtcpceaflnnkhnaaGreatDoor
open Go.RowKit

/-- A number in n bytes, the highest first. -/
def bigL (x n : Nat) : List UInt8 := (List.range n).map fun i => UInt8.ofNat (x / 256 ^ (n - 1 - i))
@[simp] theorem bigL_length (x n : Nat) : (bigL x n).length = n := by simp [bigL]
theorem bigL_get (x n i : Nat) (h : i < n) : (bigL x n)[i]? = some (UInt8.ofNat (x / 256 ^ (n - 1 - i))) := by simp [bigL, h]
/-- The last k bytes written, noughts ahead. -/
def bigF (x n k : Nat) : List UInt8 := List.replicate (n - k) 0 ++ (bigL x n).drop (n - k)
theorem bigF_zero (x n : Nat) : bigF x n 0 = List.replicate n 0 := by simp [bigF]
theorem bigF_full (x n : Nat) : bigF x n n = bigL x n := by simp [bigF]
theorem bigF_length (x n k : Nat) : (bigF x n k).length = n := by simp only [bigF, List.length_append, List.length_replicate, List.length_drop, bigL_length]; omega
theorem bigF_set (x n k : Nat) (h : k < n) : (bigF x n k).set (n - 1 - k) (UInt8.ofNat (x / 256 ^ k)) = bigF x n (k + 1) := by
  apply List.ext_getElem?
  intro i
  have hl : n - 1 - k < (bigF x n k).length := by rw [bigF_length]; omega
  rw [List.getElem?_set]
  unfold bigF at hl ⊢
  by_cases h1 : i < n - 1 - k
  · rw [if_neg (by omega), List.getElem?_append_left (by simp; omega), List.getElem?_append_left (by simp; omega), List.getElem?_replicate, List.getElem?_replicate, if_pos (by omega), if_pos (by omega)]
  · by_cases h2 : i = n - 1 - k
    · subst h2
      rw [if_pos rfl, if_pos hl, List.getElem?_append_right (by simp; omega), List.length_replicate, List.getElem?_drop, bigL_get _ _ _ (by omega)]
      congr 4
      omega
    · rw [if_neg (by omega), List.getElem?_append_right (by simp; omega), List.getElem?_append_right (by simp; omega), List.length_replicate, List.length_replicate, List.getElem?_drop, List.getElem?_drop]
      congr 1
      omega
/-- The first k bytes. -/
theorem bigL_take (x n k : Nat) (h : k < n) : (bigL x n).take (k + 1) = (bigL x n).take k ++ [UInt8.ofNat (x / 256 ^ (n - 1 - k))] := take_snoc _ _ _ (bigL_get x n k h)
theorem u8_of (m : Nat) : ((UInt8.ofNat m).toNat : Int) = (m : Int) % 256 := by simp [UInt8.toNat_ofNat']
theorem byte_of (x i : Nat) : (x : Int) / 2 ^ (8 * i) % 256 = ((UInt8.ofNat (x / 256 ^ i)).toNat : Int) := by
  rw [u8_of, show (256 : Nat) ^ i = 2 ^ (8 * i) by rw [show (256 : Nat) = 2 ^ 8 from rfl, ← Nat.pow_mul]]
  simp
theorem bigF_cells (x n k j : Nat) (h : k < n) (hj : n - 1 - k = j) : (bcells (bigF x n k)).toArray.setIfInBounds j (.int .u8 ((x : Int) / 2 ^ (8 * k) % 256)) = (bcells (bigF x n (k + 1))).toArray := by
  rw [← bigF_set x n k h, hj, byte_of]
  simp [bcells, List.map_set]
end Go.Proofs.YtcpceaflnnkhnaaGreatDoor

/- Contracts of numbers as bytes: the program's Big of eight and of four bytes, the document's. -/
namespace Go.Proofs.YtcpceaflnnkhnaaGreatDoor
open Go.RowKit

set_option maxHeartbeats 1000000 in
theorem width64_any (w : World) : Calls Tryz.prog 160 #[] w fun e w' => e = .returned (.int .i64 8) ∧ w = w' := by
  go_enter Tryz.func160, Tryz.ntmps160
  go_wp2
  go_loopw [1, 2] (fun u1 u2 wr => ((u1 = .int .i64 0 ∧ u2 = .int .u64 18446744073709551615) ∨ (u1 = .int .i64 1 ∧ u2 = .int .u64 72057594037927935) ∨ (u1 = .int .i64 2 ∧ u2 = .int .u64 281474976710655) ∨ (u1 = .int .i64 3 ∧ u2 = .int .u64 1099511627775) ∨ (u1 = .int .i64 4 ∧ u2 = .int .u64 4294967295) ∨ (u1 = .int .i64 5 ∧ u2 = .int .u64 16777215) ∨ (u1 = .int .i64 6 ∧ u2 = .int .u64 65535) ∨ (u1 = .int .i64 7 ∧ u2 = .int .u64 255) ∨ (u1 = .int .i64 8 ∧ u2 = .int .u64 0)) ∧ w = wr) (fun u1 _ _ => 8 - (intOf u1).toNat)
  case atStart => exact ⟨.inl ⟨rfl, rfl⟩, rfl⟩
  case round =>
    obtain ⟨hh, rfl⟩ := hrel
    rcases hh with ⟨rfl, rfl⟩ | ⟨rfl, rfl⟩ | ⟨rfl, rfl⟩ | ⟨rfl, rfl⟩ | ⟨rfl, rfl⟩ | ⟨rfl, rfl⟩ | ⟨rfl, rfl⟩ | ⟨rfl, rfl⟩ | ⟨rfl, rfl⟩
    case inr.inr.inr.inr.inr.inr.inr.inr =>
      go_wp2
      go_ret
      exact ⟨rfl, rfl⟩
    all_goals
      go_wp2
      go_roundw
      case rel => simp
      case measure => simp [intOf]
set_option maxHeartbeats 1000000 in
theorem width32_any (w : World) : Calls Tryz.prog 165 #[] w fun e w' => e = .returned (.int .i64 4) ∧ w = w' := by
  go_enter Tryz.func165, Tryz.ntmps165
  go_wp2
  go_loopw [1, 2] (fun u1 u2 wr => ((u1 = .int .i64 0 ∧ u2 = .int .u32 4294967295) ∨ (u1 = .int .i64 1 ∧ u2 = .int .u32 16777215) ∨ (u1 = .int .i64 2 ∧ u2 = .int .u32 65535) ∨ (u1 = .int .i64 3 ∧ u2 = .int .u32 255) ∨ (u1 = .int .i64 4 ∧ u2 = .int .u32 0)) ∧ w = wr) (fun u1 _ _ => 4 - (intOf u1).toNat)
  case atStart => exact ⟨.inl ⟨rfl, rfl⟩, rfl⟩
  case round =>
    obtain ⟨hh, rfl⟩ := hrel
    rcases hh with ⟨rfl, rfl⟩ | ⟨rfl, rfl⟩ | ⟨rfl, rfl⟩ | ⟨rfl, rfl⟩ | ⟨rfl, rfl⟩
    case inr.inr.inr.inr =>
      go_wp2
      go_ret
      exact ⟨rfl, rfl⟩
    all_goals
      go_wp2
      go_roundw
      case rel => simp
      case measure => simp [intOf]
theorem made_bytes (n : Nat) : madeCells #[.int .u8 0] n = (bcells (List.replicate n 0)).toArray := by
  apply Array.ext
  · simp [madeCells]
  · intro i h1 h2
    simp [madeCells, bcells, Nat.mod_one]
/-- 'make([]byte, l, c)', l and c small. -/
theorem make_bytes (l c : Nat) (hl : l ≤ c) (hc : c ≤ 1000) (w : World) : (Instr.makeSlice 32 (.int .i64 (l : Int)) (.int .i64 (c : Int))).run Tryz.prog w = .ok (.slice (some ⟨w.heap.size, 0, none⟩) l c) (w.alloc (.cells (bcells (List.replicate c 0)).toArray 5)) := by
  obtain ⟨i, hi, hz, h1, h2⟩ := info_parts elem8.hi
  have := run_make (P := Tryz.prog) w 32 5 i _ elem8.ht hi hz .i64 .i64 (l : Int) (c : Int) (by omega) (by omega) (by rw [h2]; omega) (by omega)
  rw [show (Value.int .u8 0).cells = #[.int .u8 0] from rfl, made_bytes, h1] at this
  simpa using this
set_option maxHeartbeats 1000000 in
theorem big64_any (x : Nat) (w : World) (hx : x < 18446744073709551616) :
    Calls Tryz.prog 137 #[.int .u64 (x : Int)] w fun e w' => Below w.heap.size w w' ∧ e = .returned (.slice (some ⟨w.heap.size, 0, none⟩) 8 8) ∧ Own w' w.heap.size 5 (.slice (some ⟨w.heap.size, 0, none⟩) 8 8) (bigL x 8) := by
  have HX := hide hx
  clear hx
  have hmk := make_bytes 8 8 (by omega) (by omega)
  have HMK := hide (fun w => show (Instr.makeSlice 32 (.int .i64 8) (.int .i64 8)).run Tryz.prog w = .ok (.slice (some ⟨w.heap.size, 0, none⟩) 8 8) (w.alloc (.cells (bcells (List.replicate 8 0)).toArray 5)) from hmk w)
  clear hmk
  obtain ⟨Z, hZ⟩ : ∃ Z, Z = (bcells (List.replicate 8 0)).toArray := ⟨_, rfl⟩
  rw [← hZ] at HMK
  have HZ := hide hZ
  clear hZ
  have hmk := HMK.out
  go_enter Tryz.func137, Tryz.ntmps137
  go_wp2_with fail
  refine (width64_any w).mono ?_
  rintro e w1 ⟨rfl, rfl⟩
  go_wp2
  have HI := hide (show Blk (w.alloc (.cells Z 5)) w.heap.size 5 (bcells (bigF x 8 0)).toArray by rw [bigF_zero, ← HZ.out]; exact Blk.new _ _ _)
  go_loopw [11] (fun u11 wr => ∃ i : Nat, i ≤ 8 ∧ u11 = .int .i64 (i : Int) ∧ Blk wr w.heap.size 5 (bcells (bigF x 8 i)).toArray ∧ Below w.heap.size w wr) (fun i _ => 8 - (intOf i).toNat)
  case atStart => exact ⟨0, by omega, rfl, HI.out, (Below.refl _ w).alloc (Nat.le_refl _) _⟩
  case round =>
    clear HI
    obtain ⟨i, hi, rfl, hb, hbel⟩ := hrel
    have HB := hide hb
    clear hb
    by_cases hlt : i < 8
    · obtain ⟨j, hj⟩ : ∃ j, j = 7 - i := ⟨_, rfl⟩
      have e1 : (7 : Int) - (i : Int) = (j : Int) := by omega
      have e3 : (j : Int) < 8 := by omega
      have e4 : (0 : Int) ≤ (j : Int) := by omega
      have e5 : (i : Int) < 8 := by omega
      have gs := HB.out.frozen j
      obtain ⟨z, hz⟩ : ∃ z, wr.cell? ⟨w.heap.size, j, none⟩ = some z := ⟨_, (HB.out.cell j).trans (Array.getElem?_eq_getElem (by simp [bigF_length]; omega))⟩
      have HJ := hide hj
      clear hj
      go_wp2
      go_roundw
      case rel =>
        refine ⟨i + 1, by omega, by go_num, ?_, hbel.setCell (Nat.le_refl _) _⟩
        rw [← bigF_cells x 8 i j hlt (by have := HJ.out; omega)]
        exact HB.out.set_ j _
      case measure => simp [intOf]; omega
    · have hi8 : i = 8 := by omega
      subst hi8
      go_wp2
      go_ret
      refine ⟨hbel, rfl, ?_⟩
      have hh := HB.out
      rw [bigF_full] at hh
      have h2 := hh.own (base := w.heap.size) (n := 8) (cap := 8) (sz := 1) rfl (Nat.le_refl _) (by simp) (Nat.le_refl _) (by unfold maxLen; omega)
      unfold Own
      rw [bigL_length]
      rw [List.take_of_length_le (by simp)] at h2
      simpa using h2

set_option maxHeartbeats 1000000 in
theorem big32_any (x : Nat) (w : World) (hx : x < 4294967296) :
    Calls Tryz.prog 144 #[.int .u32 (x : Int)] w fun e w' => Below w.heap.size w w' ∧ e = .returned (.slice (some ⟨w.heap.size, 0, none⟩) 4 4) ∧ Own w' w.heap.size 5 (.slice (some ⟨w.heap.size, 0, none⟩) 4 4) (bigL x 4) := by
  have hw : IntKind.u64.wrap (x : Int) = (x : Int) := by simp [IntKind.wrap, IntKind.bits, IntKind.signed]; omega
  have HX := hide hx
  clear hx
  have hmk := make_bytes 4 4 (by omega) (by omega)
  have HMK := hide (fun w => show (Instr.makeSlice 32 (.int .i64 4) (.int .i64 4)).run Tryz.prog w = .ok (.slice (some ⟨w.heap.size, 0, none⟩) 4 4) (w.alloc (.cells (bcells (List.replicate 4 0)).toArray 5)) from hmk w)
  clear hmk
  obtain ⟨Z, hZ⟩ : ∃ Z, Z = (bcells (List.replicate 4 0)).toArray := ⟨_, rfl⟩
  rw [← hZ] at HMK
  have HZ := hide hZ
  clear hZ
  have hmk := HMK.out
  go_enter Tryz.func144, Tryz.ntmps144
  go_wp2_with fail
  refine (width32_any w).mono ?_
  rintro e w1 ⟨rfl, rfl⟩
  go_wp2
  have HI := hide (show Blk (w.alloc (.cells Z 5)) w.heap.size 5 (bcells (bigF x 4 0)).toArray by rw [bigF_zero, ← HZ.out]; exact Blk.new _ _ _)
  go_loopw [11] (fun u11 wr => ∃ i : Nat, i ≤ 4 ∧ u11 = .int .i64 (i : Int) ∧ Blk wr w.heap.size 5 (bcells (bigF x 4 i)).toArray ∧ Below w.heap.size w wr) (fun i _ => 4 - (intOf i).toNat)
  case atStart => exact ⟨0, by omega, rfl, HI.out, (Below.refl _ w).alloc (Nat.le_refl _) _⟩
  case round =>
    clear HI
    obtain ⟨i, hi, rfl, hb, hbel⟩ := hrel
    have HB := hide hb
    clear hb
    by_cases hlt : i < 4
    · obtain ⟨j, hj⟩ : ∃ j, j = 3 - i := ⟨_, rfl⟩
      have e1 : (3 : Int) - (i : Int) = (j : Int) := by omega
      have e3 : (j : Int) < 4 := by omega
      have e4 : (0 : Int) ≤ (j : Int) := by omega
      have e5 : (i : Int) < 4 := by omega
      have gs := HB.out.frozen j
      obtain ⟨z, hz⟩ : ∃ z, wr.cell? ⟨w.heap.size, j, none⟩ = some z := ⟨_, (HB.out.cell j).trans (Array.getElem?_eq_getElem (by simp [bigF_length]; omega))⟩
      have HJ := hide hj
      clear hj
      go_wp2
      go_roundw
      case rel =>
        refine ⟨i + 1, by omega, by go_num, ?_, hbel.setCell (Nat.le_refl _) _⟩
        rw [← bigF_cells x 4 i j hlt (by have := HJ.out; omega)]
        exact HB.out.set_ j _
      case measure => simp [intOf]; omega
    · have hi4 : i = 4 := by omega
      subst hi4
      go_wp2
      go_ret
      refine ⟨hbel, rfl, ?_⟩
      have hh := HB.out
      rw [bigF_full] at hh
      have h2 := hh.own (base := w.heap.size) (n := 4) (cap := 4) (sz := 1) rfl (Nat.le_refl _) (by simp) (Nat.le_refl _) (by unfold maxLen; omega)
      unfold Own
      rw [bigL_length]
      rw [List.take_of_length_le (by simp)] at h2
      simpa using h2

set_option maxHeartbeats 1000000 in
theorem rbig_any (x n : Nat) (w : World) (hx : x < 18446744073709551616) (hn : n ≤ 8) :
    Calls Tryz.prog 122 #[.int .u64 (x : Int), .int .i64 (n : Int)] w fun e w' => ∃ v, e = .returned v ∧ Own w' w.heap.size 5 v (bigL x n) ∧ Below w.heap.size w w' := by
  have HX := hide hx
  clear hx
  go_enter Tryz.func122, Tryz.ntmps122
  go_wp2
  go_loopw [5, 6] (fun u5 u6 wr => ∃ i : Nat, i ≤ n ∧ u6 = .int .i64 ((n : Int) - 1 - (i : Int)) ∧ Own wr w.heap.size 5 u5 ((bigL x n).take i) ∧ Below w.heap.size w wr) (fun _ u6 _ => (intOf u6 + 1).toNat)
  case atStart => exact ⟨0, by omega, by simp, Own.nil _ _ _, Below.refl _ _⟩
  case round =>
    obtain ⟨i, hi, rfl, ho, hbel⟩ := hrel
    have HO := hide ho
    clear ho
    by_cases hlt : i < n
    · obtain ⟨j, hj⟩ : ∃ j, j = n - 1 - i := ⟨_, rfl⟩
      have e1 : (n : Int) - 1 - (i : Int) = (j : Int) := by omega
      have e3 : (j : Int) < 8 := by omega
      have e4 : (0 : Int) ≤ (j : Int) := by omega
      have hlen : ((bigL x n).take i).length + 1 ≤ 140737488355328 := by rw [List.length_take, bigL_length]; omega
      have HLEN := hide hlen
      have HV := hide (show ((x : Int) / 2 ^ (8 * j) % 256) = ((UInt8.ofNat (x / 256 ^ (n - 1 - i))).toNat : Int) by rw [byte_of, hj])
      have HT := hide (bigL_take x n i hlt)
      clear hj hlen
      rw [e1]
      go_wp2_with (at_builtin; go_loud (rw [HV.out]; refine wpList_pushB elem8 HO.out hbel hbel.size HLEN.out (UInt8.ofNat (x / 256 ^ (n - 1 - i))) rfl _ _ rfl rfl rfl ?_); intro v1 w1 hown1 hbel1 _ _)
      go_roundw
      case rel => exact ⟨i + 1, by omega, by rw [← e1, Int.natCast_add, Int.sub_sub ((n : Int) - 1)]; rfl, by rw [HT.out]; exact hown1, hbel1⟩
      case measure => simp [intOf] <;> omega
    · have hin : i = n := by omega
      subst hin
      have e1 : (i : Int) - 1 - (i : Int) = -1 := by omega
      rw [e1]
      go_wp2
      go_ret
      refine ⟨_, rfl, ?_, hbel⟩
      have := HO.out
      rwa [List.take_of_length_le (by simp)] at this
end Go.Proofs.YtcpceaflnnkhnaaGreatDoor
