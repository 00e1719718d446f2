/- Joined texts: BigP, BigA, TagA, TagF, TagB, TagC, TagD, ShaA, ShaB, ShaC, ShaD. -/
import Derived.Test.YtcpceaflnnkhnaaGreatDoorJ1
import Derived.Test.YtcpceaflnnkhnaaGreatDoorJ2
import Derived.Deep.RegionHeld3

/- Numbers as bytes, the highest first, plainly. -/
namespace Go.Proofs.YtcpceaflnnkhnaaGreatDoor
open Go.RowKit

/-- A number in n bytes, the highest first. -/
def bigL (x n : Nat) : List UInt8 := (List.range n).map fun i => UInt8.ofNat (x / 256 ^ (n - 1 - i))
@[simp] theorem bigL_length (x n : Nat) : (bigL x n).length = n := by simp [bigL]
theorem bigL_get (x n i : Nat) (h : i < n) : (bigL x n)[i]? = some (UInt8.ofNat (x / 256 ^ (n - 1 - i))) := by simp [bigL, h]
/-- The last k bytes written, noughts ahead. -/
def bigF (x n k : Nat) : List UInt8 := List.replicate (n - k) 0 ++ (bigL x n).drop (n - k)
theorem bigF_zero (x n : Nat) : bigF x n 0 = List.replicate n 0 := by simp [bigF]
theorem bigF_full (x n : Nat) : bigF x n n = bigL x n := by simp [bigF]
theorem bigF_length (x n k : Nat) : (bigF x n k).length = n := by simp only [bigF, List.length_append, List.length_replicate, List.length_drop, bigL_length]; omega
theorem bigF_set (x n k : Nat) (h : k < n) : (bigF x n k).set (n - 1 - k) (UInt8.ofNat (x / 256 ^ k)) = bigF x n (k + 1) := by
  apply List.ext_getElem?
  intro i
  have hl : n - 1 - k < (bigF x n k).length := by rw [bigF_length]; omega
  rw [List.getElem?_set]
  unfold bigF at hl ⊢
  by_cases h1 : i < n - 1 - k
  · rw [if_neg (by omega), List.getElem?_append_left (by simp; omega), List.getElem?_append_left (by simp; omega), List.getElem?_replicate, List.getElem?_replicate, if_pos (by omega), if_pos (by omega)]
  · by_cases h2 : i = n - 1 - k
    · subst h2
      rw [if_pos rfl, if_pos hl, List.getElem?_append_right (by simp; omega), List.length_replicate, List.getElem?_drop, bigL_get _ _ _ (by omega)]
      congr 4
      omega
    · rw [if_neg (by omega), List.getElem?_append_right (by simp; omega), List.getElem?_append_right (by simp; omega), List.length_replicate, List.length_replicate, List.getElem?_drop, List.getElem?_drop]
      congr 1
      omega
/-- The first k bytes. -/
theorem bigL_take (x n k : Nat) (h : k < n) : (bigL x n).take (k + 1) = (bigL x n).take k ++ [UInt8.ofNat (x / 256 ^ (n - 1 - k))] := take_snoc _ _ _ (bigL_get x n k h)
theorem u8_of (m : Nat) : ((UInt8.ofNat m).toNat : Int) = (m : Int) % 256 := by simp [UInt8.toNat_ofNat']
theorem byte_of (x i : Nat) : (x : Int) / 2 ^ (8 * i) % 256 = ((UInt8.ofNat (x / 256 ^ i)).toNat : Int) := by
  rw [u8_of, show (256 : Nat) ^ i = 2 ^ (8 * i) by rw [show (256 : Nat) = 2 ^ 8 from rfl, ← Nat.pow_mul]]
  simp
theorem bigF_cells (x n k j : Nat) (h : k < n) (hj : n - 1 - k = j) : (bcells (bigF x n k)).toArray.setIfInBounds j (.int .u8 ((x : Int) / 2 ^ (8 * k) % 256)) = (bcells (bigF x n (k + 1))).toArray := by
  rw [← bigF_set x n k h, hj, byte_of]
  simp [bcells, List.map_set]
end Go.Proofs.YtcpceaflnnkhnaaGreatDoor

/- Contracts of numbers as bytes: the program's Big of eight and of four bytes, the document's. -/
namespace Go.Proofs.YtcpceaflnnkhnaaGreatDoor
open Go.RowKit

set_option maxHeartbeats 1000000 in
theorem width64_any (w : World) : Calls Tryz.prog 160 #[] w fun e w' => e = .returned (.int .i64 8) ∧ w = w' := by
  go_enter Tryz.func160, Tryz.ntmps160
  go_wp2
  go_loopw [1, 2] (fun u1 u2 wr => ((u1 = .int .i64 0 ∧ u2 = .int .u64 18446744073709551615) ∨ (u1 = .int .i64 1 ∧ u2 = .int .u64 72057594037927935) ∨ (u1 = .int .i64 2 ∧ u2 = .int .u64 281474976710655) ∨ (u1 = .int .i64 3 ∧ u2 = .int .u64 1099511627775) ∨ (u1 = .int .i64 4 ∧ u2 = .int .u64 4294967295) ∨ (u1 = .int .i64 5 ∧ u2 = .int .u64 16777215) ∨ (u1 = .int .i64 6 ∧ u2 = .int .u64 65535) ∨ (u1 = .int .i64 7 ∧ u2 = .int .u64 255) ∨ (u1 = .int .i64 8 ∧ u2 = .int .u64 0)) ∧ w = wr) (fun u1 _ _ => 8 - (intOf u1).toNat)
  case atStart => exact ⟨.inl ⟨rfl, rfl⟩, rfl⟩
  case round =>
    obtain ⟨hh, rfl⟩ := hrel
    rcases hh with ⟨rfl, rfl⟩ | ⟨rfl, rfl⟩ | ⟨rfl, rfl⟩ | ⟨rfl, rfl⟩ | ⟨rfl, rfl⟩ | ⟨rfl, rfl⟩ | ⟨rfl, rfl⟩ | ⟨rfl, rfl⟩ | ⟨rfl, rfl⟩
    case inr.inr.inr.inr.inr.inr.inr.inr =>
      go_wp2
      go_ret
      exact ⟨rfl, rfl⟩
    all_goals
      go_wp2
      go_roundw
      case rel => simp
      case measure => simp [intOf]
set_option maxHeartbeats 1000000 in
theorem width32_any (w : World) : Calls Tryz.prog 165 #[] w fun e w' => e = .returned (.int .i64 4) ∧ w = w' := by
  go_enter Tryz.func165, Tryz.ntmps165
  go_wp2
  go_loopw [1, 2] (fun u1 u2 wr => ((u1 = .int .i64 0 ∧ u2 = .int .u32 4294967295) ∨ (u1 = .int .i64 1 ∧ u2 = .int .u32 16777215) ∨ (u1 = .int .i64 2 ∧ u2 = .int .u32 65535) ∨ (u1 = .int .i64 3 ∧ u2 = .int .u32 255) ∨ (u1 = .int .i64 4 ∧ u2 = .int .u32 0)) ∧ w = wr) (fun u1 _ _ => 4 - (intOf u1).toNat)
  case atStart => exact ⟨.inl ⟨rfl, rfl⟩, rfl⟩
  case round =>
    obtain ⟨hh, rfl⟩ := hrel
    rcases hh with ⟨rfl, rfl⟩ | ⟨rfl, rfl⟩ | ⟨rfl, rfl⟩ | ⟨rfl, rfl⟩ | ⟨rfl, rfl⟩
    case inr.inr.inr.inr =>
      go_wp2
      go_ret
      exact ⟨rfl, rfl⟩
    all_goals
      go_wp2
      go_roundw
      case rel => simp
      case measure => simp [intOf]
theorem made_bytes (n : Nat) : madeCells #[.int .u8 0] n = (bcells (List.replicate n 0)).toArray := by
  apply Array.ext
  · simp [madeCells]
  · intro i h1 h2
    simp [madeCells, bcells, Nat.mod_one]
/-- 'make([]byte, l, c)', l and c small. -/
theorem make_bytes (l c : Nat) (hl : l ≤ c) (hc : c ≤ 1000) (w : World) : (Instr.makeSlice 32 (.int .i64 (l : Int)) (.int .i64 (c : Int))).run Tryz.prog w = .ok (.slice (some ⟨w.heap.size, 0, none⟩) l c) (w.alloc (.cells (bcells (List.replicate c 0)).toArray 5)) := by
  obtain ⟨i, hi, hz, h1, h2⟩ := info_parts elem8.hi
  have := run_make (P := Tryz.prog) w 32 5 i _ elem8.ht hi hz .i64 .i64 (l : Int) (c : Int) (by omega) (by omega) (by rw [h2]; omega) (by omega)
  rw [show (Value.int .u8 0).cells = #[.int .u8 0] from rfl, made_bytes, h1] at this
  simpa using this
set_option maxHeartbeats 1000000 in
theorem big64_any (x : Nat) (w : World) (hx : x < 18446744073709551616) :
    Calls Tryz.prog 137 #[.int .u64 (x : Int)] w fun e w' => Below w.heap.size w w' ∧ e = .returned (.slice (some ⟨w.heap.size, 0, none⟩) 8 8) ∧ Own w' w.heap.size 5 (.slice (some ⟨w.heap.size, 0, none⟩) 8 8) (bigL x 8) := by
  have HX := hide hx
  clear hx
  have hmk := make_bytes 8 8 (by omega) (by omega)
  have HMK := hide (fun w => show (Instr.makeSlice 32 (.int .i64 8) (.int .i64 8)).run Tryz.prog w = .ok (.slice (some ⟨w.heap.size, 0, none⟩) 8 8) (w.alloc (.cells (bcells (List.replicate 8 0)).toArray 5)) from hmk w)
  clear hmk
  obtain ⟨Z, hZ⟩ : ∃ Z, Z = (bcells (List.replicate 8 0)).toArray := ⟨_, rfl⟩
  rw [← hZ] at HMK
  have HZ := hide hZ
  clear hZ
  have hmk := HMK.out
  go_enter Tryz.func137, Tryz.ntmps137
  go_wp2_with fail
  refine (width64_any w).mono ?_
  rintro e w1 ⟨rfl, rfl⟩
  go_wp2
  have HI := hide (show Blk (w.alloc (.cells Z 5)) w.heap.size 5 (bcells (bigF x 8 0)).toArray by rw [bigF_zero, ← HZ.out]; exact Blk.new _ _ _)
  go_loopw [11] (fun u11 wr => ∃ i : Nat, i ≤ 8 ∧ u11 = .int .i64 (i : Int) ∧ Blk wr w.heap.size 5 (bcells (bigF x 8 i)).toArray ∧ Below w.heap.size w wr) (fun i _ => 8 - (intOf i).toNat)
  case atStart => exact ⟨0, by omega, rfl, HI.out, (Below.refl _ w).alloc (Nat.le_refl _) _⟩
  case round =>
    clear HI
    obtain ⟨i, hi, rfl, hb, hbel⟩ := hrel
    have HB := hide hb
    clear hb
    by_cases hlt : i < 8
    · obtain ⟨j, hj⟩ : ∃ j, j = 7 - i := ⟨_, rfl⟩
      have e1 : (7 : Int) - (i : Int) = (j : Int) := by omega
      have e3 : (j : Int) < 8 := by omega
      have e4 : (0 : Int) ≤ (j : Int) := by omega
      have e5 : (i : Int) < 8 := by omega
      have gs := HB.out.frozen j
      obtain ⟨z, hz⟩ : ∃ z, wr.cell? ⟨w.heap.size, j, none⟩ = some z := ⟨_, (HB.out.cell j).trans (Array.getElem?_eq_getElem (by simp [bigF_length]; omega))⟩
      have HJ := hide hj
      clear hj
      go_wp2
      go_roundw
      case rel =>
        refine ⟨i + 1, by omega, by go_num, ?_, hbel.setCell (Nat.le_refl _) _⟩
        rw [← bigF_cells x 8 i j hlt (by have := HJ.out; omega)]
        exact HB.out.set_ j _
      case measure => simp [intOf]; omega
    · have hi8 : i = 8 := by omega
      subst hi8
      go_wp2
      go_ret
      refine ⟨hbel, rfl, ?_⟩
      have hh := HB.out
      rw [bigF_full] at hh
      have h2 := hh.own (base := w.heap.size) (n := 8) (cap := 8) (sz := 1) rfl (Nat.le_refl _) (by simp) (Nat.le_refl _) (by unfold maxLen; omega)
      unfold Own
      rw [bigL_length]
      rw [List.take_of_length_le (by simp)] at h2
      simpa using h2

set_option maxHeartbeats 1000000 in
theorem big32_any (x : Nat) (w : World) (hx : x < 4294967296) :
    Calls Tryz.prog 144 #[.int .u32 (x : Int)] w fun e w' => Below w.heap.size w w' ∧ e = .returned (.slice (some ⟨w.heap.size, 0, none⟩) 4 4) ∧ Own w' w.heap.size 5 (.slice (some ⟨w.heap.size, 0, none⟩) 4 4) (bigL x 4) := by
  have hw : IntKind.u64.wrap (x : Int) = (x : Int) := by simp [IntKind.wrap, IntKind.bits, IntKind.signed]; omega
  have HX := hide hx
  clear hx
  have hmk := make_bytes 4 4 (by omega) (by omega)
  have HMK := hide (fun w => show (Instr.makeSlice 32 (.int .i64 4) (.int .i64 4)).run Tryz.prog w = .ok (.slice (some ⟨w.heap.size, 0, none⟩) 4 4) (w.alloc (.cells (bcells (List.replicate 4 0)).toArray 5)) from hmk w)
  clear hmk
  obtain ⟨Z, hZ⟩ : ∃ Z, Z = (bcells (List.replicate 4 0)).toArray := ⟨_, rfl⟩
  rw [← hZ] at HMK
  have HZ := hide hZ
  clear hZ
  have hmk := HMK.out
  go_enter Tryz.func144, Tryz.ntmps144
  go_wp2_with fail
  refine (width32_any w).mono ?_
  rintro e w1 ⟨rfl, rfl⟩
  go_wp2
  have HI := hide (show Blk (w.alloc (.cells Z 5)) w.heap.size 5 (bcells (bigF x 4 0)).toArray by rw [bigF_zero, ← HZ.out]; exact Blk.new _ _ _)
  go_loopw [11] (fun u11 wr => ∃ i : Nat, i ≤ 4 ∧ u11 = .int .i64 (i : Int) ∧ Blk wr w.heap.size 5 (bcells (bigF x 4 i)).toArray ∧ Below w.heap.size w wr) (fun i _ => 4 - (intOf i).toNat)
  case atStart => exact ⟨0, by omega, rfl, HI.out, (Below.refl _ w).alloc (Nat.le_refl _) _⟩
  case round =>
    clear HI
    obtain ⟨i, hi, rfl, hb, hbel⟩ := hrel
    have HB := hide hb
    clear hb
    by_cases hlt : i < 4
    · obtain ⟨j, hj⟩ : ∃ j, j = 3 - i := ⟨_, rfl⟩
      have e1 : (3 : Int) - (i : Int) = (j : Int) := by omega
      have e3 : (j : Int) < 4 := by omega
      have e4 : (0 : Int) ≤ (j : Int) := by omega
      have e5 : (i : Int) < 4 := by omega
      have gs := HB.out.frozen j
      obtain ⟨z, hz⟩ : ∃ z, wr.cell? ⟨w.heap.size, j, none⟩ = some z := ⟨_, (HB.out.cell j).trans (Array.getElem?_eq_getElem (by simp [bigF_length]; omega))⟩
      have HJ := hide hj
      clear hj
      go_wp2
      go_roundw
      case rel =>
        refine ⟨i + 1, by omega, by go_num, ?_, hbel.setCell (Nat.le_refl _) _⟩
        rw [← bigF_cells x 4 i j hlt (by have := HJ.out; omega)]
        exact HB.out.set_ j _
      case measure => simp [intOf]; omega
    · have hi4 : i = 4 := by omega
      subst hi4
      go_wp2
      go_ret
      refine ⟨hbel, rfl, ?_⟩
      have hh := HB.out
      rw [bigF_full] at hh
      have h2 := hh.own (base := w.heap.size) (n := 4) (cap := 4) (sz := 1) rfl (Nat.le_refl _) (by simp) (Nat.le_refl _) (by unfold maxLen; omega)
      unfold Own
      rw [bigL_length]
      rw [List.take_of_length_le (by simp)] at h2
      simpa using h2

set_option maxHeartbeats 1000000 in
theorem rbig_any (x n : Nat) (w : World) (hx : x < 18446744073709551616) (hn : n ≤ 8) :
    Calls Tryz.prog 122 #[.int .u64 (x : Int), .int .i64 (n : Int)] w fun e w' => ∃ v, e = .returned v ∧ Own w' w.heap.size 5 v (bigL x n) ∧ Below w.heap.size w w' := by
  have HX := hide hx
  clear hx
  go_enter Tryz.func122, Tryz.ntmps122
  go_wp2
  go_loopw [5, 6] (fun u5 u6 wr => ∃ i : Nat, i ≤ n ∧ u6 = .int .i64 ((n : Int) - 1 - (i : Int)) ∧ Own wr w.heap.size 5 u5 ((bigL x n).take i) ∧ Below w.heap.size w wr) (fun _ u6 _ => (intOf u6 + 1).toNat)
  case atStart => exact ⟨0, by omega, by simp, Own.nil _ _ _, Below.refl _ _⟩
  case round =>
    obtain ⟨i, hi, rfl, ho, hbel⟩ := hrel
    have HO := hide ho
    clear ho
    by_cases hlt : i < n
    · obtain ⟨j, hj⟩ : ∃ j, j = n - 1 - i := ⟨_, rfl⟩
      have e1 : (n : Int) - 1 - (i : Int) = (j : Int) := by omega
      have e3 : (j : Int) < 8 := by omega
      have e4 : (0 : Int) ≤ (j : Int) := by omega
      have hlen : ((bigL x n).take i).length + 1 ≤ 140737488355328 := by rw [List.length_take, bigL_length]; omega
      have HLEN := hide hlen
      have HV := hide (show ((x : Int) / 2 ^ (8 * j) % 256) = ((UInt8.ofNat (x / 256 ^ (n - 1 - i))).toNat : Int) by rw [byte_of, hj])
      have HT := hide (bigL_take x n i hlt)
      clear hj hlen
      rw [e1]
      go_wp2_with (at_builtin; go_loud (rw [HV.out]; refine wpList_pushB elem8 HO.out hbel hbel.size HLEN.out (UInt8.ofNat (x / 256 ^ (n - 1 - i))) rfl _ _ rfl rfl rfl ?_); intro v1 w1 hown1 hbel1 _ _)
      go_roundw
      case rel => exact ⟨i + 1, by omega, by rw [← e1, Int.natCast_add, Int.sub_sub ((n : Int) - 1)]; rfl, by rw [HT.out]; exact hown1, hbel1⟩
      case measure => simp [intOf] <;> omega
    · have hin : i = n := by omega
      subst hin
      have e1 : (i : Int) - 1 - (i : Int) = -1 := by omega
      rw [e1]
      go_wp2
      go_ret
      refine ⟨_, rfl, ?_, hbel⟩
      have := HO.out
      rwa [List.take_of_length_le (by simp)] at this
end Go.Proofs.YtcpceaflnnkhnaaGreatDoor

/- Tags: their words, and lists of bytes with their lengths ahead. -/
namespace Go.Proofs.YtcpceaflnnkhnaaGreatDoor
open Go.RowKit

/-- A tag's word. -/
def tagB : Nat → ByteArray
  | 1 => ⟨#[115, 116, 114, 111, 110, 103, 114, 111, 111, 109, 32, 107, 101, 121]⟩
  | 2 => ⟨#[115, 116, 114, 111, 110, 103, 114, 111, 111, 109, 32, 105, 110, 100, 101, 120]⟩
  | 3 => ⟨#[115, 116, 114, 111, 110, 103, 114, 111, 111, 109, 32, 98, 108, 111, 99, 107]⟩
  | 4 => ⟨#[115, 116, 114, 111, 110, 103, 114, 111, 111, 109, 32, 115, 101, 103, 109, 101, 110, 116]⟩
  | 5 => ⟨#[115, 116, 114, 111, 110, 103, 114, 111, 111, 109, 32, 114, 111, 111, 116]⟩
  | 6 => ⟨#[115, 116, 114, 111, 110, 103, 114, 111, 111, 109, 32, 110, 111, 100, 101]⟩
  | 7 => ⟨#[115, 116, 114, 111, 110, 103, 114, 111, 111, 109, 32, 112, 97, 100]⟩
  | 8 => ⟨#[115, 116, 114, 111, 110, 103, 114, 111, 111, 109, 32, 117, 101, 98]⟩
  | 9 => ⟨#[115, 116, 114, 111, 110, 103, 114, 111, 111, 109, 32, 114, 105, 110, 103]⟩
  | _ => ⟨#[]⟩
def frameL (l : List UInt8) : List UInt8 := bigL l.length 8 ++ l
@[simp] theorem frameL_length (l : List UInt8) : (frameL l).length = l.length + 8 := by simp [frameL]; omega
def framedL (L : List (List UInt8)) : List UInt8 := L.flatMap frameL
theorem framedL_snoc (L : List (List UInt8)) (x : List UInt8) : framedL (L ++ [x]) = framedL L ++ frameL x := by simp [framedL]
theorem framedL_length (L : List (List UInt8)) : (framedL L).length = (L.map List.length).sum + 8 * L.length := by
  induction L with
  | nil => rfl
  | cons x L ih => simp only [framedL, List.flatMap_cons, List.length_append, frameL_length, List.map_cons, List.sum_cons, List.length_cons] at ih ⊢; omega
set_option maxHeartbeats 1000000 in
theorem word_any (t : Nat) (ht : 1 ≤ t ∧ t ≤ 9) (w : World) : Calls Tryz.prog 115 #[.int .u8 (t : Int)] w fun e w' => e = .returned (.string (tagB t)) ∧ w = w' := by
  obtain rfl | rfl | rfl | rfl | rfl | rfl | rfl | rfl | rfl : t = 1 ∨ t = 2 ∨ t = 3 ∨ t = 4 ∨ t = 5 ∨ t = 6 ∨ t = 7 ∨ t = 8 ∨ t = 9 := by omega
  all_goals
    go_enter Tryz.func115, Tryz.ntmps115
    go_wp2
    go_ret
    exact ⟨rfl, rfl⟩
set_option maxHeartbeats 1000000 in
theorem rword_any (t : Nat) (ht : 1 ≤ t ∧ t ≤ 9) (w : World) : Calls Tryz.prog 102 #[.int .u8 (t : Int)] w fun e w' => e = .returned (.string (tagB t)) ∧ w = w' := by
  obtain rfl | rfl | rfl | rfl | rfl | rfl | rfl | rfl | rfl : t = 1 ∨ t = 2 ∨ t = 3 ∨ t = 4 ∨ t = 5 ∨ t = 6 ∨ t = 7 ∨ t = 8 ∨ t = 9 := by omega
  all_goals
    go_enter Tryz.func102, Tryz.ntmps102
    go_wp2
    go_ret
    exact ⟨rfl, rfl⟩
set_option maxHeartbeats 1000000 in
theorem rframe_any (v : Value) (l : List UInt8) (w : World) (hv : By w v l) (hl : l.length ≤ 1099511627776) :
    Calls Tryz.prog 104 #[v] w fun e w' => ∃ v', e = .returned v' ∧ Own w' w.heap.size 5 v' (frameL l) ∧ Below w.heap.size w w' := by
  obtain ⟨A, c, rfl, -, -, -⟩ := hv.form
  obtain ⟨n, hn⟩ : ∃ n, n = l.length := ⟨_, rfl⟩
  rw [← hn] at hv hl ⊢
  have HV := hide (And.intro hv hn)
  have c3 : IntKind.u64.wrap (n : Int) = (n : Int) := by simp [IntKind.wrap, IntKind.bits, IntKind.signed]; omega
  have Q := hide (fun w => rbig_any n 8 w (by omega) (by omega))
  clear hv hn
  go_enter Tryz.func104, Tryz.ntmps104
  go_wp2_with first
    | (go_at_call 122; refine (Q.out _).mono ?_; rintro e w1 ⟨v1, rfl, o1, b1⟩; go_loud (have H1 := hide (And.intro o1 (And.intro b1 (HV.out.1.below b1))); clear o1 b1))
    | (at_builtin; go_loud (refine wpList_pushV elem8 H1.out.1 H1.out.2.1 H1.out.2.1.size H1.out.2.2 (by rw [bigL_length, ← HV.out.2]; omega) rfl _ _ rfl rfl rfl ?_); intro v2 w2 o2 b2 _ _)
  go_ret
  refine ⟨_, rfl, ?_, b2⟩
  unfold frameL
  rw [← HV.out.2]
  exact o2
def parts (L : List (Value × List UInt8)) : List (List UInt8) := L.map (·.2)
theorem parts_len (L : List (Value × List UInt8)) : ((parts L).map List.length).sum = total L := by simp [parts, total, List.map_map, Function.comp_def]
theorem framed_len (L : List (Value × List UInt8)) (k : Nat) (h : total L ≤ 1099511627776) (hk : L.length ≤ 1000000) : (framedL (parts (L.take k))).length ≤ 1200000000000 := by
  rw [framedL_length, parts_len]
  have := total_take L k
  simp [parts]
  omega
set_option maxRecDepth 100000 in
set_option maxHeartbeats 1000000 in
theorem framed_any (v : Value) (L : List (Value × List UInt8)) (w : World) (h : Lsts w v L) (ht : total L ≤ 1099511627776) (hk : L.length ≤ 1000000) :
    Calls Tryz.prog 117 #[v] w fun e w' => ∃ v', e = .returned v' ∧ Own w' w.heap.size 5 v' (framedL (parts L)) ∧ Below w.heap.size w w' := by
  have HL := hide h
  obtain ⟨A, c, rfl, hc, hm, hcell⟩ := h.1.form
  have HC := hide hcell
  have HT := hide (And.intro ht hk)
  unfold maxLen at hm
  clear h hcell ht hk
  go_enter Tryz.func117, Tryz.ntmps117
  go_wp2
  go_loopw [3, 8] (fun u3 u8 wr => ∃ k : Nat, k ≤ L.length ∧ u8 = .int .i64 k ∧ Own wr w.heap.size 5 u3 (framedL (parts (L.take k))) ∧ Below w.heap.size w wr) (fun _ i _ => L.length - (intOf i).toNat)
  case atStart => exact ⟨0, by omega, rfl, Own.nil _ _ _, Below.refl _ _⟩
  case round =>
    obtain ⟨k, hk, rfl, ho, hb⟩ := hrel
    have HO := hide ho
    clear ho
    by_cases hlt : k < L.length
    · obtain ⟨x, hx⟩ : ∃ x, L[k]? = some x := ⟨_, List.getElem?_eq_getElem hlt⟩
      obtain ⟨b, o, rfl, hbl, hcs⟩ := HC.out (by omega)
      have hcx : wr.cell? ⟨b, o + k, none⟩ = some x.1 := by rw [hb.cell (p := ⟨b, o + k, none⟩) hbl, hcs k (by omega)]; simp [hx]
      have hby := HL.out.2 x (List.mem_of_getElem? hx)
      have hxt : x.2.length ≤ 1099511627776 := by
        have h1 := total_take L (k + 1)
        rw [take_snoc L k x hx, total_snoc] at h1
        have := HT.out.1
        omega
      have hfl := framed_len L k HT.out.1 HT.out.2
      have hcat : framedL (parts (L.take (k + 1))) = (framedL (parts (L.take k)) ++ bigL x.2.length 8) ++ x.2 := by
        rw [take_snoc L k x hx, parts, List.map_append, List.map_cons, List.map_nil, framedL_snoc, frameL, List.append_assoc]; rfl
      obtain ⟨A2, c2, hv2, -, -, -⟩ := hby.form
      rw [hv2] at hcx hby
      obtain ⟨y, hy⟩ : ∃ y : Nat, y = x.2.length := ⟨_, rfl⟩
      rw [← hy] at hcx hby hxt hcat
      have HX := hide (And.intro hby (And.intro hy (And.intro hcat hfl)))
      have c3 : IntKind.u64.wrap (y : Int) = (y : Int) := by simp [IntKind.wrap, IntKind.bits, IntKind.signed]; omega
      have Q := hide (fun w => big64_any y w (by omega))
      have i1 : (k : Int) < (L.length : Int) := by omega
      have i2 : (0 : Int) ≤ (k : Int) := by omega
      clear hby hcs hx hv2 hcat hfl hy
      go_wp2_with first
        | (go_at_call 137; refine (Q.out _).mono ?_; rintro e w1 ⟨b1, rfl, o1⟩; go_loud (have H1 := hide (And.intro (HO.out.below b1) (And.intro (hb.trans (b1.mono hb.size)) o1.by_)); clear b1 o1))
        | (at_builtin; go_loud (first
            | (refine wpList_pushV elem8 H1.out.1 H1.out.2.1 H1.out.2.1.size H1.out.2.2 (by have := HX.out.2.2.2; simp; omega) rfl _ _ rfl rfl rfl ?_; intro v2 w2 o2 b2 g2 _)
            | (refine wpList_pushV elem8 o2 b2 b2.size (HX.out.1.below b2) (by have := HX.out.2.2.2; have := HX.out.2.1; simp; omega) rfl _ _ rfl rfl rfl ?_; intro v3 w3 o3 b3 g3 _)))
      go_roundw
      case rel => exact ⟨k + 1, by omega, by go_num, by rw [HX.out.2.2.1]; exact o3, b3⟩
      case measure => simp [intOf]; omega
    · have hkl : k = L.length := by omega
      subst hkl
      go_wp2
      go_ret
      refine ⟨_, rfl, ?_, hb⟩
      have := HO.out
      rwa [List.take_length] at this
end Go.Proofs.YtcpceaflnnkhnaaGreatDoor

/- Tags with one part of a length of its own: Index, Root, Pad. -/
namespace Go.Proofs.YtcpceaflnnkhnaaGreatDoor
open Go.RowKit

/-- The tags with one part of so many bytes. -/
def one2 (t k : Nat) : Prop := (t = 2 ∧ k = 16) ∨ (t = 5 ∧ k = 32) ∨ (t = 7 ∧ k = 4)
theorem one2_in {t k : Nat} (h : one2 t k) : 1 ≤ t ∧ t ≤ 9 := by unfold one2 at h; omega
set_option maxHeartbeats 400000 in
theorem just_any (k : Int) (w : World) : Calls Tryz.prog 159 #[.int .i64 k] w fun e w' => ∃ p, e = .returned (.func (.func 176) #[] #[.pointer (some ⟨p, 0, none⟩)]) ∧ Below w.heap.size w w' ∧ Blk w' p 3 #[.int .i64 k] := by
  go_enter Tryz.func159, Tryz.ntmps159
  go_wp2
  go_ret
  exact ⟨_, rfl, (Below.refl _ w).alloc (Nat.le_refl _) _, Blk.new _ _ _⟩
set_option maxHeartbeats 400000 in
theorem just1_any (p : Nat) (k n : Int) (w : World) (h : w.cell? ⟨p, 0, none⟩ = some (.int .i64 k)) : Calls Tryz.prog 176 #[.int .i64 n, .pointer (some ⟨p, 0, none⟩)] w fun e w' => e = .returned (.bool (n == k)) ∧ w = w' := by
  go_enter Tryz.func176, Tryz.ntmps176
  go_wp2
  go_ret
  exact ⟨rfl, rfl⟩
set_option maxHeartbeats 2000000 in
theorem bounds_two (t k : Nat) (ht : one2 t k) (w : World) : Calls Tryz.prog 136 #[.int .u8 (t : Int)] w fun e w' => ∃ g p, e = .returned (.slice (some ⟨g, 0, none⟩) 1 1) ∧ Below w.heap.size w w' ∧ Blk w' g 220 #[.func (.func 176) #[] #[.pointer (some ⟨p, 0, none⟩)]] ∧ w'.cell? ⟨p, 0, none⟩ = some (.int .i64 (k : Int)) := by
  rcases ht with ⟨rfl, rfl⟩ | ⟨rfl, rfl⟩ | ⟨rfl, rfl⟩
  all_goals
    go_enter Tryz.func136, Tryz.ntmps136
    go_wp2_with fail
    refine (just_any _ w).mono ?_
    rintro e w1 ⟨p, rfl, b1, hp⟩
    have HP := hide hp
    have HB := hide b1
    clear hp b1
    go_wp2
    go_ret
    exact ⟨_, p, rfl, HB.out.alloc HB.out.size _, Blk.new _ _ _, ((HP.out.alloc _).cell 0).trans rfl⟩
set_option maxHeartbeats 2000000 in
theorem fit_two (t k : Nat) (ht : one2 t k) (b o c : Nat) (Ap : Option Addr) (cp : Nat) (w : World) (hb : b < w.heap.size) (hc : w.cell? ⟨b, o, none⟩ = some (.slice Ap k cp)) : Calls Tryz.prog 116 #[.int .u8 (t : Int), .slice (some ⟨b, o, none⟩) 1 c] w fun e w' => e = .returned (.bool true) ∧ Below w.heap.size w w' := by
  have Q := hide (fun w => bounds_two t k ht w)
  go_enter Tryz.func116, Tryz.ntmps116
  go_wp2_with fail
  refine (Q.out _).mono ?_
  rintro e w1 ⟨g, p, rfl, b1, hg, hp⟩
  have hc1 : w1.cell? ⟨b, o, none⟩ = some (.slice Ap k cp) := (b1.cell (p := ⟨b, o, none⟩) hb).trans hc
  have hc2 : w1.cell? ⟨g, 0, none⟩ = some (.func (.func 176) #[] #[.pointer (some ⟨p, 0, none⟩)]) := (hg.cell 0).trans rfl
  have HB := hide b1
  have QA := hide (just1_any p (k : Int) (k : Int) w1 hp)
  clear b1 hg hc hp
  go_wp2
  go_loopw [17] (fun u17 wr => (u17 = .int .i64 0 ∨ u17 = .int .i64 1) ∧ w1 = wr) (fun u17 _ => 1 - (intOf u17).toNat)
  case atStart => exact ⟨.inl rfl, rfl⟩
  case round =>
    obtain ⟨rfl | rfl, rfl⟩ := hrel
    · go_wp2_with (go_at_call 176; refine QA.out.mono ?_; rintro e w2 ⟨rfl, rfl⟩; rw [show ((k : Int) == (k : Int)) = true from by simp])
      go_roundw
      case rel => exact ⟨.inr rfl, trivial⟩
      case measure => simp [intOf]
    · go_wp2
      go_ret
      exact ⟨rfl, HB.out⟩
set_option maxHeartbeats 4000000 in
theorem rfits_two (t k : Nat) (ht : one2 t k) (b o c : Nat) (Ap : Option Addr) (cp : Nat) (w : World) (hc : w.cell? ⟨b, o, none⟩ = some (.slice Ap k cp)) : Calls Tryz.prog 103 #[.int .u8 (t : Int), .slice (some ⟨b, o, none⟩) 1 c] w fun e w' => e = .returned (.bool true) ∧ w = w' := by
  rcases ht with ⟨rfl, rfl⟩ | ⟨rfl, rfl⟩ | ⟨rfl, rfl⟩
  all_goals
    go_enter Tryz.func103, Tryz.ntmps103
    go_wp2
    go_ret
    exact ⟨rfl, rfl⟩
end Go.Proofs.YtcpceaflnnkhnaaGreatDoor

/- Tags: which parts go with a tag; the tagged bytes of one part. -/
namespace Go.Proofs.YtcpceaflnnkhnaaGreatDoor
open Go.RowKit

theorem own_lower {w : World} {b b' : Nat} {e : TypeId} {v : Value} {l : List UInt8} (h : Own w b e v l) (hb : b' ≤ b) : Own w b' e v l := by
  obtain ⟨h1, h2 | ⟨g, cap, cur, hv, hg, r⟩⟩ := h
  · exact ⟨h1, .inl h2⟩
  · exact ⟨h1, .inr ⟨g, cap, cur, hv, Nat.le_trans hb hg, r⟩⟩
/-- The tags with one part of any length. -/
def one1 (t : Nat) : Prop := t = 3 ∨ t = 4 ∨ t = 8
theorem one1_in {t : Nat} (h : one1 t) : 1 ≤ t ∧ t ≤ 9 := by unfold one1 at h; omega
set_option maxHeartbeats 2000000 in
theorem rfits_one (t : Nat) (ht : one1 t) (A : Option Addr) (c : Nat) (w : World) : Calls Tryz.prog 103 #[.int .u8 (t : Int), .slice A 1 c] w fun e w' => e = .returned (.bool true) ∧ w = w' := by
  rcases ht with rfl | rfl | rfl
  all_goals
    go_enter Tryz.func103, Tryz.ntmps103
    go_wp2
    go_ret
    exact ⟨rfl, rfl⟩
set_option maxHeartbeats 2000000 in
theorem bounds_one (t : Nat) (ht : one1 t) (w : World) : Calls Tryz.prog 136 #[.int .u8 (t : Int)] w fun e w' => ∃ g, e = .returned (.slice (some ⟨g, 0, none⟩) 1 1) ∧ Below w.heap.size w w' ∧ Blk w' g 220 #[.func (.func 157) #[] #[]] := by
  rcases ht with rfl | rfl | rfl
  all_goals
    go_enter Tryz.func136, Tryz.ntmps136
    go_wp2
    go_ret
    exact ⟨_, rfl, (Below.refl _ w).alloc (Nat.le_refl _) _, Blk.new _ _ _⟩
set_option maxHeartbeats 400000 in
theorem bany_any (n : Int) (w : World) : Calls Tryz.prog 157 #[.int .i64 n] w fun e w' => e = .returned (.bool true) ∧ w = w' := by
  go_enter Tryz.func157, Tryz.ntmps157
  go_wp2
  go_ret
  exact ⟨rfl, rfl⟩
set_option maxHeartbeats 2000000 in
theorem fit_one (t : Nat) (ht : one1 t) (b o c : Nat) (Ap : Option Addr) (n cp : Nat) (w : World) (hb : b < w.heap.size) (hc : w.cell? ⟨b, o, none⟩ = some (.slice Ap n cp)) : Calls Tryz.prog 116 #[.int .u8 (t : Int), .slice (some ⟨b, o, none⟩) 1 c] w fun e w' => e = .returned (.bool true) ∧ Below w.heap.size w w' := by
  have Q := hide (fun w => bounds_one t ht w)
  have QA := hide (fun n w => bany_any n w)
  go_enter Tryz.func116, Tryz.ntmps116
  go_wp2_with fail
  refine (Q.out _).mono ?_
  rintro e w1 ⟨g, rfl, b1, hg⟩
  have hc1 : w1.cell? ⟨b, o, none⟩ = some (.slice Ap n cp) := (b1.cell (p := ⟨b, o, none⟩) hb).trans hc
  have hc2 : w1.cell? ⟨g, 0, none⟩ = some (.func (.func 157) #[] #[]) := (hg.cell 0).trans rfl
  have HB := hide b1
  clear b1 hg hc
  go_wp2
  go_loopw [17] (fun u17 wr => (u17 = .int .i64 0 ∨ u17 = .int .i64 1) ∧ w1 = wr) (fun u17 _ => 1 - (intOf u17).toNat)
  case atStart => exact ⟨.inl rfl, rfl⟩
  case round =>
    obtain ⟨rfl | rfl, rfl⟩ := hrel
    · go_wp2_with (go_at_call 157; refine (QA.out _ _).mono ?_; rintro e w2 ⟨rfl, rfl⟩)
      go_roundw
      case rel => exact ⟨.inr rfl, trivial⟩
      case measure => simp [intOf]
    · go_wp2
      go_ret
      exact ⟨rfl, HB.out⟩
/-- A tag, and how many bytes its one part has. -/
def okT (t n : Nat) : Prop := one1 t ∨ one2 t n
theorem okT_in {t n : Nat} (h : okT t n) : 1 ≤ t ∧ t ≤ 9 := h.elim one1_in one2_in
theorem tag_ne {t : Nat} (h : 1 ≤ t ∧ t ≤ 9) : (tagB t).toList.isEmpty = false := by
  obtain rfl | rfl | rfl | rfl | rfl | rfl | rfl | rfl | rfl : t = 1 ∨ t = 2 ∨ t = 3 ∨ t = 4 ∨ t = 5 ∨ t = 6 ∨ t = 7 ∨ t = 8 ∨ t = 9 := by omega
  all_goals (rw [ByteArray.toList_eq]; rfl)
theorem tag_len {t : Nat} (h : 1 ≤ t ∧ t ≤ 9) : (tagB t).size ≤ 20 := by
  obtain rfl | rfl | rfl | rfl | rfl | rfl | rfl | rfl | rfl : t = 1 ∨ t = 2 ∨ t = 3 ∨ t = 4 ∨ t = 5 ∨ t = 6 ∨ t = 7 ∨ t = 8 ∨ t = 9 := by omega
  all_goals decide
theorem rfits_okT (t n : Nat) (ht : okT t n) (b o c : Nat) (Ap : Option Addr) (cp : Nat) (w : World) (hc : w.cell? ⟨b, o, none⟩ = some (.slice Ap n cp)) : Calls Tryz.prog 103 #[.int .u8 (t : Int), .slice (some ⟨b, o, none⟩) 1 c] w fun e w' => e = .returned (.bool true) ∧ w = w' :=
  ht.elim (fun h => rfits_one t h _ c w) fun h => rfits_two t n h b o c Ap cp w hc
theorem fit_okT (t n : Nat) (ht : okT t n) (b o c : Nat) (Ap : Option Addr) (cp : Nat) (w : World) (hb : b < w.heap.size) (hc : w.cell? ⟨b, o, none⟩ = some (.slice Ap n cp)) : Calls Tryz.prog 116 #[.int .u8 (t : Int), .slice (some ⟨b, o, none⟩) 1 c] w fun e w' => e = .returned (.bool true) ∧ Below w.heap.size w w' :=
  ht.elim (fun h => fit_one t h b o c Ap n cp w hb hc) fun h => fit_two t n h b o c Ap cp w hb hc
set_option maxRecDepth 10000 in
set_option maxHeartbeats 4000000 in
theorem rbytes_one (t : Nat) (l : List UInt8) (ht : okT t l.length) (b o c : Nat) (Ap : Option Addr) (cp : Nat) (w : World) (hb : b < w.heap.size) (hc : w.cell? ⟨b, o, none⟩ = some (.slice Ap l.length cp)) (hv : By w (.slice Ap l.length cp) l) (hl : l.length ≤ 1099511627000) :
    Calls Tryz.prog 87 #[.int .u8 (t : Int), .slice (some ⟨b, o, none⟩) 1 c] w fun e w' => ∃ v', e = .returned (.tuple #[v', .int .i64 0]) ∧ Own w' w.heap.size 5 v' (framedL [lst (tagB t), l]) ∧ Below w.heap.size w w' := by
  have hne : (tagB t).toList.isEmpty = false := tag_ne (okT_in ht)
  have htl : (tagB t).size ≤ 20 := tag_len (okT_in ht)
  have QW := hide (fun w => rword_any t (okT_in ht) w)
  have QF := hide (rfits_okT t l.length ht b o c Ap cp w hc)
  obtain ⟨s, hs⟩ : ∃ s, s = tagB t := ⟨_, rfl⟩
  rw [← hs] at QW hne htl ⊢
  obtain ⟨n, hn⟩ : ∃ n, n = l.length := ⟨_, rfl⟩
  rw [← hn] at hc hv hl
  obtain ⟨g, cc, w2, hr, hby, b2, -, -, -, -⟩ := run_bytes_str 9 32 5 s w Tryz.underlying9 Tryz.underlying32 Tryz.underlying5 (by unfold maxLen; omega)
  have HB := hide (And.intro hby (And.intro b2 (And.intro hv (And.intro hn (And.intro hc (And.intro hb htl))))))
  have Q1 := hide (rframe_any _ (lst s) w2 hby (by rw [lst_len]; omega))
  have Q2 := hide (fun (W : World) (hW : Below w.heap.size w W) => rframe_any _ l W (hv.below hW) (by omega))
  clear hs hby b2 hv hn hc hb htl
  go_enter Tryz.func87, Tryz.ntmps87
  go_wp2_with first
    | (go_at_call 102; refine (QW.out _).mono ?_; rintro e w5 ⟨rfl, rfl⟩)
    | (go_at_call 103; refine QF.out.mono ?_; rintro e w5 ⟨rfl, rfl⟩)
    | (go_at_call 104; refine Q1.out.mono ?_; rintro e w3 ⟨v3, rfl, o3, b3⟩)
  have HI := hide (show Own w3 w.heap.size 5 v3 (frameL (lst s)) ∧ Below w.heap.size w w3 from ⟨own_lower o3 HB.out.2.1.size, HB.out.2.1.trans (b3.mono HB.out.2.1.size)⟩)
  clear o3 b3 Q1 QW QF
  go_loopw [6, 7] (fun u6 u7 wr => ((u7 = .int .i64 0 ∧ Own wr w.heap.size 5 u6 (frameL (lst s))) ∨ (u7 = .int .i64 1 ∧ Own wr w.heap.size 5 u6 (frameL (lst s) ++ frameL l))) ∧ Below w.heap.size w wr) (fun _ u7 _ => 1 - (intOf u7).toNat)
  case atStart => exact ⟨.inl ⟨rfl, HI.out.1⟩, HI.out.2⟩
  case round =>
    clear HI
    obtain ⟨⟨rfl, ho⟩ | ⟨rfl, ho⟩, hbel⟩ := hrel
    · have HO := hide ho
      have hcx : wr.cell? ⟨b, o, none⟩ = some (.slice Ap n cp) := (hbel.cell (p := ⟨b, o, none⟩) HB.out.2.2.2.2.2.1).trans HB.out.2.2.2.2.1
      clear ho
      go_wp2_with first
        | (go_at_call 104; refine (Q2.out _ hbel).mono ?_; rintro e w4 ⟨v4, rfl, o4, b4⟩; go_loud (have H4 := hide (And.intro (HO.out.below b4) (And.intro (hbel.trans (b4.mono hbel.size)) o4.by_)); clear o4 b4))
        | (at_builtin; go_loud (refine wpList_pushV elem8 H4.out.1 H4.out.2.1 H4.out.2.1.size H4.out.2.2 (by have := HB.out.2.2.2.1; have := HB.out.2.2.2.2.2.2; rw [frameL_length, frameL_length, lst_len]; omega) rfl _ _ rfl rfl (by obtain ⟨A9, c9, h9, -⟩ := H4.out.2.2.form; exact rfl) ?_); intro v5 w6 o5 b5 _ _)
      go_roundw
      case rel => exact ⟨.inr ⟨rfl, o5⟩, b5⟩
      case measure => simp [intOf]
    · go_wp2
      go_ret2
      refine ⟨_, rfl, ?_, hbel⟩
      have h9 : framedL [lst s, l] = frameL (lst s) ++ frameL l := by simp [framedL]
      rw [h9]
      exact ho
end Go.Proofs.YtcpceaflnnkhnaaGreatDoor

/- The library's Concat of lists of lists of bytes. -/
namespace Go.Proofs.YtcpceaflnnkhnaaGreatDoor
open Go.RowKit

theorem elemR : Elem1 Tryz.prog 40 32 (.slice none 0 0) 24 := ⟨Tryz.underlying40, by kernel_rfl, rfl⟩
theorem own_none (w : World) (n c : Nat) (h1 : n ≤ c) (h2 : c ≤ maxLen) :
    (w.alloc (.cells (Builtin.zeroCells #[.slice none 0 0] n ++ Builtin.zeroCells #[.slice none 0 0] (c - n)) 32)).drew.ownsRow w.heap.size 32 1 (.slice (some ⟨w.heap.size, 0, none⟩) 0 c) 0 [] := by
  have := (Blk.new w 32 (Builtin.zeroCells #[.slice none 0 0] n ++ Builtin.zeroCells #[.slice none 0 0] (c - n))).drew.own (base := w.heap.size) (e := 32) (n := 0) (cap := c) (sz := 1) rfl (Nat.le_refl _) (by simp [size_zeroCells]; omega) (Nat.zero_le _) h2
  simpa using this
set_option maxRecDepth 100000 in
set_option maxHeartbeats 1000000 in
theorem growR_any (n : Nat) (w : World) (hn : n ≤ 1048576) :
    Calls Tryz.prog 138 #[.slice none 0 0, .int .i64 (n : Int)] w fun e w' => ∃ v, e = .returned v ∧ w'.ownsRow w.heap.size 32 1 v 0 [] ∧ Below w.heap.size w w' := by
  by_cases h0 : n = 0
  · have g1 : (n : Int) = 0 := by omega
    rw [g1]
    go_enter Tryz.func138, Tryz.ntmps138
    go_wp2
    go_ret
    exact ⟨_, rfl, World.ownsRow_nil _ _ _ _, Below.refl _ _⟩
  · have g1 : ¬ (n : Int) < 0 := by omega
    have g2 : (0 : Int) < (n : Int) := by omega
    have g3 : ¬ (281474976710656 : Int) < (n : Int) * ((Tryz.t32).bytes : Int) := by
      have : ((Tryz.t32).bytes : Int) = 24 := by kernel_rfl
      rw [this]; omega
    have g4 : ¬ 281474976710656 < Builtin.nextslicecap n 0 * (Tryz.t32).bytes := by
      have h1 : (Tryz.t32).bytes = 24 := by kernel_rfl
      have h2 : Builtin.nextslicecap n 0 = n := by unfold Builtin.nextslicecap; simp; omega
      rw [h1, h2]; omega
    go_enter Tryz.func138, Tryz.ntmps138
    go_wp2
    go_ret
    refine ⟨_, rfl, ?_, ?_⟩
    · exact own_none w n _ (grownCap_ge w n 0 32) (grownCap_le_maxLen w n 0 32 (by unfold maxLen; omega))
    · exact ((Below.refl _ w).alloc (Nat.le_refl _) _).drew
/-- 'append(out, s...)', out a row of slices of the call's own. -/
theorem wpList_pushG {P : Program} {t e : TypeId} {z : Value} {bytes : Nat} (T : Elem1 P t e z bytes) {w : World} {base : Nat} {v : Value} {n : Nat} {xs : List Value} (hown : w.ownsRow base e 1 v n xs)
    {w0 : World} (hb : Below base w0 w) (hbase : base ≤ w.heap.size) {u : Value} {m : Nat} {ys : List Value} (hu : Sl w 1 u m ys) (h63 : n + m ≤ maxLen) (hbytes : (n + m) * bytes ≤ 140737488355328) (h1 : ∀ y ∈ ys, y.oneCell' = true)
    {ops : Array Oper} {rest : List Oper} {o : Oper} {a : Act} {Q : Exit → Act → World → Prop} (hgd : o.guard = none) (s y : Operand)
    (ho : o.op = .call { callee := .builtin .append, args := #[s, y], argTypes := #[t, t] }) (hs : a.eval s = v) (hx : a.eval y = u)
    (h : ∀ v' w', w'.ownsRow base e 1 v' (n + m) (xs ++ ys) → Below base w0 w' → wpList P ops Q rest (a.put o.dst v') w') :
    wpList P ops Q (o :: rest) a w := by
  refine wpList_plain hgd fun K hK => ?_
  obtain ⟨v', w', hrun, h3, h4, h6⟩ := run_pushS (P := P) T o.type hown hu h63 hbytes hbase h1
  unfold Oper.wp execOp
  simp only [ho, resolve, invoke, builtin, Sem.run_bind, Sem.run_pure, Result.andThen_ok, List.map_toArray, List.map_cons, List.map_nil, hs, hx, hrun]
  exact hK _ _ (h v' w' h3 (hb.grown h4 hbase fun k hk => (hown.lt k hk).1))
set_option maxRecDepth 100000 in
set_option maxHeartbeats 2000000 in
/-- Two lists of one slice each, laid behind one another. -/
theorem concatR_two (g : Nat) (gc : Nat) (u v x y : Value) (w : World) (h0 : w.cell? ⟨g, 0, none⟩ = some u) (h1 : w.cell? ⟨g, 1, none⟩ = some v) (hg : g < w.heap.size) (hu : Sl w 1 u 1 [x]) (hv : Sl w 1 v 1 [y]) (hx : x.oneCell' = true) (hy : y.oneCell' = true) :
    Calls Tryz.prog 118 #[.slice (some ⟨g, 0, none⟩) 2 2] w fun e w' => ∃ r, e = .returned r ∧ Sl w' 1 r 2 [x, y] ∧ Below w.heap.size w w' := by
  obtain ⟨Au, cu, rfl, -, -, -⟩ := hu.form
  obtain ⟨Av, cv, rfl, -, -, -⟩ := hv.form
  have HG := hide (growR_any 2)
  have HU := hide (And.intro hu (And.intro hv (And.intro hx hy)))
  clear hu hv hx hy
  go_enter Tryz.func118, Tryz.ntmps118
  go_wp2
  go_loopw [3, 11] (fun u3 u11 wr => ((u11 = .int .i64 0 ∧ u3 = .int .i64 0) ∨ (u11 = .int .i64 1 ∧ u3 = .int .i64 1) ∨ (u11 = .int .i64 2 ∧ u3 = .int .i64 2)) ∧ w = wr) (fun _ i _ => 2 - (intOf i).toNat)
  case atStart => exact ⟨.inl ⟨rfl, rfl⟩, rfl⟩
  case round =>
    obtain ⟨⟨rfl, rfl⟩ | ⟨rfl, rfl⟩ | ⟨rfl, rfl⟩, rfl⟩ := hrel
    · go_wp2
      go_roundw
      case rel => simp
      case measure => simp [intOf]
    · go_wp2
      go_roundw
      case rel => simp
      case measure => simp [intOf]
    · have HG2 := hide (show Calls Tryz.prog 138 #[.slice none 0 0, .int .i64 2] w _ from HG.out w (by omega))
      go_wp2_with (go_at_call 138; refine HG2.out.mono ?_; rintro e w1 ⟨v0, rfl, o1, b1⟩)
      have HI := hide (And.intro o1 b1)
      clear o1 b1
      go_loopw [6, 27] (fun u6 u27 wr => ((u27 = .int .i64 0 ∧ wr.ownsRow w.heap.size 32 1 u6 0 []) ∨ (u27 = .int .i64 1 ∧ wr.ownsRow w.heap.size 32 1 u6 1 [x]) ∨ (u27 = .int .i64 2 ∧ wr.ownsRow w.heap.size 32 1 u6 2 [x, y])) ∧ Below w.heap.size w wr) (fun _ i _ => 2 - (intOf i).toNat)
      case atStart => exact ⟨.inl ⟨rfl, HI.out.1⟩, HI.out.2⟩
      case round =>
        clear HI
        obtain ⟨⟨rfl, ho⟩ | ⟨rfl, ho⟩ | ⟨rfl, ho⟩, hb⟩ := hrel
        · have HO := hide ho
          have c0 : wr.cell? ⟨g, 0, none⟩ = some (.slice Au 1 cu) := (hb.cell (p := ⟨g, 0, none⟩) hg).trans h0
          clear ho
          go_wp2_with (at_builtin; go_loud (refine wpList_pushG elemR HO.out hb hb.size (HU.out.1.below hb) (by unfold maxLen; omega) (by omega) (by intro z hz; simp at hz; rw [hz]; exact HU.out.2.2.1) rfl _ _ rfl rfl rfl ?_); intro v2 w2 o2 b2)
          go_roundw
          case rel => exact ⟨.inr (.inl ⟨rfl, by simpa using o2⟩), b2⟩
          case measure => simp [intOf]
        · have HO := hide ho
          have c0 : wr.cell? ⟨g, 1, none⟩ = some (.slice Av 1 cv) := (hb.cell (p := ⟨g, 1, none⟩) hg).trans h1
          clear ho
          go_wp2_with (at_builtin; go_loud (refine wpList_pushG elemR HO.out hb hb.size (HU.out.2.1.below hb) (by unfold maxLen; omega) (by omega) (by intro z hz; simp at hz; rw [hz]; exact HU.out.2.2.2) rfl _ _ rfl rfl rfl ?_); intro v2 w2 o2 b2)
          go_roundw
          case rel => exact ⟨.inr (.inr ⟨rfl, by simpa using o2⟩), b2⟩
          case measure => simp [intOf]
        · go_wp2
          go_ret
          exact ⟨_, rfl, Sl.of_own ho, hb⟩
end Go.Proofs.YtcpceaflnnkhnaaGreatDoor

/- The program's tagged bytes of one part. -/
namespace Go.Proofs.YtcpceaflnnkhnaaGreatDoor
open Go.RowKit

theorem sl_one {w : World} {b o c : Nat} {x : Value} (hb : b < w.heap.size) (hc : w.cell? ⟨b, o, none⟩ = some x) (h1 : 1 ≤ c) (h2 : c ≤ maxLen) : Sl w 1 (.slice (some ⟨b, o, none⟩) 1 c) 1 [x] :=
  ⟨rfl, _, _, rfl, h1, h2, fun _ => ⟨b, o, rfl, hb, fun j hj => by
    have : j = 0 := by omega
    subst this
    simpa using hc⟩⟩
set_option maxRecDepth 10000 in
set_option maxHeartbeats 4000000 in
theorem bytes_one (t : Nat) (l : List UInt8) (ht : okT t l.length) (b o c : Nat) (Ap : Option Addr) (cp : Nat) (w : World) (hb : b < w.heap.size) (h1c : 1 ≤ c ∧ c ≤ maxLen) (hc : w.cell? ⟨b, o, none⟩ = some (.slice Ap l.length cp)) (hv : By w (.slice Ap l.length cp) l) (hl : l.length ≤ 1099511627000) :
    Calls Tryz.prog 100 #[.int .u8 (t : Int), .slice (some ⟨b, o, none⟩) 1 c] w fun e w' => ∃ v', e = .returned (.tuple #[v', .int .i64 0]) ∧ Own w' w.heap.size 5 v' (framedL [lst (tagB t), l]) ∧ Below w.heap.size w w' := by
  have hne : (tagB t).toList.isEmpty = false := tag_ne (okT_in ht)
  have htl : (tagB t).size ≤ 20 := tag_len (okT_in ht)
  have QW := hide (fun w => word_any t (okT_in ht) w)
  obtain ⟨s, hs⟩ : ∃ s, s = tagB t := ⟨_, rfl⟩
  rw [← hs] at QW hne htl ⊢
  obtain ⟨n, hn⟩ : ∃ n, n = l.length := ⟨_, rfl⟩
  rw [← hn] at hc hv hl ht
  have QF := hide (fit_okT t n ht b o c Ap cp w hb hc)
  have HB := hide (And.intro hv (And.intro hn (And.intro hc (And.intro hb (And.intro htl (And.intro h1c hl))))))
  clear hs hv hn hc hb htl h1c
  go_enter Tryz.func100, Tryz.ntmps100
  go_wp2_with first
    | (go_at_call 115; refine (QW.out _).mono ?_; rintro e w5 ⟨rfl, rfl⟩)
    | (go_at_call 116; refine QF.out.mono ?_; rintro e w1 ⟨rfl, b1⟩; go_loud (obtain ⟨g, cc, w2, hr, hby, b2, -, -, hcc, hcm⟩ := run_bytes_str 9 32 5 s w1 Tryz.underlying9 Tryz.underlying32 Tryz.underlying5 (by have := HB.out.2.2.2.2.1; unfold maxLen; omega); have H2 := hide (And.intro hby (And.intro (b1.trans (b2.mono b1.size)) (And.intro hcc hcm))); clear b1 b2 hby hcc hcm))
  have ha : Below w2.heap.size w2 (w2.alloc (.cells #[.slice (some ⟨g, 0, none⟩) s.size cc] 32)) := (Below.refl _ w2).alloc (Nat.le_refl _) _
  have hab : Below w2.heap.size w2 ((w2.alloc (.cells #[.slice (some ⟨g, 0, none⟩) s.size cc] 32)).alloc (.cells #[.slice (some ⟨w2.heap.size, 0, none⟩) 1 1, .slice (some ⟨b, o, none⟩) 1 c] 40)) := ha.alloc (by simp) _
  have k1 := Blk.new (w2.alloc (.cells #[.slice (some ⟨g, 0, none⟩) s.size cc] 32)) 40 #[.slice (some ⟨w2.heap.size, 0, none⟩) 1 1, .slice (some ⟨b, o, none⟩) 1 c]
  have k2 := (Blk.new w2 32 #[.slice (some ⟨g, 0, none⟩) s.size cc]).alloc (.cells #[.slice (some ⟨w2.heap.size, 0, none⟩) 1 1, .slice (some ⟨b, o, none⟩) 1 c] 40)
  rw [World.size_alloc] at k1
  have hbw : b < w2.heap.size := Nat.lt_of_lt_of_le HB.out.2.2.2.1 H2.out.2.1.size
  have hcw : w2.cell? ⟨b, o, none⟩ = some (.slice Ap n cp) := (H2.out.2.1.cell (p := ⟨b, o, none⟩) HB.out.2.2.2.1).trans HB.out.2.2.1
  have QC := hide (concatR_two (w2.heap.size + 1) 2 _ _ (.slice (some ⟨g, 0, none⟩) s.size cc) (.slice Ap n cp) _ ((k1.cell 0).trans rfl) ((k1.cell 1).trans rfl) k1.lt (sl_one k2.lt ((k2.cell 0).trans rfl) (Nat.le_refl _) (by unfold maxLen; omega)) (sl_one (Nat.lt_of_lt_of_le hbw hab.size) ((hab.cell (p := ⟨b, o, none⟩) hbw).trans hcw) HB.out.2.2.2.2.2.1.1 HB.out.2.2.2.2.2.1.2) rfl rfl)
  have HAB := hide hab
  clear ha hab k1 k2 hbw hcw
  with_reducible refine QC.out.mono ?_
  rintro e w3 ⟨r, rfl, hr3, b3⟩
  obtain ⟨Ar, cr, rfl, -, -, -⟩ := hr3.form
  have hb23 : Below w2.heap.size w2 w3 := HAB.out.trans (b3.mono HAB.out.size)
  have QR := hide (framed_any (.slice Ar 2 cr) [(.slice (some ⟨g, 0, none⟩) s.size cc, lst s), (.slice Ap n cp, l)] w3 ⟨hr3, fun x hx => by
    simp only [List.mem_cons, List.mem_nil_iff, or_false] at hx
    rcases hx with rfl | rfl
    · exact H2.out.1.below hb23
    · exact (HB.out.1.below H2.out.2.1).below hb23⟩ (by have := HB.out.2.2.2.2.1; have := HB.out.2.1; simp [total, lst_len]; omega) (by simp))
  have HX := hide (H2.out.2.1.trans (hb23.mono H2.out.2.1.size))
  clear hb23 hr3 b3 QC HAB
  go_wp2_with (go_at_call 117; refine QR.out.mono ?_; rintro e w4 ⟨v4, rfl, o4, b4⟩)
  go_ret2
  refine ⟨_, rfl, own_lower o4 HX.out.size, HX.out.trans (b4.mono HX.out.size)⟩
end Go.Proofs.YtcpceaflnnkhnaaGreatDoor

/- Words of 32 bits, turned: the library's RotateLeft32, the document's turn. -/
namespace Go.Proofs.YtcpceaflnnkhnaaGreatDoor
open Go.RowKit

/-- Words, with names that the walk does not open. -/
def xo (a b : UInt32) : UInt32 := a ^^^ b
def an (a b : UInt32) : UInt32 := a &&& b
def ad (a b : UInt32) : UInt32 := a + b
def nt (a : UInt32) : UInt32 := 4294967295 ^^^ a
def sr (a : UInt32) (n : Nat) : UInt32 := UInt32.ofNat (a.toNat / 2 ^ n)
def rr (a : UInt32) (n : Nat) : UInt32 := UInt32.ofNat (a.toNat / 2 ^ n ||| a.toNat * 2 ^ (32 - n) % 4294967296)
theorem w_lt (a : UInt32) : a.toNat < 4294967296 := a.toNat_lt
theorem w_xor (a b : UInt32) : bits .xor .u32 (a.toNat : Int) (b.toNat : Int) = ((xo a b).toNat : Int) := by
  rw [u32_xor_nat _ _ (w_lt a) (w_lt b)]; unfold xo; rw [UInt32.toNat_xor]
theorem w_and (a b : UInt32) : bits .and .u32 (a.toNat : Int) (b.toNat : Int) = ((an a b).toNat : Int) := by
  rw [u32_and_nat _ _ (w_lt a) (w_lt b)]; unfold an; rw [UInt32.toNat_and]
theorem w_add (a b : UInt32) : IntKind.u32.wrap ((a.toNat : Int) + (b.toNat : Int)) = ((ad a b).toNat : Int) := by
  unfold ad
  rw [IntKind.wrap_u32', UInt32.toNat_add]
  omega
theorem w_add' (a b : UInt32) : ((a.toNat : Int) + (b.toNat : Int)) % 4294967296 = ((ad a b).toNat : Int) := by
  rw [← w_add, IntKind.wrap_u32']
theorem w_not (a : UInt32) : bits .xor .u32 4294967295 (a.toNat : Int) = ((nt a).toNat : Int) := by
  rw [show (4294967295 : Int) = ((4294967295 : Nat) : Int) from rfl, u32_xor_nat _ _ (by omega) (w_lt a)]; unfold nt; rw [UInt32.toNat_xor]; rfl
theorem w_not' (a : UInt32) : bits .xor .u32 IntKind.u32.max (a.toNat : Int) = ((nt a).toNat : Int) := w_not a
theorem ofNat_lt {n : Nat} (h : n < 4294967296) : (UInt32.ofNat n).toNat = n := by rw [UInt32.toNat_ofNat']; exact Nat.mod_eq_of_lt h
theorem w_shr (a : UInt32) (n : Nat) : (a.toNat : Int) / 2 ^ n = ((sr a n).toNat : Int) := by
  unfold sr
  rw [ofNat_lt (Nat.lt_of_le_of_lt (Nat.div_le_self _ _) (w_lt a))]
  simp
theorem w_rr (x : UInt32) (n m : Nat) (h : n + m = 32) : bits .or .u32 ((x.toNat : Int) / 2 ^ n) ((x.toNat : Int) * 2 ^ m % 4294967296) = ((rr x n).toNat : Int) := by
  have e1 : (x.toNat : Int) / 2 ^ n = ((x.toNat / 2 ^ n : Nat) : Int) := by simp
  have e2 : (x.toNat : Int) * 2 ^ m % 4294967296 = ((x.toNat * 2 ^ m % 4294967296 : Nat) : Int) := by simp
  have h1 : x.toNat / 2 ^ n < 4294967296 := Nat.lt_of_le_of_lt (Nat.div_le_self _ _) (w_lt x)
  have h2 : x.toNat * 2 ^ m % 4294967296 < 4294967296 := Nat.mod_lt _ (by omega)
  rw [e1, e2, u32_or_nat _ _ h1 h2]
  unfold rr
  rw [show 32 - n = m by omega, ofNat_lt (Nat.or_lt_two_pow (n := 32) h1 h2)]
theorem w_rr' (x : UInt32) (n m : Nat) (h : n + m = 32) : bits .or .u32 ((x.toNat : Int) * 2 ^ m % 4294967296) ((x.toNat : Int) / 2 ^ n) = ((rr x n).toNat : Int) := by
  rw [← w_rr x n m h]
  have e1 : (x.toNat : Int) / 2 ^ n = ((x.toNat / 2 ^ n : Nat) : Int) := by simp
  have e2 : (x.toNat : Int) * 2 ^ m % 4294967296 = ((x.toNat * 2 ^ m % 4294967296 : Nat) : Int) := by simp
  have h1 : x.toNat / 2 ^ n < 4294967296 := Nat.lt_of_le_of_lt (Nat.div_le_self _ _) (w_lt x)
  have h2 : x.toNat * 2 ^ m % 4294967296 < 4294967296 := Nat.mod_lt _ (by omega)
  rw [e1, e2, u32_or_nat _ _ h1 h2, u32_or_nat _ _ h2 h1, Nat.or_comm]
theorem ad_assoc (a b c : UInt32) : ad (ad a b) c = ad a (ad b c) := UInt32.add_assoc a b c
theorem neg_and (n : Nat) (h : 1 ≤ n ∧ n ≤ 31) : bits .and .u64 (IntKind.u64.wrap (-(n : Int))) 31 = ((32 - n : Nat) : Int) := by
  have e : IntKind.u64.wrap (-(n : Int)) = ((18446744073709551616 - n : Nat) : Int) := by
    simp [IntKind.wrap, IntKind.bits, IntKind.signed]
    omega
  rw [e, show (31 : Int) = ((31 : Nat) : Int) from rfl, u64_and_nat _ _ (by omega) (by omega)]
  have h2 : (18446744073709551616 - n) &&& 31 = (18446744073709551616 - n) % 32 := Nat.and_two_pow_sub_one_eq_mod (n := 5) _
  rw [h2]
  omega

set_option maxHeartbeats 400000 in
theorem turn_any (x : UInt32) (n : Nat) (w : World) (h : 1 ≤ n ∧ n ≤ 31) :
    Calls Tryz.prog 125 #[.int .u32 (x.toNat : Int), .int .u64 (n : Int)] w fun e w' => e = .returned (.int .u32 ((rr x n).toNat : Int)) ∧ w = w' := by
  have hr := w_rr x n (32 - n) (by omega)
  go_enter Tryz.func125, Tryz.ntmps125
  go_wp2
  go_ret
  exact ⟨ret_int (by first | rfl | exact hr), rfl⟩
set_option maxHeartbeats 400000 in
theorem rotl_any (x : UInt32) (n : Nat) (w : World) (h : 1 ≤ n ∧ n ≤ 31) :
    Calls Tryz.prog 177 #[.int .u32 (x.toNat : Int), .int .i64 (-(n : Int))] w fun e w' => e = .returned (.int .u32 ((rr x n).toNat : Int)) ∧ w = w' := by
  have hn := neg_and n h
  obtain ⟨m, hm⟩ : ∃ m, m = 32 - n := ⟨_, rfl⟩
  rw [← hm] at hn
  have hr := w_rr' x n m (by omega)
  have h32 : 32 - (m : Int) = (n : Int) := by omega
  have hm1 : 1 ≤ m ∧ m ≤ 31 := by omega
  have HR := hide hr
  clear hm hr
  go_enter Tryz.func177, Tryz.ntmps177
  go_wp2
  go_ret
  exact ⟨ret_int HR.out, rfl⟩
/-- Turned by a number of the program's spelling. -/
def rkh (x : UInt32) (k : Int) : UInt32 := rr x k.natAbs
theorem rotl_k (x : UInt32) (k : Int) (w : World) (h : -31 ≤ k ∧ k ≤ -1) : Calls Tryz.prog 177 #[.int .u32 (x.toNat : Int), .int .i64 k] w fun e w' => e = .returned (.int .u32 ((rkh x k).toNat : Int)) ∧ w' = w := by
  have h1 := rotl_any x k.natAbs w (by omega)
  rw [show -((k.natAbs : Nat) : Int) = k by omega] at h1
  exact h1.mono fun _ _ ⟨a, b⟩ => ⟨a, b.symm⟩
theorem turn_k (x : UInt32) (k : Int) (w : World) (h : 1 ≤ k ∧ k ≤ 31) : Calls Tryz.prog 125 #[.int .u32 (x.toNat : Int), .int .u64 k] w fun e w' => e = .returned (.int .u32 ((rkh x k).toNat : Int)) ∧ w' = w := by
  have h1 := turn_any x k.natAbs w (by omega)
  rw [show ((k.natAbs : Nat) : Int) = k by omega] at h1
  exact h1.mono fun _ _ ⟨a, b⟩ => ⟨a, b.symm⟩
end Go.Proofs.YtcpceaflnnkhnaaGreatDoor

/- One round of the digest: the program's. -/
namespace Go.Proofs.YtcpceaflnnkhnaaGreatDoor
open Go.RowKit

/-- The eight words. -/
structure H8 where
  (a b c d e f g h : UInt32)
def H8.cells (s : H8) : Array Value := #[.int .u32 (s.a.toNat : Int), .int .u32 (s.b.toNat : Int), .int .u32 (s.c.toNat : Int), .int .u32 (s.d.toNat : Int), .int .u32 (s.e.toNat : Int), .int .u32 (s.f.toNat : Int), .int .u32 (s.g.toNat : Int), .int .u32 (s.h.toNat : Int)]
def S1 (e : UInt32) : UInt32 := xo (xo (rr e 6) (rr e 11)) (rr e 25)
def S0 (a : UInt32) : UInt32 := xo (xo (rr a 2) (rr a 13)) (rr a 22)
def chf (e f g : UInt32) : UInt32 := xo (an e f) (an (nt e) g)
def mjf (a b c : UInt32) : UInt32 := xo (xo (an a b) (an a c)) (an b c)
def ru (s : H8) (k : UInt32) : UInt32 := ad (ad (ad s.h (S1 s.e)) (chf s.e s.f s.g)) k
def rv (s : H8) : UInt32 := ad (S0 s.a) (mjf s.a s.b s.c)
/-- One round. -/
def rnd (s : H8) (k : UInt32) : H8 := ⟨ad (ru s k) (rv s), s.a, s.b, s.c, ad s.d (ru s k), s.e, s.f, s.g⟩

/-- A quiet call in a world that has drawn before. -/
theorem quiet_add_same {P : Program} {f : FuncId} {args : Array Value} {w : World} {a n : Nat} {v : Value}
    (h : Calls P f args (w.drewN (a + n)) fun e w' => e = .returned v ∧ w' = w.drewN (a + n)) :
    Calls P f args (w.drewN (a + n)) fun e w'' => e = .returned v ∧ ∃ m, w'' = w.drewN (a + m) :=
  h.mono fun _ _ ⟨h1, h2⟩ => ⟨h1, n, h2⟩
set_option maxRecDepth 100000 in
set_option maxHeartbeats 4000000 in
theorem round_any (s : H8) (k : UInt32) (w : World) :
    Calls Tryz.prog 163 #[.agg s.cells, .int .u32 (k.toNat : Int)] w fun e w' => e = .returned (.agg (rnd s k).cells) ∧ Below w.heap.size w w' := by
  obtain ⟨a, b, c, d, e, f, g, hh⟩ := s
  unfold H8.cells
  obtain ⟨R, hR⟩ : ∃ R, R = rkh := ⟨_, rfl⟩
  obtain ⟨X, hX⟩ : ∃ X, X = xo := ⟨_, rfl⟩
  obtain ⟨A, hA⟩ : ∃ A, A = an := ⟨_, rfl⟩
  obtain ⟨D, hD⟩ : ∃ D, D = ad := ⟨_, rfl⟩
  obtain ⟨N, hN⟩ : ∃ N, N = nt := ⟨_, rfl⟩
  have x1 : ∀ a b : UInt32, bits .xor .u32 (a.toNat : Int) (b.toNat : Int) = ((X a b).toNat : Int) := by rw [hX]; exact w_xor
  have x2 : ∀ a b : UInt32, bits .and .u32 (a.toNat : Int) (b.toNat : Int) = ((A a b).toNat : Int) := by rw [hA]; exact w_and
  have x3 : ∀ a b : UInt32, IntKind.u32.wrap ((a.toNat : Int) + (b.toNat : Int)) = ((D a b).toNat : Int) := by rw [hD]; exact w_add
  have x4 : ∀ a b : UInt32, ((a.toNat : Int) + (b.toNat : Int)) % 4294967296 = ((D a b).toNat : Int) := by rw [hD]; exact w_add'
  have x5 : ∀ a : UInt32, bits .xor .u32 IntKind.u32.max (a.toNat : Int) = ((N a).toNat : Int) := by rw [hN]; exact w_not'
  have qr : ∀ (x : UInt32) (k : Int) (w : World), (-31 ≤ k ∧ k ≤ -1) → Calls Tryz.prog 177 #[.int .u32 (x.toNat : Int), .int .i64 k] w fun e w' => e = .returned (.int .u32 ((R x k).toNat : Int)) ∧ w' = w := by rw [hR]; exact rotl_k
  have QR := hide qr
  have HEQ := hide (And.intro hR (And.intro hX (And.intro hA (And.intro hD hN))))
  clear hR hX hA hD hN qr
  go_enter Tryz.func163, Tryz.ntmps163
  go_wp2
  go_quiet (fail)
  go_wp2
  go_quiet ((go_at_call 177; with_reducible exact quiet_add_same (QR.out _ _ _ (by omega))))
  go_wp2
  go_quiet ((go_at_call 177; with_reducible exact quiet_add_same (QR.out _ _ _ (by omega))))
  go_wp2
  have hE : rnd ⟨a, b, c, d, e, f, g, hh⟩ k = ⟨D (D (D (D hh (X (X (R e (-6)) (R e (-11))) (R e (-25)))) (X (A e f) (A (N e) g))) k) (D (X (X (R a (-2)) (R a (-13))) (R a (-22))) (X (X (A a b) (A a c)) (A b c))), a, b, c, D d (D (D (D hh (X (X (R e (-6)) (R e (-11))) (R e (-25)))) (X (A e f) (A (N e) g))) k), e, f, g⟩ := by
    obtain ⟨rfl, rfl, rfl, rfl, rfl⟩ := HEQ.out
    rfl
  have HE := hide hE
  clear hE
  refine bodyPost_ret (v := .agg (H8.cells ⟨D (D (D (D hh (X (X (R e (-6)) (R e (-11))) (R e (-25)))) (X (A e f) (A (N e) g))) k) (D (X (X (R a (-2)) (R a (-13))) (R a (-22))) (X (X (A a b) (A a c)) (A b c))), a, b, c, D d (D (D (D hh (X (X (R e (-6)) (R e (-11))) (R e (-25)))) (X (A e f) (A (N e) g))) k), e, f, g⟩)) ?_ rfl ⟨?_, ?_⟩
  · clear x1 x2 x3 x4 x5
    simp [results, Tryz.results163, go_sem, H8.cells]
  · rw [HE.out]; rfl
  · (repeat (refine Below.setCell ?_ (by simp) _))
    exact below_drewN (((Below.refl _ w).alloc (Nat.le_refl _) _).alloc (by simp) _) _
end Go.Proofs.YtcpceaflnnkhnaaGreatDoor

/- The words of a block, spread over the rounds: the program's schedule. -/
namespace Go.Proofs.YtcpceaflnnkhnaaGreatDoor
open Go.RowKit

/-- 64 words of which the first k are reckoned. -/
def fw (k : Nat) (f : Nat → UInt32) : Array Value := ((List.range k).map (fun i => Value.int .u32 ((f i).toNat : Int)) ++ List.replicate (64 - k) (Value.int .u32 0)).toArray
theorem fw_size {k : Nat} (f : Nat → UInt32) (h : k ≤ 64) : (fw k f).size = 64 := by simp [fw]; omega
theorem fw_get {k i : Nat} (f : Nat → UInt32) (h : i < k) : (fw k f)[i]? = some (.int .u32 ((f i).toNat : Int)) := by
  unfold fw
  rw [List.getElem?_toArray, List.getElem?_append_left (by simp; omega), List.getElem?_map, List.getElem?_range h]
  rfl
theorem fw_set {k : Nat} (f : Nat → UInt32) (h : k < 64) : (fw k f).setIfInBounds k (.int .u32 ((f k).toNat : Int)) = fw (k + 1) f := by
  unfold fw
  rw [List.setIfInBounds_toArray]
  congr 1
  rw [List.set_append_right _ _ (by simp), List.length_map, List.length_range, Nat.sub_self, show 64 - k = (64 - (k + 1)) + 1 by omega, List.replicate_succ, List.set_cons_zero, List.range_succ, List.map_append, List.append_assoc]
  rfl
theorem blk_newk (w : World) (g : Nat) (t : TypeId) (cs : Array Value) (h : g = w.heap.size) : Blk (w.alloc (.cells cs t)) g t cs := by rw [h]; exact Blk.new w t cs
theorem fw_zero (f : Nat → UInt32) : fw 0 f = (List.replicate 64 (Value.int .u32 0)).toArray := by simp [fw]

def sg0 (x : UInt32) : UInt32 := xo (xo (rkh x (-7)) (rkh x (-18))) (sr x 3)
def sg1 (x : UInt32) : UInt32 := xo (xo (rkh x (-17)) (rkh x (-19))) (sr x 10)
/-- Four bytes, the highest first. -/
def be4 (a b c d : UInt8) : UInt32 := UInt32.ofNat (a.toNat * 16777216 + b.toNat * 65536 + c.toNat * 256 + d.toNat)
theorem or_add (a b n : Nat) (h : b < 2 ^ n) : a * 2 ^ n ||| b = a * 2 ^ n + b := by
  rw [Nat.mul_comm]; exact (Nat.two_pow_add_eq_or_of_lt h a).symm
theorem be4_nat (a b c d : Nat) (ha : a < 256) (hb : b < 256) (hc : c < 256) (hd : d < 256) : ((a * 16777216 ||| b * 65536) ||| c * 256) ||| d = ((a * 256 + b) * 256 + c) * 256 + d := by
  have e1 : a * 16777216 ||| b * 65536 = a * 16777216 + b * 65536 := or_add a (b * 65536) 24 (by omega)
  have e2 : (a * 256 + b) * 65536 ||| c * 256 = (a * 256 + b) * 65536 + c * 256 := or_add (a * 256 + b) (c * 256) 16 (by omega)
  have e3 : ((a * 256 + b) * 256 + c) * 256 ||| d = ((a * 256 + b) * 256 + c) * 256 + d := or_add ((a * 256 + b) * 256 + c) d 8 (by omega)
  rw [e1, show a * 16777216 + b * 65536 = (a * 256 + b) * 65536 by omega, e2, show (a * 256 + b) * 65536 + c * 256 = ((a * 256 + b) * 256 + c) * 256 by omega, e3]
theorem be4_toNat (a b c d : UInt8) : (be4 a b c d).toNat = a.toNat * 16777216 + b.toNat * 65536 + c.toNat * 256 + d.toNat := by
  have h1 := a.toNat_lt
  have h2 := b.toNat_lt
  have h3 := c.toNat_lt
  have h4 := d.toNat_lt
  unfold be4
  exact ofNat_lt (by omega)
theorem be4_int (a b c d : UInt8) : bits .or .u32 (bits .or .u32 (bits .or .u32 ((a.toNat : Int) % 4294967296 * 16777216 % 4294967296) ((b.toNat : Int) % 4294967296 * 65536 % 4294967296)) ((c.toNat : Int) % 4294967296 * 256 % 4294967296)) ((d.toNat : Int) % 4294967296) = ((be4 a b c d).toNat : Int) := by
  have h1 := a.toNat_lt
  have h2 := b.toNat_lt
  have h3 := c.toNat_lt
  have h4 := d.toNat_lt
  rw [be4_toNat]
  generalize a.toNat = A at *
  generalize b.toNat = B at *
  generalize c.toNat = C at *
  generalize d.toNat = D at *
  rw [show (A : Int) % 4294967296 * 16777216 % 4294967296 = ((A * 16777216 : Nat) : Int) by omega, show (B : Int) % 4294967296 * 65536 % 4294967296 = ((B * 65536 : Nat) : Int) by omega,
    show (C : Int) % 4294967296 * 256 % 4294967296 = ((C * 256 : Nat) : Int) by omega, show (D : Int) % 4294967296 = (D : Int) by omega]
  have hn := be4_nat A B C D h1 h2 h3 h4
  rw [u32_or_nat _ _ (by omega) (by omega), u32_or_nat _ _ (Nat.or_lt_two_pow (n := 32) (by omega) (by omega)) (by omega), u32_or_nat _ _ (Nat.or_lt_two_pow (n := 32) (Nat.or_lt_two_pow (n := 32) (by omega) (by omega)) (by omega)) (by omega), hn]
  omega
/-- The words of a block. -/
def wdh (b : List UInt8) (t : Nat) : UInt32 :=
  if t < 16 then be4 (b.getD (4 * t) 0) (b.getD (4 * t + 1) 0) (b.getD (4 * t + 2) 0) (b.getD (4 * t + 3) 0)
  else ad (ad (ad (sg1 (wdh b (t - 2))) (wdh b (t - 7))) (sg0 (wdh b (t - 15)))) (wdh b (t - 16))
termination_by t
theorem wd_lo (b : List UInt8) {t : Nat} (h : t < 16) : wdh b t = be4 (b.getD (4 * t) 0) (b.getD (4 * t + 1) 0) (b.getD (4 * t + 2) 0) (b.getD (4 * t + 3) 0) := by
  rw [wdh, if_pos h]
theorem wd_hi (b : List UInt8) {t : Nat} (h : ¬ t < 16) : wdh b t = ad (ad (ad (sg1 (wdh b (t - 2))) (wdh b (t - 7))) (sg0 (wdh b (t - 15)))) (wdh b (t - 16)) := by
  rw [wdh, if_neg h]

set_option maxRecDepth 100000 in
set_option maxHeartbeats 4000000 in
theorem schedule_any (b : List UInt8) (w : World) (hb : b.length = 64) :
    Calls Tryz.prog 161 #[.agg (bcells b).toArray] w fun e w' => e = .returned (.agg (fw 64 (wdh b))) ∧ Below w.heap.size w w' := by
  obtain ⟨B, hB⟩ : ∃ B, B = (bcells b).toArray := ⟨_, rfl⟩
  have hsz : B.size = 64 := by rw [hB]; simp [hb]
  rw [← hB]
  have HB := hide hB
  clear hB
  go_enter Tryz.func161, Tryz.ntmps161
  go_wp2
  have hz : ((List.replicate 64 (Value.int .u32 0)).toArray) = fw 0 (wdh b) := (fw_zero _).symm
  go_loopw [4, 10] (fun _ u10 wr => ∃ i : Nat, i ≤ 16 ∧ u10 = .int .i64 (i : Int) ∧ Blk wr w.heap.size 190 B ∧ Blk wr (w.heap.size + 1) 202 (fw 0 (wdh b)) ∧ Blk wr (w.heap.size + 2) 202 (fw i (wdh b)) ∧ Below w.heap.size w wr) (fun _ i _ => 16 - (intOf i).toNat)
  case atStart =>
    refine ⟨0, by omega, rfl, ((Blk.new w _ _).alloc _).alloc _, ?_, ?_, (((Below.refl _ w).alloc (Nat.le_refl _) _).alloc (by simp) _).alloc (by simp; omega) _⟩
    · rw [← hz]
      exact (blk_newk _ _ _ _ (by simp)).alloc _
    · rw [← hz]
      exact blk_newk _ _ _ _ (by simp)
  case round =>
    clear hz
    obtain ⟨i, hi, rfl, h0, h1, h2, hbel⟩ := hrel
    have H := hide (And.intro h0 (And.intro h1 (And.intro h2 hbel)))
    clear h0 h1 h2 hbel
    obtain ⟨wz, hwz⟩ : ∃ x, x = wr := ⟨_, rfl⟩
    by_cases hlt : i < 16
    · obtain ⟨m, hm⟩ : ∃ m, m = 4 * i := ⟨_, rfl⟩
      have hmlt : m < 61 := by omega
      have hcell : ∀ j, j < 64 → ∃ x : UInt8, wr.cell? ⟨w.heap.size, j, none⟩ = some (.int .u8 (x.toNat : Int)) ∧ b.getD j 0 = x := by
        intro j hj
        refine ⟨b[j]'(by omega), ?_, by simp [hb, hj]⟩
        rw [H.out.1.cell, HB.out]
        simp [bcells, hb, hj]
      obtain ⟨x0, g0, e0⟩ := hcell m (by omega)
      obtain ⟨x1, g1, e1⟩ := hcell (m + 1) (by omega)
      obtain ⟨x2, g2, e2⟩ := hcell (m + 2) (by omega)
      obtain ⟨x3, g3, e3⟩ := hcell (m + 3) (by omega)
      have HW := hide (show wdh b i = be4 x0 x1 x2 x3 by rw [wd_lo b hlt, ← hm, e0, e1, e2, e3])
      have wm : IntKind.i64.wrap (4 * (i : Int)) = (m : Int) := by rw [IntWalk.i64_in _ (by omega)]; omega
      have s2 := H.out.2.2.1.frozen i
      obtain ⟨y, hy⟩ : ∃ y, wr.cell? ⟨w.heap.size + 2, i, none⟩ = some y := by rw [H.out.2.2.1.cell]; exact ⟨_, Array.getElem?_eq_getElem (by rw [fw_size _ (by omega)]; omega)⟩
      have i1 : (m : Int) < 64 := by omega
      have j1 : (m : Int) + 1 < 64 := by omega
      have j2 : (m : Int) + 2 < 64 := by omega
      have j3 : (m : Int) + 3 < 64 := by omega
      have l1 : (0 : Int) ≤ (m : Int) + 1 := by omega
      have l2 : (0 : Int) ≤ (m : Int) + 2 := by omega
      have l3 : (0 : Int) ≤ (m : Int) + 3 := by omega
      have n1 : ((m : Int) + 1).toNat = m + 1 := by omega
      have n2 : ((m : Int) + 2).toNat = m + 2 := by omega
      have n3 : ((m : Int) + 3).toNat = m + 3 := by omega
      have v1 : IntKind.i64.wrap ((m : Int) + 1) = (m : Int) + 1 := IntWalk.i64_in _ (by omega)
      have v2 : IntKind.i64.wrap ((m : Int) + 2) = (m : Int) + 2 := IntWalk.i64_in _ (by omega)
      have v3 : IntKind.i64.wrap ((m : Int) + 3) = (m : Int) + 3 := IntWalk.i64_in _ (by omega)
      have far : ∀ (j : Nat) (u : Value), (wr.setCell ⟨w.heap.size + 1 + 1, i, none⟩ u).cell? ⟨w.heap.size, j, none⟩ = wr.cell? ⟨w.heap.size, j, none⟩ := fun j u => World.cell?_of_block (Below.heap_setCell wr ⟨w.heap.size + 1 + 1, i, none⟩ u w.heap.size (by simp; omega))
      have i2 : (0 : Int) ≤ (m : Int) := by omega
      have i3 : (i : Int) < 64 := by omega
      have i5 : (i : Int) < 16 := by omega
      have i4 : (0 : Int) ≤ (i : Int) := by omega
      have HM := hide hm
      clear hm hcell e0 e1 e2 e3 hwz
      go_wp2
      go_region_held3 (fun w' => w'.cell? ⟨w.heap.size, m, none⟩ = some (.int .u8 (x0.toNat : Int)) ∧ w'.cell? ⟨w.heap.size, m + 1, none⟩ = some (.int .u8 (x1.toNat : Int)) ∧ w'.cell? ⟨w.heap.size, m + 2, none⟩ = some (.int .u8 (x2.toNat : Int)) ∧ w'.cell? ⟨w.heap.size, m + 3, none⟩ = some (.int .u8 (x3.toNat : Int))) (go_keep) (fail)
      clear far v1 v2 v3 n1 n2 n3 wm
      go_wp2
      go_roundw
      case rel =>
        have hbe := be4_int x0 x1 x2 x3
        rw [← HW.out] at hbe
        rw [hbe]
        refine ⟨i + 1, by omega, by go_num, (H.out.1.far (by simp; omega) _).drew, (H.out.2.1.far (by simp) _).drew, ?_, (H.out.2.2.2.setCell (by simp; omega) _).drew⟩
        rw [← fw_set (wdh b) (show i < 64 by omega)]
        exact (H.out.2.2.1.set_ i _).drew
      case measure => simp [intOf]; omega
    · have hi16 : i = 16 := by omega
      subst hi16
      obtain ⟨R, hR⟩ : ∃ R, R = rkh := ⟨_, rfl⟩
      obtain ⟨X, hX⟩ : ∃ X, X = xo := ⟨_, rfl⟩
      obtain ⟨S, hS⟩ : ∃ S, S = sr := ⟨_, rfl⟩
      obtain ⟨D, hD⟩ : ∃ D, D = ad := ⟨_, rfl⟩
      have x1 : ∀ a b : UInt32, bits .xor .u32 (a.toNat : Int) (b.toNat : Int) = ((X a b).toNat : Int) := by rw [hX]; exact w_xor
      have x3 : ∀ a b : UInt32, IntKind.u32.wrap ((a.toNat : Int) + (b.toNat : Int)) = ((D a b).toNat : Int) := by rw [hD]; exact w_add
      have x4 : ∀ a b : UInt32, ((a.toNat : Int) + (b.toNat : Int)) % 4294967296 = ((D a b).toNat : Int) := by rw [hD]; exact w_add'
      have x5 : ∀ a : UInt32, (a.toNat : Int) / 8 = ((S a 3).toNat : Int) := by rw [hS]; exact fun a => w_shr a 3
      have x6 : ∀ a : UInt32, (a.toNat : Int) / 1024 = ((S a 10).toNat : Int) := by rw [hS]; exact fun a => w_shr a 10
      have QR := hide (show ∀ (x : UInt32) (k : Int) (w : World), (-31 ≤ k ∧ k ≤ -1) → Calls Tryz.prog 177 #[.int .u32 (x.toNat : Int), .int .i64 k] w fun e w' => e = .returned (.int .u32 ((R x k).toNat : Int)) ∧ w' = w by rw [hR]; exact rotl_k)
      have HEQ := hide (And.intro hR (And.intro hX (And.intro hS hD)))
      clear hR hX hS hD hwz hi hlt
      rw [show ((16 : Nat) : Int) = 16 from rfl]
      go_wp2
      go_loopw [5, 6, 7, 8, 9] (fun u5 _ _ _ _ wr => ∃ i : Nat, 16 ≤ i ∧ i ≤ 64 ∧ u5 = .int .i64 (i : Int) ∧ Blk wr (w.heap.size + 1) 202 (fw 0 (wdh b)) ∧ Blk wr (w.heap.size + 2) 202 (fw i (wdh b)) ∧ Below w.heap.size w wr) (fun i _ _ _ _ _ => 64 - (intOf i).toNat)
      case atStart => exact ⟨16, by omega, by omega, rfl, H.out.2.1, H.out.2.2.1, H.out.2.2.2⟩
      case round =>
        clear H
        obtain ⟨i, hi16, hi, rfl, h1, h2, hbel⟩ := hrel
        have H := hide (And.intro h1 (And.intro h2 hbel))
        clear h1 h2 hbel
        by_cases hlt : i < 64
        · obtain ⟨m, hm⟩ : ∃ m, i = m + 16 := ⟨i - 16, by omega⟩
          obtain ⟨m1, hm1⟩ : ∃ k, k = m + 1 := ⟨_, rfl⟩
          obtain ⟨m9, hm9⟩ : ∃ k, k = m + 9 := ⟨_, rfl⟩
          obtain ⟨m14, hm14⟩ : ∃ k, k = m + 14 := ⟨_, rfl⟩
          obtain ⟨a0, ha0⟩ : ∃ a, a = wdh b m := ⟨_, rfl⟩
          obtain ⟨a1, ha1⟩ : ∃ a, a = wdh b m1 := ⟨_, rfl⟩
          obtain ⟨a9, ha9⟩ : ∃ a, a = wdh b m9 := ⟨_, rfl⟩
          obtain ⟨a14, ha14⟩ : ∃ a, a = wdh b m14 := ⟨_, rfl⟩
          have g0 : wr.cell? ⟨w.heap.size + 2, m, none⟩ = some (.int .u32 (a0.toNat : Int)) := by rw [H.out.2.1.cell, fw_get _ (by omega), ha0]
          have g1 : wr.cell? ⟨w.heap.size + 2, m1, none⟩ = some (.int .u32 (a1.toNat : Int)) := by rw [H.out.2.1.cell, fw_get _ (by omega), ha1]
          have g9 : wr.cell? ⟨w.heap.size + 2, m9, none⟩ = some (.int .u32 (a9.toNat : Int)) := by rw [H.out.2.1.cell, fw_get _ (by omega), ha9]
          have g14 : wr.cell? ⟨w.heap.size + 2, m14, none⟩ = some (.int .u32 (a14.toNat : Int)) := by rw [H.out.2.1.cell, fw_get _ (by omega), ha14]
          have hw := wd_hi b (show ¬ i < 16 by omega)
          rw [show i - 2 = m14 by omega, show i - 7 = m9 by omega, show i - 15 = m1 by omega, show i - 16 = m by omega, ← ha0, ← ha1, ← ha9, ← ha14] at hw
          have HW := hide hw
          have t1 : IntKind.i64.wrap ((i : Int) - 15) = (m1 : Int) := by rw [IntWalk.i64_in _ (by omega)]; omega
          have t2 : IntKind.i64.wrap ((i : Int) - 2) = (m14 : Int) := by rw [IntWalk.i64_in _ (by omega)]; omega
          have t7 : IntKind.i64.wrap ((i : Int) - 7) = (m9 : Int) := by rw [IntWalk.i64_in _ (by omega)]; omega
          have t16 : IntKind.i64.wrap ((i : Int) - 16) = (m : Int) := by rw [IntWalk.i64_in _ (by omega)]; omega
          have f1 : (i : Int) - 15 = (m1 : Int) := by omega
          have f2 : (i : Int) - 2 = (m14 : Int) := by omega
          have f7 : (i : Int) - 7 = (m9 : Int) := by omega
          have f16 : (i : Int) - 16 = (m : Int) := by omega
          have b1 : (m1 : Int) < 64 := by omega
          have b9 : (m9 : Int) < 64 := by omega
          have b14 : (m14 : Int) < 64 := by omega
          have b0 : (m : Int) < 64 := by omega
          have p9 : (0 : Int) ≤ (m9 : Int) := by omega
          have p0 : (0 : Int) ≤ (m : Int) := by omega
          have pi : (0 : Int) ≤ (i : Int) := by omega
          have bi : (i : Int) < 64 := by omega
          have HI := hide hi16
          clear hm hm1 hm9 hm14 ha0 ha1 ha9 ha14 hw hi16
          have s2 := H.out.2.1.frozen i
          obtain ⟨y, hy⟩ : ∃ y, wr.cell? ⟨w.heap.size + 2, i, none⟩ = some y := by rw [H.out.2.1.cell]; exact ⟨_, Array.getElem?_eq_getElem (by rw [fw_size _ (by omega)]; omega)⟩
          go_wp2
          go_quiet (fail)
          go_wp2_with (go_at_call 177; refine (QR.out _ _ _ (by omega)).mono ?_; rintro e w' ⟨rfl, rfl⟩)
          go_region
          go_wp2
          go_roundw
          case rel =>
            have hE : wdh b i = D (D (D (X (X (R a14 (-17)) (R a14 (-19))) (S a14 10)) a9) (X (X (R a1 (-7)) (R a1 (-18))) (S a1 3))) a0 := by
              rw [HW.out]
              obtain ⟨rfl, rfl, rfl, rfl⟩ := HEQ.out
              rfl
            have hi16 := HI.out
            rw [← hE]
            refine ⟨i + 1, by omega, by omega, by go_num, (H.out.1.drewN _).far (by simp) _, ?_, (below_drewN H.out.2.2 _).setCell (by simp; omega) _⟩
            rw [← fw_set (wdh b) hlt]
            exact (H.out.2.1.drewN _).set_ i _
          case measure => simp [intOf]; omega
        · have hi64 : i = 64 := by omega
          subst hi64
          have hfull : ∀ x ∈ (fw 64 (wdh b)).toList, x.oneCell' = true := fun x hx => by
            simp only [fw, Nat.sub_self, List.replicate_zero, List.append_nil, List.mem_map] at hx
            obtain ⟨_, _, rfl⟩ := hx
            rfl
          have HF := hide (show (fw 64 (wdh b)).all (·.oneCell') = true by rw [Array.all_eq_true']; exact fun x hx => hfull x (Array.mem_toList_iff.2 hx))
          have HSZ := hide (And.intro (fw_size (wdh b) (show 64 ≤ 64 by omega)) (fw_size (wdh b) (show 0 ≤ 64 by omega)))
          clear hfull x1 x3 x4 x5 x6
          go_wp2_with (first
            | ((with_reducible change wpList _ _ _ (⟨some 88, _, _, _, _, _⟩ :: _) _ _); refine wpList_load_row (o := ⟨some 88, .load _ _, _, _, _, _⟩) rfl 202 _ rfl (w.heap.size + 2) rfl 202 (fw 64 (wdh b)) (0, 0) _ H.out.2.1 Tryz.underlying202 rfl (by rw [HSZ.out.1]; kernel_rfl) ?_)
            | (refine wpList_store_row (o := ⟨none, .store _ _ _, _, _, _, _⟩) H.out.1 (fw 64 (wdh b)) (by rw [HSZ.out.1, HSZ.out.2]) HF.out rfl 202 _ _ rfl (by rw [HSZ.out.1]; kernel_rfl) rfl rfl ?_; intro w1 hb1 hg1))
          exact bodyPost_ret (results_cell_row rfl _ _ (w.heap.size + 1) 202 (fw 64 (wdh b)) (0, 0) _ rfl hb1 Tryz.underlying202 rfl (by rw [HSZ.out.1]; kernel_rfl)) rfl ⟨rfl, H.out.2.2.grown hg1 H.out.2.2.size fun k hk => by injection hk with hk; omega⟩
end Go.Proofs.YtcpceaflnnkhnaaGreatDoor

/- The words of a block: the document's. -/
namespace Go.Proofs.YtcpceaflnnkhnaaGreatDoor
open Go.RowKit

theorem fw_self {k : Nat} (f : Nat → UInt32) (h : k < 64) : (fw k f).setIfInBounds k (.int .u32 0) = fw k f := by
  unfold fw
  rw [List.setIfInBounds_toArray]
  congr 1
  rw [List.set_append_right _ _ (by simp), List.length_map, List.length_range, Nat.sub_self, show 64 - k = (64 - (k + 1)) + 1 by omega, List.replicate_succ, List.set_cons_zero]
/-- The first j of four bytes, put together. -/
def pt (a b c d : UInt8) (j : Nat) : Nat := match j with | 0 => 0 | 1 => a.toNat | 2 => a.toNat * 256 + b.toNat | 3 => (a.toNat * 256 + b.toNat) * 256 + c.toNat | _ => ((a.toNat * 256 + b.toNat) * 256 + c.toNat) * 256 + d.toNat
theorem pt_lt (a b c d : UInt8) (j : Nat) (h : j < 4) : pt a b c d j < 16777216 := by
  have h1 := a.toNat_lt
  have h2 := b.toNat_lt
  have h3 := c.toNat_lt
  have hc : j = 0 ∨ j = 1 ∨ j = 2 ∨ j = 3 := by omega
  rcases hc with rfl | rfl | rfl | rfl <;> simp only [pt] <;> omega

set_option maxRecDepth 100000 in
set_option maxHeartbeats 4000000 in
theorem rwords_any (b : List UInt8) (w : World) (hb : b.length = 64) :
    Calls Tryz.prog 123 #[.agg (bcells b).toArray] w fun e w' => e = .returned (.agg (fw 64 (wdh b))) ∧ Below w.heap.size w w' := by
  obtain ⟨B, hB⟩ : ∃ B, B = (bcells b).toArray := ⟨_, rfl⟩
  have hsz : B.size = 64 := by rw [hB]; simp [hb]
  rw [← hB]
  have HB := hide hB
  clear hB
  go_enter Tryz.func123, Tryz.ntmps123
  go_wp2
  have hz : ((List.replicate 64 (Value.int .u32 0)).toArray) = fw 0 (wdh b) := (fw_zero _).symm
  go_loopw [4, 5] (fun u4 _ wr => ∃ i : Nat, i ≤ 16 ∧ u4 = .int .i64 (i : Int) ∧ Blk wr w.heap.size 190 B ∧ Blk wr (w.heap.size + 1) 202 (fw 0 (wdh b)) ∧ Blk wr (w.heap.size + 2) 202 (fw i (wdh b)) ∧ Below w.heap.size w wr) (fun i _ _ => 16 - (intOf i).toNat)
  case atStart =>
    refine ⟨0, by omega, rfl, ((Blk.new w _ _).alloc _).alloc _, ?_, ?_, (((Below.refl _ w).alloc (Nat.le_refl _) _).alloc (by simp) _).alloc (by simp; omega) _⟩
    · rw [← hz]
      exact (blk_newk _ _ _ _ (by simp)).alloc _
    · rw [← hz]
      exact blk_newk _ _ _ _ (by simp)
  case round =>
    clear hz
    obtain ⟨i, hi, rfl, h0, h1, h2, hbel⟩ := hrel
    have H := hide (And.intro h0 (And.intro h1 (And.intro h2 hbel)))
    clear h0 h1 h2 hbel
    by_cases hlt : i < 16
    · obtain ⟨m, hm⟩ : ∃ m, m = 4 * i := ⟨_, rfl⟩
      have hcell : ∀ j, j < 64 → ∃ x : UInt8, B[j]? = some (.int .u8 (x.toNat : Int)) ∧ b.getD j 0 = x := by
        intro j hj
        refine ⟨b[j]'(by omega), ?_, by simp [hb, hj]⟩
        rw [HB.out]
        simp [bcells, hb, hj]
      obtain ⟨x0, g0, e0⟩ := hcell m (by omega)
      obtain ⟨x1, g1, e1⟩ := hcell (m + 1) (by omega)
      obtain ⟨x2, g2, e2⟩ := hcell (m + 2) (by omega)
      obtain ⟨x3, g3, e3⟩ := hcell (m + 3) (by omega)
      have HW := hide (show wdh b i = be4 x0 x1 x2 x3 by rw [wd_lo b hlt, ← hm, e0, e1, e2, e3])
      have wm : IntKind.i64.wrap (4 * (i : Int)) = (m : Int) := by rw [IntWalk.i64_in _ (by omega)]; omega
      have HX := hide (show ∀ j, j < 4 → ∃ x : UInt8, B[m + j]? = some (.int .u8 (x.toNat : Int)) ∧ pt x0 x1 x2 x3 j * 256 + x.toNat = pt x0 x1 x2 x3 (j + 1) from fun j hj => by
        have hc : j = 0 ∨ j = 1 ∨ j = 2 ∨ j = 3 := by omega
        rcases hc with rfl | rfl | rfl | rfl
        · exact ⟨x0, g0, by simp [pt]⟩
        · exact ⟨x1, g1, rfl⟩
        · exact ⟨x2, g2, rfl⟩
        · exact ⟨x3, g3, rfl⟩)
      have hmlt : m < 61 := by omega
      have HM := hide hm
      clear hm hcell e0 e1 e2 e3 g0 g1 g2 g3
      go_wp2
      go_loopw [5] (fun u5 wr => ∃ j : Nat, j ≤ 4 ∧ u5 = .int .i64 (j : Int) ∧ Blk wr w.heap.size 190 B ∧ Blk wr (w.heap.size + 1) 202 (fw 0 (wdh b)) ∧ Blk wr (w.heap.size + 2) 202 ((fw i (wdh b)).setIfInBounds i (.int .u32 ((pt x0 x1 x2 x3 j : Nat) : Int))) ∧ Below w.heap.size w wr) (fun i _ => 4 - (intOf i).toNat)
      case atStart =>
        refine ⟨0, by omega, rfl, H.out.1, H.out.2.1, ?_, H.out.2.2.2⟩
        rw [show (.int .u32 ((pt x0 x1 x2 x3 0 : Nat) : Int) : Value) = .int .u32 0 from rfl, fw_self _ (by omega)]
        exact H.out.2.2.1
      case round =>
        clear H
        obtain ⟨j, hj, rfl, h0, h1, h2, hbel⟩ := hrel
        by_cases hlj : j < 4
        · obtain ⟨x, hx, hnext⟩ := HX.out j hlj
          obtain ⟨q, hq⟩ : ∃ q, q = m + j := ⟨_, rfl⟩
          rw [← hq] at hx
          have hpl := pt_lt x0 x1 x2 x3 j hlj
          obtain ⟨v, hv⟩ : ∃ v, v = pt x0 x1 x2 x3 j := ⟨_, rfl⟩
          rw [← hv] at hnext hpl
          have c1 : wr.cell? ⟨w.heap.size, q, none⟩ = some (.int .u8 (x.toNat : Int)) := (h0.cell q).trans hx
          have c2 : wr.cell? ⟨w.heap.size + 2, i, none⟩ = some (.int .u32 (v : Int)) := by
            rw [h2.cell, ← hv]
            simp [Array.getElem?_setIfInBounds_self, fw_size (wdh b) (show i ≤ 64 by omega)]
            omega
          have c3 := h2.frozen i
          have wq : IntKind.i64.wrap ((m : Int) + (j : Int)) = (q : Int) := by rw [IntWalk.i64_in _ (by omega)]; omega
          have fq : (m : Int) + (j : Int) = (q : Int) := by omega
          have bq : (q : Int) < 64 := by omega
          have bi : (i : Int) < 64 := by omega
          have pq : (0 : Int) ≤ (q : Int) := by omega
          have pi : (0 : Int) ≤ (i : Int) := by omega
          have H := hide (And.intro h0 (And.intro h1 (And.intro h2 hbel)))
          have HN := hide hnext
          have HV := hide hv
          have hxl := x.toNat_lt
          have HQ := hide hq
          clear h0 h1 h2 hbel hnext hv hx hq
          go_wp2
          go_region
          go_wp2
          go_roundw
          case rel =>
            have e : (v : Int) * 256 + (x.toNat : Int) = ((pt x0 x1 x2 x3 (j + 1) : Nat) : Int) := by
              rw [← HN.out]
              simp
            rw [e]
            refine ⟨j + 1, by omega, by go_num, (H.out.1.far (by simp; omega) _).drew, (H.out.2.1.far (by simp) _).drew, ?_, (H.out.2.2.2.setCell (by simp; omega) _).drew⟩
            have h := (H.out.2.2.1.set_ i (.int .u32 ((pt x0 x1 x2 x3 (j + 1) : Nat) : Int))).drew
            rw [Array.setIfInBounds_setIfInBounds] at h
            exact h
          case measure => simp [intOf]; omega
        · have hj4 : j = 4 := by omega
          subst hj4
          have H := hide (And.intro h0 (And.intro h1 (And.intro h2 hbel)))
          clear h0 h1 h2 hbel
          rw [show ((4 : Nat) : Int) = 4 from rfl]
          go_wp2
          go_roundw
          case rel =>
            refine ⟨i + 1, by omega, by go_num, H.out.1, H.out.2.1, ?_, H.out.2.2.2⟩
            have h2 := H.out.2.2.1
            rw [show ((pt x0 x1 x2 x3 4 : Nat) : Int) = ((wdh b i).toNat : Int) by rw [HW.out, be4_toNat]; simp only [pt]; omega, fw_set _ (by omega)] at h2
            exact h2
          case measure => simp [intOf]; omega
    · have hi16 : i = 16 := by omega
      subst hi16
      obtain ⟨R, hR⟩ : ∃ R, R = rkh := ⟨_, rfl⟩
      obtain ⟨X, hX⟩ : ∃ X, X = xo := ⟨_, rfl⟩
      obtain ⟨S, hS⟩ : ∃ S, S = sr := ⟨_, rfl⟩
      obtain ⟨D, hD⟩ : ∃ D, D = ad := ⟨_, rfl⟩
      have x1 : ∀ a b : UInt32, bits .xor .u32 (a.toNat : Int) (b.toNat : Int) = ((X a b).toNat : Int) := by rw [hX]; exact w_xor
      have x3 : ∀ a b : UInt32, IntKind.u32.wrap ((a.toNat : Int) + (b.toNat : Int)) = ((D a b).toNat : Int) := by rw [hD]; exact w_add
      have x4 : ∀ a b : UInt32, ((a.toNat : Int) + (b.toNat : Int)) % 4294967296 = ((D a b).toNat : Int) := by rw [hD]; exact w_add'
      have x5 : ∀ a : UInt32, (a.toNat : Int) / 8 = ((S a 3).toNat : Int) := by rw [hS]; exact fun a => w_shr a 3
      have x6 : ∀ a : UInt32, (a.toNat : Int) / 1024 = ((S a 10).toNat : Int) := by rw [hS]; exact fun a => w_shr a 10
      have QR := hide (show ∀ (x : UInt32) (k : Int) (w : World), (1 ≤ k ∧ k ≤ 31) → Calls Tryz.prog 125 #[.int .u32 (x.toNat : Int), .int .u64 k] w fun e w' => e = .returned (.int .u32 ((R x k).toNat : Int)) ∧ w' = w by rw [hR]; exact turn_k)
      have HEQ := hide (And.intro hR (And.intro hX (And.intro hS hD)))
      clear hR hX hS hD hi hlt
      rw [show ((16 : Nat) : Int) = 16 from rfl]
      go_wp2
      go_loopw [6, 7, 8, 9, 10] (fun u5 _ _ _ _ wr => ∃ i : Nat, 16 ≤ i ∧ i ≤ 64 ∧ u5 = .int .i64 (i : Int) ∧ Blk wr (w.heap.size + 1) 202 (fw 0 (wdh b)) ∧ Blk wr (w.heap.size + 2) 202 (fw i (wdh b)) ∧ Below w.heap.size w wr) (fun i _ _ _ _ _ => 64 - (intOf i).toNat)
      case atStart => exact ⟨16, by omega, by omega, rfl, H.out.2.1, H.out.2.2.1, H.out.2.2.2⟩
      case round =>
        clear H
        obtain ⟨i, hi16, hi, rfl, h1, h2, hbel⟩ := hrel
        have H := hide (And.intro h1 (And.intro h2 hbel))
        clear h1 h2 hbel
        by_cases hlt : i < 64
        · obtain ⟨m, hm⟩ : ∃ m, i = m + 16 := ⟨i - 16, by omega⟩
          obtain ⟨m1, hm1⟩ : ∃ k, k = m + 1 := ⟨_, rfl⟩
          obtain ⟨m9, hm9⟩ : ∃ k, k = m + 9 := ⟨_, rfl⟩
          obtain ⟨m14, hm14⟩ : ∃ k, k = m + 14 := ⟨_, rfl⟩
          obtain ⟨a0, ha0⟩ : ∃ a, a = wdh b m := ⟨_, rfl⟩
          obtain ⟨a1, ha1⟩ : ∃ a, a = wdh b m1 := ⟨_, rfl⟩
          obtain ⟨a9, ha9⟩ : ∃ a, a = wdh b m9 := ⟨_, rfl⟩
          obtain ⟨a14, ha14⟩ : ∃ a, a = wdh b m14 := ⟨_, rfl⟩
          have g0 : wr.cell? ⟨w.heap.size + 2, m, none⟩ = some (.int .u32 (a0.toNat : Int)) := by rw [H.out.2.1.cell, fw_get _ (by omega), ha0]
          have g1 : wr.cell? ⟨w.heap.size + 2, m1, none⟩ = some (.int .u32 (a1.toNat : Int)) := by rw [H.out.2.1.cell, fw_get _ (by omega), ha1]
          have g9 : wr.cell? ⟨w.heap.size + 2, m9, none⟩ = some (.int .u32 (a9.toNat : Int)) := by rw [H.out.2.1.cell, fw_get _ (by omega), ha9]
          have g14 : wr.cell? ⟨w.heap.size + 2, m14, none⟩ = some (.int .u32 (a14.toNat : Int)) := by rw [H.out.2.1.cell, fw_get _ (by omega), ha14]
          have hw := wd_hi b (show ¬ i < 16 by omega)
          rw [show i - 2 = m14 by omega, show i - 7 = m9 by omega, show i - 15 = m1 by omega, show i - 16 = m by omega, ← ha0, ← ha1, ← ha9, ← ha14] at hw
          have HW := hide hw
          have t1 : IntKind.i64.wrap ((i : Int) - 15) = (m1 : Int) := by rw [IntWalk.i64_in _ (by omega)]; omega
          have t2 : IntKind.i64.wrap ((i : Int) - 2) = (m14 : Int) := by rw [IntWalk.i64_in _ (by omega)]; omega
          have t7 : IntKind.i64.wrap ((i : Int) - 7) = (m9 : Int) := by rw [IntWalk.i64_in _ (by omega)]; omega
          have t16 : IntKind.i64.wrap ((i : Int) - 16) = (m : Int) := by rw [IntWalk.i64_in _ (by omega)]; omega
          have f1 : (i : Int) - 15 = (m1 : Int) := by omega
          have f2 : (i : Int) - 2 = (m14 : Int) := by omega
          have f7 : (i : Int) - 7 = (m9 : Int) := by omega
          have f16 : (i : Int) - 16 = (m : Int) := by omega
          have b1 : (m1 : Int) < 64 := by omega
          have b9 : (m9 : Int) < 64 := by omega
          have b14 : (m14 : Int) < 64 := by omega
          have b0 : (m : Int) < 64 := by omega
          have p9 : (0 : Int) ≤ (m9 : Int) := by omega
          have p0 : (0 : Int) ≤ (m : Int) := by omega
          have pi : (0 : Int) ≤ (i : Int) := by omega
          have bi : (i : Int) < 64 := by omega
          have HI := hide hi16
          clear hm hm1 hm9 hm14 ha0 ha1 ha9 ha14 hw hi16
          have s2 := H.out.2.1.frozen i
          obtain ⟨y, hy⟩ : ∃ y, wr.cell? ⟨w.heap.size + 2, i, none⟩ = some y := by rw [H.out.2.1.cell]; exact ⟨_, Array.getElem?_eq_getElem (by rw [fw_size _ (by omega)]; omega)⟩
          go_wp2_with (go_at_call 125; refine (QR.out _ _ _ (by omega)).mono ?_; rintro e w' ⟨rfl, rfl⟩)
          go_region
          go_wp2
          go_roundw
          case rel =>
            have hE : wdh b i = D (D (D (X (X (R a14 17) (R a14 19)) (S a14 10)) a9) (X (X (R a1 7) (R a1 18)) (S a1 3))) a0 := by
              rw [HW.out]
              obtain ⟨rfl, rfl, rfl, rfl⟩ := HEQ.out
              rfl
            have hi16 := HI.out
            rw [← hE]
            refine ⟨i + 1, by omega, by omega, by go_num, (H.out.1.drewN _).far (by simp) _, ?_, (below_drewN H.out.2.2 _).setCell (by simp; omega) _⟩
            rw [← fw_set (wdh b) hlt]
            exact (H.out.2.1.drewN _).set_ i _
          case measure => simp [intOf]; omega
        · have hi64 : i = 64 := by omega
          subst hi64
          have hfull : ∀ x ∈ (fw 64 (wdh b)).toList, x.oneCell' = true := fun x hx => by
            simp only [fw, Nat.sub_self, List.replicate_zero, List.append_nil, List.mem_map] at hx
            obtain ⟨_, _, rfl⟩ := hx
            rfl
          have HF := hide (show (fw 64 (wdh b)).all (·.oneCell') = true by rw [Array.all_eq_true']; exact fun x hx => hfull x (Array.mem_toList_iff.2 hx))
          have HSZ := hide (And.intro (fw_size (wdh b) (show 64 ≤ 64 by omega)) (fw_size (wdh b) (show 0 ≤ 64 by omega)))
          clear hfull x1 x3 x4 x5 x6
          go_wp2_with (first
            | ((with_reducible change wpList _ _ _ (⟨some 76, _, _, _, _, _⟩ :: _) _ _); refine wpList_load_row (o := ⟨some 76, .load _ _, _, _, _, _⟩) rfl 202 _ rfl (w.heap.size + 2) rfl 202 (fw 64 (wdh b)) (0, 0) _ H.out.2.1 Tryz.underlying202 rfl (by rw [HSZ.out.1]; kernel_rfl) ?_)
            | (refine wpList_store_row (o := ⟨none, .store _ _ _, _, _, _, _⟩) H.out.1 (fw 64 (wdh b)) (by rw [HSZ.out.1, HSZ.out.2]) HF.out rfl 202 _ _ rfl (by rw [HSZ.out.1]; kernel_rfl) rfl rfl ?_; intro w1 hb1 hg1))
          exact bodyPost_ret (results_cell_row rfl _ _ (w.heap.size + 1) 202 (fw 64 (wdh b)) (0, 0) _ rfl hb1 Tryz.underlying202 rfl (by rw [HSZ.out.1]; kernel_rfl)) rfl ⟨rfl, H.out.2.2.grown hg1 H.out.2.2.size fun k hk => by injection hk with hk; omega⟩
end Go.Proofs.YtcpceaflnnkhnaaGreatDoor
