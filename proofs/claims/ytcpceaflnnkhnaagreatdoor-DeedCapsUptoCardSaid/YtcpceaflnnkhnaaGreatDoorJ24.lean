/- Joined texts: ShaQ, PadA, HshA, HshE, HshB, ShaS, ShaG, RSum. -/
import Derived.Test.YtcpceaflnnkhnaaGreatDoorJ23
import Derived.Test.YtcpceaflnnkhnaaGreatDoorJ20
import Derived.Test.YtcpceaflnnkhnaaGreatDoorJ2
import Derived.Deep.RegionHeld3
import Derived.Laws.Cover3
import Derived.Test.YtcpceaflnnkhnaaGreatDoorJ1
import Derived.Laws.StructEq
import Derived.Deep.MidRow
import Derived.Laws.CopyOwn
import Derived.Deep.RegionLaw

/- The digest of a message, plainly: blocks taken in one behind the other, what is put behind a message, the words as bytes. -/
namespace Go.Proofs.YtcpceaflnnkhnaaGreatDoor
open Go.RowKit

/-- How many noughts stand behind the mark. -/
def noughts (n : Nat) : Nat := (119 - n % 64) % 64
def padL (n : Nat) : List UInt8 := 128 :: (List.replicate (noughts n) 0 ++ bigL (8 * n) 8)
theorem padL_length (n : Nat) : (padL n).length = noughts n + 9 := by simp [padL]
theorem padL_whole (n : Nat) : (n + (padL n).length) % 64 = 0 := by rw [padL_length]; unfold noughts; omega
theorem noughts_le (n : Nat) : noughts n ≤ 63 := by unfold noughts; omega
theorem noughts_eq (n k : Nat) (h : k ≤ noughts n) : ((n + (k + 1)) % 64 = 56) ↔ k = noughts n := by unfold noughts at *; omega
/-- The first k blocks taken in. -/
def mixN (h : H8) (l : List UInt8) : Nat → H8
  | 0 => h
  | k + 1 => mixH (mixN h l k) ((l.drop (64 * k)).take 64)
theorem mixN_succ (h : H8) (l : List UInt8) (k : Nat) : mixN h l (k + 1) = mixH (mixN h l k) ((l.drop (64 * k)).take 64) := rfl
theorem mixN_front (h : H8) (l r : List UInt8) : ∀ k : Nat, 64 * k ≤ l.length → mixN h (l ++ r) k = mixN h l k
  | 0, _ => rfl
  | k + 1, hk => by
    rw [mixN_succ, mixN_succ, mixN_front h l r k (by omega), List.drop_append_of_le_length (by omega), List.take_append_of_le_length (by rw [List.length_drop]; omega)]
theorem mixN_add (h : H8) (l : List UInt8) (q : Nat) : ∀ m : Nat, mixN h l (q + m) = mixN (mixN h l q) (l.drop (64 * q)) m
  | 0 => rfl
  | m + 1 => by
    rw [← Nat.add_assoc, mixN_succ, mixN_succ, mixN_add h l q m, List.drop_drop, show 64 * q + 64 * m = 64 * (q + m) by omega]
def sha0 : H8 := ⟨0x6a09e667, 0xbb67ae85, 0x3c6ef372, 0xa54ff53a, 0x510e527f, 0x9b05688c, 0x1f83d9ab, 0x5be0cd19⟩
/-- The words of a message's digest. -/
def shaH (l : List UInt8) : H8 := mixN sha0 (l ++ padL l.length) ((l.length + (padL l.length).length) / 64)
/-- Taken in up to the last whole block, then the rest with what stands behind it. -/
theorem shaH_split (l : List UInt8) : shaH l = mixN (mixN sha0 l (l.length / 64)) (l.drop (64 * (l.length / 64)) ++ padL l.length) ((l.drop (64 * (l.length / 64)) ++ padL l.length).length / 64) := by
  have h1 := padL_whole l.length
  unfold shaH
  rw [show (l.length + (padL l.length).length) / 64 = l.length / 64 + (l.length - 64 * (l.length / 64) + (padL l.length).length) / 64 by omega, mixN_add, mixN_front _ _ _ _ (by omega), List.drop_append_of_le_length (by omega), List.length_append, List.length_drop]
/-- The bytes of the words. -/
def digL (h : H8) : List UInt8 := (List.range 32).map fun i => UInt8.ofNat ((h.at (i / 4)).toNat / 2 ^ (24 - 8 * (i % 4)))
@[simp] theorem digL_length (h : H8) : (digL h).length = 32 := by simp [digL]
theorem digL_get (h : H8) (i : Nat) (hi : i < 32) : (digL h)[i]? = some (UInt8.ofNat ((h.at (i / 4)).toNat / 2 ^ (24 - 8 * (i % 4)))) := by simp [digL, hi]
/-- The digest of a message. -/
def shaL (l : List UInt8) : List UInt8 := digL (shaH l)
@[simp] theorem shaL_length (l : List UInt8) : (shaL l).length = 32 := digL_length _
/-- The words' bytes, word by word. -/
theorem digL_words (h : H8) : digL h = (List.range 8).flatMap fun i => bigL (h.at i).toNat 4 := by
  simp [digL, bigL, List.range_succ, List.flatMap]
theorem digL_take (h : H8) (i : Nat) (hi : i < 8) : (digL h).take (4 * (i + 1)) = (digL h).take (4 * i) ++ bigL (h.at i).toNat 4 := by
  rw [digL_words]
  obtain rfl | rfl | rfl | rfl | rfl | rfl | rfl | rfl : i = 0 ∨ i = 1 ∨ i = 2 ∨ i = 3 ∨ i = 4 ∨ i = 5 ∨ i = 6 ∨ i = 7 := by omega
  all_goals simp [List.range_succ, List.flatMap, bigL]
/-- A row that is being filled: the first k, noughts behind. -/
def fillN (l : List UInt8) (n k : Nat) : Array Value := (bcells (l.take k ++ List.replicate (n - k) 0)).toArray
theorem fillN_zero (l : List UInt8) (n : Nat) : fillN l n 0 = (bcells (List.replicate n 0)).toArray := by simp [fillN]
theorem fillN_full (l : List UInt8) (n : Nat) : fillN l n n = (bcells (l.take n)).toArray := by simp [fillN]
theorem fillN_size (l : List UInt8) (n k : Nat) (h : k ≤ n) (hl : k ≤ l.length) : (fillN l n k).size = n := by
  simp only [fillN, List.size_toArray, bcells_length, List.length_append, List.length_take, List.length_replicate]
  omega
theorem fillN_set (l : List UInt8) (n k : Nat) (x : UInt8) (h : k < n) (hx : l[k]? = some x) : (fillN l n k).setIfInBounds k (.int .u8 (x.toNat : Int)) = fillN l n (k + 1) := by
  have hk : (l.take k).length = k := by
    have := (List.getElem?_eq_some_iff.1 hx).1
    rw [List.length_take]
    omega
  unfold fillN
  rw [take_snoc l k x hx, show n - k = (n - (k + 1)) + 1 by omega, List.replicate_succ, List.setIfInBounds_toArray, bcells_append, bcells_append, bcells_append, List.set_append_right _ _ (by simp [hk]), bcells_length, hk, Nat.sub_self]
  simp [bcells]
theorem fill_word (h : H8) (i : Nat) (hi : i < 8) : (fillN (digL h) 32 (4 * i)).toList.take (4 * i) ++ (bcells (bigL (h.at i).toNat 4) ++ (fillN (digL h) 32 (4 * i)).toList.drop (4 * i + 4)) = (fillN (digL h) 32 (4 * (i + 1))).toList := by
  have hl : ((digL h).take (4 * i)).length = 4 * i := by rw [List.length_take, digL_length]; omega
  simp only [fillN]
  rw [digL_take h i hi, bcells_append, List.take_left' (by simpa using hl), List.drop_append, List.drop_of_length_le (by rw [bcells_length, hl]; omega), bcells_length, hl, bcells_append, bcells_append, show 4 * i + 4 - 4 * i = 4 by omega, show 32 - 4 * i = 4 + (32 - 4 * (i + 1)) by omega]
  simp [bcells]
/-- Words that are all nought have the bytes of noughts. -/
theorem digL_zero : digL ⟨0, 0, 0, 0, 0, 0, 0, 0⟩ = List.replicate 32 0 := by decide
end Go.Proofs.YtcpceaflnnkhnaaGreatDoor

/- Contracts of what is put behind a message: the program's Pad, the document's. -/
namespace Go.Proofs.YtcpceaflnnkhnaaGreatDoor
open Go.RowKit

theorem rep_snoc (k : Nat) : (128 : UInt8) :: List.replicate (k + 1) 0 = ((128 : UInt8) :: List.replicate k 0) ++ [0] := by
  rw [List.replicate_succ']; rfl
theorem blk_own {w : World} {g n cap base : Nat} {t : TypeId} {cs : Array Value} (h : Blk w g t cs) (l : List UInt8) (hb : base ≤ g) (hc : cs.size = cap) (hn : l.length ≤ cap) (hm : cap ≤ maxLen) (hl : cs.toList.take l.length = bcells l) (hnn : n = l.length) : Own w base t (.slice (some ⟨g, 0, none⟩) n cap) l := by
  subst hnn
  have := h.own (base := base) (n := l.length) (cap := cap) (sz := 1) rfl hb (by rw [hc]; omega) hn hm
  unfold Own
  rw [Nat.mul_one, hl] at this
  exact this
def lenV : Value → Nat | .slice _ n _ => n | _ => 0

set_option maxHeartbeats 1000000 in
theorem pad_any (n : Nat) (w : World) (hn : n ≤ 1099511627776) :
    Calls Tryz.prog 142 #[.int .i64 (n : Int)] w fun e w' => ∃ v, e = .returned (.tuple #[v, .int .i64 0]) ∧ Own w' w.heap.size 5 v (padL n) ∧ Below w.heap.size w w' := by
  have hmk := make_bytes 1 72 (by omega) (by omega)
  have HMK := hide (fun w => show (Instr.makeSlice 32 (.int .i64 1) (.int .i64 72)).run Tryz.prog w = .ok (.slice (some ⟨w.heap.size, 0, none⟩) 1 72) (w.alloc (.cells (bcells (List.replicate 72 0)).toArray 5)) from hmk w)
  clear hmk
  obtain ⟨Z, hZ⟩ : ∃ Z, Z = (bcells (List.replicate 72 0)).toArray := ⟨_, rfl⟩
  rw [← hZ] at HMK
  have HB := hide (show Blk (w.alloc (.cells Z 5)) w.heap.size 5 Z from Blk.new _ _ _)
  have g0 : (w.alloc (.cells Z 5)).cell? ⟨w.heap.size, 0, none⟩ = some (.int .u8 0) := by rw [HB.out.cell, hZ]; rfl
  have s0 : (w.alloc (.cells Z 5)).frozen? ⟨w.heap.size, 0, none⟩ = false := HB.out.frozen 0
  have HI := hide (show Own (w.alloc (.cells (Z.setIfInBounds 0 (.int .u8 128)) 5)) w.heap.size 5 (.slice (some ⟨w.heap.size, 0, none⟩) 1 72) [128] by
    refine blk_own (Blk.new _ _ _) [128] (Nat.le_refl _) ?_ (by simp) (by unfold maxLen; omega) ?_ rfl
    · rw [hZ]; simp
    · rw [hZ]; rfl)
  clear hZ HB
  have hmk := HMK.out
  have c1 : ¬ (n : Int) < 0 := by omega
  have c2 : ¬ (1152921504606846976 : Int) < (n : Int) := by omega
  have c3 : IntKind.u64.wrap (n : Int) = (n : Int) := by simp [IntKind.wrap, IntKind.bits, IntKind.signed]; omega
  have c4 : IntKind.u64.wrap ((n : Int) * 8) = ((8 * n : Nat) : Int) := by simp [IntKind.wrap, IntKind.bits, IntKind.signed]; omega
  have c5 : ((n : Int) * 8) % 18446744073709551616 = ((8 * n : Nat) : Int) := by omega
  go_enter Tryz.func142, Tryz.ntmps142
  go_wp2
  go_loopw [4] (fun u4 wr => ∃ k : Nat, k ≤ noughts n ∧ Own wr w.heap.size 5 u4 (128 :: List.replicate k 0) ∧ Below w.heap.size w wr) (fun u4 _ => 100 - lenV u4)
  case atStart => exact ⟨0, by omega, HI.out, (Below.refl _ w).alloc (Nat.le_refl _) _⟩
  case round =>
    clear HI
    obtain ⟨k, hk, ho, hbel⟩ := hrel
    have HO := hide ho
    obtain ⟨A, c, hv, hc, hm, -⟩ := ho.by_.form
    rw [show ((128 : UInt8) :: List.replicate k 0).length = k + 1 by simp] at hv hc
    rw [hv] at HO ⊢
    clear ho hv
    have hn63 := noughts_le n
    have hiff := noughts_eq n k hk
    unfold maxLen at hm
    by_cases hkn : k = noughts n
    · have d1 : ((n : Int) + ((k : Int) + 1)) % 64 = 56 := by have := hiff.2 hkn; omega
      have HK := hide hkn
      clear hkn hiff
      go_wp2_with first
        | (go_at_call 137; refine (big64_any (8 * n) _ (by omega)).mono ?_; rintro e w1 ⟨b1, rfl, o1⟩; go_loud (have HO1 := hide (And.intro (HO.out.below b1) (And.intro o1.by_ (hbel.trans (b1.mono hbel.size)))); clear b1 o1))
        | (at_builtin; go_loud (refine wpList_pushV elem8 HO1.out.1 HO1.out.2.2 HO1.out.2.2.size HO1.out.2.1 (by simp; have := HK.out; omega) rfl _ _ rfl rfl rfl ?_); intro v2 w2 hown2 hbel2 _ _)
      go_ret2
      refine ⟨_, rfl, ?_, hbel2⟩
      have h3 := hown2
      rw [HK.out] at h3
      exact h3
    · have d1 : ¬ ((n : Int) + ((k : Int) + 1)) % 64 = 56 := by have := fun h => hkn (hiff.1 h); omega
      have hlt : k < noughts n := by omega
      have HK := hide hlt
      clear hkn hiff hlt
      go_wp2_with (at_builtin; go_loud (refine wpList_pushB elem8 HO.out hbel hbel.size (by simp; omega) 0 rfl _ _ rfl rfl rfl ?_); intro v1 w1 hown1 hbel1 _ _)
      obtain ⟨A1, c1, hv1, -, -, -⟩ := hown1.by_.form
      go_roundw
      case rel => exact ⟨k + 1, HK.out, by rw [rep_snoc]; exact hown1, hbel1⟩
      case measure => rw [hv1]; simp [lenV]; omega

set_option maxHeartbeats 1000000 in
theorem rpad_any (n : Nat) (w : World) (hn : n ≤ 1099511627776) :
    Calls Tryz.prog 105 #[.int .i64 (n : Int)] w fun e w' => ∃ v, e = .returned (.tuple #[v, .int .i64 0]) ∧ Own w' w.heap.size 5 v (padL n) ∧ Below w.heap.size w w' := by
  have HI := hide (show Own (w.alloc (.cells #[.int .u8 128] 5)) w.heap.size 5 (.slice (some ⟨w.heap.size, 0, none⟩) 1 1) [128] from blk_own (Blk.new _ _ _) [128] (Nat.le_refl _) rfl (Nat.le_refl _) (by unfold maxLen; omega) rfl rfl)
  have c1 : ¬ (n : Int) < 0 := by omega
  have c2 : ¬ (1152921504606846976 : Int) < (n : Int) := by omega
  have c3 : IntKind.u64.wrap (n : Int) = (n : Int) := by simp [IntKind.wrap, IntKind.bits, IntKind.signed]; omega
  have c4 : IntKind.u64.wrap ((n : Int) * 8) = ((8 * n : Nat) : Int) := by simp [IntKind.wrap, IntKind.bits, IntKind.signed]; omega
  have c5 : ((n : Int) * 8) % 18446744073709551616 = ((8 * n : Nat) : Int) := by omega
  go_enter Tryz.func105, Tryz.ntmps105
  go_wp2
  go_loopw [4] (fun u4 wr => ∃ k : Nat, k ≤ noughts n ∧ Own wr w.heap.size 5 u4 (128 :: List.replicate k 0) ∧ Below w.heap.size w wr) (fun u4 _ => 100 - lenV u4)
  case atStart => exact ⟨0, by omega, HI.out, (Below.refl _ w).alloc (Nat.le_refl _) _⟩
  case round =>
    clear HI
    obtain ⟨k, hk, ho, hbel⟩ := hrel
    have HO := hide ho
    obtain ⟨A, c, hv, hc, hm, -⟩ := ho.by_.form
    rw [show ((128 : UInt8) :: List.replicate k 0).length = k + 1 by simp] at hv hc
    rw [hv] at HO ⊢
    clear ho hv
    have hn63 := noughts_le n
    have hiff := noughts_eq n k hk
    unfold maxLen at hm
    by_cases hkn : k = noughts n
    · have d1 : ((n : Int) + ((k : Int) + 1)) % 64 = 56 := by have := hiff.2 hkn; omega
      have HK := hide hkn
      clear hkn hiff
      obtain ⟨X, hX⟩ : ∃ X, X = 8 * n := ⟨_, rfl⟩
      rw [← hX] at c4 c5
      have HI := hide (show Own wr w.heap.size 5 (.slice A (k + 1) c) ((128 :: List.replicate k 0) ++ (bigL X 8).take 0) by simpa using HO.out)
      have HX := hide hX
      clear HO hX
      go_wp2
      clear d1
      go_loopw [4, 6] (fun u4 u6 wr => ∃ i : Nat, i ≤ 8 ∧ u6 = .int .i64 (7 - (i : Int)) ∧ Own wr w.heap.size 5 u4 ((128 :: List.replicate k 0) ++ (bigL X 8).take i) ∧ Below w.heap.size w wr) (fun _ u6 _ => (intOf u6 + 1).toNat)
      case atStart => exact ⟨0, by omega, rfl, HI.out, hbel⟩
      case round =>
        clear HI hbel
        obtain ⟨i, hi, rfl, ho, hbel⟩ := hrel
        have HO := hide ho
        clear ho
        by_cases hlt : i < 8
        · obtain ⟨j, hj⟩ : ∃ j, j = 8 - 1 - i := ⟨_, rfl⟩
          have e1 : (7 : Int) - (i : Int) = (j : Int) := by omega
          have e3 : (j : Int) < 8 := by omega
          have e4 : (0 : Int) ≤ (j : Int) := by omega
          have hlen : ((128 :: List.replicate k 0) ++ (bigL X 8).take i).length + 1 ≤ 140737488355328 := by simp; omega
          have HLEN := hide hlen
          have HV := hide (show ((X : Int) / 2 ^ (8 * j) % 256) = ((UInt8.ofNat (X / 256 ^ (8 - 1 - i))).toNat : Int) by rw [byte_of, hj])
          have HT := hide (bigL_take X 8 i hlt)
          clear hj hlen
          rw [e1]
          go_wp2_with (at_builtin; go_loud (rw [HV.out]; refine wpList_pushB elem8 HO.out hbel hbel.size HLEN.out (UInt8.ofNat (X / 256 ^ (8 - 1 - i))) rfl _ _ rfl rfl rfl ?_); intro v1 w1 hown1 hbel1 _ _)
          go_roundw
          case rel => exact ⟨i + 1, by omega, by rw [← e1, Int.natCast_add, Int.sub_sub (7 : Int)]; rfl, by rw [HT.out, ← List.append_assoc]; exact hown1, hbel1⟩
          case measure => simp [intOf] <;> omega
        · have hin : i = 8 := by omega
          subst hin
          go_wp2
          go_ret2
          refine ⟨_, rfl, ?_, hbel⟩
          have := HO.out
          rw [List.take_of_length_le (by simp), HX.out, HK.out] at this
          exact this
    · have d1 : ¬ ((n : Int) + ((k : Int) + 1)) % 64 = 56 := by have := fun h => hkn (hiff.1 h); omega
      have hlt : k < noughts n := by omega
      have HK := hide hlt
      clear hkn hiff hlt
      go_wp2_with (at_builtin; go_loud (refine wpList_pushB elem8 HO.out hbel hbel.size (by simp; omega) 0 rfl _ _ rfl rfl rfl ?_); intro v1 w1 hown1 hbel1 _ _)
      obtain ⟨A1, c1, hv1, -, -, -⟩ := hown1.by_.form
      go_roundw
      case rel => exact ⟨k + 1, HK.out, by rw [rep_snoc]; exact hown1, hbel1⟩
      case measure => rw [hv1]; simp [lenV]; omega
end Go.Proofs.YtcpceaflnnkhnaaGreatDoor

/- The program's hash: Initial, New, ok, and Write to a fresh one. -/
namespace Go.Proofs.YtcpceaflnnkhnaaGreatDoor
open Go.RowKit

/-- The cells of a hash. -/
def hcs (h : H8) (v : Value) (n : Int) : Array Value := #[.bool true, .int .u32 (h.a.toNat : Int), .int .u32 (h.b.toNat : Int), .int .u32 (h.c.toNat : Int), .int .u32 (h.d.toNat : Int), .int .u32 (h.e.toNat : Int), .int .u32 (h.f.toNat : Int), .int .u32 (h.g.toNat : Int), .int .u32 (h.h.toNat : Int), v, .int .i64 n]
theorem hcs0 : hcs sha0 (.slice none 0 0) 0 = #[.bool true, .int .u32 1779033703, .int .u32 3144134277, .int .u32 1013904242, .int .u32 2773480762, .int .u32 1359893119, .int .u32 2600822924, .int .u32 528734635, .int .u32 1541459225, .slice none 0 0, .int .i64 0] := rfl
set_option maxHeartbeats 1000000 in
theorem new_any (w : World) : Calls Tryz.prog 119 #[] w fun e w' => ∃ g, e = .returned (.pointer (some ⟨g, 0, none⟩)) ∧ Blk w' g 226 (hcs sha0 (.slice none 0 0) 0) ∧ Below w.heap.size w w' ∧ w.heap.size ≤ g := by
  have q1 : ∀ w : World, Calls Tryz.prog 139 #[] w fun e w' => e = .returned (.agg #[.int .u32 1779033703, .int .u32 3144134277, .int .u32 1013904242, .int .u32 2773480762, .int .u32 1359893119, .int .u32 2600822924, .int .u32 528734635, .int .u32 1541459225]) ∧ Below w.heap.size w w' := by
    intro w
    go_enter Tryz.func139, Tryz.ntmps139
    go_wp2
    refine bodyPost_ret (results_cell_row rfl _ _ w.heap.size 188 _ (0, 0) _ rfl (Blk.new _ _ _) Tryz.underlying188 rfl (by kernel_rfl)) rfl ⟨rfl, (Below.refl _ w).alloc (Nat.le_refl _) _⟩
  have Q1 := hide q1
  clear q1
  go_enter Tryz.func119, Tryz.ntmps119
  go_wp2_with fail
  refine (Q1.out _).mono ?_
  rintro e w1 ⟨rfl, b1⟩
  go_wp2
  go_ret
  refine ⟨_, rfl, ?_, b1.alloc b1.size _, b1.size⟩
  rw [hcs0]
  exact Blk.new _ _ _
set_option maxHeartbeats 1000000 in
theorem hok_any (g : Nat) (w : World) (h : w.cell? ⟨g, 0, none⟩ = some (.bool true)) : Calls Tryz.prog 140 #[.pointer (some ⟨g, 0, none⟩)] w fun e w' => e = .returned (.bool true) ∧ w' = w := by
  go_enter Tryz.func140, Tryz.ntmps140
  go_wp2
  go_ret
  exact ⟨rfl, rfl⟩
theorem blk_h8 {w : World} {g : Nat} {t : TypeId} {h : H8} {v : Value} {n : Int} (hb : Blk w g t (hcs h v n)) (z0 z1 z2 z3 z4 z5 z6 z7 : UInt32) :
    Blk ((((((((w.setCell ⟨g, 1, none⟩ (.int .u32 (z0.toNat : Int))).setCell ⟨g, 2, none⟩ (.int .u32 (z1.toNat : Int))).setCell ⟨g, 3, none⟩ (.int .u32 (z2.toNat : Int))).setCell ⟨g, 4, none⟩ (.int .u32 (z3.toNat : Int))).setCell ⟨g, 5, none⟩ (.int .u32 (z4.toNat : Int))).setCell ⟨g, 6, none⟩ (.int .u32 (z5.toNat : Int))).setCell ⟨g, 7, none⟩ (.int .u32 (z6.toNat : Int))).setCell ⟨g, 8, none⟩ (.int .u32 (z7.toNat : Int))) g t (hcs ⟨z0, z1, z2, z3, z4, z5, z6, z7⟩ v n) := by
  have := (((((((hb.set_ 1 (.int .u32 (z0.toNat : Int))).set_ 2 (.int .u32 (z1.toNat : Int))).set_ 3 (.int .u32 (z2.toNat : Int))).set_ 4 (.int .u32 (z3.toNat : Int))).set_ 5 (.int .u32 (z4.toNat : Int))).set_ 6 (.int .u32 (z5.toNat : Int))).set_ 7 (.int .u32 (z6.toNat : Int))).set_ 8 (.int .u32 (z7.toNat : Int))
  simpa [hcs] using this
theorem below_h8 {w0 w : World} {B n : Nat} (h : Below B w0 w) (hn : B ≤ n) (b0 b1 b2 b3 b4 b5 b6 b7 : Value) : Below B w0 ((((((((w.setCell ⟨n, 1, none⟩ b0).setCell ⟨n, 2, none⟩ b1).setCell ⟨n, 3, none⟩ b2).setCell ⟨n, 4, none⟩ b3).setCell ⟨n, 5, none⟩ b4).setCell ⟨n, 6, none⟩ b5).setCell ⟨n, 7, none⟩ b6).setCell ⟨n, 8, none⟩ b7) :=
  (((((((h.setCell hn _).setCell hn _).setCell hn _).setCell hn _).setCell hn _).setCell hn _).setCell hn _).setCell hn _
theorem mix_eight (y0 y1 y2 y3 y4 y5 y6 y7 : UInt32) (b : List UInt8) (cs : Array Value) (w : World) (hb : b.length = 64) (hc : cs = (bcells b).toArray) : Calls Tryz.prog 141 #[.agg #[.int .u32 (y0.toNat : Int), .int .u32 (y1.toNat : Int), .int .u32 (y2.toNat : Int), .int .u32 (y3.toNat : Int), .int .u32 (y4.toNat : Int), .int .u32 (y5.toNat : Int), .int .u32 (y6.toNat : Int), .int .u32 (y7.toNat : Int)], .agg cs] w fun e w' => ∃ z0 z1 z2 z3 z4 z5 z6 z7, mixH ⟨y0, y1, y2, y3, y4, y5, y6, y7⟩ b = ⟨z0, z1, z2, z3, z4, z5, z6, z7⟩ ∧ e = .returned (.agg #[.int .u32 (z0.toNat : Int), .int .u32 (z1.toNat : Int), .int .u32 (z2.toNat : Int), .int .u32 (z3.toNat : Int), .int .u32 (z4.toNat : Int), .int .u32 (z5.toNat : Int), .int .u32 (z6.toNat : Int), .int .u32 (z7.toNat : Int)]) ∧ Below w.heap.size w w' := by
  subst hc
  exact (mix_any ⟨y0, y1, y2, y3, y4, y5, y6, y7⟩ b w hb).mono fun _ _ h => ⟨_, _, _, _, _, _, _, _, rfl, h.1, h.2⟩
theorem wpOp_value {P : Program} {ops : Array Oper} {Q : Exit → Act → World → Prop} {K : Act → World → Prop} {i : Nat} {o : Oper} {a : Act} {w : World} {v : Value} (hi : ops[i]? = some o) (hg : o.guard = none) (hv : (execOp a.eval o).run P w = .ok (.value v) w) (h : K (a.put o.dst v) w) : wpOp P ops Q i K a w := by
  unfold Go.wpOp
  simp only [hi]
  have hw : Region.wanted o (yielded ops a.tmps) = true := by simp [Region.wanted, hg]
  simp only [hw, if_true, Oper.wp, hv, Oper.upon]
  exact .inl h
theorem put_swap (a : Act) {d e : Tmp} (h : d ≠ e) (u v : Value) : (a.put (some d) u).put (some e) v = (a.put (some e) v).put (some d) u := by
  simp only [Act.put]
  congr 1
  exact Array.setIfInBounds_comm _ _ h
theorem listed_swap (l : Array Bool) (i j : Nat) : (l.setIfInBounds i true).setIfInBounds j true = (l.setIfInBounds j true).setIfInBounds i true := by
  by_cases h : i = j
  · subst h; rfl
  · exact Array.setIfInBounds_comm _ _ h
/-- Two operations that only look may come in either order; one way goes on. -/
theorem wpAny_pair {P : Program} {md : Region.Mode} {ops : Array Oper} {Q : Exit → Act → World → Prop} {fuel : Nat} {listed : Array Bool} {a : Act} {w : World} {oi oj : Oper} (i j : Nat) (di dj : Tmp) (vi vj : Value)
    (hr : Region.ready md ops listed = [i, j]) (hri : Region.ready md ops (listed.setIfInBounds i true) = [j]) (hrj : Region.ready md ops (listed.setIfInBounds j true) = [i])
    (hi : ops[i]? = some oi) (hj : ops[j]? = some oj) (gi : oi.guard = none) (gj : oj.guard = none) (ei : oi.dst = some di) (ej : oj.dst = some dj) (hne : di ≠ dj)
    (yi : (execOp a.eval oi).run P w = .ok (.value vi) w) (yi2 : (execOp (a.put (some dj) vj).eval oi).run P w = .ok (.value vi) w)
    (yj : (execOp a.eval oj).run P w = .ok (.value vj) w) (yj2 : (execOp (a.put (some di) vi).eval oj).run P w = .ok (.value vj) w)
    (h : wpAny P md ops Q fuel ((listed.setIfInBounds i true).setIfInBounds j true) ((a.put (some di) vi).put (some dj) vj) w) : wpAny P md ops Q (fuel + 1 + 1) listed a w := by
  refine wpAny_all hr (by simp) fun k hk => ?_
  rcases List.mem_cons.1 hk with rfl | hk
  · refine wpOp_value hi gi yi (wpAny_all hri (by simp) fun k hk => ?_)
    obtain rfl := List.mem_singleton.1 hk
    refine wpOp_value hj gj (by rw [ei]; exact yj2) ?_
    rw [ei, ej]
    exact h
  · obtain rfl := List.mem_singleton.1 hk
    refine wpOp_value hj gj yj (wpAny_all hrj (by simp) fun k hk => ?_)
    obtain rfl := List.mem_singleton.1 hk
    refine wpOp_value hi gi (by rw [ej]; exact yi2) ?_
    rw [ei, ej, listed_swap, put_swap _ (Ne.symm hne)]
    exact h
theorem exec_load_mid {P : Program} {a : Act} {w : World} {o : Oper} (ty : TypeId) (x : Operand) (ho : o.op = .load ty x)
    (b i : Nat) (hx : a.eval x = .pointer (some ⟨b, i, none⟩)) (cs : List Value) (d : TypeDesc) (hc : w.rangeAt b i cs) (hu : P.underlying ty = some d) (hd : d.isRow = true) (hi : (P.info? ty).map (·.size) = some cs.length) :
    (execOp a.eval o).run P w = .ok (.value (.agg cs.toArray)) w := by
  unfold execOp
  simp only [ho, hx, Instr.loadAt, Instr.sureAddr, Sem.run_bind, Sem.run_pure, Result.andThen_ok, run_loadVar_mid w b i ty cs d hc hu hd hi]
theorem sub_by {w : World} {g o c : Nat} {l : List UInt8} (h : By w (.slice (some ⟨g, o, none⟩) l.length c) l) (i j c' : Nat) (hij : i + j ≤ l.length) (hc' : j ≤ c') (hm : c' ≤ maxLen) :
    By w (.slice (some ⟨g, o + i, none⟩) j c') ((l.drop i).take j) := by
  obtain ⟨h0, A, c0, hv, hc0, hm0, hcell⟩ := h
  injection hv with e1 e2 e3
  have hlen : ((l.drop i).take j).length = j := by rw [List.length_take, List.length_drop]; omega
  refine ⟨by simp, _, c', by rw [hlen], by rw [hlen]; exact hc', hm, fun hp => ?_⟩
  rw [hlen] at hp
  obtain ⟨b, o2, hA, hb, hcs⟩ := hcell (by omega)
  rw [← e1] at hA
  cases hA
  refine ⟨g, o + i, rfl, hb, fun q hq => ?_⟩
  rw [hlen] at hq
  rw [Nat.add_assoc, hcs (i + q) (by omega), bcells_get, bcells_get, List.getElem?_take_of_lt (by omega), List.getElem?_drop]
/-- A slice from its 64th byte on, as the model gives it. -/
theorem by_from {w : World} {g o R c : Nat} {l : List UInt8} (h : By w (.slice (some ⟨g, o, none⟩) R c) l) (hR : R = l.length) (h64 : 64 ≤ R) (hc : R ≤ c) (hm : c ≤ maxLen) :
    By w (.slice (if c = 64 then some ⟨g, o, none⟩ else some ⟨g, o + 64, none⟩) (R - 64) (c - 64)) (l.drop 64) := by
  by_cases hc64 : c = 64
  · have h0 : l.drop 64 = [] := List.drop_of_length_le (by omega)
    rw [if_pos hc64, h0, show R - 64 = 0 by omega, show c - 64 = 0 by omega]
    exact ⟨by simp, _, 0, rfl, Nat.le_refl _, by unfold maxLen; omega, fun hp => by simp at hp⟩
  · rw [if_neg hc64]
    rw [hR] at h
    have h2 := sub_by h 64 (R - 64) (c - 64) (by omega) (by omega) (by omega)
    rw [List.take_of_length_le (by rw [List.length_drop]; omega)] at h2
    exact h2
/-- The bytes of a slice lie where it points. -/
theorem range_by {w : World} {A : Option Addr} {n c : Nat} {l : List UInt8} (h : By w (.slice A n c) l) (hp : 0 < l.length) : ∃ b o, A = some ⟨b, o, none⟩ ∧ b < w.heap.size ∧ w.rangeAt b o (bcells l) := by
  obtain ⟨h0, A2, c0, hv, hc0, hm0, hcell⟩ := h
  injection hv with e1 e2 e3
  subst e1
  obtain ⟨b, o, hA, hb, hcs⟩ := hcell hp
  refine ⟨b, o, hA, hb, fun j v hj => ?_⟩
  rw [hcs j (by have := (List.getElem?_eq_some_iff.1 hj).1; simpa using this), hj]
theorem range_take {w : World} {b o : Nat} {l : List UInt8} (h : w.rangeAt b o (bcells l)) (k : Nat) : w.rangeAt b o (bcells (l.take k)) := fun j v hj => h j v (by
  rw [bcells_get] at hj ⊢
  by_cases hk : j < k
  · rw [List.getElem?_take_of_lt hk] at hj; exact hj
  · rw [List.getElem?_eq_none (by rw [List.length_take]; omega)] at hj; cases hj)
theorem range_below {w w' : World} {b o B : Nat} {cs : List Value} (h : w.rangeAt b o cs) (hb : Below B w w') (hB : b < B) : w'.rangeAt b o cs := fun j v hj => (hb.cell (p := ⟨b, o + j, none⟩) hB).trans (h j v hj)
theorem own_farh {w : World} {base : Nat} {e : TypeId} {v : Value} {l : List UInt8} (h : Own w base e v l) {p : Addr} (hp : v.ownBlock = none ∨ v.ownBlock ≠ some p.block) (u : Value) : Own (w.setCell p u) base e v l := by
  obtain ⟨h1, h2 | ⟨g, cap, cur, hv, hg, hh, r⟩⟩ := h
  · exact ⟨h1, .inl h2⟩
  · subst hv
    refine ⟨h1, .inr ⟨g, cap, cur, rfl, hg, (Below.heap_setCell w p u g ?_).trans hh, r⟩⟩
    rcases hp with hp | hp
    · simp [Value.ownBlock] at hp
    · intro e2
      exact hp (by simp [Value.ownBlock, e2])
set_option maxRecDepth 100000 in
set_option maxHeartbeats 4000000 in
theorem hwrite_any (N : Nat) (v : Value) (l : List UInt8) (w0 w : World) (hv : By w0 v l) (hb : Below N w0 w) (h0 : w0.heap.size ≤ N) (hN : Blk w N 226 (hcs sha0 (.slice none 0 0) 0)) (hl : l.length ≤ 1099511627776) :
    Calls Tryz.prog 120 #[.pointer (some ⟨N, 0, none⟩), v] w fun e w' => e = .returned (.int .i64 0) ∧ Below N w0 w' ∧ ∃ u, Blk w' N 226 (hcs (mixN sha0 l (l.length / 64)) u (l.length : Int)) ∧ By w' u (l.drop (64 * (l.length / 64))) := by
  obtain ⟨A, c, rfl, hc, hm, -⟩ := hv.form
  have HV := hide hv
  clear hv
  unfold maxLen at hm
  obtain ⟨L, hL⟩ : ∃ L, L = l.length := ⟨_, rfl⟩
  rw [← hL] at hc hl HV ⊢
  obtain ⟨m, hmm⟩ : ∃ m, m = L / 64 := ⟨_, rfl⟩
  rw [← hmm]
  have g0 : w.cell? ⟨N, 0, none⟩ = some (.bool true) := (hN.cell 0).trans rfl
  have g9 : w.cell? ⟨N, 9, none⟩ = some (.slice none 0 0) := (hN.cell 9).trans rfl
  have ga : w.cell? ⟨N, 10, none⟩ = some (.int .i64 0) := (hN.cell 10).trans rfl
  have sa : w.frozen? ⟨N, 10, none⟩ = false := hN.frozen 10
  have HN := hide (show Blk (w.setCell ⟨N, 10, none⟩ (.int .i64 (L : Int))) N 226 (hcs (mixN sha0 l 0) (.slice none 0 0) (L : Int)) ∧ Below N w0 (w.setCell ⟨N, 10, none⟩ (.int .i64 (L : Int))) from ⟨hN.set_ 10 _, hb.setCell (Nat.le_refl _) _⟩)
  have HL := hide (And.intro hL hmm)
  have HW := hide h0
  clear hL hmm hN hb h0
  go_enter Tryz.func120, Tryz.ntmps120
  go_wp2_with fail
  refine (hok_any N w g0).mono ?_
  rintro e w1 ⟨rfl, rfl⟩
  go_wp2
  have HV0 := hide (show By w0 (.slice A L c) (l.drop (64 * 0)) from by simpa using HV.out)
  clear g0 g9 ga sa
  go_loopw [1] (fun u1 wr => ∃ q : Nat, q ≤ m ∧ By w0 u1 (l.drop (64 * q)) ∧ Blk wr N 226 (hcs (mixN sha0 l q) (.slice none 0 0) (L : Int)) ∧ Below N w0 wr) (fun u1 _ => lenV u1)
  case atStart => exact ⟨0, by omega, HV0.out, HN.out⟩
  case round =>
    clear HN HV0
    obtain ⟨q, hq, hv, h1, h2⟩ := hrel
    have H := hide (And.intro h1 h2)
    clear h1 h2
    obtain ⟨I, hI⟩ : ∃ I, I = 64 * q := ⟨_, rfl⟩
    rw [← hI] at hv
    obtain ⟨h, hh⟩ : ∃ h, h = mixN sha0 l q := ⟨_, rfl⟩
    rw [← hh] at H
    obtain ⟨M, hM⟩ : ∃ M, M = l.drop I := ⟨_, rfl⟩
    rw [← hM] at hv
    have hR : M.length = L - I := by rw [hM, List.length_drop, ← HL.out.1]
    have HIQ := hide (And.intro hI (And.intro hh hM))
    have hqL : L = 64 * m + L % 64 := by have := HL.out.2; omega
    by_cases hlt : q < m
    · obtain ⟨y0, y1, y2, y3, y4, y5, y6, y7⟩ := h
      have g1 : wr.cell? ⟨N, 1, none⟩ = some (.int .u32 (y0.toNat : Int)) := (H.out.1.cell 1).trans rfl
      have s1 : wr.frozen? ⟨N, 1, none⟩ = false := H.out.1.frozen 1
      have g2 : wr.cell? ⟨N, 2, none⟩ = some (.int .u32 (y1.toNat : Int)) := (H.out.1.cell 2).trans rfl
      have s2 : wr.frozen? ⟨N, 2, none⟩ = false := H.out.1.frozen 2
      have g3 : wr.cell? ⟨N, 3, none⟩ = some (.int .u32 (y2.toNat : Int)) := (H.out.1.cell 3).trans rfl
      have s3 : wr.frozen? ⟨N, 3, none⟩ = false := H.out.1.frozen 3
      have g4 : wr.cell? ⟨N, 4, none⟩ = some (.int .u32 (y3.toNat : Int)) := (H.out.1.cell 4).trans rfl
      have s4 : wr.frozen? ⟨N, 4, none⟩ = false := H.out.1.frozen 4
      have g5 : wr.cell? ⟨N, 5, none⟩ = some (.int .u32 (y4.toNat : Int)) := (H.out.1.cell 5).trans rfl
      have s5 : wr.frozen? ⟨N, 5, none⟩ = false := H.out.1.frozen 5
      have g6 : wr.cell? ⟨N, 6, none⟩ = some (.int .u32 (y5.toNat : Int)) := (H.out.1.cell 6).trans rfl
      have s6 : wr.frozen? ⟨N, 6, none⟩ = false := H.out.1.frozen 6
      have g7 : wr.cell? ⟨N, 7, none⟩ = some (.int .u32 (y6.toNat : Int)) := (H.out.1.cell 7).trans rfl
      have s7 : wr.frozen? ⟨N, 7, none⟩ = false := H.out.1.frozen 7
      have g8 : wr.cell? ⟨N, 8, none⟩ = some (.int .u32 (y7.toNat : Int)) := (H.out.1.cell 8).trans rfl
      have s8 : wr.frozen? ⟨N, 8, none⟩ = false := H.out.1.frozen 8
      obtain ⟨A1, c1, rfl, hc1, hm1, -⟩ := hv.form
      obtain ⟨b, o, rfl, hbl, hr⟩ := range_by hv (by omega)
      obtain ⟨R, hRR⟩ : ∃ R, R = M.length := ⟨_, rfl⟩
      rw [← hRR] at hv hc1 ⊢
      have e1 : (64 : Int) ≤ (R : Int) := by omega
      have e2 : (R : Int) ≤ (c1 : Int) := by omega
      have hs2a : ∀ W : World, (Instr.arrayAt 190 (.slice (some ⟨b, o, none⟩) R c1)).run Tryz.prog W = .ok (.pointer (some ⟨b, o, none⟩)) W := fun W => run_arrayAt W 190 5 64 _ R c1 Tryz.underlying190 (by omega)
      obtain ⟨bl, hbb⟩ : ∃ bl, bl = M.take 64 := ⟨_, rfl⟩
      have hbl64 : bl.length = 64 := by rw [hbb, List.length_take]; omega
      obtain ⟨cs, hcd⟩ : ∃ cs, cs = bcells bl := ⟨_, rfl⟩
      have hrw : wr.drew.rangeAt b o cs := by rw [hcd, hbb]; exact range_take (range_below hr H.out.2 (Nat.lt_of_lt_of_le hbl HW.out)) 64
      have hcl : cs.length = 64 := by rw [hcd, bcells_length, hbl64]
      have QM := hide (fun w => mix_eight y0 y1 y2 y3 y4 y5 y6 y7 bl cs.toArray w hbl64 (by rw [hcd]))
      have hci : (Tryz.prog.info? 190).map (·.size) = some cs.length := by rw [hcl]; kernel_rfl
      have HR := hide (And.intro hrw hci)
      have HY := hide (show wr.drew.rangeAt N 1 [.int .u32 (y0.toNat : Int), .int .u32 (y1.toNat : Int), .int .u32 (y2.toNat : Int), .int .u32 (y3.toNat : Int), .int .u32 (y4.toNat : Int), .int .u32 (y5.toNat : Int), .int .u32 (y6.toNat : Int), .int .u32 (y7.toNat : Int)] ∧ (Tryz.prog.info? 224).map (·.size) = some ([.int .u32 (y0.toNat : Int), .int .u32 (y1.toNat : Int), .int .u32 (y2.toNat : Int), .int .u32 (y3.toNat : Int), .int .u32 (y4.toNat : Int), .int .u32 (y5.toNat : Int), .int .u32 (y6.toNat : Int), .int .u32 (y7.toNat : Int)] : List Value).length from ⟨fun j v hj => by
        have hj8 : j < 8 := by simpa using (List.getElem?_eq_some_iff.1 hj).1
        rw [show wr.drew.cell? ⟨N, 1 + j, none⟩ = wr.cell? ⟨N, 1 + j, none⟩ from rfl, H.out.1.cell, ← hj]
        obtain rfl | rfl | rfl | rfl | rfl | rfl | rfl | rfl : j = 0 ∨ j = 1 ∨ j = 2 ∨ j = 3 ∨ j = 4 ∨ j = 5 ∨ j = 6 ∨ j = 7 := by omega
        all_goals rfl, by kernel_rfl⟩)
      have HB := hide (And.intro hv (And.intro hbb (And.intro hRR (And.intro hc1 hm1))))
      have HK := hide (show ∀ w' : World, Below wr.drew.heap.size wr.drew w' → Hid (Blk w' N 226 (hcs ⟨y0, y1, y2, y3, y4, y5, y6, y7⟩ (.slice none 0 0) (L : Int)) ∧ Below N w0 w') ∧ w'.cell? ⟨N, 1, none⟩ = some (.int .u32 (y0.toNat : Int)) ∧ w'.cell? ⟨N, 2, none⟩ = some (.int .u32 (y1.toNat : Int)) ∧ w'.cell? ⟨N, 3, none⟩ = some (.int .u32 (y2.toNat : Int)) ∧ w'.cell? ⟨N, 4, none⟩ = some (.int .u32 (y3.toNat : Int)) ∧ w'.cell? ⟨N, 5, none⟩ = some (.int .u32 (y4.toNat : Int)) ∧ w'.cell? ⟨N, 6, none⟩ = some (.int .u32 (y5.toNat : Int)) ∧ w'.cell? ⟨N, 7, none⟩ = some (.int .u32 (y6.toNat : Int)) ∧ w'.cell? ⟨N, 8, none⟩ = some (.int .u32 (y7.toNat : Int)) ∧ w'.frozen? ⟨N, 1, none⟩ = false ∧ w'.frozen? ⟨N, 2, none⟩ = false ∧ w'.frozen? ⟨N, 3, none⟩ = false ∧ w'.frozen? ⟨N, 4, none⟩ = false ∧ w'.frozen? ⟨N, 5, none⟩ = false ∧ w'.frozen? ⟨N, 6, none⟩ = false ∧ w'.frozen? ⟨N, 7, none⟩ = false ∧ w'.frozen? ⟨N, 8, none⟩ = false from fun w' hw' => by
        have hk := H.out.1.drew.below' hw'
        refine ⟨hide ⟨hk, H.out.2.drew.trans (hw'.mono (Nat.le_of_lt H.out.1.lt))⟩, (hk.cell 1).trans rfl, (hk.cell 2).trans rfl, (hk.cell 3).trans rfl, (hk.cell 4).trans rfl, (hk.cell 5).trans rfl, (hk.cell 6).trans rfl, (hk.cell 7).trans rfl, (hk.cell 8).trans rfl, hk.frozen 1, hk.frozen 2, hk.frozen 3, hk.frozen 4, hk.frozen 5, hk.frozen 6, hk.frozen 7, hk.frozen 8⟩)
      clear hv hr hR hqL hbb hbl64 hI hh hM hRR hc1 hm1 hrw hcd hci hcl
      go_wp2
      refine wp_region_any (by kernel_rfl) ?_
      change wpAny _ _ _ _ _ _ _ (World.drew _)
      refine wpAny_take (i := 0) (v := ?v0) rfl (by kernel_rfl) (by kernel_rfl) (by kernel_rfl) (fun _ _ _ h => h) (Or.inl ⟨by rfl, ?hy0⟩) ?rest0
      case hy0 => (intro w; go_simp; try with_reducible rfl)
      refine wpAny_take (i := 1) (v := ?v1) rfl (by kernel_rfl) (by kernel_rfl) (by kernel_rfl) (fun _ _ _ h => h) (Or.inl ⟨by rfl, ?hy1⟩) ?rest1
      case hy1 => (intro w; go_simp; try with_reducible rfl)
      refine wpAny_take (i := 2) (v := ?v2) rfl (by kernel_rfl) (by kernel_rfl) (by kernel_rfl) (fun _ _ _ h => h) (Or.inl ⟨by rfl, ?hy2⟩) ?rest2
      case hy2 => (intro w; go_simp; try with_reducible rfl)
      refine wpAny_take (i := 3) (v := ?v3) rfl (by kernel_rfl) (by kernel_rfl) (by kernel_rfl) (fun _ _ _ h => h) (Or.inl ⟨by rfl, ?hy3⟩) ?rest3
      case hy3 => (intro w; go_simp; try with_reducible rfl)
      refine wpAny_take (i := 5) (v := ?v5) rfl (by kernel_rfl) (by kernel_rfl) (by kernel_rfl) (fun _ _ _ h => h) (Or.inl ⟨by rfl, ?hy5⟩) ?rest5
      case hy5 => (intro w; go_simp; try with_reducible rfl)
      refine wpAny_take (i := 6) (v := ?v6) rfl (by kernel_rfl) (by kernel_rfl) (by kernel_rfl) (fun _ _ _ h => h) (Or.inl ⟨by rfl, ?hy6⟩) ?rest6
      case hy6 => (intro w; go_simp; try with_reducible rfl)
      simp only [Act.put, List.setIfInBounds_toArray, List.set_cons_zero, List.set_cons_succ]
      refine wpAny_pair 4 7 80 83 (.agg (List.toArray [.int .u32 (y0.toNat : Int), .int .u32 (y1.toNat : Int), .int .u32 (y2.toNat : Int), .int .u32 (y3.toNat : Int), .int .u32 (y4.toNat : Int), .int .u32 (y5.toNat : Int), .int .u32 (y6.toNat : Int), .int .u32 (y7.toNat : Int)])) (.agg cs.toArray) (by kernel_rfl) (by kernel_rfl) (by kernel_rfl) rfl rfl rfl rfl rfl rfl (by decide) ?yi ?yi2 ?yj ?yj2 ?go
      case yi => exact exec_load_mid 224 (.tmp 79) (by kernel_rfl) N 1 (by kernel_rfl) _ _ HY.out.1 Tryz.underlying224 rfl HY.out.2
      case yi2 => exact exec_load_mid 224 (.tmp 79) (by kernel_rfl) N 1 (by kernel_rfl) _ _ HY.out.1 Tryz.underlying224 rfl HY.out.2
      case yj => exact exec_load_mid 190 (.tmp 82) (by kernel_rfl) b o (by kernel_rfl) cs _ HR.out.1 Tryz.underlying190 rfl HR.out.2
      case yj2 => exact exec_load_mid 190 (.tmp 82) (by kernel_rfl) b o (by kernel_rfl) cs _ HR.out.1 Tryz.underlying190 rfl HR.out.2
      case go =>
        simp only [Act.put, List.setIfInBounds_toArray, List.set_cons_zero, List.set_cons_succ]
        refine wpAny_ready (rs := [8]) (by kernel_rfl) (by simp) ?_
        refine AllReady.cons rfl (fun K hK => ?_) ?_
        rotate_left
        exact AllReady.nil
        go_simp
        refine (QM.out _).mono ?_
        rintro e w' ⟨z0, z1, z2, z3, z4, z5, z6, z7, hz, rfl, hbb⟩
        obtain ⟨HB', p1, p2, p3, p4, p5, p6, p7, p8, f1, f2, f3, f4, f5, f6, f7, f8⟩ := HK.out _ hbb
        refine hK _ _ ?_
        clear hK K
        try simp only [Act.put, List.setIfInBounds_toArray, List.set_cons_zero, List.set_cons_succ]
        refine wpAny_take (i := 9) (v := ?v9) rfl (by kernel_rfl) (by kernel_rfl) (by kernel_rfl) (fun _ _ _ h => h) (Or.inl ⟨by rfl, ?hy9⟩) ?rest9
        case hy9 => (intro w; go_simp; try with_reducible rfl)
        refine wpAny_take (i := 10) (v := ?v10) rfl (by kernel_rfl) (by kernel_rfl) (by kernel_rfl) (fun _ _ _ h => h) (Or.inl ⟨by rfl, ?hy10⟩) ?rest10
        case hy10 => (intro w; go_simp; try with_reducible rfl)
        refine wpAny_ready (rs := [11]) (by kernel_rfl) (by simp) ?_
        refine AllReady.cons rfl (fun K hK => ?_) ?_
        rotate_left
        exact AllReady.nil
        go_simp
        refine hK _ _ ?_
        clear hK K
        refine wpAny_done (by kernel_rfl) ?_ _
        clear p1 p2 p3 p4 p5 p6 p7 p8 f1 f2 f3 f4 f5 f6 f7 f8
        go_wp2
        go_roundw
        case rel =>
          refine ⟨q + 1, hlt, ?_, ?_, below_h8 HB'.out.2 (Nat.le_refl _) _ _ _ _ _ _ _ _⟩
          · have h2 := by_from HB.out.1 HB.out.2.2.1 (by have := e1; omega) HB.out.2.2.2.1 HB.out.2.2.2.2
            rw [HIQ.out.2.2, HIQ.out.1, List.drop_drop] at h2
            rw [show 64 * (q + 1) = 64 * q + 64 by omega]
            exact h2
          · have h2 := blk_h8 HB'.out.1 z0 z1 z2 z3 z4 z5 z6 z7
            rw [mixN_succ, ← HIQ.out.2.1, ← HIQ.out.1, ← HIQ.out.2.2, ← HB.out.2.1, hz]
            exact h2
        case measure => simp [lenV]; omega
    · have hqm : q = m := by omega
      subst hqm
      obtain ⟨A1, c1, rfl, hc1, hm1, -⟩ := hv.form
      have HV1 := hide (show By wr (.slice A1 M.length c1) M from hv.below (H.out.2.mono HW.out))
      have hlen : ([] : List UInt8).length + M.length ≤ 140737488355328 := by simp; omega
      have HLEN := hide hlen
      have g9 : wr.cell? ⟨N, 9, none⟩ = some (.slice none 0 0) := (H.out.1.cell 9).trans rfl
      obtain ⟨R, hRR⟩ : ∃ R, R = M.length := ⟨_, rfl⟩
      rw [← hRR] at hc1 HV1 ⊢
      have e1 : ¬ (64 : Int) ≤ (R : Int) := by omega
      have HRM := hide hRR
      clear hlen hR hqL hRR hv hM hh hI
      go_wp2_with (at_builtin; go_loud (refine wpList_pushV (l := []) elem8 (Own.nil wr N _) H.out.2 (Nat.le_of_lt H.out.1.lt) HV1.out HLEN.out rfl _ _ rfl rfl rfl ?_); intro v1 w1 o1 b1 g1 _; go_loud (obtain ⟨A2, n2, c2, rfl⟩ : ∃ A n c, v1 = .slice A n c := (by obtain ⟨A, c, h, -⟩ := o1.by_.form; exact ⟨A, _, c, h⟩); have HE := hide (And.intro o1 (And.intro b1 (H.out.1.grown g1 (by simp [Value.ownBlock])))); have c9 : w1.cell? ⟨N, 9, none⟩ = some (.slice none 0 0) := (HE.out.2.2.cell 9).trans rfl; have s9 : w1.frozen? ⟨N, 9, none⟩ = false := HE.out.2.2.frozen 9; clear o1 b1 g1))
      go_ret
      refine ⟨rfl, HE.out.2.1.setCell (Nat.le_refl _) _, .slice A2 n2 c2, ?_, ?_⟩
      · have h2 := HE.out.2.2.set_ 9 (.slice A2 n2 c2)
        rw [HIQ.out.2.1] at h2
        exact h2
      · have h2 := own_farh (p := ⟨N, 9, none⟩) HE.out.1 (own_blk_ne HE.out.1 HE.out.2.2 (by decide)) (.slice A2 n2 c2)
        rw [← HIQ.out.1, ← HIQ.out.2.2]
        exact h2.by_
end Go.Proofs.YtcpceaflnnkhnaaGreatDoor

/- Eight words are compared with noughts. -/
namespace Go.Proofs.YtcpceaflnnkhnaaGreatDoor
open Go.RowKit

theorem word_size (w : World) : (sizeOf 143).run Tryz.prog w = .ok 1 w := by
  have h : (Tryz.prog.info? 143).map (·.size) = some 1 := by kernel_rfl
  rcases hi : Tryz.prog.info? 143 with _ | i
  · rw [hi] at h; cases h
  · rw [hi] at h
    simp only [Option.map_some, Option.some.injEq] at h
    simp [sizeOf, typeInfo, run_program, hi, h]
set_option maxRecDepth 10000 in
set_option maxHeartbeats 1000000 in
theorem words_eq (x0 x1 x2 x3 x4 x5 x6 x7 : Int) (w : World) : (Op.equalIn 10000 224 (.agg #[.int .u32 x0, .int .u32 x1, .int .u32 x2, .int .u32 x3, .int .u32 x4, .int .u32 x5, .int .u32 x6, .int .u32 x7]) (.agg #[.int .u32 0, .int .u32 0, .int .u32 0, .int .u32 0, .int .u32 0, .int .u32 0, .int .u32 0, .int .u32 0])).run Tryz.prog w = .ok ((x0 == 0) && (x1 == 0) && (x2 == 0) && (x3 == 0) && (x4 == 0) && (x5 == 0) && (x6 == 0) && (x7 == 0)) w := by
  have hi : ∀ (a b : Int) (w : World), (Op.equalIn 9999 143 (.int .u32 a) (.int .u32 b)).run Tryz.prog w = .ok (a == b) w := fun a b w => run_equalIn_int w 9998 143 .u32 .u32 a b Tryz.underlying143
  rw [Op.equalIn]
  simp only [Sem.run_bind, run_underlying Tryz.underlying224, Result.andThen_ok, word_size, Std.Legacy.Range.forIn_eq_forIn_range', Std.Legacy.Range.size]
  simp only [Nat.sub_zero, Nat.add_sub_cancel, Nat.div_one, List.range'_succ, List.range'_zero, List.forIn_cons, List.forIn_nil]
  have hp0 : (Go.part 143 #[Value.int .u32 x0, Value.int .u32 x1, Value.int .u32 x2, Value.int .u32 x3, Value.int .u32 x4, Value.int .u32 x5, Value.int .u32 x6, Value.int .u32 x7] (0 * 1)).run Tryz.prog w = .ok (.int .u32 x0) w := by simp [Go.part, isAgg, run_underlying Tryz.underlying143]
  have hz0 : (Go.part 143 #[Value.int .u32 0, Value.int .u32 0, Value.int .u32 0, Value.int .u32 0, Value.int .u32 0, Value.int .u32 0, Value.int .u32 0, Value.int .u32 0] (0 * 1)).run Tryz.prog w = .ok (.int .u32 0) w := by simp [Go.part, isAgg, run_underlying Tryz.underlying143]
  have hp1 : (Go.part 143 #[Value.int .u32 x0, Value.int .u32 x1, Value.int .u32 x2, Value.int .u32 x3, Value.int .u32 x4, Value.int .u32 x5, Value.int .u32 x6, Value.int .u32 x7] ((0 + 1) * 1)).run Tryz.prog w = .ok (.int .u32 x1) w := by simp [Go.part, isAgg, run_underlying Tryz.underlying143]
  have hz1 : (Go.part 143 #[Value.int .u32 0, Value.int .u32 0, Value.int .u32 0, Value.int .u32 0, Value.int .u32 0, Value.int .u32 0, Value.int .u32 0, Value.int .u32 0] ((0 + 1) * 1)).run Tryz.prog w = .ok (.int .u32 0) w := by simp [Go.part, isAgg, run_underlying Tryz.underlying143]
  have hp2 : (Go.part 143 #[Value.int .u32 x0, Value.int .u32 x1, Value.int .u32 x2, Value.int .u32 x3, Value.int .u32 x4, Value.int .u32 x5, Value.int .u32 x6, Value.int .u32 x7] ((0 + 1 + 1) * 1)).run Tryz.prog w = .ok (.int .u32 x2) w := by simp [Go.part, isAgg, run_underlying Tryz.underlying143]
  have hz2 : (Go.part 143 #[Value.int .u32 0, Value.int .u32 0, Value.int .u32 0, Value.int .u32 0, Value.int .u32 0, Value.int .u32 0, Value.int .u32 0, Value.int .u32 0] ((0 + 1 + 1) * 1)).run Tryz.prog w = .ok (.int .u32 0) w := by simp [Go.part, isAgg, run_underlying Tryz.underlying143]
  have hp3 : (Go.part 143 #[Value.int .u32 x0, Value.int .u32 x1, Value.int .u32 x2, Value.int .u32 x3, Value.int .u32 x4, Value.int .u32 x5, Value.int .u32 x6, Value.int .u32 x7] ((0 + 1 + 1 + 1) * 1)).run Tryz.prog w = .ok (.int .u32 x3) w := by simp [Go.part, isAgg, run_underlying Tryz.underlying143]
  have hz3 : (Go.part 143 #[Value.int .u32 0, Value.int .u32 0, Value.int .u32 0, Value.int .u32 0, Value.int .u32 0, Value.int .u32 0, Value.int .u32 0, Value.int .u32 0] ((0 + 1 + 1 + 1) * 1)).run Tryz.prog w = .ok (.int .u32 0) w := by simp [Go.part, isAgg, run_underlying Tryz.underlying143]
  have hp4 : (Go.part 143 #[Value.int .u32 x0, Value.int .u32 x1, Value.int .u32 x2, Value.int .u32 x3, Value.int .u32 x4, Value.int .u32 x5, Value.int .u32 x6, Value.int .u32 x7] ((0 + 1 + 1 + 1 + 1) * 1)).run Tryz.prog w = .ok (.int .u32 x4) w := by simp [Go.part, isAgg, run_underlying Tryz.underlying143]
  have hz4 : (Go.part 143 #[Value.int .u32 0, Value.int .u32 0, Value.int .u32 0, Value.int .u32 0, Value.int .u32 0, Value.int .u32 0, Value.int .u32 0, Value.int .u32 0] ((0 + 1 + 1 + 1 + 1) * 1)).run Tryz.prog w = .ok (.int .u32 0) w := by simp [Go.part, isAgg, run_underlying Tryz.underlying143]
  have hp5 : (Go.part 143 #[Value.int .u32 x0, Value.int .u32 x1, Value.int .u32 x2, Value.int .u32 x3, Value.int .u32 x4, Value.int .u32 x5, Value.int .u32 x6, Value.int .u32 x7] ((0 + 1 + 1 + 1 + 1 + 1) * 1)).run Tryz.prog w = .ok (.int .u32 x5) w := by simp [Go.part, isAgg, run_underlying Tryz.underlying143]
  have hz5 : (Go.part 143 #[Value.int .u32 0, Value.int .u32 0, Value.int .u32 0, Value.int .u32 0, Value.int .u32 0, Value.int .u32 0, Value.int .u32 0, Value.int .u32 0] ((0 + 1 + 1 + 1 + 1 + 1) * 1)).run Tryz.prog w = .ok (.int .u32 0) w := by simp [Go.part, isAgg, run_underlying Tryz.underlying143]
  have hp6 : (Go.part 143 #[Value.int .u32 x0, Value.int .u32 x1, Value.int .u32 x2, Value.int .u32 x3, Value.int .u32 x4, Value.int .u32 x5, Value.int .u32 x6, Value.int .u32 x7] ((0 + 1 + 1 + 1 + 1 + 1 + 1) * 1)).run Tryz.prog w = .ok (.int .u32 x6) w := by simp [Go.part, isAgg, run_underlying Tryz.underlying143]
  have hz6 : (Go.part 143 #[Value.int .u32 0, Value.int .u32 0, Value.int .u32 0, Value.int .u32 0, Value.int .u32 0, Value.int .u32 0, Value.int .u32 0, Value.int .u32 0] ((0 + 1 + 1 + 1 + 1 + 1 + 1) * 1)).run Tryz.prog w = .ok (.int .u32 0) w := by simp [Go.part, isAgg, run_underlying Tryz.underlying143]
  have hp7 : (Go.part 143 #[Value.int .u32 x0, Value.int .u32 x1, Value.int .u32 x2, Value.int .u32 x3, Value.int .u32 x4, Value.int .u32 x5, Value.int .u32 x6, Value.int .u32 x7] ((0 + 1 + 1 + 1 + 1 + 1 + 1 + 1) * 1)).run Tryz.prog w = .ok (.int .u32 x7) w := by simp [Go.part, isAgg, run_underlying Tryz.underlying143]
  have hz7 : (Go.part 143 #[Value.int .u32 0, Value.int .u32 0, Value.int .u32 0, Value.int .u32 0, Value.int .u32 0, Value.int .u32 0, Value.int .u32 0, Value.int .u32 0] ((0 + 1 + 1 + 1 + 1 + 1 + 1 + 1) * 1)).run Tryz.prog w = .ok (.int .u32 0) w := by simp [Go.part, isAgg, run_underlying Tryz.underlying143]
  cases h0 : (x0 == 0)
  · simp [Go.part, isAgg, run_underlying Tryz.underlying143, hi, h0]
  simp only [Sem.run_bind, hp0, hz0, Result.andThen_ok, hi, h0, Bool.not_true, Bool.false_eq_true, if_false, Sem.run_pure, Bool.true_and]
  cases h1 : (x1 == 0)
  · simp [Go.part, isAgg, run_underlying Tryz.underlying143, hi, h1]
  simp only [Sem.run_bind, hp1, hz1, Result.andThen_ok, hi, h1, Bool.not_true, Bool.false_eq_true, if_false, Sem.run_pure, Bool.true_and]
  cases h2 : (x2 == 0)
  · simp [Go.part, isAgg, run_underlying Tryz.underlying143, hi, h2]
  simp only [Sem.run_bind, hp2, hz2, Result.andThen_ok, hi, h2, Bool.not_true, Bool.false_eq_true, if_false, Sem.run_pure, Bool.true_and]
  cases h3 : (x3 == 0)
  · simp [Go.part, isAgg, run_underlying Tryz.underlying143, hi, h3]
  simp only [Sem.run_bind, hp3, hz3, Result.andThen_ok, hi, h3, Bool.not_true, Bool.false_eq_true, if_false, Sem.run_pure, Bool.true_and]
  cases h4 : (x4 == 0)
  · simp [Go.part, isAgg, run_underlying Tryz.underlying143, hi, h4]
  simp only [Sem.run_bind, hp4, hz4, Result.andThen_ok, hi, h4, Bool.not_true, Bool.false_eq_true, if_false, Sem.run_pure, Bool.true_and]
  cases h5 : (x5 == 0)
  · simp [Go.part, isAgg, run_underlying Tryz.underlying143, hi, h5]
  simp only [Sem.run_bind, hp5, hz5, Result.andThen_ok, hi, h5, Bool.not_true, Bool.false_eq_true, if_false, Sem.run_pure, Bool.true_and]
  cases h6 : (x6 == 0)
  · simp [Go.part, isAgg, run_underlying Tryz.underlying143, hi, h6]
  simp only [Sem.run_bind, hp6, hz6, Result.andThen_ok, hi, h6, Bool.not_true, Bool.false_eq_true, if_false, Sem.run_pure, Bool.true_and]
  cases h7 : (x7 == 0)
  · simp [Go.part, isAgg, run_underlying Tryz.underlying143, hi, h7]
  simp only [Sem.run_bind, hp7, hz7, Result.andThen_ok, hi, h7, Bool.not_true, Bool.false_eq_true, if_false, Sem.run_pure, Bool.true_and]
theorem word_index (x0 x1 x2 x3 x4 x5 x6 x7 : Int) (i : Nat) (y : Int) (hi : i < 8) (h : (#[.int .u32 x0, .int .u32 x1, .int .u32 x2, .int .u32 x3, .int .u32 x4, .int .u32 x5, .int .u32 x6, .int .u32 x7] : Array Value)[i]? = some (.int .u32 y)) (w : World) : (Instr.index 224 (.agg #[.int .u32 x0, .int .u32 x1, .int .u32 x2, .int .u32 x3, .int .u32 x4, .int .u32 x5, .int .u32 x6, .int .u32 x7]) (.int .i64 (i : Int))).run Tryz.prog w = .ok (.int .u32 y) w := by
  have hw : IntKind.i64.wrap (i : Int) = (i : Int) := by simp [IntKind.wrap, IntKind.bits, IntKind.signed]; omega
  obtain rfl | rfl | rfl | rfl | rfl | rfl | rfl | rfl : i = 0 ∨ i = 1 ∨ i = 2 ∨ i = 3 ∨ i = 4 ∨ i = 5 ∨ i = 6 ∨ i = 7 := by omega
  all_goals
    simp at h
    subst h
    simp [Instr.index, asIntOf, run_underlying Tryz.underlying224, word_size, Go.part, isAgg, run_underlying Tryz.underlying143]
theorem u8_size (w : World) : (sizeOf 5).run Tryz.prog w = .ok 1 w := by
  have h : (Tryz.prog.info? 5).map (·.size) = some 1 := by kernel_rfl
  rcases hi : Tryz.prog.info? 5 with _ | i
  · rw [hi] at h; cases h
  · rw [hi] at h
    simp only [Option.map_some, Option.some.injEq] at h
    simp [sizeOf, typeInfo, run_program, hi, h]
/-- A digest's bytes from the j-th on. -/
theorem dig_slice (D j : Nat) (hj : j ≤ 28) (w : World) : (Instr.sliceAt 26 (.pointer (some ⟨D, 0, none⟩)) (some (.int .i64 (j : Int))) none none).run Tryz.prog w = .ok (.slice (some ⟨D, j, none⟩) (32 - j) (32 - j)) w := by
  have h1 : Tryz.prog.arrayLen 26 = 32 := by kernel_rfl
  have h2 : Tryz.prog.elem 26 = 5 := by kernel_rfl
  rw [run_sliceAt_array_l w 26 _ (by kernel_rfl) .i64 (j : Int) (by omega) (by rw [h1]; omega), h1, h2, u8_size]
  have h3 : ¬ 32 = j := by omega
  simp [slicedAt, h3, Go.Addr.add_mid, Result.andThen]
end Go.Proofs.YtcpceaflnnkhnaaGreatDoor

/- The program's hash: Sum. -/
namespace Go.Proofs.YtcpceaflnnkhnaaGreatDoor
open Go.RowKit

set_option maxHeartbeats 400000 in
theorem cat_join (v : Value) (L : List (Value × List UInt8)) (w : World) (h : Lsts w v L) (ht : total L ≤ 1099511627776) :
    Calls Tryz.prog 143 #[v] w fun e w' => ∃ v', e = .returned v' ∧ Own w' w.heap.size 5 v' (cat L) ∧ Below w.heap.size w w' := by
  obtain ⟨A, c, rfl, -, -, -⟩ := h.1.form
  have H := hide h
  clear h
  go_enter Tryz.func143, Tryz.ntmps143
  go_wp2_with fail
  refine (concat_any _ L w H.out ht).mono ?_
  rintro e w1 ⟨v1, rfl, o1, b1⟩
  go_wp2
  go_ret
  exact ⟨_, rfl, o1, b1⟩
/-- Two slices laid behind one another in a new block. -/
theorem lsts_two {w : World} {g : Nat} {va vb : Value} {a b : List UInt8} (t : TypeId) (hg : g = w.heap.size) (ha : By w va a) (hb : By w vb b) : Lsts (w.alloc (.cells #[va, vb] t)) (.slice (some ⟨g, 0, none⟩) 2 2) [(va, a), (vb, b)] := by
  subst hg
  have hbel := (Below.refl w.heap.size w).alloc (Nat.le_refl _) (.cells #[va, vb] t)
  refine ⟨⟨rfl, _, _, rfl, Nat.le_refl _, by unfold maxLen; simp, fun _ => ⟨_, _, rfl, by simp, fun j hj => ?_⟩⟩, fun x hx => ?_⟩
  · rw [(Blk.new w t #[va, vb]).cell]
    have : j = 0 ∨ j = 1 := by simp at hj; omega
    rcases this with rfl | rfl <;> rfl
  · simp at hx
    rcases hx with rfl | rfl
    · exact ha.below hbel
    · exact hb.below hbel
theorem grown_of_below {w w' : World} (h : Below w.heap.size w w') (r : Option Nat) : w.grownBy w' r := ⟨h.os, h.tape, h.output, h.size, fun k hk _ => h.block k hk⟩
theorem range_at {w : World} {b o n c : Nat} {l : List UInt8} (h : By w (.slice (some ⟨b, o, none⟩) n c) l) (hp : 0 < l.length) : ∀ j v, (bcells l)[j]? = some v → w.cell? ((⟨b, o, none⟩ : Addr).add j) = some v := by
  obtain ⟨b2, o2, he, -, hr⟩ := range_by h hp
  injection he with he
  injection he with e1 e2
  subst e1 e2
  intro j v hv
  rw [Go.Addr.add_mid]
  exact hr j v hv
theorem range_grown {w w' : World} {b o : Nat} {cs : List Value} {r : Option Nat} (h : w.rangeAt b o cs) (hg : w.grownBy w' r) (hb : b < w.heap.size) (hne : some b ≠ r) : w'.rangeAt b o cs := fun j v hj => by
  rw [World.cell?_of_block (hg.block b hb hne)]
  exact h j v hj
theorem grown_eight {w w' : World} {X : Nat} (h : w.grownBy w' (some X)) (b0 b1 b2 b3 b4 b5 b6 b7 : Value) : w.grownBy ((((((((w'.setCell ⟨X, 0, none⟩ b0).setCell ⟨X, 1, none⟩ b1).setCell ⟨X, 2, none⟩ b2).setCell ⟨X, 3, none⟩ b3).setCell ⟨X, 4, none⟩ b4).setCell ⟨X, 5, none⟩ b5).setCell ⟨X, 6, none⟩ b6).setCell ⟨X, 7, none⟩ b7) (some X) :=
  (((((((h.trans_ (store_grown _ _ _ _)).trans_ (store_grown _ _ _ _)).trans_ (store_grown _ _ _ _)).trans_ (store_grown _ _ _ _)).trans_ (store_grown _ _ _ _)).trans_ (store_grown _ _ _ _)).trans_ (store_grown _ _ _ _)).trans_ (store_grown _ _ _ _)
set_option maxRecDepth 100000 in
set_option maxHeartbeats 4000000 in
theorem hsum_any (N n : Nat) (h : H8) (u : Value) (r : List UInt8) (w : World) (hN : Blk w N 226 (hcs h u (n : Int))) (hu : By w u r) (hr : r.length ≤ 64) (hn : n ≤ 1099511627776) (h64 : (r ++ padL n).length % 64 = 0) :
    Calls Tryz.prog 121 #[.pointer (some ⟨N, 0, none⟩)] w fun e w' => e = .returned (.agg (bcells (digL (mixN h (r ++ padL n) ((r ++ padL n).length / 64)))).toArray) ∧ Below w.heap.size w w' := by
  obtain ⟨y0, y1, y2, y3, y4, y5, y6, y7⟩ := h
  obtain ⟨Au, cu, rfl, hcu, hmu, -⟩ := hu.form
  obtain ⟨ru, hru⟩ : ∃ ru, ru = r.length := ⟨_, rfl⟩
  rw [← hru] at hu hN hcu
  have g0 : w.cell? ⟨N, 0, none⟩ = some (.bool true) := (hN.cell 0).trans rfl
  have g1 : w.cell? ⟨N, 1, none⟩ = some (.int .u32 (y0.toNat : Int)) := (hN.cell 1).trans rfl
  have g2 : w.cell? ⟨N, 2, none⟩ = some (.int .u32 (y1.toNat : Int)) := (hN.cell 2).trans rfl
  have g3 : w.cell? ⟨N, 3, none⟩ = some (.int .u32 (y2.toNat : Int)) := (hN.cell 3).trans rfl
  have g4 : w.cell? ⟨N, 4, none⟩ = some (.int .u32 (y3.toNat : Int)) := (hN.cell 4).trans rfl
  have g5 : w.cell? ⟨N, 5, none⟩ = some (.int .u32 (y4.toNat : Int)) := (hN.cell 5).trans rfl
  have g6 : w.cell? ⟨N, 6, none⟩ = some (.int .u32 (y5.toNat : Int)) := (hN.cell 6).trans rfl
  have g7 : w.cell? ⟨N, 7, none⟩ = some (.int .u32 (y6.toNat : Int)) := (hN.cell 7).trans rfl
  have g8 : w.cell? ⟨N, 8, none⟩ = some (.int .u32 (y7.toNat : Int)) := (hN.cell 8).trans rfl
  have g9 : w.cell? ⟨N, 9, none⟩ = some (.slice Au ru cu) := (hN.cell 9).trans rfl
  have ga : w.cell? ⟨N, 10, none⟩ = some (.int .i64 (n : Int)) := (hN.cell 10).trans rfl
  have H0 := hide (And.intro hN (And.intro hu (And.intro hru hr)))
  have HNN := hide (And.intro hn h64)
  clear hN hu hru hr h64
  go_enter Tryz.func121, Tryz.ntmps121
  go_wp2_with fail
  obtain ⟨Z, hZ⟩ : ∃ Z : Array Value, Z = #[.int .u8 0, .int .u8 0, .int .u8 0, .int .u8 0, .int .u8 0, .int .u8 0, .int .u8 0, .int .u8 0, .int .u8 0, .int .u8 0, .int .u8 0, .int .u8 0, .int .u8 0, .int .u8 0, .int .u8 0, .int .u8 0, .int .u8 0, .int .u8 0, .int .u8 0, .int .u8 0, .int .u8 0, .int .u8 0, .int .u8 0, .int .u8 0, .int .u8 0, .int .u8 0, .int .u8 0, .int .u8 0, .int .u8 0, .int .u8 0, .int .u8 0, .int .u8 0] := ⟨_, rfl⟩
  rw [← hZ]
  obtain ⟨W0, hW0⟩ : ∃ W0, W0 = (w.alloc (.cells Z 26)).alloc (.cells Z 26) := ⟨_, rfl⟩
  rw [← hW0]
  have hbel : Below w.heap.size w W0 := by rw [hW0]; exact ((Below.refl _ w).alloc (Nat.le_refl _) _).alloc (by simp) _
  have HW := hide (show Below w.heap.size w W0 ∧ Blk W0 w.heap.size 26 Z ∧ Blk W0 (w.heap.size + 1) 26 Z ∧ Blk W0 N 226 (hcs ⟨y0, y1, y2, y3, y4, y5, y6, y7⟩ (.slice Au ru cu) (n : Int)) ∧ By W0 (.slice Au ru cu) r from
    ⟨hbel, by rw [hW0]; exact (Blk.new _ _ _).alloc _, by rw [hW0]; have := Blk.new (w.alloc (.cells Z 26)) 26 Z; simpa using this, H0.out.1.below' hbel, H0.out.2.1.below hbel⟩)
  have HZ := hide (show Z = (bcells (List.replicate 32 0)).toArray ∧ Z.size = 32 by rw [hZ]; exact ⟨rfl, rfl⟩)
  clear hZ hW0 hbel g0 g1 g2 g3 g4 g5 g6 g7 g8 g9 ga
  have ka : W0.cell? ⟨N, 10, none⟩ = some (.int .i64 (n : Int)) := (HW.out.2.2.2.1.cell 10).trans rfl
  refine (hok_any N W0 ((HW.out.2.2.2.1.cell 0).trans rfl)).mono ?_
  rintro e w1 ⟨rfl, rfl⟩
  go_wp2_with (go_at_call 142; refine (pad_any n _ hn).mono ?_; rintro e w2 ⟨vp, rfl, op, bp⟩; go_loud (obtain ⟨Ap, np, cp, rfl⟩ : ∃ A n c, vp = .slice A n c := (by obtain ⟨A, c, h, -⟩ := op.by_.form; exact ⟨A, _, c, h⟩); have H2 := hide (And.intro (HW.out.1.trans (bp.mono HW.out.1.size)) (And.intro (HW.out.2.1.below' bp) (And.intro (HW.out.2.2.1.below' bp) (And.intro (HW.out.2.2.2.1.below' bp) (And.intro (HW.out.2.2.2.2.below bp) op.by_))))); clear op bp; have q1 : w2.cell? ⟨N, 1, none⟩ = some (.int .u32 (y0.toNat : Int)) := (H2.out.2.2.2.1.cell 1).trans rfl; have q2 : w2.cell? ⟨N, 2, none⟩ = some (.int .u32 (y1.toNat : Int)) := (H2.out.2.2.2.1.cell 2).trans rfl; have q3 : w2.cell? ⟨N, 3, none⟩ = some (.int .u32 (y2.toNat : Int)) := (H2.out.2.2.2.1.cell 3).trans rfl; have q4 : w2.cell? ⟨N, 4, none⟩ = some (.int .u32 (y3.toNat : Int)) := (H2.out.2.2.2.1.cell 4).trans rfl; have q5 : w2.cell? ⟨N, 5, none⟩ = some (.int .u32 (y4.toNat : Int)) := (H2.out.2.2.2.1.cell 5).trans rfl; have q6 : w2.cell? ⟨N, 6, none⟩ = some (.int .u32 (y5.toNat : Int)) := (H2.out.2.2.2.1.cell 6).trans rfl; have q7 : w2.cell? ⟨N, 7, none⟩ = some (.int .u32 (y6.toNat : Int)) := (H2.out.2.2.2.1.cell 7).trans rfl; have q8 : w2.cell? ⟨N, 8, none⟩ = some (.int .u32 (y7.toNat : Int)) := (H2.out.2.2.2.1.cell 8).trans rfl; have q9 : ∀ o, (w2.alloc o).cell? ⟨N, 9, none⟩ = some (.slice Au ru cu) := fun o => ((H2.out.2.2.2.1.alloc o).cell 9).trans rfl))
  have ht := show total [(Value.slice Au ru cu, r), (Value.slice Ap np cp, padL n)] ≤ 1099511627776 by
    have := noughts_le n
    have := H0.out.2.2.2
    simp [total, padL_length]
    omega
  have hbx : ∀ o, Below w2.heap.size w2 (w2.alloc o) := fun o => (Below.refl _ w2).alloc (Nat.le_refl _) o
  have HJ := hide (fun o => cat_join (.slice (some ⟨w2.heap.size + 1, 0, none⟩) 2 2) [(.slice Au ru cu, r), (.slice Ap np cp, padL n)] ((w2.alloc o).alloc (.cells #[.slice Au ru cu, .slice Ap np cp] 32)) (lsts_two 32 (by simp) (H2.out.2.2.2.2.1.below (hbx o)) (H2.out.2.2.2.2.2.below (hbx o))) ht)
  clear ht hbx
  with_reducible refine (HJ.out _).mono ?_
  rintro e w3 ⟨vt, rfl, ot, bt⟩
  obtain ⟨X, hX⟩ : ∃ X, X = w2.heap.size := ⟨_, rfl⟩
  obtain ⟨T, hT⟩ : ∃ T, T = r ++ padL n := ⟨_, rfl⟩
  have ot' : Own w3 (X + 2) 5 vt T := by
    have h1 : cat [(Value.slice Au ru cu, r), (Value.slice Ap np cp, padL n)] = T := by rw [hT]; simp [cat]
    rw [h1] at ot
    simpa [hX] using ot
  have b3 : Below X w2 w3 := by
    have h1 : ∀ o, Below X w2 (w2.alloc o) := fun o => (Below.refl _ w2).alloc (by omega) o
    refine Below.trans ((h1 _).alloc (by simp; omega) _) (bt.mono (by simp; omega))
  have hXb : Blk w3 X 224 (mixN ⟨y0, y1, y2, y3, y4, y5, y6, y7⟩ T 0).cells := by
    have h1 := ((Blk.new w2 224 _).alloc _).below' bt
    rw [← hX] at h1
    exact h1
  have hXd : w.heap.size + 1 < X := by rw [hX]; exact H2.out.2.2.1.lt
  have hTm : T.length % 64 = 0 := by rw [hT]; exact HNN.out.2
  have H3 := hide (show Below w.heap.size w w3 ∧ Blk w3 w.heap.size 26 Z ∧ Blk w3 (w.heap.size + 1) 26 Z ∧ X < w3.heap.size ∧ w.heap.size + 1 < X from ⟨H2.out.1.trans (b3.mono (by omega)), H2.out.2.1.below b3 (by omega), H2.out.2.2.1.below b3 hXd, hXb.lt, hXd⟩)
  obtain ⟨At, nt, ct, rfl⟩ : ∃ A n c, vt = .slice A n c := by
    obtain ⟨A, c, h, -⟩ := ot'.by_.form
    exact ⟨A, _, c, h⟩
  obtain ⟨m, hm⟩ : ∃ m, m = T.length / 64 := ⟨_, rfl⟩
  have HT := hide (And.intro hT (And.intro hTm hm))
  have HI := hide (show By w3 (.slice At nt ct) (T.drop (64 * 0)) ∧ (∀ b o k c, Value.slice At nt ct = .slice (some ⟨b, o, none⟩) k c → b ≠ X) ∧ Blk w3 X 224 (mixN ⟨y0, y1, y2, y3, y4, y5, y6, y7⟩ T 0).cells ∧ w3.grownBy w3 (some X) from ⟨by simpa using ot'.by_, fun b o k c e => by
    injection e with e1 e2 e3
    have h1 := World.ownsRow.lt ot' b (by rw [e1]; rfl)
    omega, hXb, World.grownBy.refl _ _⟩)
  rw [← hX]
  clear hX hT ot ot' b3 hXb hXd hTm hm bt HJ H2 q1 q2 q3 q4 q5 q6 q7 q8 q9 ka
  go_wp2
  go_loopw [7] (fun u7 wr => ∃ q : Nat, q ≤ m ∧ By w3 u7 (T.drop (64 * q)) ∧ (∀ b o k c, u7 = .slice (some ⟨b, o, none⟩) k c → b ≠ X) ∧ Blk wr X 224 (mixN ⟨y0, y1, y2, y3, y4, y5, y6, y7⟩ T q).cells ∧ w3.grownBy wr (some X)) (fun u7 _ => lenV u7)
  case atStart => exact ⟨0, by omega, HI.out⟩
  case round =>
    clear HI
    obtain ⟨q, hq, hv, hbx, h1, h2⟩ := hrel
    have H := hide (And.intro h1 h2)
    clear h1 h2
    obtain ⟨I, hI⟩ : ∃ I, I = 64 * q := ⟨_, rfl⟩
    rw [← hI] at hv
    obtain ⟨h, hh⟩ : ∃ h, h = mixN ⟨y0, y1, y2, y3, y4, y5, y6, y7⟩ T q := ⟨_, rfl⟩
    rw [← hh] at H
    obtain ⟨M, hM⟩ : ∃ M, M = T.drop I := ⟨_, rfl⟩
    rw [← hM] at hv
    have hR : M.length = T.length - I := by rw [hM, List.length_drop]
    have hTl : T.length = 64 * m := by have h1 := HT.out.2.1; have h2 := HT.out.2.2; omega
    have HIQ := hide (And.intro hI (And.intro hh hM))
    by_cases hlt : q < m
    · obtain ⟨x0, x1, x2, x3, x4, x5, x6, x7⟩ := h
      obtain ⟨A1, c1, rfl, hc1, hm1, -⟩ := hv.form
      obtain ⟨b, o, rfl, hbl, hr⟩ := range_by hv (by omega)
      have hbX : b ≠ X := hbx _ _ _ _ rfl
      obtain ⟨R, hRR⟩ : ∃ R, R = M.length := ⟨_, rfl⟩
      rw [← hRR] at hv hc1 ⊢
      have e0 : (0 : Int) < (R : Int) := by omega
      have e1 : (64 : Int) ≤ (R : Int) := by omega
      have e2 : (R : Int) ≤ (c1 : Int) := by omega
      have hs2a : ∀ W : World, (Instr.arrayAt 190 (.slice (some ⟨b, o, none⟩) R c1)).run Tryz.prog W = .ok (.pointer (some ⟨b, o, none⟩)) W := fun W => run_arrayAt W 190 5 64 _ R c1 Tryz.underlying190 (by omega)
      obtain ⟨bl, hbb⟩ : ∃ bl, bl = M.take 64 := ⟨_, rfl⟩
      have hbl64 : bl.length = 64 := by rw [hbb, List.length_take]; omega
      obtain ⟨cs, hcd⟩ : ∃ cs, cs = bcells bl := ⟨_, rfl⟩
      have hrw : wr.drew.rangeAt b o cs := by rw [hcd, hbb]; exact range_take (range_grown (w' := wr) hr H.out.2 hbl (fun e => hbX (by injection e))) 64
      have hcl : cs.length = 64 := by rw [hcd, bcells_length, hbl64]
      have QM := hide (fun w => mix_eight x0 x1 x2 x3 x4 x5 x6 x7 bl cs.toArray w hbl64 (by rw [hcd]))
      have hci : (Tryz.prog.info? 190).map (·.size) = some cs.length := by rw [hcl]; kernel_rfl
      have HR := hide (And.intro hrw hci)
      have HY := hide (show wr.drew.rangeAt X 0 [.int .u32 (x0.toNat : Int), .int .u32 (x1.toNat : Int), .int .u32 (x2.toNat : Int), .int .u32 (x3.toNat : Int), .int .u32 (x4.toNat : Int), .int .u32 (x5.toNat : Int), .int .u32 (x6.toNat : Int), .int .u32 (x7.toNat : Int)] ∧ (Tryz.prog.info? 224).map (·.size) = some ([.int .u32 (x0.toNat : Int), .int .u32 (x1.toNat : Int), .int .u32 (x2.toNat : Int), .int .u32 (x3.toNat : Int), .int .u32 (x4.toNat : Int), .int .u32 (x5.toNat : Int), .int .u32 (x6.toNat : Int), .int .u32 (x7.toNat : Int)] : List Value).length from ⟨fun j v hj => by
        have hj8 : j < 8 := by simpa using (List.getElem?_eq_some_iff.1 hj).1
        rw [show wr.drew.cell? ⟨X, 0 + j, none⟩ = wr.cell? ⟨X, 0 + j, none⟩ from rfl, H.out.1.cell, ← hj]
        obtain rfl | rfl | rfl | rfl | rfl | rfl | rfl | rfl : j = 0 ∨ j = 1 ∨ j = 2 ∨ j = 3 ∨ j = 4 ∨ j = 5 ∨ j = 6 ∨ j = 7 := by omega
        all_goals rfl, by kernel_rfl⟩)
      have HB := hide (And.intro hv (And.intro hbb (And.intro hRR (And.intro hc1 (And.intro hm1 hbX)))))
      have HK := hide (show ∀ w' : World, Below wr.drew.heap.size wr.drew w' → Hid (Blk w' X 224 (H8.cells ⟨x0, x1, x2, x3, x4, x5, x6, x7⟩) ∧ w3.grownBy w' (some X)) ∧ w'.cell? ⟨X, 0, none⟩ = some (.int .u32 (x0.toNat : Int)) ∧ w'.cell? ⟨X, 1, none⟩ = some (.int .u32 (x1.toNat : Int)) ∧ w'.cell? ⟨X, 2, none⟩ = some (.int .u32 (x2.toNat : Int)) ∧ w'.cell? ⟨X, 3, none⟩ = some (.int .u32 (x3.toNat : Int)) ∧ w'.cell? ⟨X, 4, none⟩ = some (.int .u32 (x4.toNat : Int)) ∧ w'.cell? ⟨X, 5, none⟩ = some (.int .u32 (x5.toNat : Int)) ∧ w'.cell? ⟨X, 6, none⟩ = some (.int .u32 (x6.toNat : Int)) ∧ w'.cell? ⟨X, 7, none⟩ = some (.int .u32 (x7.toNat : Int)) ∧ w'.frozen? ⟨X, 0, none⟩ = false ∧ w'.frozen? ⟨X, 1, none⟩ = false ∧ w'.frozen? ⟨X, 2, none⟩ = false ∧ w'.frozen? ⟨X, 3, none⟩ = false ∧ w'.frozen? ⟨X, 4, none⟩ = false ∧ w'.frozen? ⟨X, 5, none⟩ = false ∧ w'.frozen? ⟨X, 6, none⟩ = false ∧ w'.frozen? ⟨X, 7, none⟩ = false from fun w' hw' => by
        have hk := H.out.1.drew.below' hw'
        refine ⟨hide ⟨hk, H.out.2.trans_ (grown_of_below (w := wr) ⟨hw'.os, hw'.tape, hw'.output, hw'.size, hw'.block⟩ _)⟩, (hk.cell 0).trans rfl, (hk.cell 1).trans rfl, (hk.cell 2).trans rfl, (hk.cell 3).trans rfl, (hk.cell 4).trans rfl, (hk.cell 5).trans rfl, (hk.cell 6).trans rfl, (hk.cell 7).trans rfl, hk.frozen 0, hk.frozen 1, hk.frozen 2, hk.frozen 3, hk.frozen 4, hk.frozen 5, hk.frozen 6, hk.frozen 7⟩)
      clear hv hr hR hTl hbb hbl64 hI hh hM hRR hc1 hm1 hrw hcd hci hcl hbX
      go_wp2
      refine wp_region_any (by kernel_rfl) ?_
      change wpAny _ _ _ _ _ _ _ (World.drew _)
      refine wpAny_take (i := 1) (v := ?v1) rfl (by kernel_rfl) (by kernel_rfl) (by kernel_rfl) (fun _ _ _ h => h) (Or.inl ⟨by rfl, ?hy1⟩) ?rest1
      case hy1 => (intro w; go_simp; try with_reducible rfl)
      refine wpAny_take (i := 2) (v := ?v2) rfl (by kernel_rfl) (by kernel_rfl) (by kernel_rfl) (fun _ _ _ h => h) (Or.inl ⟨by rfl, ?hy2⟩) ?rest2
      case hy2 => (intro w; go_simp; try with_reducible rfl)
      simp only [Act.put, List.setIfInBounds_toArray, List.set_cons_zero, List.set_cons_succ]
      refine wpAny_pair 0 3 36 39 (.agg (List.toArray [.int .u32 (x0.toNat : Int), .int .u32 (x1.toNat : Int), .int .u32 (x2.toNat : Int), .int .u32 (x3.toNat : Int), .int .u32 (x4.toNat : Int), .int .u32 (x5.toNat : Int), .int .u32 (x6.toNat : Int), .int .u32 (x7.toNat : Int)])) (.agg cs.toArray) (by kernel_rfl) (by kernel_rfl) (by kernel_rfl) rfl rfl rfl rfl rfl rfl (by decide) ?yi ?yi2 ?yj ?yj2 ?go
      case yi => exact exec_load_mid 224 (.tmp 6) (by kernel_rfl) X 0 (by kernel_rfl) _ _ HY.out.1 Tryz.underlying224 rfl HY.out.2
      case yi2 => exact exec_load_mid 224 (.tmp 6) (by kernel_rfl) X 0 (by kernel_rfl) _ _ HY.out.1 Tryz.underlying224 rfl HY.out.2
      case yj => exact exec_load_mid 190 (.tmp 38) (by kernel_rfl) b o (by kernel_rfl) cs _ HR.out.1 Tryz.underlying190 rfl HR.out.2
      case yj2 => exact exec_load_mid 190 (.tmp 38) (by kernel_rfl) b o (by kernel_rfl) cs _ HR.out.1 Tryz.underlying190 rfl HR.out.2
      case go =>
        simp only [Act.put, List.setIfInBounds_toArray, List.set_cons_zero, List.set_cons_succ]
        refine wpAny_ready (rs := [4]) (by kernel_rfl) (by simp) ?_
        refine AllReady.cons rfl (fun K hK => ?_) ?_
        rotate_left
        exact AllReady.nil
        go_simp
        refine (QM.out _).mono ?_
        rintro e w' ⟨z0, z1, z2, z3, z4, z5, z6, z7, hz, rfl, hbb⟩
        obtain ⟨HB', p0, p1, p2, p3, p4, p5, p6, p7, f0, f1, f2, f3, f4, f5, f6, f7⟩ := HK.out _ hbb
        refine hK _ _ ?_
        clear hK K
        try simp only [Act.put, List.setIfInBounds_toArray, List.set_cons_zero, List.set_cons_succ]
        refine wpAny_ready (rs := [5]) (by kernel_rfl) (by simp) ?_
        refine AllReady.cons rfl (fun K hK => ?_) ?_
        rotate_left
        exact AllReady.nil
        go_simp
        refine hK _ _ ?_
        clear hK K
        refine wpAny_done (by kernel_rfl) ?_ _
        clear p0 p1 p2 p3 p4 p5 p6 p7 f0 f1 f2 f3 f4 f5 f6 f7
        go_wp2
        go_roundw
        case rel =>
          refine ⟨q + 1, hlt, ?_, ?_, ?_, grown_eight HB'.out.2 _ _ _ _ _ _ _ _⟩
          · have h2 := by_from HB.out.1 HB.out.2.2.1 (by have := e1; omega) HB.out.2.2.2.1 HB.out.2.2.2.2.1
            rw [HIQ.out.2.2, HIQ.out.1, List.drop_drop] at h2
            rw [show 64 * (q + 1) = 64 * q + 64 by omega]
            exact h2
          · intro b' o' k' c' e
            have hbX := HB.out.2.2.2.2.2
            by_cases h64 : c1 = 64
            · simp only [if_pos h64, Value.slice.injEq, Option.some.injEq, Addr.mk.injEq] at e
              omega
            · simp only [if_neg h64, Value.slice.injEq, Option.some.injEq, Addr.mk.injEq] at e
              omega
          · rw [mixN_succ, ← HIQ.out.2.1, ← HIQ.out.1, ← HIQ.out.2.2, ← HB.out.2.1, hz]
            exact blk_eight HB'.out.1 _ _ _ _ _ _ _ _
        case measure => simp [lenV]; omega
    · have hqm : q = m := by omega
      subst hqm
      obtain ⟨A1, c1, rfl, -, -, -⟩ := hv.form
      rw [show M.length = 0 by omega]
      obtain ⟨x0, x1, x2, x3, x4, x5, x6, x7⟩ := h
      have g0 : wr.cell? ⟨X, 0, none⟩ = some (.int .u32 (x0.toNat : Int)) := (H.out.1.cell 0).trans rfl
      have g1 : wr.cell? ⟨X, 1, none⟩ = some (.int .u32 (x1.toNat : Int)) := (H.out.1.cell 1).trans rfl
      have g2 : wr.cell? ⟨X, 2, none⟩ = some (.int .u32 (x2.toNat : Int)) := (H.out.1.cell 2).trans rfl
      have g3 : wr.cell? ⟨X, 3, none⟩ = some (.int .u32 (x3.toNat : Int)) := (H.out.1.cell 3).trans rfl
      have g4 : wr.cell? ⟨X, 4, none⟩ = some (.int .u32 (x4.toNat : Int)) := (H.out.1.cell 4).trans rfl
      have g5 : wr.cell? ⟨X, 5, none⟩ = some (.int .u32 (x5.toNat : Int)) := (H.out.1.cell 5).trans rfl
      have g6 : wr.cell? ⟨X, 6, none⟩ = some (.int .u32 (x6.toNat : Int)) := (H.out.1.cell 6).trans rfl
      have g7 : wr.cell? ⟨X, 7, none⟩ = some (.int .u32 (x7.toNat : Int)) := (H.out.1.cell 7).trans rfl
      clear hv hbx hR hTl hI hh hM hq hlt
      have HD := hide (show Blk wr w.heap.size 26 Z ∧ Blk wr (w.heap.size + 1) 26 Z ∧ Below w.heap.size w wr by
        have h5 := H3.out.2.2.2.2
        exact ⟨H3.out.2.1.grown H.out.2 (by simp; omega), H3.out.2.2.1.grown H.out.2 (by simp; omega), H3.out.1.grown H.out.2 H3.out.1.size fun k hk => by injection hk with hk; omega⟩)
      have HE := hide (show (⟨x0, x1, x2, x3, x4, x5, x6, x7⟩ : H8) = mixN ⟨y0, y1, y2, y3, y4, y5, y6, y7⟩ (r ++ padL n) ((r ++ padL n).length / 64) by
        rw [HIQ.out.2.1, HT.out.2.2, HT.out.1])
      have HZ1 := hide (show Z.all (·.oneCell') = true by rw [HZ.out.1]; simp [bcells, Value.oneCell'])
      by_cases hz : x0 = 0 ∧ x1 = 0 ∧ x2 = 0 ∧ x3 = 0 ∧ x4 = 0 ∧ x5 = 0 ∧ x6 = 0 ∧ x7 = 0
      · have hcmp : ∀ w, (Op.equalIn 10000 224 (.agg #[.int .u32 (x0.toNat : Int), .int .u32 (x1.toNat : Int), .int .u32 (x2.toNat : Int), .int .u32 (x3.toNat : Int), .int .u32 (x4.toNat : Int), .int .u32 (x5.toNat : Int), .int .u32 (x6.toNat : Int), .int .u32 (x7.toNat : Int)]) (.agg #[.int .u32 0, .int .u32 0, .int .u32 0, .int .u32 0, .int .u32 0, .int .u32 0, .int .u32 0, .int .u32 0])).run Tryz.prog w = .ok true w := fun w => by
          rw [words_eq]
          obtain ⟨rfl, rfl, rfl, rfl, rfl, rfl, rfl, rfl⟩ := hz
          rfl
        have HZZ := hide (show digL ⟨x0, x1, x2, x3, x4, x5, x6, x7⟩ = List.replicate 32 0 by
          obtain ⟨rfl, rfl, rfl, rfl, rfl, rfl, rfl, rfl⟩ := hz
          exact digL_zero)
        clear hz
        go_wp2_with first
          | ((with_reducible change wpList _ _ _ (⟨some 46, _, _, _, _, _⟩ :: _) _ _); refine wpList_load_row (o := ⟨some 46, .load _ _, _, _, _, _⟩) rfl 26 _ rfl (w.heap.size + 1) (by kernel_rfl) 26 Z (0, 0) _ HD.out.2.1 Tryz.underlying26 rfl (by rw [HZ.out.2]; kernel_rfl) ?_)
          | ((with_reducible change wpList _ _ _ (⟨none, .store _ (.tmp 2) _, _, _, _, _⟩ :: _) _ _); refine wpList_store_row (o := ⟨none, .store _ (.tmp 2) _, _, _, _, _⟩) HD.out.1 Z rfl HZ1.out rfl 26 _ _ rfl (by rw [HZ.out.2]; kernel_rfl) (by kernel_rfl) (by kernel_rfl) ?_; intro w7 hb7 hg7)
        refine bodyPost_ret (results_cell_row rfl _ _ w.heap.size 26 Z (0, 0) _ rfl hb7 Tryz.underlying26 rfl (by rw [HZ.out.2]; kernel_rfl)) rfl ⟨?_, HD.out.2.2.grown hg7 HD.out.2.2.size fun k hk => by injection hk with hk; omega⟩
        rw [← HE.out, HZZ.out, HZ.out.1]
      · have hcmp : ∀ w, (Op.equalIn 10000 224 (.agg #[.int .u32 (x0.toNat : Int), .int .u32 (x1.toNat : Int), .int .u32 (x2.toNat : Int), .int .u32 (x3.toNat : Int), .int .u32 (x4.toNat : Int), .int .u32 (x5.toNat : Int), .int .u32 (x6.toNat : Int), .int .u32 (x7.toNat : Int)]) (.agg #[.int .u32 0, .int .u32 0, .int .u32 0, .int .u32 0, .int .u32 0, .int .u32 0, .int .u32 0, .int .u32 0])).run Tryz.prog w = .ok false w := fun w => by
          rw [words_eq]
          congr 1
          rw [Bool.eq_false_iff]
          intro h
          apply hz
          simp only [Bool.and_eq_true, beq_iff_eq] at h
          have hx : ∀ x : UInt32, (x.toNat : Int) = 0 → x = 0 := fun x hx => UInt32.toNat_inj.1 (by rw [show (0 : UInt32).toNat = 0 from rfl]; omega)
          exact ⟨hx _ h.1.1.1.1.1.1.1, hx _ h.1.1.1.1.1.1.2, hx _ h.1.1.1.1.1.2, hx _ h.1.1.1.1.2, hx _ h.1.1.1.2, hx _ h.1.1.2, hx _ h.1.2, hx _ h.2⟩
        clear hz
        go_wp2
        obtain ⟨h, hh⟩ : ∃ h : H8, h = ⟨x0, x1, x2, x3, x4, x5, x6, x7⟩ := ⟨_, rfl⟩
        have HH := hide hh
        have HD2 := hide (show Blk wr (w.heap.size + 1) 26 (fillN (digL h) 32 (4 * 0)) by rw [Nat.mul_zero, fillN_zero, ← HZ.out.1]; exact HD.out.2.1)
        clear hh g0 g1 g2 g3 g4 g5 g6 g7
        go_loopw [48] (fun u48 w9 => ∃ i : Nat, i ≤ 8 ∧ u48 = .int .i64 (i : Int) ∧ Blk w9 (w.heap.size + 1) 26 (fillN (digL h) 32 (4 * i)) ∧ Below (w.heap.size + 1) wr w9) (fun u48 _ => 8 - (intOf u48).toNat)
        case atStart => exact ⟨0, by omega, rfl, HD2.out, Below.refl _ _⟩
        case round =>
          clear HD2
          obtain ⟨i, hi, rfl, h1, h2⟩ := hrel
          have HL := hide (And.intro h1 h2)
          clear h1 h2
          by_cases hlt : i < 8
          · obtain ⟨y, hy⟩ : ∃ y, y = h.at i := ⟨_, rfl⟩
            have hgi : (#[.int .u32 (x0.toNat : Int), .int .u32 (x1.toNat : Int), .int .u32 (x2.toNat : Int), .int .u32 (x3.toNat : Int), .int .u32 (x4.toNat : Int), .int .u32 (x5.toNat : Int), .int .u32 (x6.toNat : Int), .int .u32 (x7.toNat : Int)] : Array Value)[i]? = some (.int .u32 (y.toNat : Int)) := by
              have := cells_get h hlt
              rw [← hy, HH.out] at this
              exact this
            obtain ⟨j, hj⟩ : ∃ j, j = 4 * i := ⟨_, rfl⟩
            have e1 : 4 * (i : Int) = (j : Int) := by omega
            have e2 : (j : Int) ≤ 32 := by omega
            have e3 : (0 : Int) ≤ (j : Int) := by omega
            have e4 : (i : Int) < 8 := by omega
            have e5 : ¬ 32 - j = 0 := by omega
            have HW9 := hide (fill_word h i hlt)
            rw [← hy, ← hj] at HW9
            have HJ := hide (And.intro hj hlt)
            have hix : ∀ W : World, (Instr.index 224 (.agg #[.int .u32 (x0.toNat : Int), .int .u32 (x1.toNat : Int), .int .u32 (x2.toNat : Int), .int .u32 (x3.toNat : Int), .int .u32 (x4.toNat : Int), .int .u32 (x5.toNat : Int), .int .u32 (x6.toNat : Int), .int .u32 (x7.toNat : Int)]) (.int .i64 (i : Int))).run Tryz.prog W = .ok (.int .u32 (y.toNat : Int)) W := fun W => word_index _ _ _ _ _ _ _ _ i _ hlt hgi W
            rw [← hj] at HL
            have hj28 : j ≤ 28 := by omega
            have HK := hide (fun w' (hw' : Below wr.drew.heap.size wr.drew w') => And.intro (HL.out.1.drew.below' hw') (HL.out.2.drew.trans (hw'.mono (Nat.le_of_lt HL.out.1.lt))))
            have QB := hide (fun w => big32_any y.toNat w (UInt32.toNat_lt y))
            have hsz1 : (Tryz.prog.info? 5).map (·.size) = some 1 := by kernel_rfl
            have HSZ := hide (And.intro hsz1 hj28)
            have hsl := fun W : World => dig_slice (w.heap.size + 1) j hj28 W
            have hw4 : IntKind.i64.wrap (j : Int) = (j : Int) := by simp [IntKind.wrap, IntKind.bits, IntKind.signed]; omega
            clear hj hy hgi hsz1 hj28
            go_wp2
            have HF := hide (show (fillN (digL h) 32 j).toList.length = 32 by rw [Array.length_toList, fillN_size _ _ _ (by omega) (by rw [digL_length]; omega)])
            have HONE := hide (show ∀ v ∈ bcells (bigL y.toNat 4), v.oneCell' = true from fun v hv => by
              obtain ⟨z, _, rfl⟩ := List.mem_map.1 hv
              rfl)
            go_region_law (first
              | ((refine step_copy_splice rfl (.tmp 54) (.tmp 56) 32 32 rfl 5 elem8.ht HSZ.out.1 (some ⟨w.heap.size + 1, j, none⟩) (some ⟨wr.drew.heap.size, 0, none⟩) (32 - j) (32 - j) 4 4 (by kernel_rfl) (by kernel_rfl) (w.heap.size + 1) j (fillN (digL h) 32 j).toList 26 HC.out.1.1 (bcells (bigL y.toNat 4)) (by rw [bcells_length, bigL_length]; exact (Nat.min_eq_left (by have := HSZ.out.2; omega)).symm) (fun _ => ⟨rfl, _, rfl, range_at HC.out.2 (by simp)⟩) (by rw [HF.out]; have := HSZ.out.2; simp; omega) HONE.out (w.heap.size + 1) _ HC.out.1.2 (Nat.le_refl _) ?_); intro w5 hg5 hb5)
              | (go_simp; refine (QB.out _).mono ?_; rintro e w' ⟨bb, rfl, ob⟩; have HC := hide (And.intro (HK.out _ bb) ob.by_)))
            go_wp2
            go_roundw
            case rel =>
              have hs : splice (fillN (digL h) 32 j).toList j (bcells (bigL y.toNat 4)) = (fillN (digL h) 32 (4 * (i + 1))).toList := by
                unfold splice
                rw [bcells_length, bigL_length]
                exact HW9.out
              refine ⟨i + 1, HJ.out.2, by go_num, ?_, hb5⟩
              have h5 := hg5.out
              rw [hs] at h5
              exact h5
            case measure => simp [intOf]; omega
          · have hi8 : i = 8 := by omega
            subst hi8
            obtain ⟨F, hF⟩ : ∃ F, F = (bcells (digL h)).toArray := ⟨_, rfl⟩
            have HF := hide (show Blk wr (w.heap.size + 1) 26 F ∧ F.size = 32 ∧ F.all (·.oneCell') = true by
              refine ⟨?_, by rw [hF]; simp, by rw [hF]; simp [bcells, Value.oneCell']⟩
              have := HL.out.1
              rw [show 4 * 8 = 32 from rfl, fillN_full, List.take_of_length_le (by simp)] at this
              rw [hF]
              exact this)
            have HFF := hide hF
            have HD3 := hide (And.intro (HD.out.1.below HL.out.2 (by omega)) (HD.out.2.2.trans (HL.out.2.mono (by omega))))
            clear hF HL
            rw [show ((8 : Nat) : Int) = 8 from rfl]
            go_wp2_with first
              | ((with_reducible change wpList _ _ _ (⟨some 59, _, _, _, _, _⟩ :: _) _ _); refine wpList_load_row (o := ⟨some 59, .load _ _, _, _, _, _⟩) rfl 26 _ rfl (w.heap.size + 1) rfl 26 F (0, 0) _ HF.out.1 Tryz.underlying26 rfl (by rw [HF.out.2.1]; kernel_rfl) ?_)
              | ((with_reducible change wpList _ _ _ (⟨none, .store _ (.tmp 2) _, _, _, _, _⟩ :: _) _ _); refine wpList_store_row (o := ⟨none, .store _ (.tmp 2) _, _, _, _, _⟩) HD3.out.1 F (by rw [HF.out.2.1, HZ.out.2]) HF.out.2.2 rfl 26 _ _ rfl (by rw [HF.out.2.1]; kernel_rfl) rfl rfl ?_; intro w7 hb7 hg7)
            refine bodyPost_ret (results_cell_row rfl _ _ w.heap.size 26 F (0, 0) _ rfl hb7 Tryz.underlying26 rfl (by rw [HF.out.2.1]; kernel_rfl)) rfl ⟨by rw [HFF.out, HH.out, HE.out], HD3.out.2.grown hg7 HD3.out.2.size fun k hk => by injection hk with hk; omega⟩
end Go.Proofs.YtcpceaflnnkhnaaGreatDoor

/- The program's Sum of one part. -/
namespace Go.Proofs.YtcpceaflnnkhnaaGreatDoor
open Go.RowKit

/-- One slice in a new block. -/
theorem lsts_one {w : World} {g : Nat} {va : Value} {a : List UInt8} (t : TypeId) (hg : g = w.heap.size) (ha : By w va a) : Lsts (w.alloc (.cells #[va] t)) (.slice (some ⟨g, 0, none⟩) 1 1) [(va, a)] := by
  subst hg
  have hbel := (Below.refl w.heap.size w).alloc (Nat.le_refl _) (.cells #[va] t)
  refine ⟨⟨rfl, _, _, rfl, Nat.le_refl _, by unfold maxLen; simp, fun _ => ⟨_, _, rfl, by simp, fun j hj => ?_⟩⟩, fun x hx => ?_⟩
  · rw [(Blk.new w t #[va]).cell]
    have : j = 0 := by simp at hj; omega
    subst this
    rfl
  · simp at hx
    subst hx
    exact ha.below hbel
/-- A world's first N blocks. -/
def cutW (w : World) (N : Nat) : World := { w with heap := w.heap.extract 0 N }
theorem cutW_size (w : World) (N : Nat) (h : N ≤ w.heap.size) : (cutW w N).heap.size = N := by simp [cutW]; omega
theorem cutW_block (w : World) (N : Nat) (h : N ≤ w.heap.size) (k : Nat) (hk : k < N) : (cutW w N).heap[k]? = w.heap[k]? := by
  simp only [cutW, Array.getElem?_extract]
  rw [if_pos (by omega), Nat.zero_add]
theorem cutW_below (w : World) (N : Nat) (h : N ≤ w.heap.size) : Below N (cutW w N) w := ⟨rfl, rfl, rfl, by rw [cutW_size w N h]; exact h, fun k hk => (cutW_block w N h k hk).symm⟩
theorem below_cutW {w w1 : World} (hb : Below w.heap.size w w1) (N : Nat) (h : N ≤ w1.heap.size) (hN : w.heap.size ≤ N) : Below w.heap.size w (cutW w1 N) := ⟨hb.os, hb.tape, hb.output, by rw [cutW_size w1 N h]; exact hN, fun k hk => (cutW_block w1 N h k (by omega)).trans (hb.block k hk)⟩
set_option maxRecDepth 100000 in
set_option maxHeartbeats 4000000 in
theorem sum_any (g : Nat) (A : Option Addr) (c : Nat) (l : List UInt8) (w : World) (hc : w.cell? ⟨g, 0, none⟩ = some (.slice A l.length c)) (hg : g < w.heap.size) (hv : By w (.slice A l.length c) l) (hl : l.length ≤ 1099511627776) :
    Calls Tryz.prog 101 #[.slice (some ⟨g, 0, none⟩) 1 1] w fun e w' => e = .returned (.agg (bcells (shaL l)).toArray) ∧ Below w.heap.size w w' := by
  obtain ⟨n, hn⟩ : ∃ n, n = l.length := ⟨_, rfl⟩
  rw [← hn] at hc hv hl
  have HV := hide (And.intro hv (And.intro hn hl))
  clear hv hn hl
  go_enter Tryz.func101, Tryz.ntmps101
  go_wp2_with fail
  refine (new_any _).mono ?_
  rintro e w1 ⟨N, rfl, hN, b1, hN0⟩
  obtain ⟨Z, hZ⟩ : ∃ Z : Array Value, Z = (bcells (List.replicate 32 0)).toArray := ⟨_, rfl⟩
  have hD : Blk w1 w.heap.size 26 Z := by rw [hZ]; exact Blk.below' (Blk.new w 26 _) b1
  have hbel : Below w.heap.size w w1 := ((Below.refl _ w).alloc (Nat.le_refl _) _).trans (b1.mono (by simp))
  have H1 := hide (show Blk w1 N 226 (hcs sha0 (.slice none 0 0) 0) ∧ Blk w1 w.heap.size 26 Z ∧ Below w.heap.size w w1 ∧ w.heap.size + 1 ≤ N ∧ Z.size = 32 from ⟨hN, hD, hbel, by simpa using hN0, by rw [hZ]; rfl⟩)
  have hc1 : w1.cell? ⟨g, 0, none⟩ = some (.slice A n c) := (hbel.cell (p := ⟨g, 0, none⟩) hg).trans hc
  clear hN b1 hN0 hD hbel hZ hc
  obtain ⟨W0, hW0⟩ : ∃ W0, W0 = cutW w1 N := ⟨_, rfl⟩
  have hNl := H1.out.1.lt
  have HC := hide (show Below w.heap.size w W0 ∧ Below N W0 w1 ∧ W0.heap.size = N from by
    rw [hW0]
    exact ⟨below_cutW H1.out.2.2.1 N (by omega) (by have := H1.out.2.2.2.1; omega), cutW_below w1 N (by omega), cutW_size w1 N (by omega)⟩)
  have HD0 := hide (show W0.heap[w.heap.size]? = w1.heap[w.heap.size]? from by rw [hW0]; exact cutW_block w1 N (by omega) _ (by have := H1.out.2.2.2.1; omega))
  clear hW0 hNl
  have QW := hide (hwrite_any N (.slice A n c) l W0 w1 (HV.out.1.below HC.out.1) HC.out.2.1 (by rw [HC.out.2.2]; exact Nat.le_refl _) H1.out.1 (by have := HV.out.2.2; have := HV.out.2.1; omega))
  go_wp2
  go_loopw [9] (fun u9 wr => (u9 = .int .i64 0 ∧ w1 = wr) ∨ (u9 = .int .i64 1 ∧ Below N W0 wr ∧ ∃ u, Blk wr N 226 (hcs (mixN sha0 l (l.length / 64)) u (l.length : Int)) ∧ By wr u (l.drop (64 * (l.length / 64))))) (fun u9 _ => 1 - (intOf u9).toNat)
  case atStart => exact .inl ⟨rfl, rfl⟩
  case round =>
    rcases hrel with ⟨rfl, rfl⟩ | ⟨rfl, h1, u, h2, h3⟩
    · go_wp2_with (go_at_call 120; refine QW.out.mono ?_; rintro e w2 ⟨rfl, b2, u2, k2, y2⟩)
      go_roundw
      case rel => exact .inr ⟨rfl, b2, u2, k2, y2⟩
      case measure => simp [intOf]
    · have hwh := padL_whole l.length
      have hll : (l.drop (64 * (l.length / 64)) ++ padL l.length).length % 64 = 0 := by
        rw [List.length_append, List.length_drop]
        omega
      have QS := hide (hsum_any N l.length (mixN sha0 l (l.length / 64)) u (l.drop (64 * (l.length / 64))) wr h2 h3 (by rw [List.length_drop]; omega) (by have := HV.out.2.2; have := HV.out.2.1; omega) hll)
      have HB := hide (show Below w.heap.size w wr ∧ Blk wr w.heap.size 26 Z from ⟨HC.out.1.trans (h1.mono (by have := H1.out.2.2.2.1; omega)), (h1.block _ (by have := H1.out.2.2.2.1; omega)).trans (HD0.out.trans H1.out.2.1)⟩)
      obtain ⟨F, hF⟩ : ∃ F, F = (bcells (digL (mixN (mixN sha0 l (l.length / 64)) (l.drop (64 * (l.length / 64)) ++ padL l.length) ((l.drop (64 * (l.length / 64)) ++ padL l.length).length / 64)))).toArray := ⟨_, rfl⟩
      rw [← hF] at QS
      have HF := hide (show F.size = 32 ∧ F.all (·.oneCell') = true ∧ F = (bcells (shaL l)).toArray from ⟨by rw [hF]; simp, by rw [hF]; simp [bcells, Value.oneCell'], by rw [hF, ← shaH_split]; rfl⟩)
      clear hF hll hwh h1 h2 h3
      go_wp2_with first
        | (go_at_call 121; refine QS.out.mono ?_; rintro e w2 ⟨rfl, b2⟩; go_loud (have H2 := hide (And.intro (HB.out.1.trans (b2.mono HB.out.1.size)) (HB.out.2.below' b2)); clear b2))
        | ((with_reducible change wpList _ _ _ (⟨none, .store _ (.tmp 2) _, _, _, _, _⟩ :: _) _ _); refine wpList_store_row (o := ⟨none, .store _ (.tmp 2) _, _, _, _, _⟩) H2.out.2 F (by rw [HF.out.1]; exact H1.out.2.2.2.2.symm) HF.out.2.1 rfl 26 _ _ rfl (by rw [HF.out.1]; kernel_rfl) rfl rfl ?_; intro w7 hb7 hg7)
      refine bodyPost_ret (results_cell_row rfl _ _ w.heap.size 26 F (0, 0) _ rfl hb7 Tryz.underlying26 rfl (by rw [HF.out.1]; kernel_rfl)) rfl ⟨by rw [HF.out.2.2], H2.out.1.grown hg7 H2.out.1.size fun k hk => by injection hk with hk; omega⟩
end Go.Proofs.YtcpceaflnnkhnaaGreatDoor

/- The document's Mix. -/
namespace Go.Proofs.YtcpceaflnnkhnaaGreatDoor
open Go.RowKit

theorem quiet_first_same {P : Program} {f : FuncId} {args : Array Value} {w : World} {a : Nat} {v : Value}
    (h : Calls P f args (w.drewN a) fun e w' => e = .returned v ∧ w' = w.drewN a) :
    Calls P f args (w.drewN a) fun e w'' => e = .returned v ∧ ∃ n, w'' = w.drewN n :=
  h.mono fun _ _ ⟨h1, h2⟩ => ⟨h1, a, h2⟩
theorem Blk.cast {w : World} {g : Nat} {t : TypeId} {cs cs' : Array Value} (h : Blk w g t cs) (e : cs = cs') : Blk w g t cs' := e ▸ h
set_option maxRecDepth 100000 in
set_option maxHeartbeats 4000000 in
theorem rmix_any (s : H8) (b : List UInt8) (w : World) (hb : b.length = 64) :
    Calls Tryz.prog 107 #[.agg s.cells, .agg (bcells b).toArray] w fun e w' => e = .returned (.agg (mixH s b).cells) ∧ Below w.heap.size w w' := by
  obtain ⟨B, hB⟩ : ∃ B, B = (bcells b).toArray := ⟨_, rfl⟩
  have hsz : B.size = 64 := by rw [hB]; simp [hb]
  have Q1 := hide (fun w => rwords_any b w hb)
  rw [← hB] at Q1 ⊢
  have HB := hide hB
  clear hB
  have HS := hide (And.intro (fw_size (wdh b) (show 64 ≤ 64 by omega)) (And.intro zeros_size (And.intro (fw_one (wdh b)) (And.intro (fw_size kc (show 64 ≤ 64 by omega)) (fw_one kc)))))
  have hsc : s.cells = #[.int .u32 (s.a.toNat : Int), .int .u32 (s.b.toNat : Int), .int .u32 (s.c.toNat : Int), .int .u32 (s.d.toNat : Int), .int .u32 (s.e.toNat : Int), .int .u32 (s.f.toNat : Int), .int .u32 (s.g.toNat : Int), .int .u32 (s.h.toNat : Int)] := rfl
  have HSC := hide hsc
  have HONE := hide s.one
  have hz : ((List.replicate 64 (Value.int .u32 0)).toArray) = fw 0 (wdh b) := (fw_zero _).symm
  have n0 := ((Blk.new w 188 s.cells).alloc (.cells B 190)).alloc (.cells #[.int .u32 0, .int .u32 0, .int .u32 0, .int .u32 0, .int .u32 0, .int .u32 0, .int .u32 0, .int .u32 0] 188)
  have n1 := (Blk.new (w.alloc (.cells s.cells 188)) 190 B).alloc (.cells #[.int .u32 0, .int .u32 0, .int .u32 0, .int .u32 0, .int .u32 0, .int .u32 0, .int .u32 0, .int .u32 0] 188)
  have n2 := Blk.new ((w.alloc (.cells s.cells 188)).alloc (.cells B 190)) 188 #[.int .u32 0, .int .u32 0, .int .u32 0, .int .u32 0, .int .u32 0, .int .u32 0, .int .u32 0, .int .u32 0]
  have nb : Below w.heap.size w (((w.alloc (.cells s.cells 188)).alloc (.cells B 190)).alloc (.cells #[.int .u32 0, .int .u32 0, .int .u32 0, .int .u32 0, .int .u32 0, .int .u32 0, .int .u32 0, .int .u32 0] 188)) := (((Below.refl _ w).alloc (Nat.le_refl _) _).alloc (by simp) _).alloc (by simp; omega) _
  simp only [World.size_alloc] at n1 n2
  have H0 := hide (And.intro n0 (And.intro n1 (And.intro n2 nb)))
  clear n0 n1 n2 nb hsc hz
  go_enter Tryz.func107, Tryz.ntmps107
  go_wp2_with (refine wpList_load_row (o := ⟨some 14, .load _ _, _, _, _, _⟩) rfl 190 _ rfl (w.heap.size + 1) rfl 190 B (0, 0) _ H0.out.2.1 Tryz.underlying190 rfl (by rw [hsz]; kernel_rfl) ?_)
  refine (Q1.out _).mono ?_
  rintro e w1 ⟨rfl, b1⟩
  have H1 := hide (And.intro (H0.out.1.below' b1) (And.intro (H0.out.2.2.1.below' b1) (H0.out.2.2.2.trans (b1.mono H0.out.2.2.2.size))))
  clear b1 H0
  go_wp2_with (refine wpList_store_row (o := ⟨none, .store _ (.tmp 5) _, _, _, _, _⟩) (Blk.new w1 202 (List.replicate 64 (Value.int .u32 0)).toArray) (fw 64 (wdh b)) (by rw [HS.out.1, HS.out.2.1]) HS.out.2.2.1 rfl 202 _ _ rfl (by rw [HS.out.1]; kernel_rfl) rfl rfl ?_; intro w2 hb2 hg2)
  have H2 := hide (show Blk w2 w.heap.size 188 s.cells ∧ Blk w2 (w.heap.size + 1 + 1) 188 #[.int .u32 0, .int .u32 0, .int .u32 0, .int .u32 0, .int .u32 0, .int .u32 0, .int .u32 0, .int .u32 0] ∧ Blk w2 w1.heap.size 202 (fw 64 (wdh b)) ∧ Below w.heap.size w w2 by
    have l1 := H1.out.2.1.lt
    exact ⟨(H1.out.1.alloc _).grown hg2 (by simp; omega), (H1.out.2.1.alloc _).grown hg2 (by simp; omega), hb2, (H1.out.2.2.alloc (by omega) _).grown hg2 (by simp; omega) fun k hk => by injection hk with hk; omega⟩)
  clear hb2 hg2
  go_wp2_with fail
  refine (rconstants_any w2).mono ?_
  rintro e w3 ⟨rfl, b3⟩
  have H3 := hide (And.intro (H2.out.1.below' b3) (And.intro (H2.out.2.1.below' b3) (And.intro (H2.out.2.2.1.below' b3) (H2.out.2.2.2.trans (b3.mono H2.out.2.2.2.size)))))
  have hlt12 := hide (show w.heap.size + 2 < w1.heap.size ∧ w1.heap.size < w2.heap.size ∧ w2.heap.size ≤ w3.heap.size by
    have l1 := H1.out.2.1.lt
    exact ⟨by omega, H2.out.2.2.1.lt, b3.size⟩)
  clear b3 H2 H1
  go_wp2_with first
    | ((with_reducible change wpList _ _ _ (⟨none, .store _ (.tmp 6) _, _, _, _, _⟩ :: _) _ _); refine wpList_store_row (o := ⟨none, .store _ (.tmp 6) _, _, _, _, _⟩) (Blk.new w3 202 (List.replicate 64 (Value.int .u32 0)).toArray) (fw 64 kc) (by rw [HS.out.2.2.2.1, HS.out.2.1]) HS.out.2.2.2.2 rfl 202 _ _ rfl (by rw [HS.out.2.2.2.1]; kernel_rfl) rfl rfl ?_; intro w4 hb4 hg4; have H4 := hide (And.intro hb4 (And.intro hg4 ((H3.out.1.alloc _).grown hg4 (by have := hlt12.out; simp; omega)))); clear hb4 hg4)
    | ((with_reducible change wpList _ _ _ (⟨some 17, _, _, _, _, _⟩ :: _) _ _); refine wpList_load_row (o := ⟨some 17, .load _ _, _, _, _, _⟩) rfl 188 _ rfl w.heap.size rfl 188 s.cells (0, 0) _ H4.out.2.2 Tryz.underlying188 rfl (by kernel_rfl) ?_)
    | ((with_reducible change wpList _ _ _ (⟨none, .store _ (.tmp 7) _, _, _, _, _⟩ :: _) _ _); refine wpList_store_row (o := ⟨none, .store _ (.tmp 7) _, _, _, _, _⟩) (Blk.new w4 188 #[.int .u32 0, .int .u32 0, .int .u32 0, .int .u32 0, .int .u32 0, .int .u32 0, .int .u32 0, .int .u32 0]) s.cells rfl HONE.out rfl 188 _ _ rfl (by rw [HSC.out]; kernel_rfl) rfl rfl ?_; intro w5 hb5 hg5; have H6 := hide (And.intro hb5 hg5); clear hb5 hg5)
  have l12 := hlt12.out
  have l5 : w3.heap.size < w4.heap.size := H4.out.1.lt
  have hgg := H4.out.2.1
  have HI := hide (show Blk w5 w.heap.size 188 s.cells ∧ Blk w5 (w.heap.size + 1 + 1) 188 #[.int .u32 0, .int .u32 0, .int .u32 0, .int .u32 0, .int .u32 0, .int .u32 0, .int .u32 0, .int .u32 0] ∧ Blk w5 w1.heap.size 202 (fw 64 (wdh b)) ∧ Blk w5 w3.heap.size 202 (fw 64 kc) ∧ Blk w5 w4.heap.size 188 (rds s b 0).cells ∧ Below w.heap.size w w5 by
    exact ⟨(H4.out.2.2.alloc _).grown H6.out.2 (by simp; omega), ((((H3.out.2.1.alloc _).grown hgg (by simp; omega)).alloc _).grown H6.out.2 (by simp; omega)), ((((H3.out.2.2.1.alloc _).grown hgg (by simp; omega)).alloc _).grown H6.out.2 (by simp; omega)), (H4.out.1.alloc _).grown H6.out.2 (by simp; omega), H6.out.1,
      (((H3.out.2.2.2.alloc (by omega) _).grown hgg (by simp; omega) fun k hk => by injection hk with hk; omega).alloc (by omega) _).grown H6.out.2 (by simp; omega) fun k hk => by injection hk with hk; omega⟩)
  obtain ⟨N2, hN2⟩ : ∃ n, n = w1.heap.size := ⟨_, rfl⟩
  obtain ⟨N3, hN3⟩ : ∃ n, n = w3.heap.size := ⟨_, rfl⟩
  obtain ⟨N4, hN4⟩ : ∃ n, n = w4.heap.size := ⟨_, rfl⟩
  rw [← hN2, ← hN3, ← hN4] at HI ⊢
  have HLT := hide (show w.heap.size + 2 < N2 ∧ N2 < N3 ∧ N3 < N4 by omega)
  clear hN2 hN3 hN4 l12 l5 hgg H6 H4 H3 hlt12
  go_loopw [8, 9, 10, 11, 12] (fun u8 _ _ _ _ wr => ∃ i : Nat, i ≤ 64 ∧ u8 = .int .i64 (i : Int) ∧ Blk wr w.heap.size 188 s.cells ∧ Blk wr (w.heap.size + 1 + 1) 188 #[.int .u32 0, .int .u32 0, .int .u32 0, .int .u32 0, .int .u32 0, .int .u32 0, .int .u32 0, .int .u32 0] ∧ Blk wr N2 202 (fw 64 (wdh b)) ∧ Blk wr N3 202 (fw 64 kc) ∧ Blk wr N4 188 (rds s b i).cells ∧ Below w.heap.size w wr) (fun i _ _ _ _ _ => 64 - (intOf i).toNat)
  case atStart => exact ⟨0, by omega, rfl, HI.out⟩
  case round =>
    clear HI
    obtain ⟨i, hi, rfl, h1, h2, h3, h4, h5, h6⟩ := hrel
    have H := hide (And.intro h1 (And.intro h2 (And.intro h3 (And.intro h4 (And.intro h5 h6)))))
    clear h1 h2 h3 h4 h5 h6
    by_cases hlt : i < 64
    · obtain ⟨⟨y0, y1, y2, y3, y4, y5, y6, y7⟩, hy⟩ : ∃ y, y = rds s b i := ⟨_, rfl⟩
      have HY := hide hy
      clear hy
      obtain ⟨a, ha⟩ : ∃ a, a = kc i := ⟨_, rfl⟩
      obtain ⟨c, hc⟩ : ∃ c, c = wdh b i := ⟨_, rfl⟩
      have g0 : wr.cell? ⟨N4, 0, none⟩ = some (.int .u32 (y0.toNat : Int)) := by rw [H.out.2.2.2.2.1.cell, ← HY.out]; rfl
      have g1 : wr.cell? ⟨N4, 1, none⟩ = some (.int .u32 (y1.toNat : Int)) := by rw [H.out.2.2.2.2.1.cell, ← HY.out]; rfl
      have g2 : wr.cell? ⟨N4, 2, none⟩ = some (.int .u32 (y2.toNat : Int)) := by rw [H.out.2.2.2.2.1.cell, ← HY.out]; rfl
      have g3 : wr.cell? ⟨N4, 3, none⟩ = some (.int .u32 (y3.toNat : Int)) := by rw [H.out.2.2.2.2.1.cell, ← HY.out]; rfl
      have g4 : wr.cell? ⟨N4, 4, none⟩ = some (.int .u32 (y4.toNat : Int)) := by rw [H.out.2.2.2.2.1.cell, ← HY.out]; rfl
      have g5 : wr.cell? ⟨N4, 5, none⟩ = some (.int .u32 (y5.toNat : Int)) := by rw [H.out.2.2.2.2.1.cell, ← HY.out]; rfl
      have g6 : wr.cell? ⟨N4, 6, none⟩ = some (.int .u32 (y6.toNat : Int)) := by rw [H.out.2.2.2.2.1.cell, ← HY.out]; rfl
      have g7 : wr.cell? ⟨N4, 7, none⟩ = some (.int .u32 (y7.toNat : Int)) := by rw [H.out.2.2.2.2.1.cell, ← HY.out]; rfl
      have s0 := H.out.2.2.2.2.1.frozen 0
      have s1 := H.out.2.2.2.2.1.frozen 1
      have s2 := H.out.2.2.2.2.1.frozen 2
      have s3 := H.out.2.2.2.2.1.frozen 3
      have s4 := H.out.2.2.2.2.1.frozen 4
      have s5 := H.out.2.2.2.2.1.frozen 5
      have s6 := H.out.2.2.2.2.1.frozen 6
      have s7 := H.out.2.2.2.2.1.frozen 7
      have ga : wr.cell? ⟨N3, i, none⟩ = some (.int .u32 (a.toNat : Int)) := by rw [H.out.2.2.2.1.cell, fw_get _ (by omega), ha]
      have gc : wr.cell? ⟨N2, i, none⟩ = some (.int .u32 (c.toNat : Int)) := by rw [H.out.2.2.1.cell, fw_get _ (by omega), hc]
      obtain ⟨R, hR⟩ : ∃ R, R = rkh := ⟨_, rfl⟩
      obtain ⟨X, hX⟩ : ∃ X, X = xo := ⟨_, rfl⟩
      obtain ⟨AN, hA⟩ : ∃ A, A = an := ⟨_, rfl⟩
      obtain ⟨D, hD⟩ : ∃ D, D = ad := ⟨_, rfl⟩
      obtain ⟨NT, hN⟩ : ∃ N, N = nt := ⟨_, rfl⟩
      have x1 : ∀ a b : UInt32, bits .xor .u32 (a.toNat : Int) (b.toNat : Int) = ((X a b).toNat : Int) := by rw [hX]; exact w_xor
      have x2 : ∀ a b : UInt32, bits .and .u32 (a.toNat : Int) (b.toNat : Int) = ((AN a b).toNat : Int) := by rw [hA]; exact w_and
      have x3 : ∀ a b : UInt32, IntKind.u32.wrap ((a.toNat : Int) + (b.toNat : Int)) = ((D a b).toNat : Int) := by rw [hD]; exact w_add
      have x4 : ∀ a b : UInt32, ((a.toNat : Int) + (b.toNat : Int)) % 4294967296 = ((D a b).toNat : Int) := by rw [hD]; exact w_add'
      have x5 : ∀ a : UInt32, bits .xor .u32 IntKind.u32.max (a.toNat : Int) = ((NT a).toNat : Int) := by rw [hN]; exact w_not'
      have x6 : ∀ a : UInt32, bits .xor .u32 4294967295 (a.toNat : Int) = ((NT a).toNat : Int) := x5
      have QR := hide (show ∀ (x : UInt32) (k : Int) (w : World), (1 ≤ k ∧ k ≤ 31) → Calls Tryz.prog 125 #[.int .u32 (x.toNat : Int), .int .u64 k] w fun e w' => e = .returned (.int .u32 ((R x k).toNat : Int)) ∧ w' = w by rw [hR]; exact turn_k)
      have HEQ := hide (And.intro ha (And.intro hc (And.intro hR (And.intro hX (And.intro hA (And.intro hD hN))))))
      clear ha hc hR hX hA hD hN
      have bi : (i : Int) < 64 := by omega
      have pi : (0 : Int) ≤ (i : Int) := by omega
      go_wp2
      go_quiet ((go_at_call 125; with_reducible exact quiet_first_same (QR.out _ _ _ (by omega))))
      go_wp2
      go_quiet ((go_at_call 125; with_reducible exact quiet_add_same (QR.out _ _ _ (by omega))))
      go_wp2
      go_roundw
      case rel =>
        have n0 := HLT.out
        have n1 : w.heap.size ≠ N4 := by omega
        have n2 : w.heap.size + 1 + 1 ≠ N4 := by omega
        have n3 : N2 ≠ N4 := by omega
        have n4 : N3 ≠ N4 := by omega
        have n5 : w.heap.size ≤ N4 := by omega
        have hk : Blk wr N4 188 (H8.cells ⟨y0, y1, y2, y3, y4, y5, y6, y7⟩) := by rw [HY.out]; exact H.out.2.2.2.2.1
        refine ⟨i + 1, by omega, by go_num, blk_eight_far (H.out.1.drewN _) n1 _ _ _ _ _ _ _ _, blk_eight_far (H.out.2.1.drewN _) n2 _ _ _ _ _ _ _ _, blk_eight_far (H.out.2.2.1.drewN _) n3 _ _ _ _ _ _ _ _, blk_eight_far (H.out.2.2.2.1.drewN _) n4 _ _ _ _ _ _ _ _, Blk.cast (blk_eight (hk.drewN _) _ _ _ _ _ _ _ _) ?_, below_eight (below_drewN H.out.2.2.2.2.2 _) n5 _ _ _ _ _ _ _ _⟩
        rw [rds_succ, ← HY.out]
        obtain ⟨ha, hc, hR, hX, hA, hD, hN⟩ := HEQ.out
        rw [← ha, ← hc, hR, hX, hA, hD, hN]
        simp only [H8.cells, rnd, ru, rv, S1, S0, chf, mjf, ← ad_assoc]
        rfl
      case measure => simp [intOf]; omega
    · have hi64 : i = 64 := by omega
      subst hi64
      obtain ⟨x, hx⟩ : ∃ x, x = rds s b 64 := ⟨_, rfl⟩
      rw [← hx] at H
      have HX := hide hx
      clear hx hi hlt
      rw [show ((64 : Nat) : Int) = 64 from rfl]
      go_wp2
      go_loopw [13] (fun u13 wr => ∃ i : Nat, i ≤ 8 ∧ u13 = .int .i64 (i : Int) ∧ Blk wr w.heap.size 188 (partH s x i) ∧ Blk wr (w.heap.size + 1 + 1) 188 #[.int .u32 0, .int .u32 0, .int .u32 0, .int .u32 0, .int .u32 0, .int .u32 0, .int .u32 0, .int .u32 0] ∧ Blk wr N4 188 x.cells ∧ Below w.heap.size w wr) (fun i _ => 8 - (intOf i).toNat)
      case atStart => exact ⟨0, by omega, rfl, by rw [part_zero]; exact H.out.1, H.out.2.1, H.out.2.2.2.2.1, H.out.2.2.2.2.2⟩
      case round =>
        clear H
        obtain ⟨i, hi, rfl, h1, h2, h3, h4⟩ := hrel
        have H := hide (And.intro h1 (And.intro h2 (And.intro h3 h4)))
        clear h1 h2 h3 h4
        by_cases hlt : i < 8
        · obtain ⟨a, ha⟩ : ∃ a, a = s.at i := ⟨_, rfl⟩
          obtain ⟨c, hc⟩ : ∃ c, c = x.at i := ⟨_, rfl⟩
          have ga : wr.cell? ⟨w.heap.size, i, none⟩ = some (.int .u32 (a.toNat : Int)) := by rw [H.out.1.cell, partH_get _ _ hlt, ha]
          have gs := H.out.1.frozen i
          have gc : wr.cell? ⟨N4, i, none⟩ = some (.int .u32 (c.toNat : Int)) := by rw [H.out.2.2.1.cell, cells_get _ hlt, hc]
          obtain ⟨D, hD⟩ : ∃ D, D = ad := ⟨_, rfl⟩
          have x3 : ∀ a b : UInt32, IntKind.u32.wrap ((a.toNat : Int) + (b.toNat : Int)) = ((D a b).toNat : Int) := by rw [hD]; exact w_add
          have x4 : ∀ a b : UInt32, ((a.toNat : Int) + (b.toNat : Int)) % 4294967296 = ((D a b).toNat : Int) := by rw [hD]; exact w_add'
          have HAC := hide (And.intro ha (And.intro hc hD))
          clear ha hc hD
          have bi : (i : Int) < 8 := by omega
          have pi : (0 : Int) ≤ (i : Int) := by omega
          go_wp2
          go_region
          go_wp2
          go_roundw
          case rel =>
            have n0 := HLT.out
            refine ⟨i + 1, by omega, by go_num, ?_, H.out.2.1.drew.far (by simp; omega) _, H.out.2.2.1.drew.far (by simp; omega) _, H.out.2.2.2.drew.setCell (by simp) _⟩
            rw [← part_set s x hlt, ← HAC.out.1, ← HAC.out.2.1, ← HAC.out.2.2]
            exact H.out.1.drew.set_ i _
          case measure => simp [intOf]; omega
        · have hi8 : i = 8 := by omega
          subst hi8
          have HP := hide (And.intro (part_size s x 8) (show (partH s x 8).all (·.oneCell') = true by rw [part_full]; exact H8.one _))
          go_wp2_with (first
            | ((with_reducible change wpList _ _ _ (⟨some 113, _, _, _, _, _⟩ :: _) _ _); refine wpList_load_row (o := ⟨some 113, .load _ _, _, _, _, _⟩) rfl 188 _ rfl w.heap.size rfl 188 (partH s x 8) (0, 0) _ H.out.1 Tryz.underlying188 rfl (by rw [HP.out.1]; kernel_rfl) ?_)
            | (refine wpList_store_row (o := ⟨none, .store _ _ _, _, _, _, _⟩) H.out.2.1 (partH s x 8) (by rw [HP.out.1]; rfl) HP.out.2 rfl 188 _ _ rfl (by rw [HP.out.1]; kernel_rfl) rfl rfl ?_; intro w6 hb6 hg6))
          refine bodyPost_ret (results_cell_row rfl _ _ (w.heap.size + 1 + 1) 188 (partH s x 8) (0, 0) _ rfl hb6 Tryz.underlying188 rfl (by rw [HP.out.1]; kernel_rfl)) rfl ⟨?_, H.out.2.2.2.grown hg6 H.out.2.2.2.size fun k hk => by injection hk with hk; omega⟩
          rw [part_full, HX.out]
          rfl
end Go.Proofs.YtcpceaflnnkhnaaGreatDoor

/- The document's Sum. -/
namespace Go.Proofs.YtcpceaflnnkhnaaGreatDoor
open Go.RowKit

set_option maxHeartbeats 1000000 in
theorem rinitial_any (w : World) : Calls Tryz.prog 106 #[] w fun e w' => e = .returned (.agg sha0.cells) ∧ Below w.heap.size w w' := by
  go_enter Tryz.func106, Tryz.ntmps106
  go_wp2
  refine bodyPost_ret (results_cell_row rfl _ _ w.heap.size 188 sha0.cells (0, 0) _ rfl (Blk.new _ _ _) Tryz.underlying188 rfl (by kernel_rfl)) rfl ⟨rfl, (Below.refl _ w).alloc (Nat.le_refl _) _⟩
theorem own_neh {o : Option Nat} {g : Nat} (h : o = none ∨ o ≠ some g) : some g ≠ o := by
  rcases h with h | h
  · rw [h]; simp
  · exact fun e => h e.symm
set_option maxRecDepth 100000 in
set_option maxHeartbeats 4000000 in
theorem rsum_any (v : Value) (l : List UInt8) (w : World) (hv : By w v l) (hl : l.length ≤ 1099511627776) :
    Calls Tryz.prog 88 #[v] w fun e w' => e = .returned (.agg (bcells (shaL l)).toArray) ∧ Below w.heap.size w w' := by
  obtain ⟨A, c, rfl, hc, hm, -⟩ := hv.form
  have HV := hide hv
  have HL := hide hl
  clear hv
  unfold maxLen at hm
  obtain ⟨n, hn⟩ : ∃ n, n = l.length := ⟨_, rfl⟩
  rw [← hn] at hc hl HV ⊢
  have HN := hide hn
  clear hn
  obtain ⟨S, hS⟩ : ∃ S, S = sha0.cells := ⟨_, rfl⟩
  have Q1 := hide (fun w => rinitial_any w)
  rw [← hS] at Q1
  have HSS := hide (show S.size = 8 ∧ S.all (·.oneCell') = true by rw [hS]; exact ⟨rfl, H8.one _⟩)
  have HS := hide hS
  clear hS
  go_enter Tryz.func88, Tryz.ntmps88
  go_wp2_with first
    | (at_builtin; go_loud (refine wpList_pushV (l := []) elem8 (Own.nil _ w.heap.size _) ((Below.refl w.heap.size w).alloc (Nat.le_refl _) _) (by simp) (HV.out.below ((Below.refl _ w).alloc (Nat.le_refl _) _)) (by simp; have := HL.out; omega) rfl _ _ rfl rfl rfl ?_); intro v1 w1 o1 b1 g1 _; go_loud (have H1 := hide (And.intro o1 (And.intro b1 ((Blk.new w 26 _).grown g1 (by simp [Value.ownBlock])))); clear o1 b1 g1))
    | (go_at_call 105; refine (rpad_any n _ hl).mono ?_; rintro e w2 ⟨vp, rfl, op, bp⟩; go_loud (have H2 := hide (And.intro (H1.out.1.below bp) (And.intro (H1.out.2.1.trans (bp.mono H1.out.2.1.size)) (And.intro (H1.out.2.2.below' bp) op.by_))); clear op bp H1))
    | (at_builtin; go_loud (refine wpList_pushV elem8 H2.out.1 H2.out.2.1 H2.out.2.1.size H2.out.2.2.2 (by simp [padL_length]; have := HL.out; have := noughts_le n; omega) rfl _ _ rfl rfl rfl ?_); intro v3 w3 o3 b3 g3 _; go_loud (obtain ⟨M, hM⟩ : ∃ M, M = l ++ padL n := ⟨_, rfl⟩; have o3' : Own w3 w.heap.size 5 v3 M := (by rw [hM]; exact o3); clear o3; have H3 := hide (And.intro o3'.by_ (And.intro b3 (H2.out.2.2.1.grown g3 (own_neh (own_blk_ne H2.out.1 H2.out.2.2.1 (by decide)))))); clear o3' b3 g3 H2; obtain ⟨A3, c3, rfl, hc3, hm3, -⟩ := H3.out.1.form; obtain ⟨L, hL⟩ : ∃ L, L = M.length := ⟨_, rfl⟩; rw [← hL] at H3 hc3 ⊢; have HM0 := hide (And.intro hM hL); clear hM hL))
    | (go_at_call 106; refine (Q1.out _).mono ?_; rintro e w4 ⟨rfl, b4⟩; go_loud (have H4 := hide (And.intro (H3.out.1.below b4) (And.intro (H3.out.2.1.trans (b4.mono H3.out.2.1.size)) (H3.out.2.2.below' b4))); clear b4 H3))
    | (refine wpList_store_row (o := ⟨none, .store _ (.tmp 6) _, _, _, _, _⟩) (Blk.new w4 188 _) S (by rw [HSS.out.1]; rfl) HSS.out.2 rfl 188 _ _ rfl (by rw [HSS.out.1]; kernel_rfl) rfl rfl ?_; intro w5 hb5 hg5; have H5 := hide (And.intro hb5 hg5); clear hb5 hg5)
  obtain ⟨hM, hL⟩ := HM0.out
  obtain ⟨m, hmm⟩ : ∃ m, m = L / 64 := ⟨_, rfl⟩
  have hL64 : L = 64 * m ∧ L ≤ 2000000000000 := by
    have h1 := padL_whole l.length
    have h2 := HL.out
    have h3 := HN.out
    have h4 := noughts_le l.length
    rw [hmm, hL, hM, List.length_append, h3, padL_length] at *
    omega
  obtain ⟨N, hN⟩ : ∃ N, N = w4.heap.size := ⟨_, rfl⟩
  obtain ⟨Z, hZ⟩ : ∃ Z, Z = (bcells (List.replicate 32 0)).toArray := ⟨_, rfl⟩
  have HLT := hide (show w.heap.size < N by rw [hN]; exact H4.out.2.2.lt)
  have HI := hide (show Blk w5 N 188 (mixN sha0 M 0).cells ∧ Below N w4 w5 by
    rw [hN]
    have hbw : Below w4.heap.size w4 w5 := ((Below.refl _ w4).alloc (Nat.le_refl _) _).grown H5.out.2 (by simp) fun k hk => by injection hk with hk; omega
    refine ⟨?_, hbw⟩
    have := H5.out.1
    rw [HS.out] at this
    exact this)
  have HZ := hide (And.intro (show Z.size = 32 by rw [hZ]; rfl) (show Blk w4 w.heap.size 26 Z by rw [hZ]; exact H4.out.2.2))
  have H4' := H4.out
  clear H4
  have H4 := hide (show By w4 (.slice A3 L c3) M ∧ Below w.heap.size w w4 ∧ N = w4.heap.size from ⟨H4'.1, H4'.2.1, hN⟩)
  rw [← hN]
  have HM := hide (And.intro hM (And.intro hL hmm))
  have HL64 := hide hL64
  have iL : (L : Int) ≤ 2000000000000 := by omega
  clear hM hL hmm hN hZ H5 H4' HM0 hL64
  go_wp2
  go_loopw [7, 8, 9] (fun u7 _ _ wr => ∃ q : Nat, q ≤ m ∧ u7 = .int .i64 ((64 * q : Nat) : Int) ∧ Blk wr N 188 (mixN sha0 M q).cells ∧ Below N w4 wr) (fun u7 _ _ _ => L + 64 - (intOf u7).toNat)
  case atStart => exact ⟨0, by omega, rfl, HI.out⟩
  case round =>
    clear HI
    obtain ⟨q, hq, rfl, h1, h2⟩ := hrel
    have H := hide (And.intro h1 h2)
    clear h1 h2
    obtain ⟨I, hI⟩ : ∃ I, I = 64 * q := ⟨_, rfl⟩
    rw [← hI]
    obtain ⟨h, hh⟩ : ∃ h, h = mixN sha0 M q := ⟨_, rfl⟩
    rw [← hh] at H
    have iI : (I : Int) ≤ (L : Int) := by have := HL64.out; omega
    by_cases hlt : q < m
    · have i1 : (I : Int) + 64 ≤ (L : Int) := by have := HL64.out; omega
      obtain ⟨N8, hN8⟩ : ∃ N8, N8 = wr.heap.size := ⟨_, rfl⟩
      have HNN := hide (show N < N8 by rw [hN8]; exact H.out.1.lt)
      have HB := hide (show Blk (wr.alloc (.cells (List.replicate 64 (Value.int .u8 0)).toArray 190)) N8 190 (fillN (M.drop I) 64 0) ∧ Blk (wr.alloc (.cells (List.replicate 64 (Value.int .u8 0)).toArray 190)) N 188 h.cells ∧ Below N w4 (wr.alloc (.cells (List.replicate 64 (Value.int .u8 0)).toArray 190)) by
        have n1 := HNN.out
        rw [hN8] at n1 ⊢
        rw [fillN_zero]
        exact ⟨by simpa [bcells] using Blk.new wr 190 _, H.out.1.alloc _, H.out.2.alloc (by omega) _⟩)
      have HH := hide (And.intro hh (And.intro hI hlt))
      clear hh hI hlt
      go_wp2
      rw [← hN8]
      clear hN8 H
      go_loopw [9] (fun u9 wr => ∃ k : Nat, k ≤ 64 ∧ u9 = .int .i64 (k : Int) ∧ Blk wr N8 190 (fillN (M.drop I) 64 k) ∧ Blk wr N 188 h.cells ∧ Below N w4 wr) (fun u9 _ => 64 - (intOf u9).toNat)
      case atStart => exact ⟨0, by omega, rfl, HB.out⟩
      case round =>
        clear HB
        obtain ⟨k, hk, rfl, h1, h2, h3⟩ := hrel
        have H := hide (And.intro h1 (And.intro h2 h3))
        clear h1 h2 h3
        by_cases hlt : k < 64
        · obtain ⟨p, hp⟩ : ∃ p, p = I + k := ⟨_, rfl⟩
          have hpl : p < M.length := by rw [← HM.out.2.1]; omega
          obtain ⟨x, hx⟩ : ∃ x, M[p]? = some x := ⟨_, List.getElem?_eq_getElem hpl⟩
          have hpd : (M.drop I)[k]? = some x := by rw [List.getElem?_drop, ← hp]; exact hx
          have hset := fillN_set (M.drop I) 64 k x hlt hpd
          have hby := H4.out.1.below (H4.out.2.2 ▸ H.out.2.2)
          obtain ⟨_, _, hAA, _, _, hcell⟩ := hby.form
          injection hAA with hAA _ _
          subst hAA
          obtain ⟨b, o, rfl, hbl, hcc⟩ := hcell p x hx
          have e1 : (I : Int) + (k : Int) = (p : Int) := by omega
          have e2 : (p : Int) < (L : Int) := by rw [HM.out.2.1]; omega
          have e3 : (0 : Int) ≤ (p : Int) := by omega
          have e4 : (k : Int) < 64 := by omega
          have gs := H.out.1.frozen k
          obtain ⟨z, hz⟩ : ∃ z, wr.cell? ⟨N8, k, none⟩ = some z := ⟨_, (H.out.1.cell k).trans (Array.getElem?_eq_getElem (by rw [fillN_size _ _ _ hk (by rw [List.length_drop]; omega)]; omega))⟩
          have HSET := hide hset
          clear hset hpd hx hpl hcell hp hby
          go_wp2
          go_roundw
          case rel =>
            have n1 := HNN.out
            refine ⟨k + 1, by omega, by go_num, ?_, H.out.2.1.far (by simp; omega) _, H.out.2.2.setCell (by simp; omega) _⟩
            rw [← HSET.out]
            exact H.out.1.set_ k _
          case measure => simp [intOf]; omega
        · have hk64 : k = 64 := by omega
          subst hk64
          obtain ⟨b, hb⟩ : ∃ b, b = (M.drop I).take 64 := ⟨_, rfl⟩
          have hbl : b.length = 64 := by rw [hb, List.length_take, List.length_drop, ← HM.out.2.1]; omega
          obtain ⟨B, hB⟩ : ∃ B, B = (bcells b).toArray := ⟨_, rfl⟩
          have HBB := hide (show Blk wr N8 190 B by rw [hB, hb, ← fillN_full]; exact H.out.1)
          have hBs : B.size = 64 := by rw [hB]; simp [hbl]
          obtain ⟨y, hy⟩ : ∃ y, y = mixH h b := ⟨_, rfl⟩
          have Q := hide (fun w => rmix_any h b w hbl)
          rw [← hB, ← hy] at Q
          have HHB := hide (And.intro hb (And.intro hBs hy))
          clear hb hB hBs hy
          rw [show ((64 : Nat) : Int) = 64 from rfl]
          go_wp2_with first
            | ((with_reducible change wpList _ _ _ (⟨some 44, _, _, _, _, _⟩ :: _) _ _); refine wpList_load_row (o := ⟨some 44, .load _ _, _, _, _, _⟩) rfl 188 _ rfl N rfl 188 h.cells (0, 0) _ H.out.2.1 Tryz.underlying188 rfl (by kernel_rfl) ?_)
            | ((with_reducible change wpList _ _ _ (⟨some 45, _, _, _, _, _⟩ :: _) _ _); refine wpList_load_row (o := ⟨some 45, .load _ _, _, _, _, _⟩) rfl 190 _ rfl N8 rfl 190 B (0, 0) _ HBB.out Tryz.underlying190 rfl (by rw [HHB.out.2.1]; kernel_rfl) ?_)
            | (go_at_call 107; refine (Q.out _).mono ?_; rintro e w6 ⟨rfl, b6⟩; go_loud (have H6 := hide (And.intro (H.out.2.1.below' b6) (H.out.2.2.trans (b6.mono (Nat.le_of_lt H.out.2.1.lt)))); clear b6))
            | (refine wpList_store_row (o := ⟨none, .store _ (.tmp 6) _, _, _, _, _⟩) H6.out.1 y.cells rfl (H8.one _) rfl 188 _ _ rfl (by kernel_rfl) rfl rfl ?_; intro w7 hb7 hg7; have H7 := hide (And.intro hb7 hg7); clear hb7 hg7)
          go_roundw
          case rel =>
            have hL64 := HL64.out
            refine ⟨q + 1, HH.out.2.2, ?_, ?_, H6.out.2.grown H7.out.2 (Nat.le_of_lt H6.out.1.lt) fun k hk => by injection hk with hk; omega⟩
            · have := HH.out.2.1
              show Value.int .i64 _ = Value.int .i64 _
              congr 1
              omega
            · rw [mixN_succ, ← HH.out.1, ← HH.out.2.1, ← HHB.out.1, ← HHB.out.2.2]
              exact H7.out.1
          case measure => have hL64 := HL64.out; simp [intOf]; omega
    · have hqm : q = m := by omega
      have i1 : ¬ (I : Int) + 64 ≤ (L : Int) := by have := HL64.out; omega
      have HH := hide (show h = shaH l by
        rw [hh, hqm, HM.out.2.2, HM.out.2.1, HM.out.1, HN.out, List.length_append]; rfl)
      clear hh hI hqm
      obtain ⟨N8, hN8⟩ : ∃ N8, N8 = wr.heap.size := ⟨_, rfl⟩
      have HNN := hide (show N < N8 by rw [hN8]; exact H.out.1.lt)
      go_wp2
      rw [← hN8]
      go_loopw [11] (fun u11 wr => ∃ i : Nat, i ≤ 32 ∧ u11 = .int .i64 (i : Int) ∧ Blk wr N8 26 (fillN (digL h) 32 i) ∧ Blk wr N 188 h.cells ∧ Below N w4 wr) (fun u11 _ => 32 - (intOf u11).toNat)
      case atStart =>
        have n1 := HNN.out
        refine ⟨0, by omega, rfl, ?_, H.out.1.alloc _, H.out.2.alloc (by omega) _⟩
        rw [fillN_zero, hN8]
        exact Blk.new _ _ _
      case round =>
        clear H hN8
        obtain ⟨i, hi, rfl, h1, h2, h3⟩ := hrel
        have H := hide (And.intro h1 (And.intro h2 h3))
        clear h1 h2 h3
        by_cases hlt : i < 32
        · obtain ⟨j, hj⟩ : ∃ j, j = i / 4 := ⟨_, rfl⟩
          obtain ⟨s, hs⟩ : ∃ s, s = 24 - 8 * (i % 4) := ⟨_, rfl⟩
          obtain ⟨y, hy⟩ : ∃ y, y = h.at j := ⟨_, rfl⟩
          have hd := digL_get h i hlt
          rw [← hj, ← hs, ← hy] at hd
          have hset := fillN_set (digL h) 32 i _ (by omega) hd
          have hv : ((y.toNat : Nat) : Int) / 2 ^ s % 256 = ((UInt8.ofNat (y.toNat / 2 ^ s)).toNat : Int) := by rw [u8_of]; simp
          rw [← hv] at hset
          have HSET := hide hset
          have e1 : (i : Int) / 4 = (j : Int) := by omega
          have e2 : 24 - 8 * ((i : Int) % 4) = (s : Int) := by omega
          have e3 : (j : Int) < 8 := by omega
          have e4 : (i : Int) < 32 := by omega
          have e5 : (s : Int) ≤ 24 := by omega
          have gc : wr.cell? ⟨N, j, none⟩ = some (.int .u32 (y.toNat : Int)) := by rw [H.out.2.1.cell, cells_get _ (by omega), hy]
          have gs := H.out.1.frozen i
          obtain ⟨z, hz⟩ : ∃ z, wr.cell? ⟨N8, i, none⟩ = some z := ⟨_, (H.out.1.cell i).trans (Array.getElem?_eq_getElem (by rw [fillN_size _ _ _ hi (by simp; omega)]; omega))⟩
          clear hset hd hv hy hj hs
          go_wp2
          go_roundw
          case rel =>
            have n1 := HNN.out
            refine ⟨i + 1, by omega, by go_num, ?_, H.out.2.1.far (by simp; omega) _, H.out.2.2.setCell (by simp; omega) _⟩
            rw [← HSET.out]
            exact H.out.1.set_ i _
          case measure => simp [intOf]; omega
        · have hi32 : i = 32 := by omega
          subst hi32
          obtain ⟨F, hF⟩ : ∃ F, F = (bcells (digL h)).toArray := ⟨_, rfl⟩
          have HF := hide (show Blk wr N8 26 F ∧ F.size = 32 ∧ F.all (·.oneCell') = true by
            refine ⟨?_, by rw [hF]; simp, by rw [hF]; simp [bcells, Value.oneCell']⟩
            have := H.out.1
            rw [fillN_full, List.take_of_length_le (by simp)] at this
            rw [hF]
            exact this)
          have HFF := hide hF
          have HD := hide (show Blk wr w.heap.size 26 Z from HZ.out.2.below H.out.2.2 HLT.out)
          clear hF
          rw [show ((32 : Nat) : Int) = 32 from rfl]
          go_wp2_with first
            | ((with_reducible change wpList _ _ _ (⟨some 64, _, _, _, _, _⟩ :: _) _ _); refine wpList_load_row (o := ⟨some 64, .load _ _, _, _, _, _⟩) rfl 26 _ rfl N8 rfl 26 F (0, 0) _ HF.out.1 Tryz.underlying26 rfl (by rw [HF.out.2.1]; kernel_rfl) ?_)
            | (refine wpList_store_row (o := ⟨none, .store _ (.tmp 2) _, _, _, _, _⟩) HD.out F (by rw [HF.out.2.1, HZ.out.1]) HF.out.2.2 rfl 26 _ _ rfl (by rw [HF.out.2.1]; kernel_rfl) rfl rfl ?_; intro w7 hb7 hg7)
          have n1 := HLT.out
          refine bodyPost_ret (results_cell_row rfl _ _ w.heap.size 26 F (0, 0) _ rfl hb7 Tryz.underlying26 rfl (by rw [HF.out.2.1]; kernel_rfl)) rfl ⟨by rw [HFF.out, HH.out]; rfl, ?_⟩
          have hbw := H4.out.2.1.trans (H.out.2.2.mono (by omega))
          exact hbw.grown hg7 hbw.size fun k hk => by injection hk with hk; omega
end Go.Proofs.YtcpceaflnnkhnaaGreatDoor
