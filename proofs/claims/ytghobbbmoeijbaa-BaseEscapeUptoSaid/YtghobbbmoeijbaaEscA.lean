/- Contracts on one byte: what a byte of a name is, a hexadecimal digit's number; the program's and the document's. -/
import Derived.Test.YtghobbbmoeijbaaKit
import Derived.Test.YtghobbbmoeijbaaB10E
import Derived.Test.YtghobbbmoeijbaaBaseC
import Derived.Test.YtghobbbmoeijbaaShelf
namespace Go.Proofs.Ytghobbbmoeijbaa
open Go.RowKit

theorem plainN_iff (n : Nat) : plainN n = true ↔ (97 ≤ n ∧ n ≤ 122) ∨ (65 ≤ n ∧ n ≤ 90) ∨ (48 ≤ n ∧ n ≤ 57) ∨ n = 45 ∨ n = 46 ∨ n = 95 := by
  simp only [plainN, Bool.or_eq_true, Bool.and_eq_true, decide_eq_true_eq, beq_iff_eq]
  omega
theorem plainN_not (n : Nat) (h : ¬ ((97 ≤ n ∧ n ≤ 122) ∨ (65 ≤ n ∧ n ≤ 90) ∨ (48 ≤ n ∧ n ≤ 57) ∨ n = 45 ∨ n = 46 ∨ n = 95)) : plainN n = false := by
  rcases hp : plainN n with _ | _
  · rfl
  · exact absurd ((plainN_iff n).1 hp) h

set_option maxHeartbeats 1000000 in
theorem sort_any (c : UInt8) (w : World) :
    Calls Try.prog 27 #[.int .u8 (c.toNat : Int)] w fun e w' => e = .returned (.int .i64 (sortN c.toNat : Int)) ∧ w = w' := by
  have hc := c.toNat_lt
  have hr : (c.toNat : Int) ≤ 36 ∨ (37 ≤ (c.toNat : Int) ∧ (c.toNat : Int) ≤ 37) ∨ (38 ≤ (c.toNat : Int) ∧ (c.toNat : Int) ≤ 44) ∨ (45 ≤ (c.toNat : Int) ∧ (c.toNat : Int) ≤ 45) ∨ (46 ≤ (c.toNat : Int) ∧ (c.toNat : Int) ≤ 46) ∨
      (47 ≤ (c.toNat : Int) ∧ (c.toNat : Int) ≤ 47) ∨ (48 ≤ (c.toNat : Int) ∧ (c.toNat : Int) ≤ 57) ∨ (58 ≤ (c.toNat : Int) ∧ (c.toNat : Int) ≤ 64) ∨ (65 ≤ (c.toNat : Int) ∧ (c.toNat : Int) ≤ 90) ∨ (91 ≤ (c.toNat : Int) ∧ (c.toNat : Int) ≤ 94) ∨
      (95 ≤ (c.toNat : Int) ∧ (c.toNat : Int) ≤ 95) ∨ (96 ≤ (c.toNat : Int) ∧ (c.toNat : Int) ≤ 96) ∨ (97 ≤ (c.toNat : Int) ∧ (c.toNat : Int) ≤ 122) ∨ 123 ≤ (c.toNat : Int) := by omega
  rcases hr with h | h | h | h | h | h | h | h | h | h | h | h | h | h
  all_goals
    try obtain ⟨h1, h2⟩ := h
    first | (have q37 : ((c.toNat : Int) == 37) = true := by rw [beq_iff_eq]; omega) | (have q37 : ((c.toNat : Int) == 37) = false := by rw [beq_eq_false_iff_ne]; omega)
    first | (have q45 : ((c.toNat : Int) == 45) = true := by rw [beq_iff_eq]; omega) | (have q45 : ((c.toNat : Int) == 45) = false := by rw [beq_eq_false_iff_ne]; omega)
    first | (have q46 : ((c.toNat : Int) == 46) = true := by rw [beq_iff_eq]; omega) | (have q46 : ((c.toNat : Int) == 46) = false := by rw [beq_eq_false_iff_ne]; omega)
    first | (have q95 : ((c.toNat : Int) == 95) = true := by rw [beq_iff_eq]; omega) | (have q95 : ((c.toNat : Int) == 95) = false := by rw [beq_eq_false_iff_ne]; omega)
    go_enter Try.func27, Try.ntmps27
    go_wp2
    go_ret
    refine ⟨ret_int ?_, rfl⟩
    unfold sortN
    first
      | rw [(plainN_iff c.toNat).2 (by omega), if_pos rfl]; rfl
      | (rw [plainN_not c.toNat (by omega), if_neg (by simp)]
         first | (rw [if_pos (by omega)]; rfl) | (rw [if_neg (by omega)]; rfl))

set_option maxHeartbeats 1000000 in
theorem plain_any (c : UInt8) (w : World) :
    Calls Try.prog 30 #[.int .u8 (c.toNat : Int)] w fun e w' => e = .returned (.bool (plainN c.toNat)) ∧ w = w' := by
  have hc := c.toNat_lt
  have hr : (c.toNat : Int) ≤ 44 ∨ (45 ≤ (c.toNat : Int) ∧ (c.toNat : Int) ≤ 45) ∨ (46 ≤ (c.toNat : Int) ∧ (c.toNat : Int) ≤ 46) ∨
      (47 ≤ (c.toNat : Int) ∧ (c.toNat : Int) ≤ 47) ∨ (48 ≤ (c.toNat : Int) ∧ (c.toNat : Int) ≤ 57) ∨ (58 ≤ (c.toNat : Int) ∧ (c.toNat : Int) ≤ 64) ∨ (65 ≤ (c.toNat : Int) ∧ (c.toNat : Int) ≤ 90) ∨ (91 ≤ (c.toNat : Int) ∧ (c.toNat : Int) ≤ 94) ∨
      (95 ≤ (c.toNat : Int) ∧ (c.toNat : Int) ≤ 95) ∨ (96 ≤ (c.toNat : Int) ∧ (c.toNat : Int) ≤ 96) ∨ (97 ≤ (c.toNat : Int) ∧ (c.toNat : Int) ≤ 122) ∨ 123 ≤ (c.toNat : Int) := by omega
  rcases hr with h | h | h | h | h | h | h | h | h | h | h | h
  all_goals
    try obtain ⟨h1, h2⟩ := h
    first | (have q45 : ((c.toNat : Int) == 45) = true := by rw [beq_iff_eq]; omega) | (have q45 : ((c.toNat : Int) == 45) = false := by rw [beq_eq_false_iff_ne]; omega)
    first | (have q46 : ((c.toNat : Int) == 46) = true := by rw [beq_iff_eq]; omega) | (have q46 : ((c.toNat : Int) == 46) = false := by rw [beq_eq_false_iff_ne]; omega)
    first | (have q95 : ((c.toNat : Int) == 95) = true := by rw [beq_iff_eq]; omega) | (have q95 : ((c.toNat : Int) == 95) = false := by rw [beq_eq_false_iff_ne]; omega)
    go_enter Try.func30, Try.ntmps30
    go_wp2
    go_ret
    refine ⟨ret_bool ?_, rfl⟩
    first
      | exact ((plainN_iff c.toNat).2 (by omega)).symm
      | exact (plainN_not c.toNat (by omega)).symm
      | (rw [plainN_not c.toNat (by omega)]; simp; omega)

def hexS : ByteArray := ⟨#[48, 49, 50, 51, 52, 53, 54, 55, 56, 57, 97, 98, 99, 100, 101, 102]⟩
theorem hexS_all : ∀ d : Fin 16, hexS[d.1]? = some (hexN d.1) := by decide +kernel
theorem hexS_at (X : Nat) (h : X < 16) (h' : X < hexS.size) : hexS[X]'h' = hexN X := by
  have := hexS_all ⟨X, h⟩
  rw [getElem?_pos hexS X h'] at this
  injection this
/-- A digit's number, -1 for what is none. -/
def digI (n : Nat) : Int := match digN n with
  | some d => (d : Int)
  | none => -1
theorem digI_some (n d : Nat) (h : digN n = some d) : digI n = (d : Int) := by unfold digI; rw [h]
theorem digI_none (n : Nat) (h : digN n = none) : digI n = -1 := by unfold digI; rw [h]
theorem dig_first (c : UInt8) (i : Nat) (hi : i < 16) (h : hexN i = c) : digI c.toNat = (i : Int) := by
  subst h; exact digI_some _ _ (dig_hex i hi)
theorem dig_none (c : UInt8) (h : ∀ j, j < 16 → hexN j ≠ c) : digI c.toNat = -1 := by
  refine digI_none _ ?_
  rcases hw : digN c.toNat with _ | d
  · rfl
  · exact absurd (hex_dig c d hw) (h d (dig_lt16 _ _ hw))

set_option maxHeartbeats 400000 in
theorem digit_any (c : UInt8) (w : World) :
    Calls Try.prog 31 #[.int .u8 (c.toNat : Int)] w fun e w' => e = .returned (.int .i64 (digI c.toNat)) ∧ w = w' := by
  go_enter Try.func31, Try.ntmps31
  go_wp2
  go_loop [3] (fun u3 => ∃ i : Nat, i ≤ 16 ∧ u3 = .int .i64 (i : Int) ∧ ∀ j, j < i → hexN j ≠ c) (fun u3 => 16 - (intOf u3).toNat)
  case atStart => exact ⟨0, by omega, rfl, fun j hj => by omega⟩
  case round =>
    obtain ⟨i, hi, rfl, hno⟩ := hrel
    have HN := hide hno
    clear hno
    by_cases hlt : i < 16
    · have hat := hexS_at i hlt (by show i < 16; exact hlt)
      have HA := hide hat
      clear hat
      have hx : i < hexS.size := by show i < 16; exact hlt
      go_wp2
      · have hq : (((hexS[i]'hx).toNat : Int) == (c.toNat : Int)) = true := by assumption
        go_ret
        refine ⟨ret_int (dig_first c i hlt ?_).symm, rfl⟩
        rw [← HA.out]
        exact u8_int.1 (beq_iff_eq.1 hq)
      · have hq : (((hexS[i]'hx).toNat : Int) == (c.toNat : Int)) = false := by assumption
        go_round
        case rel =>
          refine ⟨i + 1, by omega, by go_num, fun j hj => ?_⟩
          by_cases hji : j = i
          · subst hji
            rw [← HA.out]
            intro he
            rw [he] at hq
            simp at hq
          · exact HN.out j (by omega)
        case measure => simp [intOf]; omega
    · have h16 : i = 16 := by omega
      subst h16
      go_wp2
      go_ret
      exact ⟨ret_int (dig_none c HN.out).symm, rfl⟩

end Go.Proofs.Ytghobbbmoeijbaa
