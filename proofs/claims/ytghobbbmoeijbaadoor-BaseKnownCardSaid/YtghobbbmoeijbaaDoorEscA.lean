/- Contracts on one byte: what a byte of a name is, a hexadecimal digit's number; the program's and the document's. -/
import Derived.Test.YtghobbbmoeijbaaDoorKit
import Derived.Test.YtghobbbmoeijbaaDoorB10E
import Derived.Test.YtghobbbmoeijbaaDoorBaseC
import Derived.Test.YtghobbbmoeijbaaDoorShelf
namespace Go.Proofs.YtghobbbmoeijbaaDoor
open Go.RowKit

theorem plainN_iff (n : Nat) : plainN n = true ↔ (97 ≤ n ∧ n ≤ 122) ∨ (65 ≤ n ∧ n ≤ 90) ∨ (48 ≤ n ∧ n ≤ 57) ∨ n = 45 ∨ n = 46 ∨ n = 95 := by
  simp only [plainN, Bool.or_eq_true, Bool.and_eq_true, decide_eq_true_eq, beq_iff_eq]
  omega
theorem plainN_not (n : Nat) (h : ¬ ((97 ≤ n ∧ n ≤ 122) ∨ (65 ≤ n ∧ n ≤ 90) ∨ (48 ≤ n ∧ n ≤ 57) ∨ n = 45 ∨ n = 46 ∨ n = 95)) : plainN n = false := by
  rcases hp : plainN n with _ | _
  · rfl
  · exact absurd ((plainN_iff n).1 hp) h

set_option maxHeartbeats 1000000 in
theorem sort_any (c : UInt8) (w : World) :
    Calls Tryd.prog 30 #[.int .u8 (c.toNat : Int)] w fun e w' => e = .returned (.int .i64 (sortN c.toNat : Int)) ∧ w = w' := by
  have hc := c.toNat_lt
  have hr : (c.toNat : Int) ≤ 36 ∨ (37 ≤ (c.toNat : Int) ∧ (c.toNat : Int) ≤ 37) ∨ (38 ≤ (c.toNat : Int) ∧ (c.toNat : Int) ≤ 44) ∨ (45 ≤ (c.toNat : Int) ∧ (c.toNat : Int) ≤ 45) ∨ (46 ≤ (c.toNat : Int) ∧ (c.toNat : Int) ≤ 46) ∨
      (47 ≤ (c.toNat : Int) ∧ (c.toNat : Int) ≤ 47) ∨ (48 ≤ (c.toNat : Int) ∧ (c.toNat : Int) ≤ 57) ∨ (58 ≤ (c.toNat : Int) ∧ (c.toNat : Int) ≤ 64) ∨ (65 ≤ (c.toNat : Int) ∧ (c.toNat : Int) ≤ 90) ∨ (91 ≤ (c.toNat : Int) ∧ (c.toNat : Int) ≤ 94) ∨
      (95 ≤ (c.toNat : Int) ∧ (c.toNat : Int) ≤ 95) ∨ (96 ≤ (c.toNat : Int) ∧ (c.toNat : Int) ≤ 96) ∨ (97 ≤ (c.toNat : Int) ∧ (c.toNat : Int) ≤ 122) ∨ 123 ≤ (c.toNat : Int) := by omega
  rcases hr with h | h | h | h | h | h | h | h | h | h | h | h | h | h
  all_goals
    try obtain ⟨h1, h2⟩ := h
    first | (have q37 : ((c.toNat : Int) == 37) = true := by rw [beq_iff_eq]; omega) | (have q37 : ((c.toNat : Int) == 37) = false := by rw [beq_eq_false_iff_ne]; omega)
    first | (have q45 : ((c.toNat : Int) == 45) = true := by rw [beq_iff_eq]; omega) | (have q45 : ((c.toNat : Int) == 45) = false := by rw [beq_eq_false_iff_ne]; omega)
    first | (have q46 : ((c.toNat : Int) == 46) = true := by rw [beq_iff_eq]; omega) | (have q46 : ((c.toNat : Int) == 46) = false := by rw [beq_eq_false_iff_ne]; omega)
    first | (have q95 : ((c.toNat : Int) == 95) = true := by rw [beq_iff_eq]; omega) | (have q95 : ((c.toNat : Int) == 95) = false := by rw [beq_eq_false_iff_ne]; omega)
    go_enter Tryd.func30, Tryd.ntmps30
    go_wp2
    go_ret
    refine ⟨ret_int ?_, rfl⟩
    unfold sortN
    first
      | rw [(plainN_iff c.toNat).2 (by omega), if_pos rfl]; rfl
      | (rw [plainN_not c.toNat (by omega), if_neg (by simp)]
         first | (rw [if_pos (by omega)]; rfl) | (rw [if_neg (by omega)]; rfl))

def hexS : ByteArray := ⟨#[48, 49, 50, 51, 52, 53, 54, 55, 56, 57, 97, 98, 99, 100, 101, 102]⟩
theorem hexS_all : ∀ d : Fin 16, hexS[d.1]? = some (hexN d.1) := by decide +kernel
theorem hexS_at (X : Nat) (h : X < 16) (h' : X < hexS.size) : hexS[X]'h' = hexN X := by
  have := hexS_all ⟨X, h⟩
  rw [getElem?_pos hexS X h'] at this
  injection this
/-- A digit's number, -1 for what is none. -/
def digI (n : Nat) : Int := match digN n with
  | some d => (d : Int)
  | none => -1
theorem digI_some (n d : Nat) (h : digN n = some d) : digI n = (d : Int) := by unfold digI; rw [h]
theorem digI_none (n : Nat) (h : digN n = none) : digI n = -1 := by unfold digI; rw [h]
theorem dig_first (c : UInt8) (i : Nat) (hi : i < 16) (h : hexN i = c) : digI c.toNat = (i : Int) := by
  subst h; exact digI_some _ _ (dig_hex i hi)
theorem dig_none (c : UInt8) (h : ∀ j, j < 16 → hexN j ≠ c) : digI c.toNat = -1 := by
  refine digI_none _ ?_
  rcases hw : digN c.toNat with _ | d
  · rfl
  · exact absurd (hex_dig c d hw) (h d (dig_lt16 _ _ hw))

end Go.Proofs.YtghobbbmoeijbaaDoor
