/- Contract of the document's Letters. -/
import Derived.Test.YtghobbbmoeijbaaBaseB
namespace Go.Proofs.Ytghobbbmoeijbaa
open Go.RowKit

def alphS : ByteArray := ⟨#[97, 98, 99, 100, 101, 102, 103, 104, 105, 106, 107, 108, 109, 110, 111, 112, 113, 114, 115, 116, 117, 118, 119, 120, 121, 122, 50, 51, 52, 53, 54, 55]⟩
theorem alphS_all : ∀ d : Fin 32, alphS[d.1]? = some (letterN d.1) := by decide +kernel
theorem alphS_at (X : Nat) (h : X < 32) (h' : X < alphS.size) : alphS[X]'h' = letterN X := by
  have := alphS_all ⟨X, h⟩
  rw [getElem?_pos alphS X h'] at this
  injection this

set_option maxRecDepth 100000 in
set_option maxHeartbeats 1000000 in
theorem rletters_any (v : Value) (l : List UInt8) (w : World) (ha : By w v l) (hl : l.length ≤ 87960930222000) :
    Calls Try.prog 15 #[v] w fun e w' => ∃ s : ByteArray, e = .returned (.string s) ∧ s.data.toList = letters l ∧ Below w.heap.size w w' := by
  obtain ⟨A, c, rfl, hc, hm, hca⟩ := ha.form
  unfold maxLen at hm
  go_enter Try.func15, Try.ntmps15
  go_wp2
  go_loopw [3, 4, 5, 6, 7, 8] (fun u3 u4 _ _ _ _ wr => ∃ i : Nat, i ≤ lets l.length ∧ u4 = .int .i64 (i : Int) ∧ Own wr w.heap.size 5 u3 ((letters l).take i) ∧ Below w.heap.size w wr) (fun _ u4 _ _ _ _ _ => lets l.length - (intOf u4).toNat)
  case atStart => exact ⟨0, by omega, rfl, Own.nil _ _ _, Below.refl _ _⟩
  case round =>
    obtain ⟨i, hi, rfl, hown, hbel⟩ := hrel
    have HO := hide hown
    clear hown
    have hlets : lets l.length = (8 * l.length + 4) / 5 := rfl
    have HL := hide hlets
    clear hlets
    by_cases hlt : i < lets l.length
    · have hi5 : 5 * i < 8 * l.length := by have := HL.out; omega
      go_wp2
      go_loopw [5, 6, 7, 8] (fun u5 u6 _ _ wx => ∃ k X : Nat, k ≤ 5 ∧ u6 = .int .i64 (k : Int) ∧ u5 = .int .i64 (X : Int) ∧ X = big l / 2 ^ (5 * lets l.length - 5 * i - k) % 2 ^ k ∧ wx = wr) (fun _ u6 _ _ _ => 5 - (intOf u6).toNat)
      case atStart => exact ⟨0, 0, by omega, rfl, rfl, by simp [Nat.mod_one], rfl⟩
      case round =>
        obtain ⟨k, X, hk, rfl, rfl, hX, rfl⟩ := hrel
        have HX := hide hX
        have hX32 : X < 32 := by
          rw [hX]
          exact Nat.lt_of_lt_of_le (Nat.mod_lt _ (Nat.two_pow_pos _)) (by rw [show 32 = 2 ^ 5 from rfl]; exact Nat.pow_le_pow_right (by omega) hk)
        clear hX
        by_cases hk5 : k < 5
        · have hn5 : 5 * i + k < 5 * lets l.length := by omega
          have hbit := bit_big l (5 * i + k) hn5
          have hstep := bits_step (big l) (5 * lets l.length - 5 * i - k) k (by omega)
          rw [show 5 * lets l.length - 5 * i - k - 1 = 5 * lets l.length - 1 - (5 * i + k) by omega, ← hbit] at hstep
          have HS := hide hstep
          clear hbit hstep
          by_cases hn : 5 * i + k < 8 * l.length
          · obtain ⟨x, hx⟩ : ∃ x, l[(5 * i + k) / 8]? = some x := ⟨_, List.getElem?_eq_getElem (by omega)⟩
            obtain ⟨b, o, rfl, hbl, hcell⟩ := hca _ x hx
            have hcx : wr.cell? ⟨b, o + (5 * i + k) / 8, none⟩ = some (.int .u8 (x.toNat : Int)) := (hbel.cell (p := ⟨b, o + (5 * i + k) / 8, none⟩) hbl).trans hcell
            have HX2 := hide hx
            clear hx hcell hca
            have hx8 := x.toNat_lt
            obtain ⟨B, hB⟩ : ∃ B : Nat, B = bitAt l (5 * i + k) := ⟨_, rfl⟩
            have hB2 : B ≤ 1 := by rw [hB]; unfold bitAt; omega
            have hshift : ((x.toNat : Int) / 2 ^ (7 - (5 * i + k) % 8)).tmod 2 = (B : Int) := by
              rw [div_pow_cast, hB]
              unfold bitAt
              rw [List.getD_eq_getElem?_getD, HX2.out]
              rfl
            have HB := hide hB
            clear hB
            go_wp2
            go_roundw
            case rel =>
              refine ⟨k + 1, 2 * X + B, by omega, by go_num, by go_num, ?_, by trivial⟩
              have := HS.out
              rw [if_pos hn, ← HX.out, ← HB.out, show 5 * lets l.length - 1 - (5 * i + k) = 5 * lets l.length - 5 * i - (k + 1) by omega] at this
              exact this
            case measure => simp [intOf]; omega
          · go_wp2
            go_roundw
            case rel =>
              refine ⟨k + 1, 2 * X, by omega, by go_num, by go_num, ?_, by trivial⟩
              have := HS.out
              rw [if_neg hn, ← HX.out, show 5 * lets l.length - 1 - (5 * i + k) = 5 * lets l.length - 5 * i - (k + 1) by omega] at this
              simpa using this
            case measure => simp [intOf]; omega
        · have hk5' : k = 5 := by omega
          subst hk5'
          have hX' : X < alphS.size := by show X < 32; omega
          go_wp2_with (at_builtin; go_loud (refine wpList_pushB elem8 HO.out hbel hbel.size (by rw [List.length_take, letters_length]; have := HL.out; omega) (alphS[X]'hX') rfl _ _ rfl rfl rfl ?_); intro v1 w1 hown1 hbel1 hgr1 _)
          go_roundw
          case rel =>
            refine ⟨i + 1, by omega, by go_num, ?_, hbel1⟩
            rw [take_snoc _ i _ (letters_get l i hlt)]
            rw [alphS_at X hX32, HX.out] at hown1
            exact hown1
          case measure => simp [intOf]; have := HL.out; omega
    · have hil : i = lets l.length := by omega
      have hi5 : 8 * (l.length : Int) ≤ (i : Int) * 5 := by have := HL.out; omega
      have hi6 : (i : Int) ≤ 140737488355201 := by have := HL.out; omega
      have hO := HO.out
      rw [List.take_of_length_le (by rw [letters_length]; omega)] at hO
      obtain ⟨s, hs, hcv⟩ := run_str (P := Try.prog) hO.by_ 22 9 5 Try.underlying22 Try.underlying5 Try.underlying9
      have HS := hide hs
      have HI := hide hil
      clear hs hO hil
      go_wp2
      go_ret
      exact ⟨s, rfl, HS.out, hbel⟩
end Go.Proofs.Ytghobbbmoeijbaa
