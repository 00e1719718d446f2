/- MatrixMods: of every modulus, and every two numbers of its field: the program's Mod answers what the document does. -/
import Derived.Test.YtoaaplngdomdcaaMatE
namespace Go.Proofs.Ytoaaplngdomdcaa
open Go.RowKit

/-- A slice of pairs of words. -/
def Asks (w : World) (v : Value) (l : List (Nat × Nat)) : Prop := ∃ A c, v = .slice A l.length c ∧ l.length ≤ c ∧ c ≤ maxLen ∧
  ∀ k x, l[k]? = some x → (x.1 : Int) ≤ 4294967295 ∧ (x.2 : Int) ≤ 4294967295 ∧ ∃ b o, A = some ⟨b, o, none⟩ ∧ b < w.heap.size ∧ w.cell? ⟨b, o + k * 2, none⟩ = some (.int .u32 (x.1 : Int)) ∧ w.cell? ⟨b, o + k * 2 + 1, none⟩ = some (.int .u32 (x.2 : Int))

set_option maxRecDepth 100000 in
set_option maxHeartbeats 2000000 in
theorem law_mods (p : Nat) (va : Value) (l : List (Nat × Nat)) (w : World) (hp : (p : Int) ≤ 4294967295) (ha : Asks w va l) :
    Calls Try.prog 3 #[.int .u32 (p : Int), va] w fun e w' => e = .returned (.bool true) ∧ Below w.heap.size w w' := by
  obtain ⟨A, c, rfl, hlc, hcm, hcell⟩ := ha
  unfold maxLen at hcm
  have h1 := rprime_any p
  cases hpr : primeR p
  · have h2 := newmod_no p w hp hpr
    have h3 := h1 w hp
    rw [hpr] at h3
    clear h1 hpr
    go_enter Try.func3, Try.ntmps3
    go_wp2_with fail
    refine h2.mono ?_
    rintro e w' ⟨rfl, rfl⟩
    go_wp2_with fail
    refine h3.mono ?_
    rintro e w' ⟨rfl, rfl⟩
    go_wp2
    go_ret
    exact ⟨rfl, Below.refl _ _⟩
  · have h2 := newmod_yes p w hpr
    have h3 := fun w => h1 w hp
    have hpl : 1 < p ∧ p ≤ 2147483648 := by
      unfold primeR at hpr
      simp at hpr
      exact ⟨(primeB_iff.1 hpr.1).1, hpr.2⟩
    obtain ⟨hp1, hp2⟩ := hpl
    rw [hpr] at h3
    clear h1 hpr
    go_enter Try.func3, Try.ntmps3
    go_wp2_with fail
    refine h2.mono ?_
    rintro e w1 ⟨g, rfl, hm, b1⟩
    have HM := hide hm
    have m1 := mone_any _ p w1 hm hp1 hp2
    have m0 := mzero_any (.pointer (some ⟨g, 0, none⟩)) w1
    clear h2 hm
    go_wp2_with fail
    refine (h3 _).mono ?_
    rintro e w' ⟨rfl, rfl⟩
    go_wp2_with fail
    refine m0.mono ?_
    rintro e w' ⟨rfl, rfl⟩
    go_wp2_with fail
    refine m1.mono ?_
    rintro e w' ⟨rfl, rfl⟩
    go_wp2
    go_loopw [7, 8, 9, 10, 11, 12, 13] (fun u7 _ _ _ _ _ _ wr => ∃ k : Nat, k ≤ l.length ∧ u7 = .int .i64 (k : Int) ∧ MP wr (.pointer (some ⟨g, 0, none⟩)) p ∧ Below w.heap.size w wr) (fun u7 _ _ _ _ _ _ _ => l.length - (intOf u7).toNat)
    case atStart => exact ⟨0, by omega, rfl, HM.out, b1⟩
    case round =>
      clear HM b1
      obtain ⟨k, hk, rfl, hm, hbel⟩ := hrel
      have HM := hide hm
      clear hm
      by_cases hlt : k < l.length
      · obtain ⟨⟨x, y⟩, hx⟩ : ∃ x, l[k]? = some x := ⟨_, List.getElem?_eq_getElem hlt⟩
        obtain ⟨hx8, hy8, b, o, rfl, hbl, hc1, hc2⟩ := hcell k _ hx
        have hcx : wr.cell? ⟨b, o + k * 2, none⟩ = some (.int .u32 (x : Int)) := (hbel.cell (p := ⟨b, o + k * 2, none⟩) hbl).trans hc1
        have hcy : wr.cell? ⟨b, o + k * 2 + 1, none⟩ = some (.int .u32 (y : Int)) := (hbel.cell (p := ⟨b, o + k * 2 + 1, none⟩) hbl).trans hc2
        clear hx hcell hc1 hc2
        simp only at hx8 hy8
        have i1 : (k : Int) < (l.length : Int) := by omega
        have i3 : (0 : Int) ≤ (k : Int) := by omega
        have q1 := fun w hm => minverse_any (.pointer (some ⟨g, 0, none⟩)) p x w hm hp1 hp2 hx8
        have q2 := fun w => rinverse_any p x w hp1 hp2 hx8
        have q3 := fun w hm => madd_any (.pointer (some ⟨g, 0, none⟩)) p x y w hm (by omega) hp2 hx8 hy8
        have q4 := fun w => radd_any p x y w (by omega) hp2 hx8 hy8
        have q5 := fun w hm => msub_any (.pointer (some ⟨g, 0, none⟩)) p x y w hm (by omega) hp2 hx8 hy8
        have q6 := fun w => rsub_any p x y w (by omega) hp2 hx8 hy8
        have q7 := fun w hm => mmul_any (.pointer (some ⟨g, 0, none⟩)) p x y w hm (by omega) hp2 hx8 hy8
        have q8 := fun w => rmul_any p x y w (by omega) hp2 hx8 hy8
        rw [fmul_mod] at q7
        change ∀ w hm, Calls _ _ _ _ (fun e w' => e = .returned (.int .u32 ((fadd p x y : Nat) : Int)) ∧ _) at q3
        change ∀ w hm, Calls _ _ _ _ (fun e w' => e = .returned (.int .u32 ((fsub p x y : Nat) : Int)) ∧ _) at q5
        obtain ⟨X, hX⟩ : ∃ X, X = fadd p x y := ⟨_, rfl⟩
        obtain ⟨Y, hY⟩ : ∃ Y, Y = fsub p x y := ⟨_, rfl⟩
        obtain ⟨Z, hZ⟩ : ∃ Z, Z = fmul p x y := ⟨_, rfl⟩
        rw [← hX] at q3 q4
        rw [← hY] at q5 q6
        rw [← hZ] at q7 q8
        clear hX hY hZ
        obtain ⟨I, t, hI⟩ : ∃ (I : Nat) (t : Bool), (if x % p = 0 then #[Value.int .u32 0, .bool false] else #[.int .u32 ((finv p x : Nat) : Int), .bool true]) = #[.int .u32 (I : Int), .bool t] := by
          split
          · exact ⟨0, false, rfl⟩
          · exact ⟨_, true, rfl⟩
        rw [hI] at q1 q2
        clear hI
        go_wp2_with fail
        refine (q1 _ HM.out).mono ?_
        rintro e w' ⟨rfl, rfl⟩
        go_wp2_with fail
        refine (q2 _).mono ?_
        rintro e w' ⟨rfl, n2, rfl⟩
        go_wp2_with fail
        refine (q3 _ (HM.out.drewN _)).mono ?_
        rintro e w' ⟨rfl, rfl⟩
        go_wp2_with fail
        refine (q4 _).mono ?_
        rintro e w' ⟨rfl, n4, rfl⟩
        go_wp2_with fail
        refine (q5 _ (HM.out.drewN _)).mono ?_
        rintro e w' ⟨rfl, n5, rfl⟩
        go_wp2_with fail
        refine (q6 _).mono ?_
        rintro e w' ⟨rfl, n6, rfl⟩
        go_wp2_with fail
        refine (q7 _ (HM.out.drewN _)).mono ?_
        rintro e w' ⟨rfl, rfl⟩
        go_wp2_with fail
        refine (q8 _).mono ?_
        rintro e w' ⟨rfl, n8, rfl⟩
        go_wp2
        go_roundw
        case rel => exact ⟨k + 1, by omega, by go_num, HM.out.drewN _, below_drewN hbel _⟩
        case measure => simp [intOf]; omega
      · go_wp2
        go_ret
        exact ⟨rfl, hbel⟩
end Go.Proofs.Ytoaaplngdomdcaa
