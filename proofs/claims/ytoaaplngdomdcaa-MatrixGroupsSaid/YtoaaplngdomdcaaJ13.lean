/- Joined texts: Open, OpnI, WalkGroups, WalkMods, OpenP. -/
import Derived.Test.YtoaaplngdomdcaaJ1
import Derived.ProofKit
import Derived.OpenShut
import Derived.ShutString
import Derived.ChangeOld
import Derived.SizedLaws
import Derived.JoinedCond
import Derived.Deep.CondSized
import Derived.Test.YtoaaplngdomdcaaJ6
import Derived.Test.YtoaaplngdomdcaaJ11
import Derived.Test.YtoaaplngdomdcaaJ12
import Derived.Test.YtoaaplngdomdcaaJ7
import Derived.Deep.SlicePairs

/- From the reading of an argument to what the walks are told of it. -/
namespace Go.Proofs.Ytoaaplngdomdcaa
open Go.RowKit

theorem cell_lt {w : World} {a : Addr} {v : Value} (h : w.cell? a = some v) : a.block < w.heap.size := by
  rcases Nat.lt_or_ge a.block w.heap.size with h1 | h1
  · exact h1
  · simp [World.cell?, Array.getElem?_eq_none h1] at h

/-- A slice of bytes that came in. -/
theorem by_of_row {w : World} {a : Addr} {len cap : Nat} {zs : List Int} (hl : len ≤ cap) (hm : cap ≤ maxLen) (hz : zs.length = cap)
    (hcell : ∀ i, i < zs.length → w.cell? (a.add i) = some (.int .u8 (zs.getD i 0))) (hwz : ∀ n ∈ zs, (Lit.int .u8 n).wf = true) :
    ∃ l : List UInt8, l.length = len ∧ By w (.slice (some a) len cap) l := by
  refine ⟨(zs.take len).map fun z => UInt8.ofNat z.toNat, by simp; omega, ?_, some a, cap, by simp; omega, by simp; omega, hm, fun h0 => ?_⟩
  · simp
  · obtain ⟨b, o, sp⟩ := a
    simp only [List.length_map, List.length_take] at h0
    have h1 := hcell 0 (by omega)
    have hsp : sp = none := by simpa [Addr.add] using World.cell?_spot h1
    subst hsp
    refine ⟨b, o, rfl, cell_lt (a := ⟨b, o, none⟩) (by simpa [Addr.add] using h1), fun j hj => ?_⟩
    simp only [List.length_map, List.length_take, Nat.mul_one] at hj
    have hc := hcell j (by omega)
    rw [Addr.add_mid] at hc
    rw [hc, bcells_get, List.getElem?_map, List.getElem?_take_of_lt (by omega), List.getElem?_eq_getElem (by omega)]
    have hw := hwz zs[j] (List.getElem_mem (by omega))
    have hb : 0 ≤ zs[j] ∧ zs[j] ≤ 255 := by simpa [Lit.wf, IntKind.min, IntKind.max, IntKind.bits, IntKind.signed] using hw
    simp only [Option.map_some, Option.some.injEq, Value.int.injEq, true_and]
    rw [List.getD_eq_getElem?_getD, List.getElem?_eq_getElem (by omega), Option.getD_some, UInt8.toNat_ofNat']
    omega

end Go.Proofs.Ytoaaplngdomdcaa

/- Slices of numbers that came in. -/
namespace Go.Proofs.Ytoaaplngdomdcaa
open Go.RowKit

/-- A slice of numbers of kind k that reads as zs. -/
def Iy (k : IntKind) (w : World) (v : Value) (zs : List Int) : Prop := ∃ A c, v = .slice A zs.length c ∧ zs.length ≤ c ∧ c ≤ maxLen ∧ (∀ z ∈ zs, (Lit.int k z).wf = true) ∧
  ∀ (i : Nat) (z : Int), zs[i]? = some z → ∃ b o, A = some ⟨b, o, none⟩ ∧ b < w.heap.size ∧ w.cell? ⟨b, o + i, none⟩ = some (.int k z)
theorem Iy.nil (k : IntKind) (w : World) : Iy k w (.slice none 0 0) [] := ⟨none, 0, rfl, Nat.le_refl _, (by simp [maxLen]), (fun z h => nomatch h), (fun i z h => by simp at h)⟩
theorem Iy.below {k : IntKind} {w w' : World} {v : Value} {zs : List Int} (h : Iy k w v zs) (hb : Below w.heap.size w w') : Iy k w' v zs := by
  obtain ⟨A, c, hv, h1, h2, h3, h4⟩ := h
  refine ⟨A, c, hv, h1, h2, h3, fun i z hz => ?_⟩
  obtain ⟨b, o, e1, e2, e3⟩ := h4 i z hz
  have := hb.size
  exact ⟨b, o, e1, by omega, (hb.cell (p := ⟨b, o + i, none⟩) e2).trans e3⟩
theorem iy_of_row {k : IntKind} {w : World} {a : Addr} {len cap : Nat} {zs : List Int} (hl : len ≤ cap) (hm : cap ≤ maxLen) (hz : zs.length = cap)
    (hcell : ∀ i, i < zs.length → w.cell? (a.add i) = some (.int k (zs.getD i 0))) (hwz : ∀ n ∈ zs, (Lit.int k n).wf = true) : ∃ l : List Int, l.length = len ∧ Iy k w (.slice (some a) len cap) l := by
  have hlen : (zs.take len).length = len := by simp; omega
  refine ⟨zs.take len, hlen, some a, cap, by rw [hlen], by omega, hm, fun z hz => hwz z (List.mem_of_mem_take hz), fun i z hi => ?_⟩
  have hil : i < len := by
    have := (List.getElem?_eq_some_iff.1 hi).1
    omega
  obtain ⟨b, o, sp⟩ := a
  have h1 := hcell 0 (by omega)
  have hsp : sp = none := by simpa [Addr.add] using World.cell?_spot h1
  subst hsp
  refine ⟨b, o, rfl, cell_lt (a := ⟨b, o, none⟩) (by simpa [Addr.add] using h1), ?_⟩
  have hc := hcell i (by omega)
  rw [Addr.add_mid] at hc
  rw [List.getElem?_take_of_lt hil] at hi
  rw [hc, List.getD_eq_getElem?_getD, hi]
  rfl
/-- Words that came in, as numbers. -/
theorem Iy.words {w : World} {v : Value} {zs : List Int} (h : Iy .u32 w v zs) : ∃ l : List Nat, l.length = zs.length ∧ (∀ (i x : Nat), l[i]? = some x → (x : Int) ≤ 4294967295) ∧ Ny w .u32 v l := by
  obtain ⟨A, c, rfl, h1, h2, h3, h4⟩ := h
  have hb : ∀ (i : Nat) (z : Int), zs[i]? = some z → 0 ≤ z ∧ z ≤ 4294967295 := fun i z hz => by
    have := h3 z (List.mem_of_getElem? hz)
    simpa [Lit.wf, IntKind.min, IntKind.max, IntKind.bits, IntKind.signed] using this
  refine ⟨zs.map Int.toNat, by simp, fun i x hx => ?_, by simp [ncells], A, c, by simp, by simpa using h1, h2, fun h0 => ?_⟩
  · rw [List.getElem?_map] at hx
    obtain ⟨z, hz, e⟩ := Option.map_eq_some_iff.1 hx
    have := hb i z hz
    omega
  · simp only [List.length_map] at h0 ⊢
    obtain ⟨b, o, e1, e2, _⟩ := h4 0 _ (List.getElem?_eq_getElem h0)
    refine ⟨b, o, e1, e2, fun j hj => ?_⟩
    rw [Nat.mul_one] at hj
    obtain ⟨b', o', e1', _, e3⟩ := h4 j _ (List.getElem?_eq_getElem hj)
    rw [e1] at e1'
    injection e1' with e1'
    injection e1' with q1 q2 _
    have := hb j _ (List.getElem?_eq_getElem hj)
    rw [q1, q2, e3, ncells_get, List.getElem?_map, List.getElem?_eq_getElem hj]
    simp only [Option.map_some, Option.some.injEq, Value.int.injEq, true_and]
    omega
end Go.Proofs.Ytoaaplngdomdcaa

/- MatrixGroups: the statement's function returns true, whatever it is handed. -/
namespace Go.Proofs.Ytoaaplngdomdcaa
open Go.RowKit

set_option maxRecDepth 100000 in
set_option maxHeartbeats 2000000 in
theorem groups_none (p : Nat) (n0 : Int) (v1 v2 v3 : Value) (w : World) (hp : (p : Int) ≤ 4294967295) (h0 : 1 ≤ p) (hpr : primeR p = false) :
    Calls Try.prog 7 #[.int .u32 (p : Int), .int .i64 n0, v1, v2, v3] w fun e w' => e = .returned (.bool true) ∧ Below w.heap.size w w' := by
  have q2 := fun w => field_no p w hp h0 hpr
  clear hpr
  go_enter Try.func7, Try.ntmps7
  go_wp2_with fail
  refine (awakem_any w).mono ?_
  rintro e w1 ⟨rfl, b⟩
  have B := hide b
  clear b
  go_wp2_with fail
  refine (q2 w1).mono ?_
  rintro e w' ⟨rfl, rfl⟩
  clear q2
  go_wp2
  go_ret
  exact ⟨rfl, B.out⟩
theorem law_groups (p : Nat) (n0 : Int) (v1 : Value) (z1 : List Int) (v2 : Value) (z2 : List Int) (v3 : Value) (z3 : List Int) (w : World) (hp : (p : Int) ≤ 4294967295) (hn0 : (Lit.int .i64 n0).wf = true)
    (h1 : Iy .u32 w v1 z1) (h2 : Iy .u32 w v2 z2) (h3 : Iy .u32 w v3 z3) :
    Calls Try.prog 7 #[.int .u32 (p : Int), .int .i64 n0, v1, v2, v3] w fun e w' => e = .returned (.bool true) ∧ Below w.heap.size w w' := by
  obtain ⟨l1, _, d1, n1⟩ := h1.words
  obtain ⟨l2, _, d2, n2⟩ := h2.words
  obtain ⟨l3, _, d3, n3⟩ := h3.words
  rcases Nat.eq_zero_or_pos p with h0 | h0
  · subst h0
    exact MB.groups_c n0 v1 v2 v3 l1 l2 l3 w hn0 n1 n2 n3 d1 d2 d3
  · cases hpr : primeR p
    · exact groups_none p n0 v1 v2 v3 w hp h0 hpr
    · exact MV.groups_c p hpr n0 v1 v2 v3 l1 l2 l3 w hn0 n1 n2 n3 d1 d2 d3
end Go.Proofs.Ytoaaplngdomdcaa

/- MatrixMods: of every modulus, and every two numbers of its field: the program's Mod answers what the document does. -/
namespace Go.Proofs.Ytoaaplngdomdcaa
open Go.RowKit

/-- A slice of pairs of words. -/
def Asks (w : World) (v : Value) (l : List (Nat × Nat)) : Prop := ∃ A c, v = .slice A l.length c ∧ l.length ≤ c ∧ c ≤ maxLen ∧
  ∀ k x, l[k]? = some x → (x.1 : Int) ≤ 4294967295 ∧ (x.2 : Int) ≤ 4294967295 ∧ ∃ b o, A = some ⟨b, o, none⟩ ∧ b < w.heap.size ∧ w.cell? ⟨b, o + k * 2, none⟩ = some (.int .u32 (x.1 : Int)) ∧ w.cell? ⟨b, o + k * 2 + 1, none⟩ = some (.int .u32 (x.2 : Int))

set_option maxRecDepth 100000 in
set_option maxHeartbeats 2000000 in
theorem law_mods (p : Nat) (va : Value) (l : List (Nat × Nat)) (w : World) (hp : (p : Int) ≤ 4294967295) (ha : Asks w va l) :
    Calls Try.prog 3 #[.int .u32 (p : Int), va] w fun e w' => e = .returned (.bool true) ∧ Below w.heap.size w w' := by
  obtain ⟨A, c, rfl, hlc, hcm, hcell⟩ := ha
  unfold maxLen at hcm
  have h1 := rprime_any p
  cases hpr : primeR p
  · have h2 := newmod_no p w hp hpr
    have h3 := h1 w hp
    rw [hpr] at h3
    clear h1 hpr
    go_enter Try.func3, Try.ntmps3
    go_wp2_with fail
    refine h2.mono ?_
    rintro e w' ⟨rfl, rfl⟩
    go_wp2_with fail
    refine h3.mono ?_
    rintro e w' ⟨rfl, rfl⟩
    go_wp2
    go_ret
    exact ⟨rfl, Below.refl _ _⟩
  · have h2 := newmod_yes p w hpr
    have h3 := fun w => h1 w hp
    have hpl : 1 < p ∧ p ≤ 2147483648 := by
      unfold primeR at hpr
      simp at hpr
      exact ⟨(primeB_iff.1 hpr.1).1, hpr.2⟩
    obtain ⟨hp1, hp2⟩ := hpl
    rw [hpr] at h3
    clear h1 hpr
    go_enter Try.func3, Try.ntmps3
    go_wp2_with fail
    refine h2.mono ?_
    rintro e w1 ⟨g, rfl, hm, b1⟩
    have HM := hide hm
    have m1 := mone_any _ p w1 hm hp1 hp2
    have m0 := mzero_any (.pointer (some ⟨g, 0, none⟩)) w1
    clear h2 hm
    go_wp2_with fail
    refine (h3 _).mono ?_
    rintro e w' ⟨rfl, rfl⟩
    go_wp2_with fail
    refine m0.mono ?_
    rintro e w' ⟨rfl, rfl⟩
    go_wp2_with fail
    refine m1.mono ?_
    rintro e w' ⟨rfl, rfl⟩
    go_wp2
    go_loopw [7, 8, 9, 10, 11, 12, 13] (fun u7 _ _ _ _ _ _ wr => ∃ k : Nat, k ≤ l.length ∧ u7 = .int .i64 (k : Int) ∧ MP wr (.pointer (some ⟨g, 0, none⟩)) p ∧ Below w.heap.size w wr) (fun u7 _ _ _ _ _ _ _ => l.length - (intOf u7).toNat)
    case atStart => exact ⟨0, by omega, rfl, HM.out, b1⟩
    case round =>
      clear HM b1
      obtain ⟨k, hk, rfl, hm, hbel⟩ := hrel
      have HM := hide hm
      clear hm
      by_cases hlt : k < l.length
      · obtain ⟨⟨x, y⟩, hx⟩ : ∃ x, l[k]? = some x := ⟨_, List.getElem?_eq_getElem hlt⟩
        obtain ⟨hx8, hy8, b, o, rfl, hbl, hc1, hc2⟩ := hcell k _ hx
        have hcx : wr.cell? ⟨b, o + k * 2, none⟩ = some (.int .u32 (x : Int)) := (hbel.cell (p := ⟨b, o + k * 2, none⟩) hbl).trans hc1
        have hcy : wr.cell? ⟨b, o + k * 2 + 1, none⟩ = some (.int .u32 (y : Int)) := (hbel.cell (p := ⟨b, o + k * 2 + 1, none⟩) hbl).trans hc2
        clear hx hcell hc1 hc2
        simp only at hx8 hy8
        have i1 : (k : Int) < (l.length : Int) := by omega
        have i3 : (0 : Int) ≤ (k : Int) := by omega
        have q1 := fun w hm => minverse_any (.pointer (some ⟨g, 0, none⟩)) p x w hm hp1 hp2 hx8
        have q2 := fun w => rinverse_any p x w hp1 hp2 hx8
        have q3 := fun w hm => madd_any (.pointer (some ⟨g, 0, none⟩)) p x y w hm (by omega) hp2 hx8 hy8
        have q4 := fun w => radd_any p x y w (by omega) hp2 hx8 hy8
        have q5 := fun w hm => msub_any (.pointer (some ⟨g, 0, none⟩)) p x y w hm (by omega) hp2 hx8 hy8
        have q6 := fun w => rsub_any p x y w (by omega) hp2 hx8 hy8
        have q7 := fun w hm => mmul_any (.pointer (some ⟨g, 0, none⟩)) p x y w hm (by omega) hp2 hx8 hy8
        have q8 := fun w => rmul_any p x y w (by omega) hp2 hx8 hy8
        rw [fmul_mod] at q7
        change ∀ w hm, Calls _ _ _ _ (fun e w' => e = .returned (.int .u32 ((fadd p x y : Nat) : Int)) ∧ _) at q3
        change ∀ w hm, Calls _ _ _ _ (fun e w' => e = .returned (.int .u32 ((fsub p x y : Nat) : Int)) ∧ _) at q5
        obtain ⟨X, hX⟩ : ∃ X, X = fadd p x y := ⟨_, rfl⟩
        obtain ⟨Y, hY⟩ : ∃ Y, Y = fsub p x y := ⟨_, rfl⟩
        obtain ⟨Z, hZ⟩ : ∃ Z, Z = fmul p x y := ⟨_, rfl⟩
        rw [← hX] at q3 q4
        rw [← hY] at q5 q6
        rw [← hZ] at q7 q8
        clear hX hY hZ
        obtain ⟨I, t, hI⟩ : ∃ (I : Nat) (t : Bool), (if x % p = 0 then #[Value.int .u32 0, .bool false] else #[.int .u32 ((finv p x : Nat) : Int), .bool true]) = #[.int .u32 (I : Int), .bool t] := by
          split
          · exact ⟨0, false, rfl⟩
          · exact ⟨_, true, rfl⟩
        rw [hI] at q1 q2
        clear hI
        go_wp2_with fail
        refine (q1 _ HM.out).mono ?_
        rintro e w' ⟨rfl, rfl⟩
        go_wp2_with fail
        refine (q2 _).mono ?_
        rintro e w' ⟨rfl, n2, rfl⟩
        go_wp2_with fail
        refine (q3 _ (HM.out.drewN _)).mono ?_
        rintro e w' ⟨rfl, rfl⟩
        go_wp2_with fail
        refine (q4 _).mono ?_
        rintro e w' ⟨rfl, n4, rfl⟩
        go_wp2_with fail
        refine (q5 _ (HM.out.drewN _)).mono ?_
        rintro e w' ⟨rfl, n5, rfl⟩
        go_wp2_with fail
        refine (q6 _).mono ?_
        rintro e w' ⟨rfl, n6, rfl⟩
        go_wp2_with fail
        refine (q7 _ (HM.out.drewN _)).mono ?_
        rintro e w' ⟨rfl, rfl⟩
        go_wp2_with fail
        refine (q8 _).mono ?_
        rintro e w' ⟨rfl, n8, rfl⟩
        go_wp2
        go_roundw
        case rel => exact ⟨k + 1, by omega, by go_num, HM.out.drewN _, below_drewN hbel _⟩
        case measure => simp [intOf]; omega
      · go_wp2
        go_ret
        exact ⟨rfl, hbel⟩
end Go.Proofs.Ytoaaplngdomdcaa

/- A slice of pairs of words that came in, as the walks are told of it. -/
namespace Go.Proofs.Ytoaaplngdomdcaa
open Go.RowKit

theorem u32_nat {z : Int} (h : (Lit.int .u32 z).wf = true) : ∃ n : Nat, z = (n : Int) ∧ (n : Int) ≤ 4294967295 := by
  have h : 0 ≤ z ∧ z ≤ 4294967295 := by simpa [Lit.wf, IntKind.min, IntKind.max, IntKind.bits, IntKind.signed] using h
  exact ⟨z.toNat, by omega, by omega⟩

theorem asks_of {w : World} {a : Addr} {len cap m : Nat} {V0 V1 : Nat → Value} (hl : len ≤ cap) (hm : cap ≤ maxLen) (hlm : len ≤ m)
    (hx : ∀ i, i < m → w.cell? (a.add (i * 2)) = some (V0 i) ∧ w.cell? (a.add (i * 2 + 1)) = some (V1 i) ∧
      (∃ x : Nat, V0 i = .int .u32 (x : Int) ∧ (x : Int) ≤ 4294967295) ∧ ∃ y : Nat, V1 i = .int .u32 (y : Int) ∧ (y : Int) ≤ 4294967295) :
    ∃ l : List (Nat × Nat), l.length = len ∧ Asks w (.slice (some a) len cap) l := by
  refine ⟨(List.range len).map fun i => ((intOf (V0 i)).toNat, (intOf (V1 i)).toNat), by simp, some a, cap, by simp, by simpa using hl, hm, fun k x hk => ?_⟩
  have hk2 : k < len := by
    rcases Nat.lt_or_ge k len with h | h
    · exact h
    · rw [List.getElem?_eq_none (by simpa using h)] at hk; cases hk
  rw [List.getElem?_map, List.getElem?_range hk2] at hk
  simp only [Option.map_some, Option.some.injEq] at hk
  subst hk
  obtain ⟨h0, h1, ⟨x, hx0, hx8⟩, y, hy0, hy8⟩ := hx k (by omega)
  obtain ⟨b, o, sp⟩ := a
  have hsp : sp = none := by simpa [Addr.add] using World.cell?_spot (hx 0 (by omega)).1
  subst hsp
  rw [Addr.add_mid] at h0 h1
  rw [hx0, hy0]
  rw [hx0] at h0
  rw [hy0] at h1
  refine ⟨by simpa [intOf] using hx8, by simpa [intOf] using hy8, b, o, rfl, cell_lt h0, ?_, ?_⟩
  · simpa [intOf] using h0
  · simpa [intOf, Nat.add_assoc] using h1

end Go.Proofs.Ytoaaplngdomdcaa
