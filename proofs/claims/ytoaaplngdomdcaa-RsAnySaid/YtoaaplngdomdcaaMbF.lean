/- The field of 256 elements as matrices of bytes call it: its methods' contracts. -/
import Derived.Test.YtoaaplngdomdcaaMatH
import Derived.Test.YtoaaplngdomdcaaGrd
import Derived.Test.YtoaaplngdomdcaaFpA
namespace Go.Proofs.Ytoaaplngdomdcaa.MB
open Go.RowKit

/-- Nothing is asked of the memory. -/
def Fk (_ : World) : Prop := True
theorem Fk.below {w w' : World} (_ : Fk w) (_ : Below w.heap.size w w') : Fk w' := trivial
theorem Fk.keep {w w' : World} {base : Nat} (_ : Fk w) (_ : True) (_ : Below base w w') : Fk w' := trivial
def en (x : UInt8) : Value := .int .u8 ((UInt8.toNat x : Nat) : Int)
theorem en_inj {x y : UInt8} : ((UInt8.toNat x : Nat) : Int) = ((UInt8.toNat y : Nat) : Int) ↔ x = y := u8_int

theorem fzero_c (w : World) (_ : Fk w) : Calls Try.prog 186 #[.agg #[]] w fun e w' => e = .returned (.int .u8 ((UInt8.toNat F8.zero : Nat) : Int)) ∧ w' = w.alloc (.cells #[] 128) := gzero_any w
theorem fone_c (w : World) (_ : Fk w) : Calls Try.prog 184 #[.agg #[]] w fun e w' => e = .returned (.int .u8 ((UInt8.toNat F8.one : Nat) : Int)) ∧ w' = w.alloc (.cells #[] 128) := by
  have h : ((UInt8.toNat F8.one : Nat) : Int) = 1 := rfl
  rw [h]
  go_enter Try.func184, Try.ntmps184
  go_wp2
  go_ret
  exact ⟨rfl, rfl⟩
theorem fadd_c (x y : UInt8) (w : World) (_ : Fk w) : Calls Try.prog 181 #[.agg #[], .int .u8 ((UInt8.toNat x : Nat) : Int), .int .u8 ((UInt8.toNat y : Nat) : Int)] w fun e w' => e = .returned (.int .u8 ((UInt8.toNat (F8.add x y) : Nat) : Int)) ∧ w' = w.alloc (.cells #[] 128) := gadd_any x y w
theorem fsub_c (x y : UInt8) (w : World) (_ : Fk w) : Calls Try.prog 185 #[.agg #[], .int .u8 ((UInt8.toNat x : Nat) : Int), .int .u8 ((UInt8.toNat y : Nat) : Int)] w fun e w' => e = .returned (.int .u8 ((UInt8.toNat (F8.sub x y) : Nat) : Int)) ∧ w' = w.alloc (.cells #[] 128) := by
  have h := u8_xor_nat x.toNat y.toNat x.toNat_lt y.toNat_lt
  have h2 : ((UInt8.toNat (F8.sub x y) : Nat) : Int) = ((x.toNat ^^^ y.toNat : Nat) : Int) := by show (((x ^^^ y).toNat : Nat) : Int) = _; rw [UInt8.toNat_xor]
  rw [h2]
  go_enter Try.func185, Try.ntmps185
  go_wp2
  go_ret
  exact ⟨rfl, rfl⟩
theorem fmul_c (x y : UInt8) (w : World) (_ : Fk w) : Calls Try.prog 183 #[.agg #[], .int .u8 ((UInt8.toNat x : Nat) : Int), .int .u8 ((UInt8.toNat y : Nat) : Int)] w fun e w' => e = .returned (.int .u8 ((UInt8.toNat (F8.mul x y) : Nat) : Int)) ∧ w' = w.alloc (.cells #[] 128) := by
  have q := fun w => gmul_any x y w
  have h2 : ((UInt8.toNat (F8.mul x y) : Nat) : Int) = ((UInt8.toNat (bmul x y) : Nat) : Int) := rfl
  rw [h2]
  generalize bmul x y = z at *
  go_enter Try.func183, Try.ntmps183
  go_wp2_with fail
  refine (q _).mono ?_
  rintro e w' ⟨rfl, rfl⟩
  go_wp2
  go_ret
  exact ⟨rfl, rfl⟩
theorem finv_raw (x : UInt8) (w : World) : Calls Try.prog 182 #[.agg #[], .int .u8 ((UInt8.toNat x : Nat) : Int)] w fun e w' => e = .returned (.tuple #[.int .u8 ((UInt8.toNat (binv x) : Nat) : Int), .bool (decide (x ≠ 0))]) ∧ w' = w.alloc (.cells #[] 128) := by
  have q := fun w => ginv_any x w
  generalize binv x = z at *
  by_cases h0 : x = 0
  · rw [decide_eq_false (fun h => h h0)]
    have HX := hide h0
    clear h0
    go_enter Try.func182, Try.ntmps182
    go_wp2_with fail
    refine (q _).mono ?_
    rintro e w' ⟨⟨n, rfl, hn⟩, rfl⟩
    have hn0 : (n == 0) = false := by
      simp only [beq_eq_false_iff_ne]
      exact fun h => (hn.1 h) HX.out
    clear hn
    go_wp2
    go_ret2
    exact ⟨rfl, rfl⟩
  · rw [decide_eq_true h0]
    have HX := hide h0
    clear h0
    go_enter Try.func182, Try.ntmps182
    go_wp2_with fail
    refine (q _).mono ?_
    rintro e w' ⟨⟨n, rfl, hn⟩, rfl⟩
    have hn0 : n = 0 := hn.2 HX.out
    subst hn0
    clear hn
    go_wp2
    go_ret2
    exact ⟨rfl, rfl⟩
theorem finv_some {x y : UInt8} (h : F8.inv x = some y) (w : World) (_ : Fk w) : Calls Try.prog 182 #[.agg #[], .int .u8 ((UInt8.toNat x : Nat) : Int)] w fun e w' => e = .returned (.tuple #[.int .u8 ((UInt8.toNat y : Nat) : Int), .bool true]) ∧ w' = w.alloc (.cells #[] 128) := by
  have h : (if x = 0 then none else some (binv x)) = some y := h
  split at h
  · cases h
  · rename_i h0
    injection h with h
    subst h
    refine (finv_raw x w).mono ?_
    rintro e w' ⟨rfl, rfl⟩
    rw [decide_eq_true h0]
    exact ⟨rfl, rfl⟩
theorem finv_none {x : UInt8} (h : F8.inv x = none) (w : World) (_ : Fk w) : Calls Try.prog 182 #[.agg #[], .int .u8 ((UInt8.toNat x : Nat) : Int)] w fun e w' => e = .returned (.tuple #[.int .u8 0, .bool false]) ∧ w' = w.alloc (.cells #[] 128) := by
  have h0 : x = 0 := (F8_ok.inv_none x).1 h
  subst h0
  refine (finv_raw 0 w).mono ?_
  rintro e w' ⟨rfl, rfl⟩
  rw [binv_zero]
  exact ⟨rfl, rfl⟩
theorem mt_of {w : World} {base g rows cols : Nat} {E : Nat → Nat → UInt8} (h : Mx w base g (rowsOf cols E rows)) : Mt 179 gfF en w g rows cols E := by
  obtain ⟨_, v, hb, ho⟩ := h
  obtain ⟨A, c, rfl, hc, hm, hcell⟩ := ho.ls.form
  rw [rowsOf_length] at hc hb
  refine ⟨_, hb, A, c, rfl, hc, hm, fun i hi => ?_⟩
  obtain ⟨b, o, x, hA, hlt, hcx, hby⟩ := hcell i _ (rowsOf_get cols E hi)
  obtain ⟨B, d, rfl, hd, hdm, h2⟩ := hby.form
  rw [List.length_map, List.length_range] at hd hcx
  exact ⟨b, o, B, d, hA, hlt, hcx, hd, hdm, fun j hj => h2 j _ (by rw [List.getElem?_map, List.getElem?_range hj]; rfl)⟩
/-- What lays a matrix out of a function of places. -/
theorem laid_c (rows cols : Nat) (K : FuncId) (cap : Array Value) (M : Nat → Nat → UInt8) (w : World) (hr : rows ≤ 256) (hc : cols ≤ 256)
    (hent : ∀ (args : Array Value) (w : World), (callFunc K args).run Try.prog w = .ok (.enter K args) w)
    (hcl : ∀ (i j : Nat) (w' : World), i < rows → j < cols → Below w.heap.size w w' → Calls Try.prog K (#[.int .i64 (i : Int), .int .i64 (j : Int)] ++ cap) w' fun e w'' => e = .returned (.int .u8 ((UInt8.toNat (M i j) : Nat) : Int)) ∧ Below w'.heap.size w' w'') :
    Calls Try.prog 117 #[gfF, .int .i64 (rows : Int), .int .i64 (cols : Int), .func (.func K) #[] cap] w fun e w' => ∃ g, e = .returned (.pointer (some ⟨g, 0, none⟩)) ∧ Mt 179 gfF en w' g rows cols M ∧ Below w.heap.size w w' := by
  refine (laid_any rows cols K cap M w hr hc hent hcl).mono ?_
  rintro e w' ⟨g, rfl, hmx, hb⟩
  exact ⟨g, rfl, mt_of hmx, hb⟩
end Go.Proofs.Ytoaaplngdomdcaa.MB
