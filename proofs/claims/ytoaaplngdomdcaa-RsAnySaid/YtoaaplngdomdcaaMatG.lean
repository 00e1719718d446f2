/- Contracts of the matrices of bytes: the field's methods, New and what New hands to the layer-out. -/
import Derived.Test.YtoaaplngdomdcaaMatF
import Derived.Deep.RegionHeld3
import Derived.Shelf.Abstract
namespace Go.Proofs.Ytoaaplngdomdcaa
open Go.RowKit

theorem gzero_any (w : World) : Calls Try.prog 186 #[.agg #[]] w fun e w' => e = .returned (.int .u8 0) ∧ w' = w.alloc (.cells #[] 128) := by
  go_enter Try.func186, Try.ntmps186
  go_wp2
  go_ret
  exact ⟨rfl, rfl⟩
theorem gadd_any (x y : UInt8) (w : World) : Calls Try.prog 181 #[.agg #[], .int .u8 (x.toNat : Int), .int .u8 (y.toNat : Int)] w fun e w' => e = .returned (.int .u8 ((x ^^^ y).toNat : Int)) ∧ w' = w.alloc (.cells #[] 128) := by
  have h := u8_xor_nat x.toNat y.toNat x.toNat_lt y.toNat_lt
  go_enter Try.func181, Try.ntmps181
  go_wp2
  go_ret
  exact ⟨ret_int (by rw [UInt8.toNat_xor]), rfl⟩

theorem meth_zero (n : Nat) (w : World) : (method (n + 1) 128 (.agg #[]) "Zero").run Try.prog w = .ok (186, .agg #[]) w := by kernel_rfl
theorem meth_add (n : Nat) (w : World) : (method (n + 1) 128 (.agg #[]) "Add").run Try.prog w = .ok (181, .agg #[]) w := by kernel_rfl
theorem ahead_add (n : Nat) (w : World) : (nilAhead (n + 1) 128 (.agg #[]) "Add").run Try.prog w = .ok (some false) w := by kernel_rfl

set_option maxRecDepth 100000 in
set_option maxHeartbeats 1600000 in
theorem newc_any (i j cols : Nat) (l : List UInt8) (x : UInt8) (ve : Value) (b1 b2 b3 : Nat) (w : World) (hi : i ≤ 256) (hj : j ≤ 256) (hc : cols ≤ 256) (hl : By w ve l) (hx : l[i * cols + j]? = some x)
    (c1 : w.cell? ⟨b1, 0, none⟩ = some gfF) (c2 : w.cell? ⟨b2, 0, none⟩ = some ve) (c3 : w.cell? ⟨b3, 0, none⟩ = some (.int .i64 (cols : Int))) :
    Calls Try.prog 118 #[.int .i64 (i : Int), .int .i64 (j : Int), .pointer (some ⟨b1, 0, none⟩), .pointer (some ⟨b2, 0, none⟩), .pointer (some ⟨b3, 0, none⟩)] w fun e w' => e = .returned (.int .u8 (x.toNat : Int)) ∧ Below w.heap.size w w' := by
  obtain ⟨A, c, rfl, hlc, hcm, hcell⟩ := hl.form
  unfold maxLen at hcm
  obtain ⟨b, o, rfl, hbl, hcx⟩ := hcell _ x hx
  have hlt : i * cols + j < l.length := (List.getElem?_eq_some_iff.1 hx).1
  have hm : i * cols ≤ 65536 := Nat.le_trans (Nat.mul_le_mul hi hc) (by omega)
  have hw1 : IntKind.i64.wrap ((i : Int) * (cols : Int)) = ((i * cols : Nat) : Int) := by
    rw [← Int.natCast_mul]
    simp [IntKind.wrap, IntKind.bits, IntKind.signed]
    omega
  generalize i * cols = M at *
  obtain ⟨I, hI⟩ : ∃ I, I = M + j := ⟨_, rfl⟩
  have hw2 : IntKind.i64.wrap ((M : Int) + (j : Int)) = (I : Int) := by
    simp [IntKind.wrap, IntKind.bits, IntKind.signed]
    omega
  rw [← hI] at hlt hcx
  clear hI hx hcell hl
  have i1 : (I : Int) < (l.length : Int) := by omega
  have i2 : (0 : Int) ≤ (I : Int) := by omega
  have m1 := meth_zero
  have m2 := meth_add
  have m3 := ahead_add
  have q1 := gzero_any
  have q2 := fun w => gadd_any x 0 w
  rw [show x ^^^ 0 = x by simp, show (((0 : UInt8).toNat : Nat) : Int) = 0 from rfl] at q2
  go_enter Try.func118, Try.ntmps118
  go_wp2
  go_region_held3 (fun w' => w'.cell? ⟨b1, 0, none⟩ = some gfF ∧ w'.cell? ⟨b2, 0, none⟩ = some (.slice (some ⟨b, o, none⟩) l.length c) ∧ w'.cell? ⟨b3, 0, none⟩ = some (.int .i64 (cols : Int)) ∧ w'.cell? ⟨b, o + I, none⟩ = some (.int .u8 (x.toNat : Int))) (go_keep) (first | (go_at_call 186; refine (q1 _).mono ?_; rintro e w' ⟨rfl, rfl⟩) | (go_at_call 181; refine (q2 _).mono ?_; rintro e w' ⟨rfl, rfl⟩))
  all_goals go_wp2
  all_goals go_ret
  all_goals exact ⟨rfl, (((Below.refl w.heap.size w).alloc (Nat.le_refl _) _).alloc (by simp) _).drew⟩

theorem dims_any (r c : Nat) (w : World) (hr : 1 ≤ r ∧ r ≤ 256) (hc : 1 ≤ c ∧ c ≤ 256) :
    Calls Try.prog 80 #[.int .i64 (r : Int), .int .i64 (c : Int)] w fun e w' => e = .returned (.bool true) ∧ w = w' := by
  have i1 : (r : Int) ≥ 1 := by omega
  have i2 : (r : Int) ≤ 256 := by omega
  have i3 : (c : Int) ≥ 1 := by omega
  have i4 : (c : Int) ≤ 256 := by omega
  go_enter Try.func80, Try.ntmps80
  go_wp2
  go_ret
  exact ⟨rfl, rfl⟩

set_option maxRecDepth 100000 in
set_option maxHeartbeats 1600000 in
theorem mnew_any (rows cols : Nat) (E : Nat → Nat → UInt8) (ve : Value) (l : List UInt8) (w : World) (hr : 1 ≤ rows ∧ rows ≤ 256) (hc : 1 ≤ cols ∧ cols ≤ 256) (hl : By w ve l) (hlen : l.length = rows * cols)
    (hE : ∀ i j, i < rows → j < cols → l[i * cols + j]? = some (E i j)) :
    Calls Try.prog 67 #[gfF, .int .i64 (rows : Int), .int .i64 (cols : Int), ve] w fun e w' =>
      ∃ g base, e = .returned (.tuple #[.pointer (some ⟨g, 0, none⟩), .int .i64 0]) ∧ w.heap.size ≤ base ∧ Mx w' base g (rowsOf cols E rows) ∧ Below w.heap.size w w' := by
  have q1 := fun w => dims_any rows cols w hr hc
  obtain ⟨A, c, rfl, hlc, hcm, hcell⟩ := hl.form
  clear hcell
  have hm : rows * cols ≤ 65536 := Nat.le_trans (Nat.mul_le_mul hr.2 hc.2) (by omega)
  have hw1 : IntKind.i64.wrap ((rows : Int) * (cols : Int)) = (l.length : Int) := by
    rw [hlen, ← Int.natCast_mul]
    simp [IntKind.wrap, IntKind.bits, IntKind.signed]
    omega
  have HH := hide (And.intro hlen (And.intro hr (And.intro hc (And.intro hl (And.intro hE (And.intro hlc hcm))))))
  clear hlen hr hc hl hE hlc hcm hm
  go_enter Try.func67, Try.ntmps67
  go_wp2_with fail
  refine (q1 _).mono ?_
  rintro e w' ⟨rfl, rfl⟩
  go_wp2_with fail
  have n1 := ((Blk.new w 167 #[gfF]).alloc (.cells #[.int .i64 (cols : Int)] 3)).alloc (.cells #[.slice A l.length c] 38)
  have n2 := (Blk.new (w.alloc (.cells #[gfF] 167)) 3 #[.int .i64 (cols : Int)]).alloc (.cells #[.slice A l.length c] 38)
  have n3 := Blk.new ((w.alloc (.cells #[gfF] 167)).alloc (.cells #[.int .i64 (cols : Int)] 3)) 38 #[.slice A l.length c]
  have n4 := (((Below.refl w.heap.size w).alloc (Nat.le_refl _) (.cells #[gfF] 167)).alloc (by simp) (.cells #[.int .i64 (cols : Int)] 3)).alloc (by simp; omega) (.cells #[.slice A l.length c] 38)
  simp only [World.size_alloc] at n2 n3
  generalize ((w.alloc (.cells #[gfF] 167)).alloc (.cells #[.int .i64 (cols : Int)] 3)).alloc (.cells #[.slice A l.length c] 38) = W at *
  refine (laid_any rows cols 118 #[.pointer (some ⟨w.heap.size, 0, none⟩), .pointer (some ⟨w.heap.size + 1 + 1, 0, none⟩), .pointer (some ⟨w.heap.size + 1, 0, none⟩)] E W HH.out.2.1.2 HH.out.2.2.1.2
    (enters_of Try.func118 (by kernel_rfl) rfl) ?_).mono ?_
  · intro i j w' hi hj hb
    obtain ⟨hlen, hr, hc, hl, hE, hlc, hcm⟩ := HH.out
    refine newc_any i j cols l (E i j) (.slice A l.length c) w.heap.size (w.heap.size + 1 + 1) (w.heap.size + 1) w' (by omega) (by omega) hc.2 ((hl.below n4).below hb) (hE i j hi hj) ?_ ?_ ?_
    · rw [(n1.below' hb).cell]; rfl
    · rw [(n3.below' hb).cell]; rfl
    · rw [(n2.below' hb).cell]; rfl
  · rintro e w' ⟨g, rfl, hmx, hb⟩
    have H4 := hide (And.intro n4 (And.intro hmx hb))
    clear n1 n2 n3 n4 hmx hb q1 hw1
    go_wp2
    go_ret2
    exact ⟨g, W.heap.size, rfl, H4.out.1.size, H4.out.2.1, H4.out.1.trans (H4.out.2.2.mono H4.out.1.size)⟩
end Go.Proofs.Ytoaaplngdomdcaa
