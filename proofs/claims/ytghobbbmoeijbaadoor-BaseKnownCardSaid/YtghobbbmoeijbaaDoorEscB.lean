/- Contracts of the names escaped: the program's and the document's. -/
import Derived.Test.YtghobbbmoeijbaaDoorEscA
import Derived.Test.YtghobbbmoeijbaaDoorBuild
import Derived.Test.YtghobbbmoeijbaaDoorMem2
import Derived.Deep.RegionHeld3
import Derived.Deep.DrawnRows
namespace Go.Proofs.YtghobbbmoeijbaaDoor
open Go.RowKit
attribute [local go_sem ↓] Go.wp_at_zero Go.wp_at_succ

theorem esc_take (l : List UInt8) (k : Nat) (x : UInt8) (hx : l[k]? = some x) : escBody (l.take (k + 1)) = escBody (l.take k) ++ esc1 x := by
  rw [take_snoc l k x hx, escBody_snoc]

theorem fresh_bld (w : World) : Lib.IsBuilder bT bE w.heap.size w.heap.size (Lib.byteCells []) (w.alloc (.cells #[.pointer none, .slice none 0 0] bT)) := Lib.fresh_isBuilder bT bE w
theorem bld_push {B b : Nat} {l : List UInt8} {x : UInt8} {w : World} (h : Lib.IsBuilder bT bE B b (Lib.byteCells l ++ [.int .u8 (x.toNat : Int)]) w) : Lib.IsBuilder bT bE B b (Lib.byteCells (l ++ [x])) w := by
  have e : Lib.byteCells (l ++ [x]) = Lib.byteCells l ++ [.int .u8 (x.toNat : Int)] := by simp [Lib.byteCells]
  rw [e]; exact h
theorem byteCells_len (l : List UInt8) : (Lib.byteCells l).length = l.length := by simp [Lib.byteCells]

theorem push_any (B b : Nat) (l : List UInt8) (x : UInt8) (w : World) (h : Lib.IsBuilder bT bE B b (Lib.byteCells l) w) (hlen : l.length + 1 ≤ 140737488355328) (hBw : B ≤ w.heap.size) :
    Calls Tryd.prog 32 #[.pointer (some ⟨b, 0, none⟩), .int .u8 (x.toNat : Int)] w fun e w' => e = .returned .nilIface ∧ Lib.IsBuilder bT bE B b (Lib.byteCells (l ++ [x])) w' ∧ Below B w w' :=
  (write_any B b _ _ w h (by rw [byteCells_len]; exact hlen) hBw).mono fun _ _ ⟨h1, h2, h3⟩ => ⟨h1, bld_push h2, h3⟩

theorem push37 (B b : Nat) (l : List UInt8) (w : World) (h : Lib.IsBuilder bT bE B b (Lib.byteCells l) w) (hlen : l.length + 1 ≤ 140737488355328) (hBw : B ≤ w.heap.size) :
    Calls Tryd.prog 32 #[.pointer (some ⟨b, 0, none⟩), .int .u8 37] w fun e w' => e = .returned .nilIface ∧ Lib.IsBuilder bT bE B b (Lib.byteCells (l ++ [37])) w' ∧ Below B w w' :=
  push_any B b l 37 w h hlen hBw
theorem u8_and15 (a : Nat) (ha : a < 256) : bits .and .u8 (a : Int) 15 = ((a % 16 : Nat) : Int) := by
  have := u8_and_nat a 15 (by omega) (by omega)
  rw [show (15 : Nat) = 2 ^ 4 - 1 from rfl, Nat.and_two_pow_sub_one_eq_mod] at this
  exact this

set_option maxRecDepth 100000 in
set_option maxHeartbeats 2000000 in
theorem besc_any (v : Value) (l : List UInt8) (w : World) (ha : By w v l) (hl : l.length ≤ 35184372088832) :
    Calls Tryd.prog 20 #[v] w fun e w' => ∃ s : ByteArray, e = .returned (.string s) ∧ s.data.toList = escape l ∧ Below w.heap.size w w' := by
  obtain ⟨A, c, rfl, hc, hm, hca⟩ := ha.form
  unfold maxLen at hm
  by_cases h0 : l.length = 0
  · have hl0 : l = [] := List.eq_nil_of_length_eq_zero h0
    subst hl0
    have g0 : (((List.length ([] : List UInt8) : Nat) : Int) == 0) = true := by rfl
    go_enter Tryd.func20, Tryd.ntmps20
    go_wp2
    go_ret
    exact ⟨⟨#[37]⟩, rfl, rfl, Below.refl _ _⟩
  · have g0 : ((l.length : Int) == 0) = false := by rw [beq_eq_false_iff_ne]; omega
    have hf := fresh_bld w
    have hb0 : Below w.heap.size w (w.alloc (.cells #[.pointer none, .slice none 0 0] bT)) := (Below.refl _ _).alloc (Nat.le_refl _) _
    have HF := hide (And.intro hf hb0)
    clear hf hb0
    go_enter Tryd.func20, Tryd.ntmps20
    go_wp2_with fail
    go_loopw [5, 11] (fun _ u11 wr => ∃ k : Nat, k ≤ l.length ∧ u11 = .int .i64 (k : Int) ∧ Lib.IsBuilder bT bE w.heap.size w.heap.size (Lib.byteCells (escBody (l.take k))) wr ∧ Below w.heap.size w wr) (fun _ u11 _ => l.length - (intOf u11).toNat)
    case atStart => exact ⟨0, by omega, rfl, HF.out.1, HF.out.2⟩
    case round =>
      clear HF
      obtain ⟨k, hk, rfl, hbd, hbel⟩ := hrel
      have HB := hide hbd
      clear hbd
      by_cases hlt : k < l.length
      · obtain ⟨x, hx⟩ : ∃ x, l[k]? = some x := ⟨_, List.getElem?_eq_getElem hlt⟩
        obtain ⟨b, o, rfl, hbl, hcell⟩ := hca k x hx
        have hcx : wr.cell? ⟨b, o + k, none⟩ = some (.int .u8 (x.toNat : Int)) := (hbel.cell (p := ⟨b, o + k, none⟩) hbl).trans hcell
        have HX := hide hx
        clear hx hcell hca
        have hx8 := x.toNat_lt
        have hsort := sort_any x
        have hlen := escBody_len (l.take k)
        rw [List.length_take] at hlen
        have hlen3 : (escBody (l.take k)).length + 3 ≤ 140737488355328 := by omega
        clear hlen
        by_cases hp : plainN x.toNat = true
        · have hs1 : (sortN x.toNat : Int) = 1 := by unfold sortN; rw [if_pos hp]; rfl
          rw [hs1] at hsort
          have HP := hide hp
          clear hp hs1
          go_wp2_with (first
            | (go_at_call 30; ((with_reducible refine (hsort _).mono ?_)); rintro e w' ⟨rfl, rfl⟩)
            | (go_at_call 32; go_loud (refine (push_any w.heap.size w.heap.size _ x wr HB.out (by omega) hbel.size).mono ?_); rintro e w1 ⟨rfl, hb1, hbel1⟩))
          go_roundw
          case rel => exact ⟨k + 1, by omega, by go_num, by rw [esc_take l k x HX.out, esc1, if_pos HP.out]; exact hb1, hbel.trans hbel1⟩
          case measure => simp [intOf]; omega
        · have hs1 : (sortN x.toNat : Int) ≠ 1 := by unfold sortN; rw [if_neg hp]; split <;> decide
          have gs : ((sortN x.toNat : Int) == 1) = false := by rw [beq_eq_false_iff_ne]; exact hs1
          have HP := hide hp
          clear hp hs1
          have hq : x.toNat / 16 < hexS.size := by show _ < 16; omega
          have hr : x.toNat % 16 < hexS.size := by show _ < 16; omega
          have hand := u8_and15 x.toNat (by omega)
          go_wp2_with (go_at_call 30; ((with_reducible refine (hsort _).mono ?_)); rintro e w' ⟨rfl, rfl⟩)
          refine (push37 w.heap.size w.heap.size _ wr HB.out (by omega) hbel.size).mono ?_
          rintro e w1 ⟨rfl, hb1, hbel1⟩
          have hB1 := hbel.trans hbel1
          go_wp2_with fail
          refine (push_any w.heap.size w.heap.size _ (hexS[x.toNat / 16]'hq) w1 hb1 (by rw [List.length_append, List.length_singleton]; omega) hB1.size).mono ?_
          rintro e w2 ⟨rfl, hb2, hbel2⟩
          have hB2 := hB1.trans hbel2
          go_wp2_with fail
          refine (push_any w.heap.size w.heap.size _ (hexS[x.toNat % 16]'hr) w2 hb2 (by rw [List.length_append, List.length_append, List.length_singleton, List.length_singleton]; omega) hB2.size).mono ?_
          rintro e w3 ⟨rfl, hb3, hbel3⟩
          have hB3 := hB2.trans hbel3
          rw [hexS_at _ (by omega), hexS_at _ (by omega)] at hb3
          have HB3 := hide hb3
          clear hb1 hb2 hb3
          go_wp2_with fail
          go_roundw
          case rel =>
            refine ⟨k + 1, by omega, by go_num, ?_, hB3⟩
            rw [esc_take l k x HX.out, esc1, if_neg HP.out]
            have := HB3.out
            simpa using this
          case measure => simp [intOf]; omega
      · have hkl : k = l.length := by omega
        have hb1 := HB.out
        rw [List.take_of_length_le (by omega)] at hb1
        have hstr := Tryd.Builder_String_any w.heap.size w.heap.size _ wr hb1 hbel.size
        have HS := hide hstr
        clear hb1 hstr hkl
        go_wp2_with fail
        refine HS.out.mono ?_
        rintro e w1 ⟨rfl, hbel1⟩
        obtain ⟨s, hs⟩ : ∃ s : ByteArray, s = ⟨(escBody l).toArray⟩ := ⟨_, rfl⟩
        rw [← hs]
        have HS2 := hide hs
        clear hs
        go_wp2_with fail
        go_ret
        refine ⟨s, rfl, ?_, hbel.trans hbel1⟩
        rw [HS2.out, escape, if_neg (by rintro rfl; exact h0 rfl)]
end Go.Proofs.YtghobbbmoeijbaaDoor
