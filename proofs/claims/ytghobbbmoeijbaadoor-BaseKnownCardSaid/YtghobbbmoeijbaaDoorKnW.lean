/- BaseKnown: the examples of the chapter. -/
import Derived.Test.YtghobbbmoeijbaaDoorBaseD
import Derived.Test.YtghobbbmoeijbaaDoorEscC
import Derived.Test.YtghobbbmoeijbaaDoorNumL
import Derived.Test.YtghobbbmoeijbaaDoorConB
import Derived.Test.YtghobbbmoeijbaaDoorTexts
namespace Go.Proofs.YtghobbbmoeijbaaDoor
open Go.RowKit

theorem by_newk (w : World) (e : TypeId) (l : List UInt8) (h : l.length ≤ 1000) : By (w.alloc (.cells (bcells l).toArray e)) (.slice (some ⟨w.heap.size, 0, none⟩) l.length l.length) l := by_marked w e (0, 0) l h

theorem blk_new' (w : World) (g : Nat) (t : TypeId) (cs : Array Value) (h : g = w.heap.size) : Blk (w.alloc (.cells cs t)) g t cs := by rw [h]; exact Blk.new w t cs
theorem ownT_new (w : World) (l : List ByteArray) (h : l.length ≤ 1000) : OwnT (w.alloc (.cells (l.map Value.string).toArray 9)) 0 (.slice (some ⟨w.heap.size, 0, none⟩) l.length l.length) l := by
  have hb := Blk.new w 9 (l.map Value.string).toArray
  have := hb.own (base := 0) (e := 9) (n := l.length) (cap := l.length) (sz := 1) rfl (Nat.zero_le _) (by simp) (Nat.le_refl _) (by unfold maxLen; omega)
  simpa [OwnT, List.take_of_length_le] using this
def kTexts : Array Value := #[.string ⟨#[65]⟩, .string ⟨#[97, 49]⟩, .string ⟨#[97]⟩, .string ⟨#[97, 98]⟩, .string ⟨#[97, 98, 99]⟩]
def kPlaces : Array Value := #[.int .i64 0, .int .i64 1, .int .i64 0, .int .i64 1, .int .i64 2]
def kErrs : Array Value := #[.int .i64 100, .int .i64 100, .int .i64 101, .int .i64 101, .int .i64 101]
theorem k_at (k : Nat) (h : k < 5) : ∃ t : ByteArray, ∃ p e : Nat, kTexts[k]? = some (.string t) ∧ kPlaces[k]? = some (.int .i64 (p : Int)) ∧ kErrs[k]? = some (.int .i64 (e : Int)) ∧ decode (lst t) = ([], p, e) ∧ t.size ≤ 10 := by
  rcases k with _ | _ | _ | _ | _ | k
  · exact ⟨_, 0, 100, rfl, rfl, rfl, by decide +kernel, by decide⟩
  · exact ⟨_, 1, 100, rfl, rfl, rfl, by decide +kernel, by decide⟩
  · exact ⟨_, 0, 101, rfl, rfl, rfl, by decide +kernel, by decide⟩
  · exact ⟨_, 1, 101, rfl, rfl, rfl, by decide +kernel, by decide⟩
  · exact ⟨_, 2, 101, rfl, rfl, rfl, by decide +kernel, by decide⟩
  · omega

def kNums : Array Value := #[.string ⟨#[48, 48, 55]⟩, .string ⟨#[49, 48]⟩, .string ⟨#[]⟩, .string ⟨#[43, 49]⟩]
theorem n_at (k : Nat) (h : k < 4) : ∃ t : ByteArray, kNums[k]? = some (.string t) ∧ rd (lst t) 9 = none ∧ t.size ≤ 10 := by
  rcases k with _ | _ | _ | _ | k
  · exact ⟨_, rfl, by decide +kernel, by decide⟩
  · exact ⟨_, rfl, by decide +kernel, by decide⟩
  · exact ⟨_, rfl, by decide +kernel, by decide⟩
  · exact ⟨_, rfl, by decide +kernel, by decide⟩
  · omega

def kWrong : Array Value := #[.string ⟨#[]⟩, .string ⟨#[97, 37, 52, 49]⟩, .string ⟨#[97, 37, 52]⟩, .string ⟨#[37, 50, 70]⟩, .string ⟨#[97, 37]⟩, .string ⟨#[120, 32, 121]⟩]
def kWhere : Array Value := #[.int .i64 0, .int .i64 1, .int .i64 1, .int .i64 0, .int .i64 1, .int .i64 1]
theorem w_at (k : Nat) (h : k < 6) : ∃ t : ByteArray, ∃ p : Nat, kWrong[k]? = some (.string t) ∧ kWhere[k]? = some (.int .i64 (p : Int)) ∧ unescape (lst t) = ([], p, 103) ∧ t.size ≤ 10 := by
  rcases k with _ | _ | _ | _ | _ | _ | k
  · exact ⟨_, 0, rfl, rfl, by decide +kernel, by decide⟩
  · exact ⟨_, 1, rfl, rfl, by decide +kernel, by decide⟩
  · exact ⟨_, 1, rfl, rfl, by decide +kernel, by decide⟩
  · exact ⟨_, 0, rfl, rfl, by decide +kernel, by decide⟩
  · exact ⟨_, 1, rfl, rfl, by decide +kernel, by decide⟩
  · exact ⟨_, 1, rfl, rfl, by decide +kernel, by decide⟩
  · omega

set_option maxRecDepth 100000 in
set_option maxHeartbeats 4000000 in
theorem law_known (m : Int) (w : World) (hm : w.cell? ⟨2, 0, none⟩ = some (.int .i64 m)) (ht : Tab w) (he : Err w) :
    Calls Tryd.prog 8 #[] w fun e w' => e = .returned (.bool true) ∧ Below w.heap.size w w' := by
  have HT := hide (And.intro ht he)
  have hgl : 2 < w.heap.size := by
    rcases Nat.lt_or_ge 2 w.heap.size with h | h
    · exact h
    · simp [World.cell?, Array.getElem?_eq_none h] at hm
  have hmB : ∀ w', Below w.heap.size w w' → w'.cell? ⟨2, 0, none⟩ = some (.int .i64 m) := fun w' hb => (hb.cell (p := ⟨2, 0, none⟩) hgl).trans hm
  have HM := hide hmB
  clear hmB hgl
  clear ht he hm
  have H0 := hide (bletters_any _ [] w (By.nil w) (by simp))
  go_enter Tryd.func8, Tryd.ntmps8
  go_wp2_with fail
  refine H0.out.mono ?_
  rintro e w1 ⟨s0, rfl, hs0, b1⟩
  have hs0 : lst s0 = [] := hs0
  have g0 : (s0.toList == []) = true := by rw [str_toList]; unfold lst at hs0; rw [hs0]; rfl
  have C1 := hide b1
  have H1 := hide (bletters_any _ [0] _ (by_newk w1 5 [0] (by simp)) (by simp))
  clear hs0 b1 H0
  go_wp2_with fail
  clear g0
  refine H1.out.mono ?_
  rintro e w2 ⟨s1, rfl, hs1, b2⟩
  have g1 : (s1.toList == [97, 97]) = true := by rw [str_toList, hs1]; decide +kernel
  have C2 := hide (C1.out.trans ((((Below.refl _ w1).alloc (Nat.le_refl _) (.cells (bcells [0]).toArray 5)).trans (b2.mono (by simp))).mono C1.out.size))
  have H2 := hide (bletters_any _ [255] _ (by_newk w2 5 [255] (by simp)) (by simp))
  clear hs1 b2 H1 C1
  go_wp2_with fail
  clear g1
  refine H2.out.mono ?_
  rintro e w3 ⟨s2, rfl, hs2, b3⟩
  have g2 : (s2.toList == [55, 52]) = true := by rw [str_toList, hs2]; decide +kernel
  have C3 := hide (C2.out.trans ((((Below.refl _ w2).alloc (Nat.le_refl _) (.cells (bcells [255]).toArray 5)).trans (b3.mono (by simp))).mono C2.out.size))
  clear hs2 b3 H2 C2
  have l5 : ∀ w, Calls Tryd.prog 22 #[.int .i64 5] w fun e w' => e = .returned (.int .i64 8) ∧ w = w' := fun w => blength_any 5 w (by omega)
  have l16 : ∀ w, Calls Tryd.prog 22 #[.int .i64 16] w fun e w' => e = .returned (.int .i64 26) ∧ w = w' := fun w => blength_any 16 w (by omega)
  have l32 : ∀ w, Calls Tryd.prog 22 #[.int .i64 32] w fun e w' => e = .returned (.int .i64 52) ∧ w = w' := fun w => blength_any 32 w (by omega)
  go_wp2_with (go_at_call 22; first | (with_reducible refine (l5 _).mono ?_); rintro e w' ⟨rfl, rfl⟩ | (with_reducible refine (l16 _).mono ?_); rintro e w' ⟨rfl, rfl⟩ | (with_reducible refine (l32 _).mono ?_); rintro e w' ⟨rfl, rfl⟩)
  clear g2 l5 l16 l32
  go_loopw [4] (fun i wr => ∃ k : Nat, k ≤ 5 ∧ i = .int .i64 k ∧ Below w.heap.size w wr ∧ w3.heap.size + 2 < wr.heap.size ∧ Blk wr w3.heap.size 9 kTexts ∧ Blk wr (w3.heap.size + 1) 3 kPlaces ∧ Blk wr (w3.heap.size + 2) 29 kErrs) (fun i _ => 5 - (intOf i).toNat)
  case atStart => exact ⟨0, by omega, rfl, ((C3.out.alloc C3.out.size _).alloc (by have := C3.out.size; simp; omega) _).alloc (by have := C3.out.size; simp; omega) _, by simp, ((Blk.new w3 _ _).alloc _).alloc _, (blk_new' _ _ _ _ (by simp)).alloc _, blk_new' _ _ _ _ (by simp)⟩
  case round =>
    obtain ⟨k, hk, rfl, hb, hsz, e1, e2, e3⟩ := hrel
    have c0 : ((kTexts.size : Nat) : Int) = 5 := rfl
    by_cases hlt : k < 5
    · obtain ⟨t, p, er, t1, t2, t3, hd, ht⟩ := k_at k hlt
      have q := bbytes_any t wr (by omega)
      rw [hd] at q
      have Q := hide q
      have x1 : wr.cell? ⟨w3.heap.size, k, none⟩ = some (.string t) := (e1.cell k).trans t1
      have i1 : (k : Int) < 5 := by omega
      have i2 : (0 : Int) ≤ (k : Int) := by omega
      clear q hd
      go_wp2_with fail
      refine Q.out.mono ?_
      rintro e w5 ⟨v5, rfl, o5, b5⟩
      obtain ⟨A5, c5, hv5, _⟩ := o5.by_.form
      subst hv5
      have x2 : w5.cell? ⟨w3.heap.size + 1, k, none⟩ = some (.int .i64 (p : Int)) := ((e2.below' b5).cell k).trans t2
      have x3 : w5.cell? ⟨w3.heap.size + 2, k, none⟩ = some (.int .i64 (er : Int)) := ((e3.below' b5).cell k).trans t3
      clear Q x1
      go_wp2_with fail
      go_roundw
      case rel => exact ⟨k + 1, by omega, by go_num, hb.trans (b5.mono hb.size), by have := b5.size; omega, e1.below' b5, e2.below' b5, e3.below' b5⟩
      case measure => simp [intOf]; omega
    · have i1 : ¬ (k : Int) < 5 := by omega
      clear c0
      go_wp2_with fail
      have C4 := hide hb
      clear e1 e2 e3 hsz hb hk hlt i1
      have q0 := bnumber_any 0 wr ⟨by omega, by omega⟩ (HT.out.1.below C4.out)
      rw [show numS 0 = ⟨#[48]⟩ by decide +kernel, show numE 0 = 0 by decide +kernel] at q0
      refine q0.mono ?_
      rintro e w4 ⟨rfl, b4⟩
      have C5 := hide (C4.out.trans (b4.mono C4.out.size))
      clear q0 b4 C4
      go_wp2_with fail
      have q0 := bnumber_any 42 w4 ⟨by omega, by omega⟩ (HT.out.1.below C5.out)
      rw [show numS 42 = ⟨#[52, 50]⟩ by decide +kernel, show numE 42 = 0 by decide +kernel] at q0
      refine q0.mono ?_
      rintro e w5 ⟨rfl, b4⟩
      have C6 := hide (C5.out.trans (b4.mono C5.out.size))
      clear q0 b4 C5
      go_wp2_with fail
      have q0 := bnumber_any (-1) w5 ⟨by omega, by omega⟩ (HT.out.1.below C6.out)
      rw [show numS (-1) = ⟨#[]⟩ by decide +kernel, show numE (-1) = 102 by decide +kernel] at q0
      refine q0.mono ?_
      rintro e w6 ⟨rfl, b4⟩
      have C7 := hide (C6.out.trans (b4.mono C6.out.size))
      clear q0 b4 C6
      have z0 : (ByteArray.mk #[48]).toList = [48] := by rw [str_toList]
      have z1 : (ByteArray.mk #[52, 50]).toList = [52, 50] := by rw [str_toList]
      go_wp2_with fail
      clear z0 z1
      go_loopw [117] (fun i wr => ∃ k : Nat, k ≤ 4 ∧ i = .int .i64 k ∧ Below w.heap.size w wr ∧ w6.heap.size < wr.heap.size ∧ Blk wr w6.heap.size 9 kNums) (fun i _ => 4 - (intOf i).toNat)
      case atStart => exact ⟨0, by omega, rfl, C7.out.alloc C7.out.size _, by simp, Blk.new w6 _ _⟩
      case round =>
        obtain ⟨j, hj, rfl, hb, hsz, e1⟩ := hrel
        by_cases hlt : j < 4
        · obtain ⟨t, t1, hd, ht⟩ := n_at j hlt
          have q := bread_any t 9 wr (by omega) ⟨by omega, by omega⟩ (HT.out.1.below hb) (HT.out.2.below hb)
          rw [show rdN (lst t) 9 = 0 by unfold rdN; rw [hd], show rdE (lst t) 9 = 102 by unfold rdE; rw [hd]] at q
          have Q := hide q
          have x1 : wr.cell? ⟨w6.heap.size, j, none⟩ = some (.string t) := (e1.cell j).trans t1
          have i1 : (j : Int) < 4 := by omega
          have i2 : (0 : Int) ≤ (j : Int) := by omega
          clear q hd
          go_wp2_with fail
          refine Q.out.mono ?_
          rintro e w7 ⟨rfl, b7⟩
          clear Q x1
          go_wp2_with fail
          go_roundw
          case rel => exact ⟨j + 1, by omega, by go_num, hb.trans (b7.mono hb.size), by have := b7.size; omega, e1.below' b7⟩
          case measure => simp [intOf]; omega
        · have i1 : ¬ (j : Int) < 4 := by omega
          have C8 := hide hb
          clear e1 hsz hb hj hlt
          have kc := fun (w : World) (C : Array Value) (n c : Nat) => Lib.run_convert_bytes_const (P := Tryd.prog) w 36 5 C n c Tryd.underlying36 Tryd.underlying5
          go_wp2_with fail
          refine (besc_any _ [97, 32, 98, 47, 195, 169] _ (by_marked wr 5 (6, 7) [97, 32, 98, 47, 195, 169] (by simp)) (by simp)).mono ?_
          rintro e w8 ⟨s8, rfl, hs8, b8⟩
          have C9 := hide (C8.out.trans ((((Below.refl _ wr).alloc (Nat.le_refl _) (.cells (bcells [97, 32, 98, 47, 195, 169]).toArray 5 (6, 7))).trans (b8.mono (by simp))).mono C8.out.size))
          have g1 : (s8.toList == [97, 37, 50, 48, 98, 37, 50, 102, 37, 99, 51, 37, 97, 57]) = true := by rw [str_toList, hs8]; decide +kernel
          clear hs8 b8 C8 kc
          go_wp2_with fail
          clear g1
          refine (besc_any _ [] w8 (By.nil w8) (by simp)).mono ?_
          rintro e w9 ⟨s9, rfl, hs9, b9⟩
          have C10 := hide (C9.out.trans (b9.mono C9.out.size))
          have g1 : (s9.toList == [37]) = true := by rw [str_toList, hs9]; decide +kernel
          clear hs9 b9 C9
          go_wp2_with fail
          clear g1
          go_loopw [20] (fun i wr => ∃ k : Nat, k ≤ 6 ∧ i = .int .i64 k ∧ Below w.heap.size w wr ∧ w9.heap.size + 1 < wr.heap.size ∧ Blk wr w9.heap.size 9 kWrong ∧ Blk wr (w9.heap.size + 1) 3 kWhere) (fun i _ => 6 - (intOf i).toNat)
          case atStart => exact ⟨0, by omega, rfl, (C10.out.alloc C10.out.size _).alloc (by have := C10.out.size; simp; omega) _, by simp, (Blk.new w9 _ _).alloc _, blk_new' _ _ _ _ (by simp)⟩
          case round =>
            obtain ⟨l, hl, rfl, hb, hsz, e1, e2⟩ := hrel
            by_cases hlt : l < 6
            · obtain ⟨t, p, t1, t2, hd, ht⟩ := w_at l hlt
              have q := bunesc_any t wr (by omega)
              rw [hd] at q
              have Q := hide q
              have x1 : wr.cell? ⟨w9.heap.size, l, none⟩ = some (.string t) := (e1.cell l).trans t1
              have i1 : (l : Int) < 6 := by omega
              have i2 : (0 : Int) ≤ (l : Int) := by omega
              clear q hd
              go_wp2_with fail
              refine Q.out.mono ?_
              rintro e w5 ⟨v5, rfl, o5, b5⟩
              obtain ⟨A5, c5, hv5, _⟩ := o5.by_.form
              subst hv5
              have x2 : w5.cell? ⟨w9.heap.size + 1, l, none⟩ = some (.int .i64 (p : Int)) := ((e2.below' b5).cell l).trans t2
              clear Q x1
              go_wp2_with fail
              go_roundw
              case rel => exact ⟨l + 1, by omega, by go_num, hb.trans (b5.mono hb.size), by have := b5.size; omega, e1.below' b5, e2.below' b5⟩
              case measure => simp [intOf]; omega
            · have i1 : ¬ (l : Int) < 6 := by omega
              have C11 := hide hb
              clear e1 e2 hsz hb hl hlt
              go_wp2_with fail
              refine (bfields_any ⟨#[97, 58, 58, 98]⟩ m wr (by decide) (HM.out _ C11.out)).mono ?_
              rintro e w10 ⟨v, ts, rfl, o10, h10, b10⟩
              have hts : ts = [⟨#[97]⟩, ⟨#[]⟩, ⟨#[98]⟩] := map_lst_inj (h10.trans (by decide +kernel))
              subst hts
              have C12 := hide (C11.out.trans (b10.mono C11.out.size))
              obtain ⟨A10, c10, hv10, _⟩ := o10.form
              subst hv10
              have q := hide (stexts_any _ _ _ _ _ _ _ (o10.below ((Below.refl _ w10).alloc (Nat.le_refl _) (.cells #[.string ⟨#[97]⟩, .string ⟨#[]⟩, .string ⟨#[98]⟩] 9))) (ownT_new w10 [⟨#[97]⟩, ⟨#[]⟩, ⟨#[98]⟩] (by simp)))
              clear o10 h10 b10
              go_wp2_with fail
              refine q.out.mono ?_
              rw [decide_eq_true (p := True) trivial]
              rintro e w11 ⟨rfl, b11⟩
              have C13 := hide ((C12.out.alloc C12.out.size (.cells #[.string ⟨#[97]⟩, .string ⟨#[]⟩, .string ⟨#[98]⟩] 9)).trans (b11.below.mono (by have := C12.out.size; simp; omega)))
              clear q b11 C12
              go_wp2_with fail
              refine (bfields_any ⟨#[]⟩ m w11 (by decide) (HM.out _ C13.out)).mono ?_
              rintro e w12 ⟨v, ts, rfl, o10, h10, b10⟩
              have hts : ts = [⟨#[]⟩] := map_lst_inj (h10.trans (by decide +kernel))
              subst hts
              have C14 := hide (C13.out.trans (b10.mono C13.out.size))
              obtain ⟨A12, c12, hv12, _⟩ := o10.form
              subst hv12
              have q := hide (stexts_any _ _ _ _ _ _ _ (o10.below ((Below.refl _ w12).alloc (Nat.le_refl _) (.cells #[.string ⟨#[]⟩] 9))) (ownT_new w12 [⟨#[]⟩] (by simp)))
              clear o10 h10 b10
              go_wp2_with fail
              refine q.out.mono ?_
              rw [decide_eq_true (p := True) trivial]
              rintro e w13 ⟨rfl, b11⟩
              have C15 := hide ((C14.out.alloc C14.out.size (.cells #[.string ⟨#[]⟩] 9)).trans (b11.below.mono (by have := C14.out.size; simp; omega)))
              clear q b11 C14
              go_wp2_with fail
              go_ret
              exact ⟨rfl, C15.out⟩

theorem of_laid2 {W : World} {a : String × DataW Unit} {r : List (String × DataW Unit)}
    (h0 : laidMet Tryd.prog (("internal/strconv.uint64pow10", Rows.laid_internal_strconv_uint64pow10) :: a :: ("strconv.ErrRange", Rows.laid_strconv_ErrRange) :: ("strconv.ErrSyntax", Rows.laid_strconv_ErrSyntax) :: r) W) : Tab W ∧ Err W := by
  have e : (Rows.laid_internal_strconv_uint64pow10 : DataW Unit) = Lib.tabData .u64 Lib.pow10Tab := by kernel_rfl
  have h2 := h0.tail.tail
  have h3 := h2.tail
  rw [e] at h0
  obtain ⟨a0, s0, hv0, -, -, -⟩ := laid_sentinel h2 gER gERType Tryd.underlying50 rowES Tryd.underlying103 Tryd.underlying105 rfl rfl Tryd.underlying9 (by kernel_rfl) (by kernel_rfl)
  obtain ⟨a1, s1, hv1, -, -, -⟩ := laid_sentinel h3 gES gESType Tryd.underlying50 rowES Tryd.underlying103 Tryd.underlying105 rfl rfl Tryd.underlying9 (by kernel_rfl) (by kernel_rfl)
  exact ⟨Lib.tabIs_of_head gTab gTabType Tryd.underlying98 Tryd.underlying53 (by kernel_rfl) (by kernel_rfl) h0, ⟨_, _, hv1⟩, _, _, hv0⟩
end Go.Proofs.YtghobbbmoeijbaaDoor
