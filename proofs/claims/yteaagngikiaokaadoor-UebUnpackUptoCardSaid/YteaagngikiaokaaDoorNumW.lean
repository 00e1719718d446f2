/- Contracts of Number and ReadNumber, the program's and the document's. -/
import Derived.Test.YteaagngikiaokaaDoorLst
import Derived.Test.YteaagngikiaokaaDoorNumP
import Derived.Test.YteaagngikiaokaaDoorShelf
import Derived.Lib.LaidTab
import Derived.Lib.QuietBelow
import Derived.Laws.BitsAll
namespace Go.Proofs.YteaagngikiaokaaDoor
open Go.RowKit

theorem below_grow (w : World) (q : Nat) (os : Array Obj) : Below w.heap.size w (Sort.grow (w.drewN q) os) :=
  ⟨rfl, rfl, rfl, by simp [Sort.grow], fun k hk => by simp [Sort.grow, Array.getElem?_append, hk]⟩
theorem wf64 {x : Int} (h : (Lit.int .i64 x).wf = true) : -9223372036854775808 ≤ x ∧ x ≤ 9223372036854775807 := by
  simpa [Lit.wf, IntKind.min, IntKind.max, IntKind.bits, IntKind.signed] using h

/-- The table that Itoa reads. -/
def Tab (w : World) : Prop := Lib.TabIs Tryd.prog w "internal/strconv.uint64pow10" .u64 Lib.pow10Tab
theorem Tab.below {w w' : World} (h : Tab w) (hb : Below w.heap.size w w') : Tab w' := by
  unfold Tab Lib.TabIs World.var? at *
  cases hg : Tryd.prog.globalNamed "internal/strconv.uint64pow10" with
  | none => simp [hg] at h
  | some g =>
    simp only [hg, Option.bind_some] at h ⊢
    have hlt : g < w.heap.size := by
      rcases Nat.lt_or_ge g w.heap.size with h' | h'
      · exact h'
      · simp [Array.getElem?_eq_none h'] at h
    rw [hb.block g hlt]
    exact h

def itoaS (n : Int) : ByteArray := ⟨(Lib.itoa n).toArray⟩
theorem lst_itoaS (n : Int) : lst (itoaS n) = Lib.itoa n := by simp [lst, itoaS]
theorem itoa_any (n : Int) (w : World) (hn : -9223372036854775808 ≤ n ∧ n ≤ 9223372036854775807) (ht : Tab w) :
    Calls Tryd.prog 70 #[.int .i64 n] w fun e w' => e = .returned (.string (itoaS n)) ∧ Below w.heap.size w w' :=
  (Tryd.strconv_Itoa n hn.1 hn.2 w ht).mono fun e w' ⟨he, k, os, hw⟩ => ⟨he, by rw [hw]; exact below_grow w k os⟩

/-- What Number answers. -/
def numS (x : Int) : ByteArray := if x < 0 then ⟨#[]⟩ else itoaS x
def numE (x : Int) : Int := if x < 0 then 102 else 0
theorem bnumber_any (x : Int) (w : World) (hx : -9223372036854775808 ≤ x ∧ x ≤ 9223372036854775807) (ht : Tab w) :
    Calls Tryd.prog 53 #[.int .i64 x] w fun e w' => e = .returned (.tuple #[.string (numS x), .int .i64 (numE x)]) ∧ Below w.heap.size w w' := by
  have q := itoa_any x w hx ht
  unfold numS numE
  by_cases h : x < 0
  · rw [if_pos h, if_pos h]
    go_enter Tryd.func53, Tryd.ntmps53
    go_wp2
    go_ret2
    exact ⟨rfl, Below.refl _ _⟩
  · rw [if_neg h, if_neg h]
    generalize itoaS x = t at *
    go_enter Tryd.func53, Tryd.ntmps53
    go_wp2_with fail
    refine q.mono ?_
    rintro e w' ⟨rfl, hb⟩
    go_wp2
    go_ret2
    exact ⟨rfl, hb⟩

/-! ### The document's Number -/
theorem lst_eq_mk {a : ByteArray} {l : List UInt8} (h : lst a = l) : a = ⟨l.toArray⟩ := by
  cases a
  simp only [lst] at h
  rw [← h]
def dgc (d : Nat) : UInt8 := UInt8.ofNat (48 + d)
theorem str_one (w : World) (d : Nat) (hd : d < 10) : (convert 27 9 (.slice (some ⟨w.heap.size, 0, none⟩) 1 1)).run Tryd.prog (w.alloc (.cells #[.int .u8 (48 + (d : Int))] 5)) =
    .ok (.string ⟨#[dgc d]⟩) (w.alloc (.cells #[.int .u8 (48 + (d : Int))] 5)) := by
  have e : ((UInt8.ofNat (48 + d)).toNat : Int) = 48 + (d : Int) := by rw [UInt8.toNat_ofNat']; omega
  rw [← e]
  have n1 := Blk.new w 5 #[.int .u8 ((UInt8.ofNat (48 + d)).toNat : Int)]
  have hby : By (w.alloc (.cells #[.int .u8 ((UInt8.ofNat (48 + d)).toNat : Int)] 5)) (.slice (some ⟨w.heap.size, 0, none⟩) 1 1) [UInt8.ofNat (48 + d)] := by
    refine ⟨rfl, some ⟨w.heap.size, 0, none⟩, 1, rfl, Nat.le_refl 1, by unfold maxLen; omega, fun _ => ⟨w.heap.size, 0, rfl, n1.lt, fun j _ => ?_⟩⟩
    rw [Nat.zero_add, n1.cell, ← Array.getElem?_toList]
    rfl
  obtain ⟨t, ht, hrun⟩ := run_str (P := Tryd.prog) hby 27 9 5 Tryd.underlying27 Tryd.underlying5 Tryd.underlying9
  rw [hrun, lst_eq_mk ht]
  rfl

theorem digits_split (y : Nat) (h : 10 ≤ y) : Lib.decDigits y = Lib.decDigits (y / 10) ++ [UInt8.ofNat (48 + y % 10)] := by
  rw [Lib.decDigits, dif_neg (by omega)]

set_option maxRecDepth 100000 in
set_option maxHeartbeats 1600000 in
theorem rnumber_any (x : Int) (w : World) (hx : -9223372036854775808 ≤ x ∧ x ≤ 9223372036854775807) :
    Calls Tryd.prog 61 #[.int .i64 x] w fun e w' => e = .returned (.tuple #[.string (numS x), .int .i64 (numE x)]) ∧ Below w.heap.size w w' := by
  unfold numS numE
  by_cases h : x < 0
  · rw [if_pos h, if_pos h]
    go_enter Tryd.func61, Tryd.ntmps61
    go_wp2
    go_ret2
    exact ⟨rfl, Below.refl _ _⟩
  · rw [if_neg h, if_neg h]
    obtain ⟨X, rfl⟩ : ∃ X : Nat, x = (X : Int) := ⟨x.toNat, by omega⟩
    have hS : lst (itoaS (X : Int)) = Lib.decDigits X := by rw [lst_itoaS, Lib.itoa_nonneg]
    have hlen := digits_length_le 18 X (by omega)
    generalize itoaS (X : Int) = R at *
    have HS := hide (And.intro hS hlen)
    have hxl : X ≤ 9223372036854775807 := by omega
    clear hS hlen hx h
    go_enter Tryd.func61, Tryd.ntmps61
    go_wp2
    go_loopw [0, 4] (fun u0 u4 wr => ∃ (y : Nat) (t : ByteArray), y ≤ 9223372036854775807 ∧ u0 = .int .i64 (y : Int) ∧ u4 = .string t ∧ Lib.decDigits X = Lib.decDigits y ++ lst t ∧ t.size ≤ 19 ∧ Below w.heap.size w wr) (fun u0 _ _ => (intOf u0).toNat)
    case atStart => exact ⟨X, ⟨#[]⟩, hxl, rfl, rfl, by simp [lst], by decide, Below.refl _ _⟩
    case round =>
      obtain ⟨y, t, hy, rfl, rfl, hdig, htl, hbel⟩ := hrel
      have HD := hide hdig
      clear hdig
      by_cases h10 : 10 ≤ y
      · have i1 : (y : Int) ≥ 10 := by omega
        have hdl : y % 10 < 10 := Nat.mod_lt _ (by omega)
        have hsp := digits_split y h10
        have hql : y / 10 < y := by omega
        have ht : (y : Int).tmod 10 = ((y % 10 : Nat) : Int) := rfl
        have ht2 : (y : Int) % 10 = ((y % 10 : Nat) : Int) := by omega
        have hq : (y : Int).tdiv 10 = ((y / 10 : Nat) : Int) := rfl
        have hq2 : (y : Int) / 10 = ((y / 10 : Nat) : Int) := by omega
        generalize y % 10 = d at *
        generalize y / 10 = q at *
        have hrun := str_one wr d hdl
        have HN := hide (show Lib.decDigits X = Lib.decDigits q ++ lst ((⟨#[dgc d]⟩ : ByteArray) ++ t) by
          rw [HD.out, hsp]; simp [lst, dgc])
        have HB := hide (hbel.alloc hbel.size (.cells #[.int .u8 (48 + (d : Int))] 5))
        have HSZ := hide (show ((⟨#[dgc d]⟩ : ByteArray) ++ t).size ≤ 19 by
          have h1 := congrArg List.length HN.out
          rw [List.length_append, lst_len] at h1
          have := HS.out.2
          omega)
        clear hsp
        go_wp2
        go_roundw
        case rel => exact ⟨q, _, by omega, rfl, rfl, HN.out, HSZ.out, HB.out⟩
        case measure => simp [intOf]; omega
      · have i1 : ¬ (y : Int) ≥ 10 := by omega
        have hrun := str_one wr y (by omega)
        have HN := hide (show (⟨#[dgc y]⟩ : ByteArray) ++ t = R by
          rw [lst_eq_mk (a := R) (l := lst R) rfl, HS.out.1, HD.out, Lib.decDigits, dif_pos (by omega)]
          rw [lst_eq_mk (a := (⟨#[dgc y]⟩ : ByteArray) ++ t) rfl]
          simp [lst, dgc])
        have HB := hide (hbel.alloc hbel.size (.cells #[.int .u8 (48 + (y : Int))] 5))
        have hn := HN.out
        clear HN
        subst hn
        go_wp2
        go_ret2
        exact ⟨rfl, HB.out⟩

/-! ### ReadNumber -/
/-- What ReadNumber answers. -/
def rdN (l : List UInt8) (most : Int) : Int := match rd l most with
  | some x => (x : Int)
  | none => 0
def rdE (l : List UInt8) (most : Int) : Int := match rd l most with
  | some _ => 0
  | none => 102
/-- The errors that Atoi hands on. -/
def Err (w : World) : Prop := (∃ tp p, w.var? Tryd.prog "strconv.ErrSyntax" = some #[.iface tp p]) ∧ ∃ tp p, w.var? Tryd.prog "strconv.ErrRange" = some #[.iface tp p]

set_option maxRecDepth 100000 in
set_option maxHeartbeats 1600000 in
theorem bread_any (s : ByteArray) (most : Int) (w : World) (hs : s.size ≤ 1048576) (hm : -9223372036854775808 ≤ most ∧ most ≤ 9223372036854775807) (ht : Tab w) (he : Err w) :
    Calls Tryd.prog 63 #[.string s, .int .i64 most] w fun e w' => e = .returned (.tuple #[.int .i64 (rdN (lst s) most), .int .i64 (rdE (lst s) most)]) ∧ Below w.heap.size w w' := by
  have key : ∀ v, Lib.atoiAll (lst s) = .ok v → -9223372036854775808 ≤ v ∧ v ≤ 9223372036854775807 := fun v hv => Lib.atoiAll_bounds hv
  rcases ha : Lib.atoiAll (lst s) with v | _ | _
  ·
    have q := Tryd.strconv_Atoi_ok s (by omega) v ha w
    have q' : Calls Tryd.prog 81 #[.string s] w fun e w' => e = .returned (.tuple #[.int .i64 v, .nilIface]) ∧ Below w.heap.size w w' := q.mono fun e w' ⟨h1, h2⟩ => ⟨h1, by
      rcases h2 with h2 | ⟨t, h2⟩
      · rw [h2]; exact Below.refl _ _
      · rw [h2]; exact Lib.bytesWorld_below _ _ _⟩
    have hv := key v ha
    have HT := hide ht
    have HA := hide ha
    clear q key ht ha he
    by_cases h0 : v < 0
    · have hr : rd (lst s) most = none := by
        cases hr : rd (lst s) most with
        | none => rfl
        | some x =>
          have := (rd_some hr hm.2).1
          rw [HA.out] at this
          injection this with this
          omega
      unfold rdN rdE
      rw [hr]
      clear hr
      go_enter Tryd.func63, Tryd.ntmps63
      go_wp2_with fail
      refine q'.mono ?_
      rintro e w' ⟨rfl, hb⟩
      go_wp2
      go_ret2
      exact ⟨rfl, hb⟩
    · by_cases h1 : v > most
      · have hr : rd (lst s) most = none := by
          cases hr : rd (lst s) most with
          | none => rfl
          | some x =>
            have h2 := rd_some hr hm.2
            have := h2.1
            rw [HA.out] at this
            injection this with this
            omega
        unfold rdN rdE
        rw [hr]
        clear hr
        go_enter Tryd.func63, Tryd.ntmps63
        go_wp2_with fail
        refine q'.mono ?_
        rintro e w' ⟨rfl, hb⟩
        go_wp2
        go_ret2
        exact ⟨rfl, hb⟩
      · have q2 := fun w' ht' => itoa_any v w' hv ht'
        by_cases hi : itoaS v = s
        · have hr : rd (lst s) most = some v.toNat := rd_ok (by omega) (by omega) hm.2 (by rw [← lst_itoaS, hi])
          have hvv : ((v.toNat : Nat) : Int) = v := by omega
          unfold rdN rdE
          rw [hr]
          simp only [hvv]
          rw [hi] at q2
          clear hr hi hvv
          go_enter Tryd.func63, Tryd.ntmps63
          go_wp2_with fail
          refine q'.mono ?_
          rintro e w1 ⟨rfl, hb⟩
          have q3 := q2 w1 (HT.out.below hb)
          go_wp2_with fail
          refine q3.mono ?_
          rintro e w2 ⟨rfl, hb2⟩
          have HB := hide (hb.trans (hb2.mono hb.size))
          clear hb hb2 q3
          go_wp2
          go_ret2
          exact ⟨rfl, HB.out⟩
        · have hr : rd (lst s) most = none := by
            cases hr : rd (lst s) most with
            | none => rfl
            | some x =>
              have h2 := rd_some hr hm.2
              have h3 := h2.1
              rw [HA.out] at h3
              injection h3 with h3
              exfalso
              apply hi
              rw [lst_eq_mk (a := s) rfl, h2.2.2, ← h3]
              rfl
          have hne : ((itoaS v).toList == s.toList) = false := by
            rw [beq_eq_false_iff_ne, str_toList, str_toList]
            intro h
            refine hi ?_
            rw [lst_eq_mk (a := s) rfl, lst_eq_mk (a := itoaS v) (l := lst s) h]
          unfold rdN rdE
          rw [hr]
          clear hr hi
          generalize itoaS v = z at *
          go_enter Tryd.func63, Tryd.ntmps63
          go_wp2_with fail
          refine q'.mono ?_
          rintro e w1 ⟨rfl, hb⟩
          have q3 := q2 w1 (HT.out.below hb)
          go_wp2_with fail
          refine q3.mono ?_
          rintro e w2 ⟨rfl, hb2⟩
          have HB := hide (hb.trans (hb2.mono hb.size))
          clear hb hb2 q3
          go_wp2
          go_ret2
          exact ⟨rfl, HB.out⟩
  ·
    obtain ⟨⟨tp, p, hvar⟩, _⟩ := he
    have q := Any.strconv_Atoi_syntax_var Tryd.laysC172 s (by omega) ha tp p w hvar
    have hr : rd (lst s) most = none := by
      cases hr : rd (lst s) most with
      | none => rfl
      | some x =>
        have := (rd_some hr hm.2).1
        rw [ha] at this
        cases this
    unfold rdN rdE
    rw [hr]
    clear hr ha key ht hvar
    go_enter Tryd.func63, Tryd.ntmps63
    go_wp2_with fail
    refine q.mono ?_
    rintro e w' ⟨n, rfl, _, _, hb⟩
    go_wp2
    go_ret2
    exact ⟨rfl, hb⟩
  ·
    obtain ⟨_, tp, p, hvar⟩ := he
    have q := Tryd.strconv_Atoi_range_var s (by omega) ha tp p w hvar
    have hr : rd (lst s) most = none := by
      cases hr : rd (lst s) most with
      | none => rfl
      | some x =>
        have := (rd_some hr hm.2).1
        rw [ha] at this
        cases this
    unfold rdN rdE
    rw [hr]
    clear hr ha key ht hvar
    go_enter Tryd.func63, Tryd.ntmps63
    go_wp2_with fail
    refine q.mono ?_
    rintro e w' ⟨n, rfl, _, _, hb⟩
    go_wp2
    go_ret2
    exact ⟨rfl, hb⟩
end Go.Proofs.YteaagngikiaokaaDoor
