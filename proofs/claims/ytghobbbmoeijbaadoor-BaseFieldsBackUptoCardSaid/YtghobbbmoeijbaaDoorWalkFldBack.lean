/- BaseFieldsBack: the fields, with a colon between each two, are the text, and none of them has one. -/
import Derived.Test.YtghobbbmoeijbaaDoorFld
namespace Go.Proofs.YtghobbbmoeijbaaDoor
open Go.RowKit

theorem lst_append (a b : ByteArray) : lst (a ++ b) = lst a ++ lst b := by simp [lst]
theorem lst_inj {a b : ByteArray} (h : lst a = lst b) : a = b := by
  cases a; cases b
  simp only [lst] at h
  congr
  exact Array.toList_inj.1 h
theorem joinC_take (L : List (List UInt8)) (i : Nat) (f : List UInt8) (h : L[i]? = some f) : joinC (L.take (i + 1)) = if i = 0 then f else joinC (L.take i) ++ 58 :: f := by
  have hi : i < L.length := (List.getElem?_eq_some_iff.1 h).1
  rw [List.take_add_one, h]
  simp only [Option.toList_some]
  rw [joinC_snoc]
  by_cases h0 : i = 0
  · rw [if_pos h0, if_pos (by simp [h0])]
  · rw [if_neg h0, if_neg]
    intro e
    have := congrArg List.length e
    rw [List.length_take, List.length_nil] at this
    omega
theorem joinC_take_le (L : List (List UInt8)) (i : Nat) : (joinC (L.take i)).length ≤ (joinC L).length := by
  induction L generalizing i with
  | nil => simp
  | cons a L ih =>
    cases i with
    | zero => simp [joinC]
    | succ i =>
      rw [List.take_succ_cons]
      cases L with
      | nil => simp
      | cons b L =>
        have := ih i
        cases i with
        | zero => simp [joinC]
        | succ i =>
          rw [List.take_succ_cons] at this ⊢
          simp only [joinC, List.length_append, List.length_cons]
          omega

set_option maxRecDepth 100000 in
set_option maxHeartbeats 4000000 in
theorem law_fldback (s : ByteArray) (m : Int) (w : World) (hs : s.size ≤ 1048576) (hm : w.cell? ⟨2, 0, none⟩ = some (.int .i64 m)) :
    Calls Tryd.prog 4 #[.string s] w fun e w' => e = .returned (.bool true) ∧ Below w.heap.size w w' := by
  have hF := bfields_any s m w (by omega) hm
  go_enter Tryd.func4, Tryd.ntmps4
  go_wp2_with fail
  refine hF.mono ?_
  rintro e w1 ⟨v, ts, rfl, hown, hts, hb1⟩
  obtain ⟨A, c, rfl, hc, hcm, hcell⟩ := hown.form
  have HT := hide hts
  have HB := hide hb1
  have hpos : 0 < ts.length := by
    have := congrArg List.length hts
    rw [List.length_map] at this
    have h2 := flds_ne (lst s)
    cases hf : flds (lst s) with
    | nil => exact absurd hf h2
    | cons a r => rw [hf] at this; simp at this; omega
  have hjl : (joinC (ts.map lst)).length = s.size := by rw [hts, join_flds, lst_len]
  have HJ := hide hjl
  clear hF hown hts hb1 hjl
  unfold maxLen at hcm
  go_wp2
  go_loopw [4, 5, 6] (fun u4 u5 _ wr => ∃ (i : Nat) (tb : ByteArray), i ≤ ts.length ∧ u5 = .int .i64 (i : Int) ∧ u4 = .string tb ∧ lst tb = joinC ((ts.map lst).take i) ∧ tb.size ≤ 1048576 ∧ w1 = wr) (fun _ u5 _ _ => ts.length - (intOf u5).toNat)
  case atStart => exact ⟨0, ⟨#[]⟩, by omega, rfl, rfl, rfl, by decide, rfl⟩
  case round =>
    obtain ⟨i, tb, hi, rfl, rfl, htb, hsz, rfl⟩ := hrel
    have HTB := hide htb
    clear htb
    by_cases hlt : i < ts.length
    · have i1 : (i : Int) < (ts.length : Int) := by omega
      have i2 : (0 : Int) ≤ (i : Int) := by omega
      obtain ⟨x, hx⟩ : ∃ x, ts[i]? = some x := ⟨_, List.getElem?_eq_getElem hlt⟩
      obtain ⟨b, o, rfl, hlb, hcx⟩ := hcell i x hx
      have HX := hide hx
      clear hx
      have hmem : lst x ∈ flds (lst s) := by
        rw [← HT.out]
        exact List.mem_map.2 ⟨x, List.mem_of_getElem? HX.out, rfl⟩
      have hcl := flds_clean _ _ hmem
      have HNE := hide (show ∀ (k : Nat) (h : k < x.size), ((x[k].toNat : Int) == 58) = false from fun k h => by
        simp only [beq_eq_false_iff_ne]
        intro e
        refine hcl ?_
        have hxk := lst_get x k h
        have e2 : x[k] = 58 := UInt8.toNat_inj.1 (by have : x[k].toNat = 58 := by omega
                                                     rw [this]; rfl)
        rw [e2] at hxk
        exact List.mem_of_getElem? hxk)
      have hjt := joinC_take (ts.map lst) i (lst x) (by rw [List.getElem?_map, HX.out]; rfl)
      have hjle := joinC_take_le (ts.map lst) (i + 1)
      rw [HJ.out] at hjle
      clear hmem hcl
      by_cases hi0 : i = 0
      · subst hi0
        rw [if_pos rfl] at hjt
        rw [Nat.add_zero] at hcx
        have htb0 : tb = ⟨#[]⟩ := lst_inj (by rw [HTB.out]; rfl)
        subst htb0
        have HN := hide (show lst ((⟨#[]⟩ : ByteArray) ++ x) = joinC ((ts.map lst).take (0 + 1)) by rw [lst_append, hjt]; rfl)
        have HSZ := hide (show ((⟨#[]⟩ : ByteArray) ++ x).size ≤ 1048576 by rw [← lst_len, HN.out]; omega)
        have hxs : x.size ≤ 1048576 := by have := HSZ.out; rw [ByteArray.size_append] at this; omega
        clear hjt hjle
        go_wp2
        go_loopw [6] (fun u6 wr => ∃ k : Nat, k ≤ x.size ∧ u6 = .int .i64 (k : Int) ∧ w1 = wr) (fun u6 _ => x.size - (intOf u6).toNat)
        case atStart => exact ⟨0, by omega, rfl, rfl⟩
        case round =>
          obtain ⟨k, hk, rfl, rfl⟩ := hrel
          by_cases hkl : k < x.size
          · have j1 : (k : Int) < (x.size : Int) := by omega
            have j2 : (0 : Int) ≤ (k : Int) := by omega
            have hne := HNE.out k hkl
            go_wp2
            go_roundw
            case rel => exact ⟨k + 1, by omega, by go_num, by first | rfl | trivial⟩
            case measure => simp [intOf]; omega
          · have j1 : ¬ (k : Int) < (x.size : Int) := by omega
            go_wp2
            go_roundw
            case rel => exact ⟨0 + 1, (⟨#[]⟩ : ByteArray) ++ x, by omega, by go_num, rfl, HN.out, HSZ.out, by first | rfl | trivial⟩
            case measure => simp [intOf]; omega
      · have hg : (i : Int) > 0 := by omega
        rw [if_neg hi0] at hjt
        have HN := hide (show lst (tb ++ ⟨#[58]⟩ ++ x) = joinC ((ts.map lst).take (i + 1)) by rw [lst_append, lst_append, hjt, HTB.out]; simp [lst])
        have HSZ := hide (show (tb ++ ⟨#[58]⟩ ++ x).size ≤ 1048576 by rw [← lst_len, HN.out]; omega)
        have hxs : x.size ≤ 1048576 := by have := HSZ.out; rw [ByteArray.size_append] at this; omega
        clear hjt hjle
        go_wp2
        go_loopw [6] (fun u6 wr => ∃ k : Nat, k ≤ x.size ∧ u6 = .int .i64 (k : Int) ∧ w1 = wr) (fun u6 _ => x.size - (intOf u6).toNat)
        case atStart => exact ⟨0, by omega, rfl, rfl⟩
        case round =>
          obtain ⟨k, hk, rfl, rfl⟩ := hrel
          by_cases hkl : k < x.size
          · have j1 : (k : Int) < (x.size : Int) := by omega
            have j2 : (0 : Int) ≤ (k : Int) := by omega
            have hne := HNE.out k hkl
            go_wp2
            go_roundw
            case rel => exact ⟨k + 1, by omega, by go_num, by first | rfl | trivial⟩
            case measure => simp [intOf]; omega
          · have j1 : ¬ (k : Int) < (x.size : Int) := by omega
            go_wp2
            go_roundw
            case rel => exact ⟨i + 1, tb ++ ⟨#[58]⟩ ++ x, by omega, by go_num, rfl, HN.out, HSZ.out, by first | rfl | trivial⟩
            case measure => simp [intOf]; omega
    · have hin : i = ts.length := by omega
      have hts : tb = s := lst_inj (by
        rw [HTB.out, hin, List.take_of_length_le (by simp), HT.out, join_flds])
      have h1 : (ts.length : Int) > 0 := by omega
      have h2 : ¬ (i : Int) < (ts.length : Int) := by omega
      subst hts
      clear hin
      go_wp2
      go_ret
      exact ⟨rfl, HB.out⟩
end Go.Proofs.YtghobbbmoeijbaaDoor
