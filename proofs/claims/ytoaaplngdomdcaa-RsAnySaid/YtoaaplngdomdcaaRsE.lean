/- Contracts of the statements' helpers on codes: pieces of a list. -/
import Derived.Test.YtoaaplngdomdcaaRsD
namespace Go.Proofs.Ytoaaplngdomdcaa
open Go.RowKit

/-- A list cut into k pieces of n. -/
def pieceD (l : List UInt8) (n : Nat) (i t : Nat) : UInt8 := l.getD (i * n + t) 0

/-- A list of lists: the row is of the call's own, what lies in it was there. -/
def OV (w0 w : World) (base : Nat) (E : TypeId) (v : Value) (L : List (List UInt8)) : Prop :=
  ∃ xs, w.ownsRow base E 1 v L.length xs ∧ ∀ (i : Nat) (l : List UInt8), L[i]? = some l → ∃ x, xs[i]? = some x ∧ By w0 x l
theorem OV.nil (w0 w : World) (base : Nat) (E : TypeId) : OV w0 w base E (.slice none 0 0) [] := ⟨[], World.ownsRow_nil w base E 1, fun i l h => by simp at h⟩
theorem OV.ls {w0 w : World} {base : Nat} {E : TypeId} {v : Value} {L : List (List UInt8)} (h : OV w0 w base E v L) (hb : Below w0.heap.size w0 w) : Ls w v L := by
  obtain ⟨xs, h1, h2⟩ := h
  refine ⟨xs, Sl.of_own h1, fun i l hl => ?_⟩
  obtain ⟨x, hx, ho⟩ := h2 i l hl
  exact ⟨x, hx, ho.below hb⟩
theorem OV.below {w0 w w' : World} {base : Nat} {E : TypeId} {v : Value} {L : List (List UInt8)} (h : OV w0 w base E v L) (hb : Below w.heap.size w w') : OV w0 w' base E v L := by
  obtain ⟨xs, h1, h2⟩ := h
  exact ⟨xs, own_below' h1 hb, h2⟩
theorem OV.pushed {w0 w w' : World} {base : Nat} {E : TypeId} {v v' u : Value} {L : List (List UInt8)} {l : List UInt8} {xs : List Value} (h1 : w.ownsRow base E 1 v L.length xs)
    (h2 : ∀ (i : Nat) (l : List UInt8), L[i]? = some l → ∃ x, xs[i]? = some x ∧ By w0 x l) (hu : By w0 u l) (h' : w'.ownsRow base E 1 v' (L.length + 1) (xs ++ [u])) : OV w0 w' base E v' (L ++ [l]) := by
  have hl := h1.1
  refine ⟨xs ++ [u], by simpa using h', fun i m hm => ?_⟩
  by_cases hi : i < L.length
  · rw [List.getElem?_append_left hi] at hm
    obtain ⟨x, hx, ho⟩ := h2 i m hm
    exact ⟨x, by rw [List.getElem?_append_left (by omega)]; exact hx, ho⟩
  · rw [List.getElem?_append_right (by omega)] at hm
    have hi2 : i = L.length := by
      rcases Nat.lt_or_ge L.length i with h | h
      · rw [List.getElem?_eq_none (by simp; omega)] at hm; cases hm
      · omega
    subst hi2
    rw [Nat.sub_self] at hm
    injection hm with hm
    subst hm
    exact ⟨u, by rw [List.getElem?_append_right (by omega), show L.length - xs.length = 0 by omega]; rfl, hu⟩

/-- A part of a slice. -/
theorem By.part {w : World} {b o c : Nat} {l : List UInt8} (h : By w (.slice (some ⟨b, o, none⟩) l.length c) l) (lo m : Nat) (hm : lo + m ≤ l.length) (d : Nat) (hd : m ≤ d) (hdm : d ≤ maxLen) :
    By w (.slice (some ⟨b, o + lo, none⟩) m d) ((l.drop lo).take m) := by
  have hlen : ((l.drop lo).take m).length = m := by simp; omega
  obtain ⟨A, c', he, h1, h2, h3⟩ := h.form
  injection he with e1 _ _
  refine ⟨by rw [bcells_length]; simp, some ⟨b, o + lo, none⟩, d, by rw [hlen], by rw [hlen]; exact hd, hdm, fun h0 => ?_⟩
  rw [hlen] at h0
  obtain ⟨b', o', hA, hlt, _⟩ := h3 0 _ (List.getElem?_eq_getElem (show 0 < l.length by omega))
  rw [← e1] at hA
  injection hA with hA
  injection hA with hb ho _
  subst hb ho
  refine ⟨b, o + lo, rfl, hlt, fun j hj => ?_⟩
  rw [hlen, Nat.mul_one] at hj
  obtain ⟨b', o', hA, _, hc⟩ := h3 (lo + j) _ (List.getElem?_eq_getElem (show lo + j < l.length by omega))
  rw [← e1] at hA
  injection hA with hA
  injection hA with hb ho _
  subst hb ho
  rw [show o + lo + j = o + (lo + j) by omega, hc, bcells_get, List.getElem?_take_of_lt hj, List.getElem?_drop, List.getElem?_eq_getElem (show lo + j < l.length by omega)]
  rfl
theorem piece_eq (l : List UInt8) (n i : Nat) (h : i * n + n ≤ l.length) : (l.drop (i * n)).take n = (List.range n).map (pieceD l n i) := by
  apply List.ext_getElem?
  intro t
  by_cases ht : t < n
  · rw [List.getElem?_take_of_lt ht, List.getElem?_drop, List.getElem?_map, List.getElem?_range ht, List.getElem?_eq_getElem (by omega)]
    simp only [Option.map_some, pieceD]
    rw [List.getD_eq_getElem?_getD, List.getElem?_eq_getElem (by omega)]
    rfl
  · rw [List.getElem?_eq_none (by simp; omega), List.getElem?_eq_none (by simp; omega)]

set_option maxRecDepth 100000 in
set_option maxHeartbeats 1600000 in
theorem leven_any (k : Nat) (vb : Value) (l : List UInt8) (w : World) (hb : By w vb l) (hk : 1 ≤ k) (hk2 : k ≤ 255) (hl : l.length ≤ 140737488355328) :
    Calls Try.prog 26 #[.int .i64 (k : Int), vb] w fun e w' => ∃ v, e = .returned v ∧ OV w w' w.heap.size 38 v (rowsOf (l.length / k) (pieceD l (l.length / k)) k) ∧ Below w.heap.size w w' := by
  have HB := hide hb
  obtain ⟨A, c, rfl, hlc, hcm, hcell⟩ := hb.form
  unfold maxLen at hcm
  have hq : (l.length : Int).tdiv (k : Int) = ((l.length / k : Nat) : Int) := rfl
  have hnk : (l.length / k) * k ≤ l.length := Nat.div_mul_le_self _ _
  have i0 : ((k : Int) == 0) = false := by simp; omega
  have i00 : ¬ k = 0 := by omega
  obtain ⟨n, hn⟩ : ∃ n, n = l.length / k := ⟨_, rfl⟩
  rw [← hn] at hq hnk ⊢
  have hq2 : (l.length : Int) / (k : Int) = (n : Int) := by rw [hn]; rfl
  have hwq : IntKind.i64.wrap (n : Int) = (n : Int) := by
    have : n ≤ n * k := Nat.le_mul_of_pos_right _ (by omega)
    simp [IntKind.wrap, IntKind.bits, IntKind.signed]; omega
  have hpos : 0 < n → ∃ b o, A = some ⟨b, o, none⟩ := fun h => by
    have : 0 < l.length := Nat.lt_of_lt_of_le (Nat.mul_pos h hk) hnk
    obtain ⟨b, o, hA, _⟩ := hcell 0 _ (List.getElem?_eq_getElem this)
    exact ⟨b, o, hA⟩
  clear hb hcell hn
  go_enter Try.func26, Try.ntmps26
  go_wp2
  go_loopw [5, 7] (fun u5 u7 wr => ∃ i : Nat, i ≤ k ∧ u7 = .int .i64 (i : Int) ∧ OV w wr w.heap.size 38 u5 (rowsOf n (pieceD l n) i) ∧ Below w.heap.size w wr) (fun _ u7 _ => k - (intOf u7).toNat)
  case atStart => exact ⟨0, by omega, rfl, OV.nil _ _ _ _, Below.refl _ _⟩
  case round =>
    obtain ⟨i, hi, rfl, hown, hbel⟩ := hrel
    have HO := hide hown
    clear hown
    by_cases hlt : i < k
    · have i1 : (i : Int) < (k : Int) := by omega
      have hin : i * n + n ≤ l.length := by
        have : (i + 1) * n ≤ k * n := Nat.mul_le_mul_right _ hlt
        rw [Nat.succ_mul, Nat.mul_comm k n] at this
        omega
      have HP := hide (piece_eq l n i hin)
      have HLR := hide (rowsOf_length n (pieceD l n) i)
      have hw1 : IntKind.i64.wrap ((i : Int) * (n : Int)) = ((i * n : Nat) : Int) := by
        rw [← Int.natCast_mul]
        simp [IntKind.wrap, IntKind.bits, IntKind.signed]
        omega
      generalize i * n = P at *
      obtain ⟨Q, hQ⟩ : ∃ Q, Q = P + n := ⟨_, rfl⟩
      have hw2 : IntKind.i64.wrap ((P : Int) + (n : Int)) = (Q : Int) := by
        simp [IntKind.wrap, IntKind.bits, IntKind.signed]
        omega
      have j1 : (0 : Int) ≤ (P : Int) := by omega
      have j2 : (P : Int) ≤ (Q : Int) := by omega
      have j3 : (Q : Int) ≤ (c : Int) := by omega
      have hQP : Q - P = n := by omega
      have HQ := hide hQ
      clear hQ
      obtain ⟨xs, hxs, hxl⟩ := HO.out
      have HX := hide (And.intro hxs hxl)
      clear hxs hxl
      have hu0 : n = 0 → ∀ X d, d ≤ c → By w (.slice X n d) ((List.range n).map (pieceD l n i)) := fun h X d hd => by
        subst h
        exact ⟨by simp, X, d, rfl, Nat.zero_le _, by unfold maxLen; omega, fun h => absurd h (by simp)⟩
      have hu1 : ∀ b o, A = some ⟨b, o, none⟩ → By w (.slice (some ⟨b, o + P, none⟩) n (c - P)) ((List.range n).map (pieceD l n i)) := fun b o hA => by
        rw [← HP.out]
        have h := HB.out
        rw [hA] at h
        exact h.part P n hin _ (by omega) (by unfold maxLen; omega)
      have HU0 := hide hu0
      have HU1 := hide hu1
      clear hu0 hu1 HP
      rcases Nat.eq_zero_or_pos n with hn0 | hn0
      · have HN0 := hide hn0
        clear hn0 hpos HU1
        rcases A with _ | ad
        · go_wp2_with (at_builtin; go_loud (refine wpList_push1 elemL HX.out.1 hbel hbel.size (by rw [HLR.out]; unfold maxLen; omega) (by rw [HLR.out]; omega) (.slice none n (c - P)) rfl rfl _ _ rfl rfl rfl ?_); intro v1 w4 ho4 hb4 _ hg4 _; have HP4 := hide (OV.pushed HX.out.1 HX.out.2 (HU0.out HN0.out _ _ (Nat.sub_le _ _)) ho4); clear ho4 hg4)
          go_roundw
          case rel => exact ⟨i + 1, by omega, by go_num, by rw [rowsOf_succ]; exact HP4.out, hb4⟩
          case measure => simp [intOf]; omega
        · by_cases hPc : P = c
          · subst hPc
            go_wp2_with (at_builtin; go_loud (refine wpList_push1 elemL HX.out.1 hbel hbel.size (by rw [HLR.out]; unfold maxLen; omega) (by rw [HLR.out]; omega) (.slice (some ad) n 0) rfl rfl _ _ rfl rfl rfl ?_); intro v1 w4 ho4 hb4 _ hg4 _; have HP4 := hide (OV.pushed HX.out.1 HX.out.2 (HU0.out HN0.out _ _ (Nat.zero_le _)) ho4); clear ho4 hg4)
            go_roundw
            case rel => exact ⟨i + 1, by omega, by go_num, by rw [rowsOf_succ]; exact HP4.out, hb4⟩
            case measure => simp [intOf]; omega
          · have hPc2 : ¬ c = P := by omega
            go_wp2_with (at_builtin; go_loud (refine wpList_push1 elemL HX.out.1 hbel hbel.size (by rw [HLR.out]; unfold maxLen; omega) (by rw [HLR.out]; omega) (.slice _ n (c - P)) rfl rfl _ _ rfl rfl rfl ?_); intro v1 w4 ho4 hb4 _ hg4 _; have HP4 := hide (OV.pushed HX.out.1 HX.out.2 (HU0.out HN0.out _ _ (Nat.sub_le _ _)) ho4); clear ho4 hg4)
            go_roundw
            case rel => exact ⟨i + 1, by omega, by go_num, by rw [rowsOf_succ]; exact HP4.out, hb4⟩
            case measure => simp [intOf]; omega
      · obtain ⟨b, o, rfl⟩ := hpos hn0
        have hPc : ¬ c = P := by omega
        have hPc2 : ¬ P = c := by omega
        have hby := HU1.out b o rfl
        have HBY := hide hby
        clear hby HU1 HU0 hpos
        go_wp2_with (at_builtin; go_loud (refine wpList_push1 elemL HX.out.1 hbel hbel.size (by rw [HLR.out]; unfold maxLen; omega) (by rw [HLR.out]; omega) (.slice (some ⟨b, o + P, none⟩) n (c - P)) rfl rfl _ _ rfl rfl rfl ?_); intro v1 w4 ho4 hb4 _ hg4 _; have HP4 := hide (OV.pushed HX.out.1 HX.out.2 HBY.out ho4); clear ho4 hg4)
        go_roundw
        case rel => exact ⟨i + 1, by omega, by go_num, by rw [rowsOf_succ]; exact HP4.out, hb4⟩
        case measure => simp [intOf]; omega
    · have hik : i = k := by omega
      have hO := HO.out
      rw [hik] at hO
      clear HO hik
      have HO := hide hO
      clear hO
      go_wp2
      go_ret
      exact ⟨_, rfl, HO.out, hbel⟩
end Go.Proofs.Ytoaaplngdomdcaa
