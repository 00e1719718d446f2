/- Contracts of the code: Decode, Make, Odd of blocks that are in order; numbers that are chosen. -/
import Derived.Test.YtoaaplngdomdcaaRsG
import Derived.Test.YtoaaplngdomdcaaMxP
namespace Go.Proofs.Ytoaaplngdomdcaa
open Go.RowKit

theorem OwnL.low_ {w : World} {b b' : Nat} {e E : TypeId} {v : Value} {L : List (List UInt8)} (h : OwnL w b e E v L) (hb : b' ≤ b) : OwnL w b' e E v L := by
  obtain ⟨xs, h1, h2⟩ := h
  refine ⟨xs, ⟨h1.1, h1.2.imp id ?_⟩, fun i l hl => ?_⟩
  · rintro ⟨g, cap, cur, hv, hg, r⟩
    exact ⟨g, cap, cur, hv, by omega, r⟩
  · obtain ⟨x, hx, ho⟩ := h2 i l hl
    exact ⟨x, hx, ho.mono_ hb⟩
/-- What block i of those that come back holds at place t. -/
def decE (k : Nat) (L : List Nat) (B : Nat → Nat → UInt8) (i t : Nat) : UInt8 := mixs (F8.invM k (fun a b => ent k (L.getD a 0) b) i) B k t
theorem decE_back {k : Nat} (L : List Nat) (D : Nat → Nat → UInt8) (hk : k ≤ 256) (hI : ∀ i j, i < k → j < k → L.getD i 0 = L.getD j 0 → i = j) (hb : ∀ i, i < k → L.getD i 0 < 256) {i : Nat} (t : Nat) (hi : i < k) :
    decE k L (fun j t => encE k D (L.getD j 0) t) i t = D i t :=
  code_back (fun a => L.getD a 0) hk hI hb (fun l => D l t) hi
theorem getD_of {L : List Nat} {i r : Nat} (h : L[i]? = some r) : L.getD i 0 = r := by rw [List.getD_eq_getElem?_getD, h]; rfl
theorem getD_some {L : List Nat} {i : Nat} (h : i < L.length) : L[i]? = some (L.getD i 0) := by rw [List.getD_eq_getElem?_getD, List.getElem?_eq_getElem h]; rfl
/-- Numbers that are k, unlike, below n. -/
def Nums (k n : Nat) (L : List Nat) : Prop := L.length = k ∧ (∀ (i r : Nat), L[i]? = some r → r < n) ∧ ∀ (i j r : Nat), L[i]? = some r → L[j]? = some r → i = j
theorem Nums.inj {k n : Nat} {L : List Nat} (h : Nums k n L) : ∀ i j, i < k → j < k → L.getD i 0 = L.getD j 0 → i = j := fun i j hi hj e => by
  have e1 := getD_some (L := L) (i := i) (by have := h.1; omega)
  have e2 := getD_some (L := L) (i := j) (by have := h.1; omega)
  rw [e] at e1
  exact h.2.2 i j _ e1 e2
theorem Nums.lt {k n : Nat} {L : List Nat} (h : Nums k n L) : ∀ i, i < k → L.getD i 0 < n := fun i hi => h.2.1 i _ (getD_some (by have := h.1; omega))

set_option maxRecDepth 100000 in
set_option maxHeartbeats 4000000 in
theorem decode_ok (gc k n m : Nat) (vn vb : Value) (L : List Nat) (B : Nat → Nat → UInt8) (w : World) (hc : Cd w gc k n) (h1 : 1 ≤ k) (h2 : k ≤ n) (h3 : n ≤ 255) (hv : Ny w .i64 vn L) (hN : Nums k n L) (hb : Ls w vb (rowsOf m B k)) (hm : m ≤ 140737488355328) :
    Calls Try.prog 54 #[.pointer (some ⟨gc, 0, none⟩), vn, vb] w fun e w' => ∃ v, e = .returned (.tuple #[v, .int .i64 0]) ∧ OwnL w' w.heap.size 5 38 v (rowsOf m (decE k L B) k) ∧ Below w.heap.size w w' := by
  have q1 := cmade_any gc k n w hc
  have q2 := look_ok gc k n vn vb L _ w hc (by omega) h1 hv hN.1 hN.2.1 hN.2.2 hb (rowsOf_length ..) (evenB_rows m k B)
  have HC := hide (And.intro hc (And.intro hv (And.intro hb hN)))
  have hfull := code_full (fun a => L.getD a 0) (by omega : k ≤ 256) hN.inj (fun i hi => by have := hN.lt i hi; omega)
  have HF := hide hfull
  obtain ⟨g, base, hg1, hg2⟩ := hc
  have hcg : w.cell? ⟨gc, 0, none⟩ = some (.pointer (some ⟨g, 0, none⟩)) := by rw [hg1.cell]; rfl
  have hgl := hg1.lt
  have HG := hide (MB.mt_of hg2)
  obtain ⟨E, e, rfl, _, _, _⟩ := hv.form
  obtain ⟨B', d, rfl, _, _, _⟩ := hb.form
  rw [rowsOf_length] at *
  rw [hN.1] at *
  clear hv hb hg1 hg2 hfull
  go_enter Try.func54, Try.ntmps54
  go_wp2_with fail
  refine q1.mono ?_
  rintro e w' ⟨rfl, rfl⟩
  go_wp2_with fail
  refine q2.mono ?_
  rintro e w1 ⟨rfl, hb1⟩
  clear q1 q2
  have hcg1 : w1.cell? ⟨gc, 0, none⟩ = some (.pointer (some ⟨g, 0, none⟩)) := (hb1.cell (p := ⟨gc, 0, none⟩) hgl).trans hcg
  have q3 := MB.pick_ok g _ L (HG.out.below hb1) (HC.out.2.1.below hb1) (by rw [hN.1]; omega) hN.2.1 (by omega)
  rw [hN.1] at q3
  go_wp2_with fail
  refine q3.mono ?_
  rintro e w2 ⟨z, rfl, hz, hb2⟩
  have hbw2 := hb1.trans (hb2.mono hb1.size)
  have q4 := MB.inverse_c hz (trivial : MB.Fk w2) (by omega)
  clear q3
  go_wp2_with fail
  refine q4.mono ?_
  rintro e w3 ⟨hb3, ⟨hr, x, rfl, hx⟩ | ⟨hr, _⟩⟩
  case inr => exact absurd HF.out hr
  have hbw3 := hbw2.trans (hb3.mono hbw2.size)
  have q5 := ck_any gc k n w3 (HC.out.1.below hbw3) (by omega)
  have HX := hide hx
  clear q4 hx hz hr hb3 hb2 HF
  go_wp2_with fail
  refine q5.mono ?_
  rintro e w' ⟨rfl, rfl⟩
  clear q5
  go_wp2_with fail
  go_loopw [12, 13, 44] (fun u12 _ u44 wr => ∃ i : Nat, i ≤ k ∧ u44 = .int .i64 (i : Int) ∧ OwnL wr w3.heap.size 5 38 u12 (rowsOf m (decE k L B) i) ∧ Below w3.heap.size w3 wr) (fun _ _ u44 _ => k - (intOf u44).toNat)
  case atStart => exact ⟨0, by omega, rfl, OwnL.nil _ _ _ _, Below.refl _ _⟩
  case round =>
    obtain ⟨i, hi, rfl, hown, hbel⟩ := hrel
    have HO := hide hown
    clear hown
    by_cases hlt : i < k
    · have i1 : (i : Int) < (k : Int) := by omega
      have q := row_c x k k (F8.invM k (fun a b => ent k (L.getD a 0) b)) i wr (HX.out.below hbel) hlt (by omega)
      go_wp2_with fail
      refine q.mono ?_
      rintro e w4 ⟨vr, rfl, hor, hb4⟩
      have hbw4 := (hbw3.trans (hbel.mono hbw3.size)).trans (hb4.mono (Nat.le_trans hbw3.size hbel.size))
      have q5 := mixed_any vr _ k m (F8.invM k (fun a b => ent k (L.getD a 0) b) i) B w4 hor.by_ (HC.out.2.2.1.below hbw4) ⟨h1, by omega⟩ hm
      go_wp2_with fail
      refine q5.mono ?_
      rintro e w5 ⟨vx, rfl, hox, hb5⟩
      have hbw5 := hbw4.trans (hb5.mono hbw4.size)
      have hbr5 := hbel.trans ((hb4.trans (hb5.mono hb4.size)).mono hbel.size)
      obtain ⟨xs, hxs, hxl⟩ := (HO.out.below hb4).below hb5
      obtain ⟨A1, c1, hv1, _⟩ := hox.by_.form
      rw [List.length_map, List.length_range] at hv1
      subst hv1
      have H3 := hide (And.intro hxs (And.intro hxl (And.intro (hox.mono_ (Nat.le_trans hbel.size hb4.size)) hbr5)))
      have HLR := hide (rowsOf_length m (decE k L B) i)
      clear hxs hxl hox q5 hb4 hb5 hor q hbr5
      go_wp2_with (at_builtin; go_loud (refine wpList_push1 elemL H3.out.1 H3.out.2.2.2 H3.out.2.2.2.size (by rw [HLR.out]; unfold maxLen; omega) (by rw [HLR.out]; omega) (.slice A1 m c1) rfl rfl _ _ rfl rfl rfl ?_); intro v1 w6 ho6 hb6 _ hg6 _; have HP6 := hide (OwnL.pushed (by decide) H3.out.1 H3.out.2.1 H3.out.2.2.1 ho6 hg6); have HB6 := hide hb6; clear ho6 hg6)
      go_roundw
      case rel => exact ⟨i + 1, by omega, by go_num, by rw [rowsOf_succ]; exact HP6.out, HB6.out⟩
      case measure => simp [intOf]; omega
    · have hin : i = k := by omega
      subst hin
      have HB := hide (hbw3.trans (hbel.mono hbw3.size))
      go_wp2
      go_ret2
      exact ⟨_, rfl, HO.out.low_ hbw3.size, HB.out⟩
end Go.Proofs.Ytoaaplngdomdcaa
