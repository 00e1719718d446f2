import Derived.Test.YtdohebhbiokljaaGreatDoorJ18
import Derived.Test.YtdohebhbiokljaaGreatDoorJ21
import Derived.Test.YtdohebhbiokljaaGreatDoorJ6
import Derived.Laws.BitsAllLaws
import Derived.Test.YtdohebhbiokljaaGreatDoorJ1
import Derived.ProofKit
import Derived.OpenShut
import Derived.ShutString
import Derived.ChangeOld
import Derived.SizedLaws
import Derived.JoinedCond
import Derived.Deep.CondSized
import Derived.Test.YtdohebhbiokljaaGreatDoorRows
import Derived.Test.YtdohebhbiokljaaGreatDoorJ7
import Derived.ChangeShapes
import Derived.WideShapes
import Derived.Test.YtdohebhbiokljaaGreatDoorJ10
import Derived.Deep.Slices
set_option linter.all false
namespace Go.Proofs.YtdohebhbiokljaaGreatDoor
open Go.RowKit Exs
theorem dg_flat : ∀ {L : List (List UInt8)}, Dg L → L.flatten.length = 32 * L.length
 | [], _ => rfl
 | x :: L, h => by
  have h1 : x.length = 32 := h x (by simp)
  have h2 := dg_flat (L := L) (fun y hy => h y (by simp [hy]))
  simp only [List.flatten_cons, List.length_append, List.length_cons]
  omega
theorem packS_le {s : SS} (hw : s.f.wf) (ho : okS s) : 0 < (packS s).length ∧ (packS s).length ≤ 40000000 := by
 obtain ⟨⟨hm, h1, h2, h3, h4, h5⟩, h6⟩ := ho
 have hb := u_bounds hm
 have hu := writeU_len2 hw.1 hm
 have k1 := dg_flat hw.2.1
 have k2 := dg_flat hw.2.2.1
 have k3 := dg_flat hw.2.2.2
 have hs := lens_sum hb.1
 have hf := flat_sum s.data
 rw [h6, hs] at hf
 have hk : (SG s.f.u - 1) * BL s.f.u ≤ 512 * 65536 := Nat.mul_le_mul (by omega) hb.2.2.1
 unfold packS packF
 simp only [List.length_append, hdF_length]
 omega
set_option maxHeartbeats 1000000 in
theorem copyb_any (v : Value) (l : List UInt8) (w : World) (h : By w v l) (hl : l.length ≤ 140737488355000) :
  Calls Tryz.prog 16 #[v] w fun e w' => ∃ v', e = .returned v' ∧ Own w' w.heap.size 5 v' l ∧ Below w.heap.size w w' := by
 obtain ⟨A, c, rfl, hc, hm, -⟩ := h.form
 have HV := hide h
 clear h
 go_enter Tryz.func16, Tryz.ntmps16
 go_wp2_with (at_builtin; go_loud (refine wpList_pushV (l := []) elem8 (Own.nil w w.heap.size _) (Below.refl _ w) (Nat.le_refl _) HV.out (by simp; omega) rfl _ _ rfl rfl rfl ?_); intro v1 w1 o1 b1 _ _)
 go_ret
 exact ⟨_, rfl, o1, b1⟩
theorem turned_ne {l : List UInt8} {k : Nat} {x y : UInt8} (hx : l[k]? = some x) (hy : y ≠ 0) : l.set k (x ^^^ y) ≠ l := fun h => by
 obtain ⟨hk, hx'⟩ := List.getElem?_eq_some_iff.1 hx
 have h1 : (l.set k (x ^^^ y))[k]? = some (x ^^^ y) := by rw [List.getElem?_set_self hk]
 rw [h, hx] at h1
 injection h1 with h1
 refine hy ?_
 have h2 : x ^^^ x = x ^^^ (x ^^^ y) := congrArg (x ^^^ ·) h1
 rw [UInt8.xor_self, ← UInt8.xor_assoc, UInt8.xor_self, UInt8.zero_xor] at h2
 exact h2.symm
theorem uebNeq (u u' : US) (hu : u.wf) (hu' : u'.wf) (w : World) : (binOp .neq 25 (.agg u.cells) (.agg u'.cells)).run Tryz.prog w = .ok (.bool (decide (u ≠ u'))) w := by
 rw [run_neq_struct, run_equalIn_agg w 9999 25 _ _ (by kernel_rfl) (by kernel_rfl), ueb_eqlF 9997 u u' hu hu' w]
 by_cases h : u = u' <;> simp [Result.andThen, h]
theorem Ds.one1 {w : World} {v : Value} {L : List (List UInt8)} (h : Ds w v L) : v.oneCell' = true := by
 obtain ⟨A, c, rfl, _⟩ := h.1.form
 rfl
theorem ShV.open1 {w : World} {v : Value} {s : SS} (h : ShV w v s) (hw : s.f.wf) : ∃ S : Array Value, v = .agg S ∧ S.size = 73 ∧ S.all (·.oneCell') = true ∧
  (∀ (W : World) (g : Nat) (t : TypeId), Blk W g t S → W.rangeAt g 0 S.toList ∧ W.rangeAt g 1 s.f.u.cells.toList ∧ W.cell? ⟨g, 0, none⟩ = some (.int .i64 s.f.num)) := by
 obtain ⟨a, b, c, d, LD, rfl, h1, h2, h3, h4, h5⟩ := h
 have hd : d.oneCell' = true := by
  obtain ⟨A, k, rfl, _⟩ := h4.1.form
  rfl
 exact ⟨_, rfl, shC_size hw.1, shC_one hw.1 h1.one1 h2.one1 h3.one1 hd, fun W g t hb => by
  obtain ⟨r0, -, r1, r2, -⟩ := Blk.share2 hw.1 hb
  exact ⟨r0, r1, r2⟩⟩
set_option maxRecDepth 100000 in
set_option maxHeartbeats 8000000 in
theorem law_shareturned (s : SS) (v : Value) (x : Int) (y : UInt8) (w : World) (hv : ShV w v s) (hw : s.f.wf) (hi : s.f.u.in64) (hx : -9223372036854775808 ≤ x ∧ x ≤ 9223372036854775807) (ht : Tab w) (he : Err w) :
  Calls Tryz.prog 4 #[v, .int .i64 x, .int .u8 (y.toNat : Int)] w fun e w' => e = .returned (.bool true) ∧ Below w.heap.size w w' := by
 obtain ⟨f, data⟩ := s
 have hv0 := hv
 obtain ⟨va, vb, vc, vd, LD, rfl, d1, d2, d3, d4, hLD⟩ := hv
 simp only at *
 have hsh := fun W g t (h : Blk W g t (shC f.num f.u va vb vc vd)) => Blk.share2 hw.1 h
 obtain ⟨S1, hS1, z1⟩ : ∃ S, S = shC f.num f.u va vb vc vd ∧ S.size = 73 := ⟨_, rfl, by
  have := frC_size (num := f.num) (a := va) (b := vb) (c := vc) hw.1
  unfold shC
  simp [this]⟩
 have z5 : f.u.cells.size = 68 := US.size_ hw.1
 obtain ⟨U1, hU1⟩ : ∃ U, U = f.u.cells := ⟨_, rfl⟩
 obtain ⟨na, hna⟩ : ∃ x, x = f.num := ⟨_, rfl⟩
 rw [← hS1] at hv0 ⊢
 rw [← hU1] at z5
 simp only [← hS1, ← hU1] at hsh
 have HZ := hide (And.intro z1 z5)
 have b0 := (Below.refl w.heap.size w).alloc (Nat.le_refl _) (.cells S1 31)
 have n0 := Blk.new w 31 S1
 have HQ := hide (And.intro (hv0.below b0) (And.intro (ht.below b0) (he.below b0)))
 have HB0 := hide b0
 generalize hW0 : w.alloc (.cells S1 31) = W0 at *
 have HR := hide (fun W (hW : Below W0.heap.size W0 W) => hsh W _ _ (n0.below' hW))
 rw [← hna] at HR
 have HI := hide (fun W (hW : Below W0.heap.size W0 W) => And.intro (HQ.out.1.below hW) (And.intro (HQ.out.2.1.below hW) (HQ.out.2.2.below hW)))
 have HIN := hide (And.intro hw (And.intro hi (And.intro hU1 (And.intro hna hx))))
 obtain ⟨zs, hzs, hzs1, hzs2⟩ : ∃ Z, Z = ZS ∧ Z.size = 73 ∧ Z.all (·.oneCell') = true := ⟨_, rfl, ZS_size, ZS_one⟩
 have hz := ZS_zero
 rw [← hzs] at hz
 have HZS := hide (And.intro hzs1 (And.intro hzs2 hzs))
 clear hv0 d1 d2 d3 d4 hLD hsh hS1 z1 z5 hU1 hna b0 n0 hw hi ht he HQ hx hzs hzs1 hzs2
 go_enter Tryz.func4, Tryz.ntmps4
 go_wp2_with fail
 refine (lives_any W0 (HI.out W0 (Below.refl _ _)).2.1).mono ?_
 rintro e w1 ⟨b1, rfl⟩
 have B1 := hide b1
 clear b1
 go_wp2_with (first
  | ((with_reducible change wpList _ _ _ (⟨some 17, _, _, _, _, _⟩ :: _) _ _); go_loud (refine wpList_load_midF (by rfl) 31 _ rfl (w.heap.size) 0 rfl S1 _ (HR.out w1 B1.out).1 Tryz.underlying31 rfl (by rw [HZ.out.1]; kernel_rfl) ?_)))
 refine (pack_any_share ⟨f, data⟩ (.agg S1) w1 HIN.out.1 HIN.out.2.1 (HI.out w1 B1.out).1 (HI.out w1 B1.out).2.1).mono ?_
 rintro e w2 ⟨b2, ⟨hok, A, c, rfl, hown⟩ | ⟨hno, rfl⟩⟩
 case inr =>
  have B2 := hide (Below.step B1.out b2)
  clear b2 hno
  go_wp2
  go_ret
  exact ⟨rfl, Below.step HB0.out B2.out⟩
 have B2 := hide (Below.step B1.out b2)
 have O2 := hide hown.by_
 have hpl := packS_le HIN.out.1 hok
 have HOK := hide hok
 clear b2 hown hok
 obtain ⟨l, hl⟩ : ∃ l, l = packS ⟨f, data⟩ := ⟨_, rfl⟩
 rw [← hl] at O2 hpl ⊢
 have HL := hide hl
 obtain ⟨n, hn⟩ : ∃ n, n = l.length := ⟨_, rfl⟩
 rw [← hn] at hpl O2 ⊢
 have HN := hide (And.intro hn hpl)
 have hne : ((n : Int) == 0) = false := by simp; omega
 clear hl hn hpl
 by_cases hy : y = 0
 ·subst hy
  go_wp2
  go_ret
  exact ⟨rfl, Below.step HB0.out B2.out⟩
 have hy2 : ((y.toNat : Int) == 0) = false := by
  have : y.toNat ≠ 0 := fun h => hy (by
   have := UInt8.toNat_inj.1 (show y.toNat = (0 : UInt8).toNat from h)
   exact this)
  simp; omega
 go_wp2_with (first
  | ((with_reducible change wpList _ _ _ (⟨some 28, _, _, _, _, _⟩ :: _) _ _); go_loud (refine wpList_load_midF (by rfl) 31 _ rfl (w.heap.size) 0 rfl S1 _ (HR.out w2 B2.out).1 Tryz.underlying31 rfl (by rw [HZ.out.1]; kernel_rfl) ?_)))
 refine (sound_any ⟨f, data⟩ (.agg S1) w2 HIN.out.1 HIN.out.2.1 (HI.out w2 B2.out).1 (HI.out w2 B2.out).2.1).mono ?_
 rintro e w3 ⟨b3, r, rfl, -⟩
 have B3 := hide (Below.step B2.out b3)
 have O3 := hide (O2.out.below b3)
 clear b3 O2
 cases r with
 | false =>
  go_wp2
  go_ret
  exact ⟨rfl, Below.step HB0.out B3.out⟩
 | true =>
 go_wp2_with fail
 refine (pick_any x n w3 HIN.out.2.2.2.2 (by have := HN.out.2; omega) (by have := HN.out.2; omega)).mono ?_
 rintro e _ ⟨⟨k, hk, rfl⟩, rfl⟩
 go_wp2_with fail
 refine (copyb_any _ l w3 O3.out (by have := HN.out; omega)).mono ?_
 rintro e w4 ⟨v10, rfl, o4, b4⟩
 have B4 := hide (Below.step B3.out b4)
 obtain ⟨g, cap, rfl, hg1, hg2⟩ := o4.form (by have := HN.out; omega)
 rw [← HN.out.1] at o4 ⊢
 obtain ⟨x0, hx0⟩ : ∃ z, l[k]? = some z := ⟨_, List.getElem?_eq_getElem (by have := HN.out.1; omega)⟩
 have hcc : w4.cell? ⟨g, k, none⟩ = some (.int .u8 (x0.toNat : Int)) := by
  have := World.ownsRow.cellAt (n := n) (xs := bcells l) (by unfold Own at o4; rw [← HN.out.1] at o4; exact o4) k (by omega)
  rw [this]
  unfold bcells
  rw [List.getElem?_map, hx0]
  rfl
 have hfz := World.ownsRow.frozenAt (n := n) (xs := bcells l) (by unfold Own at o4; rw [← HN.out.1] at o4; exact o4) k
 obtain ⟨zz, hzz⟩ : ∃ z : Nat, z = (x0 ^^^ y).toNat := ⟨_, rfl⟩
 have hxr : bits .xor .u8 (x0.toNat : Int) (y.toNat : Int) = (zz : Int) := by
  rw [u8_xor_nat _ _ (UInt8.toNat_lt _) (UInt8.toNat_lt _), hzz, UInt8.toNat_xor]
 have ost := o4.store k (x0 ^^^ y)
 rw [← hzz] at ost
 have O4 := hide (And.intro ost (And.intro (show W0.heap.size ≤ g from Nat.le_trans B3.out.size hg1) (And.intro hx0 hy)))
 have j1 : (k : Int) < (n : Int) := by omega
 have j2 : (0 : Int) ≤ (k : Int) := by omega
 clear o4 b4 hg1 hg2 hx0 O3 hzz ost
 go_wp2_with fail
 obtain ⟨w5, hw5⟩ : ∃ W, W = w4.setCell ⟨g, k, none⟩ (.int .u8 (zz : Int)) := ⟨_, rfl⟩
 rw [← hw5] at O4 ⊢
 have B5 := hide (show Below W0.heap.size W0 w5 from by rw [hw5]; exact B4.out.setCell O4.out.2.1 _)
 obtain ⟨l', hl'⟩ : ∃ z, z = l.set k (x0 ^^^ y) := ⟨_, rfl⟩
 have HNE := hide (show l' ≠ l from by rw [hl']; exact turned_ne O4.out.2.2.1 O4.out.2.2.2)
 have o5 := O4.out.1
 rw [← hl'] at o5
 have O5 := hide o5.by_
 clear o5 hcc hfz hxr hw5 hl' O4
 refine (open_any _ l' w5 O5.out (HI.out w5 B5.out).2.1 (HI.out w5 B5.out).2.2).mono ?_
 rintro e w6 ⟨b6, ⟨at_, hop, rfl⟩ | ⟨s2, v2, hop, rfl, hv2⟩⟩
 ·have B6 := hide (Below.step B5.out b6)
  clear b6 hop
  rw [← HZS.out.2.2]
  go_wp2_with (first
   | ((with_reducible change wpList _ _ _ (⟨none, .store _ (.tmp 11) _, _, _, _, _⟩ :: _) _ _); go_loud (refine wpList_store_row (o := ⟨none, .store _ (.tmp 11) _, _, _, _, _⟩) (Blk.new w6 _ _) zs (rfl) (HZS.out.2.1) rfl 31 _ _ rfl (by rw [HZS.out.1]; kernel_rfl) rfl rfl ?_; intro w7 hb9 hg9; have K7 := hide (show Below w6.heap.size w6 w7 from ((Below.refl _ w6).alloc (Nat.le_refl _) _).grown hg9 (by simp) (fun k hk => by cases hk; exact Nat.le_refl _)); clear hb9 hg9)))
  go_ret
  exact ⟨rfl, Below.step HB0.out (Below.step B6.out K7.out)⟩
 ·obtain ⟨q1, q2, q3, q4⟩ := openS_ok hop
  obtain ⟨S2, rfl, z1, z2, hs2⟩ := hv2.open1 q1
  have B6 := hide (Below.step B5.out b6)
  have HV2 := hide hv2
  have HZ2 := hide (And.intro z1 z2)
  have HQ2 := hide (And.intro q1 (And.intro q2 (And.intro q3 q4)))
  have z6 : s2.f.u.cells.size = 68 := US.size_ q1.1
  have hun := uebNeq s2.f.u f.u q1.1 HIN.out.1.1
  obtain ⟨U2, hU2⟩ : ∃ U, U = s2.f.u.cells := ⟨_, rfl⟩
  obtain ⟨nb, hnb⟩ : ∃ z, z = s2.f.num := ⟨_, rfl⟩
  simp only [← hU2, ← hnb] at hs2
  rw [← hU2] at z6 hun
  rw [← HIN.out.2.2.1] at hun
  have HS2 := hide hs2
  have HUN := hide hun
  have HZ6 := hide z6
  clear b6 hop hv2 z1 z2 z6 q1 q2 q3 q4 hs2 hun hU2 hnb
  obtain ⟨g9, hg9⟩ : ∃ z, z = w6.heap.size := ⟨_, rfl⟩
  go_wp2_with (first
   | ((with_reducible change wpList _ _ _ (⟨none, .store _ (.tmp 11) _, _, _, _, _⟩ :: _) _ _); go_loud (refine wpList_store_row (o := ⟨none, .store _ (.tmp 11) _, _, _, _, _⟩) (Blk.new w6 _ _) S2 (by rw [HZ2.out.1, HZS.out.1]) (HZ2.out.2) rfl 31 _ _ rfl (by rw [HZ2.out.1]; kernel_rfl) rfl rfl ?_; intro w7 hb9 hg9; have K7 := hide (And.intro hb9 (show Below w6.heap.size w6 w7 from ((Below.refl _ w6).alloc (Nat.le_refl _) _).grown hg9 (by simp) (fun k hk => by cases hk; exact Nat.le_refl _))); clear hb9 hg9; have B7 := hide (Below.step B6.out K7.out.2)))
   | ((with_reducible change wpList _ _ _ (⟨some 61, _, _, _, _, _⟩ :: _) _ _); go_loud (refine wpList_load_midF (by rfl) 31 _ rfl (w6.heap.size) 0 rfl S2 _ ((HS2.out w7 _ _ K7.out.1).1) Tryz.underlying31 rfl (by rw [HZ2.out.1]; kernel_rfl) ?_)))
  refine (sound_any s2 (.agg S2) w7 HQ2.out.1 HQ2.out.2.1 (HV2.out.below K7.out.2) (HI.out w7 B7.out).2.1).mono ?_
  rintro e w8 ⟨b8, r, rfl, -⟩
  have B8 := hide (Below.step B7.out b8)
  have K8 := hide (K7.out.1.below' b8)
  have HV8 := hide (HV2.out.below (Below.step K7.out.2 b8))
  clear b8 HV2 K7
  cases r with
  | false =>
   go_wp2
   go_ret
   exact ⟨rfl, Below.step HB0.out B8.out⟩
  | true =>
  have c0 := (HR.out w8 B8.out).2.2.2.1
  have c0' := (HS2.out w8 _ _ K8.out).2.2
  by_cases hnum : nb = na
  case neg =>
   have i1 : (nb != na) = true := by simp; exact hnum
   have i2 : decide (nb = na) = false := decide_eq_false hnum
   go_wp2
   go_ret
   exact ⟨rfl, Below.step HB0.out B8.out⟩
  case pos =>
  subst hnum
  by_cases hue : s2.f.u = f.u
  case neg =>
   rw [show decide (s2.f.u ≠ f.u) = true from decide_eq_true hue] at HUN
   clear hue
   go_wp2_with (first
    | ((with_reducible change wpList _ _ _ (⟨some 75, _, _, _, _, _⟩ :: _) _ _); go_loud (refine wpList_load_midF (by rfl) 25 _ rfl (w6.heap.size) 1 rfl U2 _ ((HS2.out w8 _ _ K8.out).2.1) Tryz.underlying25 rfl (by rw [HZ6.out]; kernel_rfl) ?_))
    | ((with_reducible change wpList _ _ _ (⟨some 78, _, _, _, _, _⟩ :: _) _ _); go_loud (refine wpList_load_midF (by rfl) 25 _ rfl (w.heap.size) 1 rfl U1 _ ((HR.out w8 B8.out).2.2.1) Tryz.underlying25 rfl (by rw [HZ.out.2]; kernel_rfl) ?_))
    | ((with_reducible change wpList _ _ _ (⟨some 79, _, _, _, _, _⟩ :: _) _ _); go_loud (refine wpList_exW (by rfl) (ex_binA .neq 25 (.tmp 75) (.tmp 78) rfl (.inr rfl) U2 U1 rfl rfl (by kernel_rfl) true (HUN.out w8)) ?_)))
   go_ret
   exact ⟨rfl, Below.step HB0.out B8.out⟩
  case pos =>
  rw [show decide (s2.f.u ≠ f.u) = false from decide_eq_false (fun h => h hue)] at HUN
  clear hue
  go_wp2_with (first
   | ((with_reducible change wpList _ _ _ (⟨some 75, _, _, _, _, _⟩ :: _) _ _); go_loud (refine wpList_load_midF (by rfl) 25 _ rfl (w6.heap.size) 1 rfl U2 _ ((HS2.out w8 _ _ K8.out).2.1) Tryz.underlying25 rfl (by rw [HZ6.out]; kernel_rfl) ?_))
   | ((with_reducible change wpList _ _ _ (⟨some 78, _, _, _, _, _⟩ :: _) _ _); go_loud (refine wpList_load_midF (by rfl) 25 _ rfl (w.heap.size) 1 rfl U1 _ ((HR.out w8 B8.out).2.2.1) Tryz.underlying25 rfl (by rw [HZ.out.2]; kernel_rfl) ?_))
   | ((with_reducible change wpList _ _ _ (⟨some 79, _, _, _, _, _⟩ :: _) _ _); go_loud (refine wpList_exW (by rfl) (ex_binA .neq 25 (.tmp 75) (.tmp 78) rfl (.inr rfl) U2 U1 rfl rfl (by kernel_rfl) false (HUN.out w8)) ?_))
   | ((with_reducible change wpList _ _ _ (⟨some 82, _, _, _, _, _⟩ :: _) _ _); go_loud (refine wpList_load_midF (by rfl) 31 _ rfl (w.heap.size) 0 rfl S1 _ ((HR.out w8 B8.out).1) Tryz.underlying31 rfl (by rw [HZ.out.1]; kernel_rfl) ?_))
   | ((with_reducible change wpList _ _ _ (⟨some 83, _, _, _, _, _⟩ :: _) _ _); go_loud (refine wpList_load_midF (by rfl) 31 _ rfl (w6.heap.size) 0 rfl S2 _ ((HS2.out w8 _ _ K8.out).1) Tryz.underlying31 rfl (by rw [HZ2.out.1]; kernel_rfl) ?_)))
  clear c0 c0'
  refine (law_shareone ⟨f, data⟩ s2 (.agg S1) (.agg S2) w8 (HI.out w8 B8.out).1 HIN.out.1 HIN.out.2.1 HV8.out HQ2.out.1 HQ2.out.2.1 (HI.out w8 B8.out).2.1).mono ?_
  rintro e w9 ⟨rfl, b9⟩
  have B9 := hide (Below.step B8.out b9)
  have K9 := hide (K8.out.below' b9)
  have HV9 := hide (HV8.out.below b9)
  clear b9
  go_wp2_with (first
   | ((with_reducible change wpList _ _ _ (⟨some 86, _, _, _, _, _⟩ :: _) _ _); go_loud (refine wpList_load_midF (by rfl) 31 _ rfl (w.heap.size) 0 rfl S1 _ ((HR.out w9 B9.out).1) Tryz.underlying31 rfl (by rw [HZ.out.1]; kernel_rfl) ?_))
   | ((with_reducible change wpList _ _ _ (⟨some 87, _, _, _, _, _⟩ :: _) _ _); go_loud (refine wpList_load_midF (by rfl) 31 _ rfl (w6.heap.size) 0 rfl S2 _ ((HS2.out w9 _ _ K9.out).1) Tryz.underlying31 rfl (by rw [HZ2.out.1]; kernel_rfl) ?_)))
  refine (ssame_all ⟨f, data⟩ s2 (.agg S1) (.agg S2) w9 HIN.out.1 HQ2.out.1 (HI.out w9 B9.out).1 HV9.out).mono ?_
  rintro e w10 ⟨rfl, b10⟩
  have B10 := hide (Below.step B9.out b10)
  have hfalse : decide (((SS.mk f data).f.num = s2.f.num ∧ (SS.mk f data).f.u = s2.f.u ∧ (SS.mk f data).f.ch = s2.f.ch ∧ (SS.mk f data).f.bs = s2.f.bs ∧ (SS.mk f data).f.sg = s2.f.sg) ∧ (SS.mk f data).data = s2.data) = false := decide_eq_false (fun h => by
   obtain ⟨⟨h1, h2, h3, h4, h5⟩, h6⟩ := h
   refine HNE.out ?_
   rw [← HQ2.out.2.2.2, HL.out]
   obtain ⟨⟨m1, m2, m3, m4, m5⟩, m6⟩ := s2
   obtain ⟨p1, p2, p3, p4, p5⟩ := f
   simp only at h1 h2 h3 h4 h5 h6
   subst h1 h2 h3 h4 h5 h6
   rfl)
  rw [hfalse]
  clear b10 hfalse
  go_wp2
  go_ret
  exact ⟨rfl, Below.step HB0.out B10.out⟩
end Go.Proofs.YtdohebhbiokljaaGreatDoor
namespace Go.Proofs.YtdohebhbiokljaaGreatDoor
open Go.RowKit
theorem cell_lt {w : World} {a : Addr} {v : Value} (h : w.cell? a = some v) : a.block < w.heap.size := by
 rcases Nat.lt_or_ge a.block w.heap.size with h1 | h1
 ·exact h1
 ·simp [World.cell?, Array.getElem?_eq_none h1] at h
theorem by_of_row {w : World} {a : Addr} {len cap : Nat} {zs : List Int} (hl : len ≤ cap) (hm : cap ≤ maxLen) (hz : zs.length = cap)
  (hcell : ∀ i, i < zs.length → w.cell? (a.add i) = some (.int .u8 (zs.getD i 0))) (hwz : ∀ n ∈ zs, (Lit.int .u8 n).wf = true) :
  ∃ l : List UInt8, l.length = len ∧ By w (.slice (some a) len cap) l := by
 refine ⟨(zs.take len).map fun z => UInt8.ofNat z.toNat, by simp; omega, ?_, some a, cap, by simp; omega, by simp; omega, hm, fun h0 => ?_⟩
 ·simp
 ·obtain ⟨b, o, sp⟩ := a
  simp only [List.length_map, List.length_take] at h0
  have h1 := hcell 0 (by omega)
  have hsp : sp = none := by simpa [Addr.add] using World.cell?_spot h1
  subst hsp
  refine ⟨b, o, rfl, cell_lt (a := ⟨b, o, none⟩) (by simpa [Addr.add] using h1), fun j hj => ?_⟩
  simp only [List.length_map, List.length_take, Nat.mul_one] at hj
  have hc := hcell j (by omega)
  rw [Addr.add_mid] at hc
  rw [hc, bcells_get, List.getElem?_map, List.getElem?_take_of_lt (by omega), List.getElem?_eq_getElem (by omega)]
  have hw := hwz zs[j] (List.getElem_mem (by omega))
  have hb : 0 ≤ zs[j] ∧ zs[j] ≤ 255 := by simpa [Lit.wf, IntKind.min, IntKind.max, IntKind.bits, IntKind.signed] using hw
  simp only [Option.map_some, Option.some.injEq, Value.int.injEq, true_and]
  rw [List.getD_eq_getElem?_getD, List.getElem?_eq_getElem (by omega), Option.getD_some, UInt8.toNat_ofNat']
  omega
end Go.Proofs.YtdohebhbiokljaaGreatDoor
namespace Go.Proofs.YtdohebhbiokljaaGreatDoor.bulks
theorem in_all {H : Type} {d : DataW H} {l : List (DataW H)} (h : d ∈ l) : Rows.uptoBulk d ≤ Rows.uptoBulkAll l := by
 induction l with
 | nil => cases h
 | cons x r ih =>
  simp only [Rows.uptoBulkAll]
  rcases List.mem_cons.1 h with e | e
  ·subst e; omega
  ·have := ih e; omega
theorem part {H : Type} {l : List (DataW H)} (hk : Rows.uptoSmall H l = true) {d : DataW H} (h : d ∈ l) : Rows.uptoBulk d ≤ 1048576 :=
 Nat.le_trans (in_all h) (of_decide_eq_true hk)
end Go.Proofs.YtdohebhbiokljaaGreatDoor.bulks
namespace Go.Proofs.YtdohebhbiokljaaGreatDoor
open Go.RowKit Go.ChangeShapes Go.WideShapes
set_option maxRecDepth 10000
section
variable {H : Type} {enc : TypeId × Value → H} {w : World} {base : Nat} {spare : Nat → Bool} {held : Bool}
theorem digest_of {cs : List Value} {fuel : Nat} {x : DataW H × List MemPlace} (h : DataW.trod enc Tryz.prog w base spare held fuel 23 cs = some x) : ∃ l : List UInt8, cs = bcells l ∧ l.length = 32 := by
 obtain ⟨xs, m, rfl, hx, hl, hxl, hf⟩ := DataW.trod_array Tryz.underlying23 h
 rw [show Tryz.prog.cellsOf 23 = 32 by kernel_rfl] at hl
 have hc1 : Tryz.prog.cellsOf 5 = 1 := by kernel_rfl
 have key : ∀ i, i < 32 → ∃ b : UInt8, cs[i]? = some (.int .u8 (b.toNat : Int)) := by
  intro i hi
  have h1 := hf i hi
  rw [hc1, Nat.mul_one, List.getElem?_eq_getElem (show i < xs.length by omega)] at h1
  obtain ⟨n, h2, _, h3⟩ := DataW.trod_int Tryz.underlying5 h1
  have h4 : cs[i]? = some (.int .u8 n) := by
   have := congrArg (·[0]?) h2
   simpa using this
  have h5 : 0 ≤ n ∧ n < 256 := by
   have h6 : 0 ≤ n ∧ n ≤ 255 := by simpa [Lit.wf, IntKind.min, IntKind.max, IntKind.signed, IntKind.bits] using h3
   omega
  refine ⟨UInt8.ofNat n.toNat, ?_⟩
  have h7 : ((UInt8.ofNat n.toNat).toNat : Int) = n := by
   rw [UInt8.toNat_ofNat']
   omega
  rw [h4, h7]
 refine ⟨cs.map fun v => match v with | .int _ n => UInt8.ofNat n.toNat | _ => 0, ?_, by simp [hl]⟩
 refine List.ext_getElem? fun i => ?_
 by_cases hi : i < 32
 ·obtain ⟨b, hb⟩ := key i hi
  rw [bcells_get, List.getElem?_map, hb]
  simp
 ·rw [List.getElem?_eq_none (by omega), List.getElem?_eq_none (by simp [hl]; omega)]
theorem cut_list {α : Type} (l : List α) (i j : Nat) : l.drop i = (l.drop i).take j ++ l.drop (i + j) := by
 rw [← List.drop_drop, List.take_append_drop]
theorem ueb_of {cs : List Value} {fuel : Nat} {x : DataW H × List MemPlace} (h : DataW.trod enc Tryz.prog w base spare held fuel 25 cs = some x) : ∃ u : US, cs.toArray = u.cells ∧ u.wf ∧ u.in64 := by
 obtain ⟨xs, m, rfl, hx, hl, hxl, hf⟩ := DataW.trod_struct Tryz.underlying25 h
 rw [show Tryz.prog.cellsOf 25 = 68 by kernel_rfl] at hl
 have c1 : Tryz.prog.cellsOf 3 = 1 := by kernel_rfl
 have c2 : Tryz.prog.cellsOf 23 = 32 := by kernel_rfl
 have hx6 : xs.length = 6 := hxl
 have get : ∀ i, i < 6 → ∃ y, xs[i]? = some y := fun i hi => ⟨_, List.getElem?_eq_getElem (by omega)⟩
 obtain ⟨y0, g0⟩ := get 0 (by omega)
 obtain ⟨y1, g1⟩ := get 1 (by omega)
 obtain ⟨y2, g2⟩ := get 2 (by omega)
 obtain ⟨y3, g3⟩ := get 3 (by omega)
 obtain ⟨y4, g4⟩ := get 4 (by omega)
 obtain ⟨y5, g5⟩ := get 5 (by omega)
 have f0 : DataW.trod enc Tryz.prog w base spare held m 3 ((cs.drop 0).take (Tryz.prog.cellsOf 3)) = some y0 := (hf 0 _ rfl).trans g0
 have f1 : DataW.trod enc Tryz.prog w base spare held m 3 ((cs.drop 1).take (Tryz.prog.cellsOf 3)) = some y1 := (hf 1 _ rfl).trans g1
 have f2 : DataW.trod enc Tryz.prog w base spare held m 3 ((cs.drop 2).take (Tryz.prog.cellsOf 3)) = some y2 := (hf 2 _ rfl).trans g2
 have f3 : DataW.trod enc Tryz.prog w base spare held m 3 ((cs.drop 3).take (Tryz.prog.cellsOf 3)) = some y3 := (hf 3 _ rfl).trans g3
 have f4 : DataW.trod enc Tryz.prog w base spare held m 23 ((cs.drop 4).take (Tryz.prog.cellsOf 23)) = some y4 := (hf 4 _ rfl).trans g4
 have f5 : DataW.trod enc Tryz.prog w base spare held m 23 ((cs.drop 36).take (Tryz.prog.cellsOf 23)) = some y5 := (hf 5 _ rfl).trans g5
 rw [c1] at f0 f1 f2 f3
 rw [c2] at f4 f5
 obtain ⟨k, e0, _, w0⟩ := DataW.trod_int Tryz.underlying3 f0
 obtain ⟨n, e1, _, w1⟩ := DataW.trod_int Tryz.underlying3 f1
 obtain ⟨seg, e2, _, w2⟩ := DataW.trod_int Tryz.underlying3 f2
 obtain ⟨size, e3, _, w3⟩ := DataW.trod_int Tryz.underlying3 f3
 obtain ⟨sh, e4, l4⟩ := digest_of f4
 obtain ⟨sg, e5, l5⟩ := digest_of f5
 refine ⟨⟨k, n, seg, size, sh, sg⟩, ?_, ⟨l4, l5⟩, wf64 w0, wf64 w1, wf64 w2, wf64 w3⟩
 have hcs : cs = .int .i64 k :: .int .i64 n :: .int .i64 seg :: .int .i64 size :: (bcells sh ++ bcells sg) := by
  have a0 := cut_list cs 0 1
  have a1 := cut_list cs 1 1
  have a2 := cut_list cs 2 1
  have a3 := cut_list cs 3 1
  have a4 := cut_list cs 4 32
  have a5 := cut_list cs 36 32
  rw [e0] at a0
  rw [e1] at a1
  rw [e2] at a2
  rw [e3] at a3
  rw [e4] at a4
  rw [e5, show 36 + 32 = 68 from rfl, List.drop_eq_nil_of_le (show cs.length ≤ 68 by omega), List.append_nil] at a5
  rw [show 4 + 32 = 36 from rfl, a5] at a4
  rw [show 3 + 1 = 4 from rfl, a4] at a3
  rw [show 2 + 1 = 3 from rfl, a3] at a2
  rw [show 1 + 1 = 2 from rfl, a2] at a1
  rw [show 0 + 1 = 1 from rfl, a1] at a0
  rw [List.drop_zero] at a0
  exact a0
 rw [hcs]
 rfl
end
end Go.Proofs.YtdohebhbiokljaaGreatDoor
namespace Go.Proofs.YtdohebhbiokljaaGreatDoor
open Go.RowKit Go.ChangeShapes Go.WideShapes
set_option maxRecDepth 10000
theorem Ds.nil (w : World) : Ds w (.slice none 0 0) [] := ⟨⟨rfl, none, 0, rfl, by simp, by unfold maxLen; omega, fun h => absurd h (by simp)⟩, fun x hx => by simp at hx⟩
theorem Lsts.nil (w : World) : Lsts w (.slice none 0 0) [] := ⟨⟨rfl, none, 0, rfl, by simp, by unfold maxLen; omega, fun h => absurd h (by simp)⟩, fun x hx => by simp at hx⟩
theorem digs_row {w : World} {a : Addr} {len cap : Nat} (hl : len ≤ cap) (hm : cap ≤ maxLen)
  (hx : ∀ i, i < len → ∃ l : List UInt8, l.length = 32 ∧ ∀ j, j < 32 → w.cell? ((a.add (i * 32)).add j) = (bcells l)[j]?) : ∃ L : List (List UInt8), Ds w (.slice (some a) len cap) L := by
 have key : ∀ n, n ≤ len → ∃ L : List (List UInt8), L.length = n ∧ Dg L ∧ ∀ i l, L[i]? = some l → ∀ j, j < 32 → w.cell? ((a.add (i * 32)).add j) = (bcells l)[j]? := by
  intro n
  induction n with
  | zero => exact fun _ => ⟨[], rfl, fun x h => by simp at h, fun i l h => by simp at h⟩
  | succ n ih =>
   intro hn
   obtain ⟨L, h1, h2, h3⟩ := ih (by omega)
   obtain ⟨l, hl32, hc⟩ := hx n (by omega)
   refine ⟨L ++ [l], by simp [h1], fun y hy => ?_, fun i y hy j hj => ?_⟩
   ·rcases List.mem_append.1 hy with hy | hy
    ·exact h2 y hy
    ·rw [List.mem_singleton.1 hy]; exact hl32
   ·rcases Nat.lt_trichotomy i n with hi | hi | hi
    ·rw [List.getElem?_append_left (by omega)] at hy
     exact h3 i y hy j hj
    ·subst hi
     rw [List.getElem?_append_right (by omega), h1, Nat.sub_self] at hy
     simp only [List.getElem?_cons_zero, Option.some.injEq] at hy
     subst hy
     exact hc j hj
    ·rw [List.getElem?_eq_none (by simp; omega)] at hy
     cases hy
 obtain ⟨L, h1, h2, h3⟩ := key len (Nat.le_refl _)
 refine ⟨L, ⟨by rw [flat_size h2]; omega, some a, cap, by rw [h1], by rw [h1]; exact hl, hm, fun h0 => ?_⟩, h2⟩
 obtain ⟨l0, hl0⟩ : ∃ l, L[0]? = some l := ⟨_, List.getElem?_eq_getElem h0⟩
 have hd0 : l0.length = 32 := h2 l0 (List.mem_of_getElem? hl0)
 obtain ⟨b, o, sp⟩ := a
 have hc0 := h3 0 l0 hl0 0 (by omega)
 obtain ⟨v0, hv0⟩ : ∃ v, (bcells l0)[0]? = some v := ⟨_, List.getElem?_eq_getElem (by rw [bcells_length]; omega)⟩
 rw [hv0] at hc0
 have hsp : sp = none := by simpa [Addr.add] using World.cell?_spot hc0
 subst hsp
 refine ⟨b, o, rfl, cell_lt (a := ⟨b, o, none⟩) (by simpa [Addr.add] using hc0), fun j hj => ?_⟩
 obtain ⟨l, hl⟩ : ∃ l, L[j / 32]? = some l := ⟨_, List.getElem?_eq_getElem (by omega)⟩
 have hc := h3 (j / 32) l hl (j % 32) (by omega)
 have hf := flat_get L h2 (j / 32) l hl (j % 32) (by omega)
 rw [show j / 32 * 32 + j % 32 = j by omega] at hf
 rw [hf, ← hc, Addr.add_mid, Addr.add_mid, show o + j / 32 * 32 + j % 32 = o + j by omega]
theorem lists_row {w : World} {a : Addr} {len cap : Nat} {V : Nat → Value} (hl : len ≤ cap) (hm : cap ≤ maxLen)
  (hx : ∀ i, i < len → w.cell? (a.add i) = some (V i) ∧ ∃ l : List UInt8, By w (V i) l) : ∃ L, Lsts w (.slice (some a) len cap) L := by
 have key : ∀ n, n ≤ len → ∃ L : List (Value × List UInt8), L.length = n ∧ ∀ i x, L[i]? = some x → V i = x.1 ∧ By w x.1 x.2 := by
  intro n
  induction n with
  | zero => exact fun _ => ⟨[], rfl, fun i l h => by simp at h⟩
  | succ n ih =>
   intro hn
   obtain ⟨L, h1, h2⟩ := ih (by omega)
   obtain ⟨_, l, hb⟩ := hx n (by omega)
   refine ⟨L ++ [(V n, l)], by simp [h1], fun i x h => ?_⟩
   rcases Nat.lt_trichotomy i n with hi | hi | hi
   ·rw [List.getElem?_append_left (by omega)] at h
    exact h2 i x h
   ·subst hi
    rw [List.getElem?_append_right (by omega), h1, Nat.sub_self] at h
    simp only [List.getElem?_cons_zero, Option.some.injEq] at h
    subst h
    exact ⟨rfl, hb⟩
   ·rw [List.getElem?_eq_none (by simp; omega)] at h
    cases h
 obtain ⟨L, h1, h2⟩ := key len (Nat.le_refl _)
 refine ⟨L, ⟨by simp, some a, cap, by rw [h1], by rw [h1]; exact hl, hm, fun h0 => ?_⟩, fun x hxm => ?_⟩
 ·obtain ⟨b, o, sp⟩ := a
  have hc0 := (hx 0 (by omega)).1
  have hsp : sp = none := by simpa [Addr.add] using World.cell?_spot hc0
  subst hsp
  refine ⟨b, o, rfl, cell_lt (a := ⟨b, o, none⟩) (by simpa [Addr.add] using hc0), fun j hj => ?_⟩
  obtain ⟨x, hxx⟩ : ∃ x, L[j]? = some x := ⟨_, List.getElem?_eq_getElem (by omega)⟩
  have hc := (hx j (by omega)).1
  rw [(h2 j x hxx).1] at hc
  rw [Addr.add_mid] at hc
  rw [List.getElem?_map, hxx, hc]
  rfl
 ·obtain ⟨i, hi⟩ := List.mem_iff_getElem?.1 hxm
  exact (h2 i x hi).2
section
variable {H : Type} {enc : TypeId × Value → H} {w : World} {base : Nat} {spare : Nat → Bool} {held : Bool}
theorem digs_of {cs : List Value} {fuel : Nat} {x : DataW H × List MemPlace} (h : DataW.trod enc Tryz.prog w base spare held fuel 26 cs = some x) : ∃ v L, cs = [v] ∧ Ds w v L := by
 rcases Go.Deep.open_slice Tryz.underlying26 h with ⟨rfl, _⟩ | ⟨a, len, cap, m, n, D, Pl, rfl, _, hl, hm, hmm, _, hx⟩
 ·exact ⟨_, [], rfl, Ds.nil w⟩
 ·rw [show Tryz.prog.cellsOf 23 = 32 by kernel_rfl] at hx
  obtain ⟨L, hL⟩ := digs_row (w := w) (a := a) hl hm (fun i hi => by
   obtain ⟨cs', h1, h2⟩ := hx i (by rw [hmm]; split <;> omega)
   obtain ⟨l, rfl, h3⟩ := digest_of h2
   exact ⟨l, h3, (World.cells?_some h1).2.2⟩)
  exact ⟨_, L, rfl, hL⟩
theorem data_of {cs : List Value} {fuel : Nat} {x : DataW H × List MemPlace} (h : DataW.trod enc Tryz.prog w base (fun _ => true) held fuel 29 cs = some x) : ∃ v L, cs = [v] ∧ Lsts w v L := by
 rcases Go.Deep.open_slice1 Tryz.underlying29 (by kernel_rfl) h with ⟨rfl, _⟩ | ⟨a, len, cap, m, n, V, D, Pl, rfl, _, hl, hm, hmm, _, hx⟩
 ·exact ⟨_, [], rfl, Lsts.nil w⟩
 ·obtain ⟨L, hL⟩ := lists_row (w := w) (a := a) (V := V) hl hm (fun i hi => by
   obtain ⟨h1, t1⟩ := hx i (by rw [hmm]; split <;> omega)
   refine ⟨h1, ?_⟩
   rcases open_ints Tryz.underlying34 Tryz.underlying5 (by kernel_rfl) t1 with ⟨g1, _⟩ | ⟨y, yl, yc, zs, g1, _, yl1, ym, yz, yx, ycell, ywz⟩
   ·simp only [List.cons.injEq, and_true] at g1
    rw [g1]
    exact ⟨[], By.nil w⟩
   ·simp only [List.cons.injEq, and_true] at g1
    rw [g1]
    obtain ⟨lb, _, hy⟩ := by_of_row yl1 ym (by simpa using yz) ycell ywz
    exact ⟨lb, hy⟩)
  exact ⟨_, L, rfl, hL⟩
theorem front_of {cs : List Value} {fuel : Nat} {x : DataW H × List MemPlace} (h : DataW.trod enc Tryz.prog w base (fun _ => true) held fuel 28 cs = some x) :
  ∃ (f : FS) (a b c : Value), cs = (frC f.num f.u a b c).toList ∧ f.wf ∧ f.u.in64 ∧ Ds w a f.ch ∧ Ds w b f.bs ∧ Ds w c f.sg := by
 obtain ⟨xs, m, rfl, hx, hl, hxl, hf⟩ := DataW.trod_struct Tryz.underlying28 h
 rw [show Tryz.prog.cellsOf 28 = 72 by kernel_rfl] at hl
 have c1 : Tryz.prog.cellsOf 3 = 1 := by kernel_rfl
 have c2 : Tryz.prog.cellsOf 25 = 68 := by kernel_rfl
 have c3 : Tryz.prog.cellsOf 26 = 1 := by kernel_rfl
 have hx5 : xs.length = 5 := hxl
 have get : ∀ i, i < 5 → ∃ y, xs[i]? = some y := fun i hi => ⟨_, List.getElem?_eq_getElem (by omega)⟩
 obtain ⟨y0, g0⟩ := get 0 (by omega)
 obtain ⟨y1, g1⟩ := get 1 (by omega)
 obtain ⟨y2, g2⟩ := get 2 (by omega)
 obtain ⟨y3, g3⟩ := get 3 (by omega)
 obtain ⟨y4, g4⟩ := get 4 (by omega)
 have f0 : DataW.trod enc Tryz.prog w base (fun _ => true) held m 3 ((cs.drop 0).take (Tryz.prog.cellsOf 3)) = some y0 := (hf 0 _ rfl).trans g0
 have f1 : DataW.trod enc Tryz.prog w base (fun _ => true) held m 25 ((cs.drop 1).take (Tryz.prog.cellsOf 25)) = some y1 := (hf 1 _ rfl).trans g1
 have f2 : DataW.trod enc Tryz.prog w base (fun _ => true) held m 26 ((cs.drop 69).take (Tryz.prog.cellsOf 26)) = some y2 := (hf 2 _ rfl).trans g2
 have f3 : DataW.trod enc Tryz.prog w base (fun _ => true) held m 26 ((cs.drop 70).take (Tryz.prog.cellsOf 26)) = some y3 := (hf 3 _ rfl).trans g3
 have f4 : DataW.trod enc Tryz.prog w base (fun _ => true) held m 26 ((cs.drop 71).take (Tryz.prog.cellsOf 26)) = some y4 := (hf 4 _ rfl).trans g4
 rw [c1] at f0
 rw [c2] at f1
 rw [c3] at f2 f3 f4
 obtain ⟨k, e0, _, _⟩ := DataW.trod_int Tryz.underlying3 f0
 obtain ⟨u, e1, hu, hi⟩ := ueb_of f1
 obtain ⟨a, L1, e2, d1⟩ := digs_of f2
 obtain ⟨b, L2, e3, d2⟩ := digs_of f3
 obtain ⟨c, L3, e4, d3⟩ := digs_of f4
 have e1' : (cs.drop 1).take 68 = u.cells.toList := by rw [← e1]
 refine ⟨⟨k, u, L1, L2, L3⟩, a, b, c, ?_, ⟨hu, d1.2, d2.2, d3.2⟩, hi, d1, d2, d3⟩
 have a0 := cut_list cs 0 1
 have a1 := cut_list cs 1 68
 have a2 := cut_list cs 69 1
 have a3 := cut_list cs 70 1
 have a4 := cut_list cs 71 1
 rw [e0] at a0
 rw [e1'] at a1
 rw [e2] at a2
 rw [e3] at a3
 rw [e4, show 71 + 1 = 72 from rfl, List.drop_eq_nil_of_le (show cs.length ≤ 72 by omega), List.append_nil] at a4
 rw [show 70 + 1 = 71 from rfl, a4] at a3
 rw [show 69 + 1 = 70 from rfl, a3] at a2
 rw [show 1 + 68 = 69 from rfl, a2] at a1
 rw [show 0 + 1 = 1 from rfl, a1] at a0
 rw [List.drop_zero] at a0
 exact a0
theorem share_of {cs : List Value} {fuel : Nat} {x : DataW H × List MemPlace} (h : DataW.trod enc Tryz.prog w base (fun _ => true) held fuel 31 cs = some x) :
  ∃ s : SS, ShV w (.agg cs.toArray) s ∧ s.f.wf ∧ s.f.u.in64 := by
 obtain ⟨xs, m, rfl, hx, hl, hxl, hf⟩ := DataW.trod_struct Tryz.underlying31 h
 rw [show Tryz.prog.cellsOf 31 = 73 by kernel_rfl] at hl
 have c1 : Tryz.prog.cellsOf 28 = 72 := by kernel_rfl
 have c2 : Tryz.prog.cellsOf 29 = 1 := by kernel_rfl
 have hx2 : xs.length = 2 := hxl
 have get : ∀ i, i < 2 → ∃ y, xs[i]? = some y := fun i hi => ⟨_, List.getElem?_eq_getElem (by omega)⟩
 obtain ⟨y0, g0⟩ := get 0 (by omega)
 obtain ⟨y1, g1⟩ := get 1 (by omega)
 have f0 : DataW.trod enc Tryz.prog w base (fun _ => true) held m 28 ((cs.drop 0).take (Tryz.prog.cellsOf 28)) = some y0 := (hf 0 _ rfl).trans g0
 have f1 : DataW.trod enc Tryz.prog w base (fun _ => true) held m 29 ((cs.drop 72).take (Tryz.prog.cellsOf 29)) = some y1 := (hf 1 _ rfl).trans g1
 rw [c1] at f0
 rw [c2] at f1
 obtain ⟨f, a, b, c, e0, hw, hi, d1, d2, d3⟩ := front_of f0
 obtain ⟨d, LD, e1, hd⟩ := data_of f1
 refine ⟨⟨f, LD.map (·.2)⟩, ⟨a, b, c, d, LD, ?_, d1, d2, d3, hd, rfl⟩, hw, hi⟩
 have a0 := cut_list cs 0 72
 have a1 := cut_list cs 72 1
 rw [e1, show 72 + 1 = 73 from rfl, List.drop_eq_nil_of_le (show cs.length ≤ 73 by omega), List.append_nil] at a1
 rw [e0, show 0 + 72 = 72 from rfl, a1, List.drop_zero] at a0
 unfold shC
 rw [a0]
theorem open_share {v : Value} {d : DataW H} {p : List MemPlace} {r : Reach} {b0 : Nat} {P' : World} (hv : Value.okWide Tryz.prog P' r b0 31 v) (h : DataW.Trod enc Tryz.prog w base (fun _ => true) held 31 v d p) :
  ∃ s : SS, ShV w v s ∧ s.f.wf ∧ s.f.u.in64 := by
 obtain ⟨cs, rfl, _⟩ := okWide_struct Tryz.underlying31 hv
 obtain ⟨fuel, hf⟩ := h
 obtain ⟨s, h1, h2⟩ := share_of hf
 exact ⟨s, by rw [show cs = cs.toList.toArray from Array.toArray_toList.symm]; exact h1, h2⟩
end
end Go.Proofs.YtdohebhbiokljaaGreatDoor
