import Derived.Test.YtdohebhbiokljaaGreatDoorJ1
import Derived.Deep.RegionHeld3
import Derived.Laws.Cover3
import Derived.Laws.StructEq
import Derived.Deep.MidRow
set_option linter.all false
namespace Go.Proofs.YtdohebhbiokljaaGreatDoor
open Go.RowKit
def fw (k : Nat) (f : Nat → UInt32) : Array Value := ((List.range k).map (fun i => Value.int .u32 ((f i).toNat : Int)) ++ List.replicate (64 - k) (Value.int .u32 0)).toArray
theorem fw_size {k : Nat} (f : Nat → UInt32) (h : k ≤ 64) : (fw k f).size = 64 := by simp [fw]; omega
theorem fw_get {k i : Nat} (f : Nat → UInt32) (h : i < k) : (fw k f)[i]? = some (.int .u32 ((f i).toNat : Int)) := by
 unfold fw
 rw [List.getElem?_toArray, List.getElem?_append_left (by simp; omega), List.getElem?_map, List.getElem?_range h]
 rfl
theorem fw_set {k : Nat} (f : Nat → UInt32) (h : k < 64) : (fw k f).setIfInBounds k (.int .u32 ((f k).toNat : Int)) = fw (k + 1) f := by
 unfold fw
 rw [List.setIfInBounds_toArray]
 congr 1
 rw [List.set_append_right _ _ (by simp), List.length_map, List.length_range, Nat.sub_self, show 64 - k = (64 - (k + 1)) + 1 by omega, List.replicate_succ, List.set_cons_zero, List.range_succ, List.map_append, List.append_assoc]
 rfl
theorem blk_newk (w : World) (g : Nat) (t : TypeId) (cs : Array Value) (h : g = w.heap.size) : Blk (w.alloc (.cells cs t)) g t cs := by rw [h]; exact Blk.new w t cs
theorem fw_zero (f : Nat → UInt32) : fw 0 f = (List.replicate 64 (Value.int .u32 0)).toArray := by simp [fw]
def sg0 (x : UInt32) : UInt32 := xo (xo (rkh x (-7)) (rkh x (-18))) (sr x 3)
def sg1 (x : UInt32) : UInt32 := xo (xo (rkh x (-17)) (rkh x (-19))) (sr x 10)
def be4 (a b c d : UInt8) : UInt32 := UInt32.ofNat (a.toNat * 16777216 + b.toNat * 65536 + c.toNat * 256 + d.toNat)
theorem or_add (a b n : Nat) (h : b < 2 ^ n) : a * 2 ^ n ||| b = a * 2 ^ n + b := by
 rw [Nat.mul_comm]; exact (Nat.two_pow_add_eq_or_of_lt h a).symm
theorem be4_nat (a b c d : Nat) (ha : a < 256) (hb : b < 256) (hc : c < 256) (hd : d < 256) : ((a * 16777216 ||| b * 65536) ||| c * 256) ||| d = ((a * 256 + b) * 256 + c) * 256 + d := by
 have e1 : a * 16777216 ||| b * 65536 = a * 16777216 + b * 65536 := or_add a (b * 65536) 24 (by omega)
 have e2 : (a * 256 + b) * 65536 ||| c * 256 = (a * 256 + b) * 65536 + c * 256 := or_add (a * 256 + b) (c * 256) 16 (by omega)
 have e3 : ((a * 256 + b) * 256 + c) * 256 ||| d = ((a * 256 + b) * 256 + c) * 256 + d := or_add ((a * 256 + b) * 256 + c) d 8 (by omega)
 rw [e1, show a * 16777216 + b * 65536 = (a * 256 + b) * 65536 by omega, e2, show (a * 256 + b) * 65536 + c * 256 = ((a * 256 + b) * 256 + c) * 256 by omega, e3]
theorem be4_toNat (a b c d : UInt8) : (be4 a b c d).toNat = a.toNat * 16777216 + b.toNat * 65536 + c.toNat * 256 + d.toNat := by
 have h1 := a.toNat_lt
 have h2 := b.toNat_lt
 have h3 := c.toNat_lt
 have h4 := d.toNat_lt
 unfold be4
 exact ofNat_lt (by omega)
theorem be4_int (a b c d : UInt8) : bits .or .u32 (bits .or .u32 (bits .or .u32 ((a.toNat : Int) % 4294967296 * 16777216 % 4294967296) ((b.toNat : Int) % 4294967296 * 65536 % 4294967296)) ((c.toNat : Int) % 4294967296 * 256 % 4294967296)) ((d.toNat : Int) % 4294967296) = ((be4 a b c d).toNat : Int) := by
 have h1 := a.toNat_lt
 have h2 := b.toNat_lt
 have h3 := c.toNat_lt
 have h4 := d.toNat_lt
 rw [be4_toNat]
 generalize a.toNat = A at *
 generalize b.toNat = B at *
 generalize c.toNat = C at *
 generalize d.toNat = D at *
 rw [show (A : Int) % 4294967296 * 16777216 % 4294967296 = ((A * 16777216 : Nat) : Int) by omega, show (B : Int) % 4294967296 * 65536 % 4294967296 = ((B * 65536 : Nat) : Int) by omega,
  show (C : Int) % 4294967296 * 256 % 4294967296 = ((C * 256 : Nat) : Int) by omega, show (D : Int) % 4294967296 = (D : Int) by omega]
 have hn := be4_nat A B C D h1 h2 h3 h4
 rw [u32_or_nat _ _ (by omega) (by omega), u32_or_nat _ _ (Nat.or_lt_two_pow (n := 32) (by omega) (by omega)) (by omega), u32_or_nat _ _ (Nat.or_lt_two_pow (n := 32) (Nat.or_lt_two_pow (n := 32) (by omega) (by omega)) (by omega)) (by omega), hn]
 omega
def wdh (b : List UInt8) (t : Nat) : UInt32 :=
 if t < 16 then be4 (b.getD (4 * t) 0) (b.getD (4 * t + 1) 0) (b.getD (4 * t + 2) 0) (b.getD (4 * t + 3) 0)
 else ad (ad (ad (sg1 (wdh b (t - 2))) (wdh b (t - 7))) (sg0 (wdh b (t - 15)))) (wdh b (t - 16))
termination_by t
theorem wd_lo (b : List UInt8) {t : Nat} (h : t < 16) : wdh b t = be4 (b.getD (4 * t) 0) (b.getD (4 * t + 1) 0) (b.getD (4 * t + 2) 0) (b.getD (4 * t + 3) 0) := by
 rw [wdh, if_pos h]
theorem wd_hi (b : List UInt8) {t : Nat} (h : ¬ t < 16) : wdh b t = ad (ad (ad (sg1 (wdh b (t - 2))) (wdh b (t - 7))) (sg0 (wdh b (t - 15)))) (wdh b (t - 16)) := by
 rw [wdh, if_neg h]
set_option maxRecDepth 100000 in
set_option maxHeartbeats 4000000 in
theorem schedule_any (b : List UInt8) (w : World) (hb : b.length = 64) :
  Calls Tryz.prog 139 #[.agg (bcells b).toArray] w fun e w' => e = .returned (.agg (fw 64 (wdh b))) ∧ Below w.heap.size w w' := by
 obtain ⟨B, hB⟩ : ∃ B, B = (bcells b).toArray := ⟨_, rfl⟩
 have hsz : B.size = 64 := by rw [hB]; simp [hb]
 rw [← hB]
 have HB := hide hB
 clear hB
 go_enter Tryz.func139, Tryz.ntmps139
 go_wp2
 have hz : ((List.replicate 64 (Value.int .u32 0)).toArray) = fw 0 (wdh b) := (fw_zero _).symm
 go_loopw [4, 10] (fun _ u10 wr => ∃ i : Nat, i ≤ 16 ∧ u10 = .int .i64 (i : Int) ∧ Blk wr w.heap.size 98 B ∧ Blk wr (w.heap.size + 1) 129 (fw 0 (wdh b)) ∧ Blk wr (w.heap.size + 2) 129 (fw i (wdh b)) ∧ Below w.heap.size w wr) (fun _ i _ => 16 - (intOf i).toNat)
 case atStart =>
  refine ⟨0, by omega, rfl, ((Blk.new w _ _).alloc _).alloc _, ?_, ?_, (((Below.refl _ w).alloc (Nat.le_refl _) _).alloc (by simp) _).alloc (by simp; omega) _⟩
  ·rw [← hz]
   exact (blk_newk _ _ _ _ (by simp)).alloc _
  ·rw [← hz]
   exact blk_newk _ _ _ _ (by simp)
 case round =>
  clear hz
  obtain ⟨i, hi, rfl, h0, h1, h2, hbel⟩ := hrel
  have H := hide (And.intro h0 (And.intro h1 (And.intro h2 hbel)))
  clear h0 h1 h2 hbel
  obtain ⟨wz, hwz⟩ : ∃ x, x = wr := ⟨_, rfl⟩
  by_cases hlt : i < 16
  ·obtain ⟨m, hm⟩ : ∃ m, m = 4 * i := ⟨_, rfl⟩
   have hmlt : m < 61 := by omega
   have hcell : ∀ j, j < 64 → ∃ x : UInt8, wr.cell? ⟨w.heap.size, j, none⟩ = some (.int .u8 (x.toNat : Int)) ∧ b.getD j 0 = x := by
    intro j hj
    refine ⟨b[j]'(by omega), ?_, by simp [hb, hj]⟩
    rw [H.out.1.cell, HB.out]
    simp [bcells, hb, hj]
   obtain ⟨x0, g0, e0⟩ := hcell m (by omega)
   obtain ⟨x1, g1, e1⟩ := hcell (m + 1) (by omega)
   obtain ⟨x2, g2, e2⟩ := hcell (m + 2) (by omega)
   obtain ⟨x3, g3, e3⟩ := hcell (m + 3) (by omega)
   have HW := hide (show wdh b i = be4 x0 x1 x2 x3 by rw [wd_lo b hlt, ← hm, e0, e1, e2, e3])
   have wm : IntKind.i64.wrap (4 * (i : Int)) = (m : Int) := by rw [IntWalk.i64_in _ (by omega)]; omega
   have s2 := H.out.2.2.1.frozen i
   obtain ⟨y, hy⟩ : ∃ y, wr.cell? ⟨w.heap.size + 2, i, none⟩ = some y := by rw [H.out.2.2.1.cell]; exact ⟨_, Array.getElem?_eq_getElem (by rw [fw_size _ (by omega)]; omega)⟩
   have i1 : (m : Int) < 64 := by omega
   have j1 : (m : Int) + 1 < 64 := by omega
   have j2 : (m : Int) + 2 < 64 := by omega
   have j3 : (m : Int) + 3 < 64 := by omega
   have l1 : (0 : Int) ≤ (m : Int) + 1 := by omega
   have l2 : (0 : Int) ≤ (m : Int) + 2 := by omega
   have l3 : (0 : Int) ≤ (m : Int) + 3 := by omega
   have n1 : ((m : Int) + 1).toNat = m + 1 := by omega
   have n2 : ((m : Int) + 2).toNat = m + 2 := by omega
   have n3 : ((m : Int) + 3).toNat = m + 3 := by omega
   have v1 : IntKind.i64.wrap ((m : Int) + 1) = (m : Int) + 1 := IntWalk.i64_in _ (by omega)
   have v2 : IntKind.i64.wrap ((m : Int) + 2) = (m : Int) + 2 := IntWalk.i64_in _ (by omega)
   have v3 : IntKind.i64.wrap ((m : Int) + 3) = (m : Int) + 3 := IntWalk.i64_in _ (by omega)
   have far : ∀ (j : Nat) (u : Value), (wr.setCell ⟨w.heap.size + 1 + 1, i, none⟩ u).cell? ⟨w.heap.size, j, none⟩ = wr.cell? ⟨w.heap.size, j, none⟩ := fun j u => World.cell?_of_block (Below.heap_setCell wr ⟨w.heap.size + 1 + 1, i, none⟩ u w.heap.size (by simp; omega))
   have i2 : (0 : Int) ≤ (m : Int) := by omega
   have i3 : (i : Int) < 64 := by omega
   have i5 : (i : Int) < 16 := by omega
   have i4 : (0 : Int) ≤ (i : Int) := by omega
   have HM := hide hm
   clear hm hcell e0 e1 e2 e3 hwz
   go_wp2
   go_region_held3 (fun w' => w'.cell? ⟨w.heap.size, m, none⟩ = some (.int .u8 (x0.toNat : Int)) ∧ w'.cell? ⟨w.heap.size, m + 1, none⟩ = some (.int .u8 (x1.toNat : Int)) ∧ w'.cell? ⟨w.heap.size, m + 2, none⟩ = some (.int .u8 (x2.toNat : Int)) ∧ w'.cell? ⟨w.heap.size, m + 3, none⟩ = some (.int .u8 (x3.toNat : Int))) (go_keep) (fail)
   clear far v1 v2 v3 n1 n2 n3 wm
   go_wp2
   go_roundw
   case rel =>
    have hbe := be4_int x0 x1 x2 x3
    rw [← HW.out] at hbe
    rw [hbe]
    refine ⟨i + 1, by omega, by go_num, (H.out.1.far (by simp; omega) _).drew, (H.out.2.1.far (by simp) _).drew, ?_, (H.out.2.2.2.setCell (by simp; omega) _).drew⟩
    rw [← fw_set (wdh b) (show i < 64 by omega)]
    exact (H.out.2.2.1.set_ i _).drew
   case measure => simp [intOf]; omega
  ·have hi16 : i = 16 := by omega
   subst hi16
   obtain ⟨R, hR⟩ : ∃ R, R = rkh := ⟨_, rfl⟩
   obtain ⟨X, hX⟩ : ∃ X, X = xo := ⟨_, rfl⟩
   obtain ⟨S, hS⟩ : ∃ S, S = sr := ⟨_, rfl⟩
   obtain ⟨D, hD⟩ : ∃ D, D = ad := ⟨_, rfl⟩
   have x1 : ∀ a b : UInt32, bits .xor .u32 (a.toNat : Int) (b.toNat : Int) = ((X a b).toNat : Int) := by rw [hX]; exact w_xor
   have x3 : ∀ a b : UInt32, IntKind.u32.wrap ((a.toNat : Int) + (b.toNat : Int)) = ((D a b).toNat : Int) := by rw [hD]; exact w_add
   have x4 : ∀ a b : UInt32, ((a.toNat : Int) + (b.toNat : Int)) % 4294967296 = ((D a b).toNat : Int) := by rw [hD]; exact w_add'
   have x5 : ∀ a : UInt32, (a.toNat : Int) / 8 = ((S a 3).toNat : Int) := by rw [hS]; exact fun a => w_shr a 3
   have x6 : ∀ a : UInt32, (a.toNat : Int) / 1024 = ((S a 10).toNat : Int) := by rw [hS]; exact fun a => w_shr a 10
   have QR := hide (show ∀ (x : UInt32) (k : Int) (w : World), (-31 ≤ k ∧ k ≤ -1) → Calls Tryz.prog 154 #[.int .u32 (x.toNat : Int), .int .i64 k] w fun e w' => e = .returned (.int .u32 ((R x k).toNat : Int)) ∧ w' = w by rw [hR]; exact rotl_k)
   have HEQ := hide (And.intro hR (And.intro hX (And.intro hS hD)))
   clear hR hX hS hD hwz hi hlt
   rw [show ((16 : Nat) : Int) = 16 from rfl]
   go_wp2
   go_loopw [5, 6, 7, 8, 9] (fun u5 _ _ _ _ wr => ∃ i : Nat, 16 ≤ i ∧ i ≤ 64 ∧ u5 = .int .i64 (i : Int) ∧ Blk wr (w.heap.size + 1) 129 (fw 0 (wdh b)) ∧ Blk wr (w.heap.size + 2) 129 (fw i (wdh b)) ∧ Below w.heap.size w wr) (fun i _ _ _ _ _ => 64 - (intOf i).toNat)
   case atStart => exact ⟨16, by omega, by omega, rfl, H.out.2.1, H.out.2.2.1, H.out.2.2.2⟩
   case round =>
    clear H
    obtain ⟨i, hi16, hi, rfl, h1, h2, hbel⟩ := hrel
    have H := hide (And.intro h1 (And.intro h2 hbel))
    clear h1 h2 hbel
    by_cases hlt : i < 64
    ·obtain ⟨m, hm⟩ : ∃ m, i = m + 16 := ⟨i - 16, by omega⟩
     obtain ⟨m1, hm1⟩ : ∃ k, k = m + 1 := ⟨_, rfl⟩
     obtain ⟨m9, hm9⟩ : ∃ k, k = m + 9 := ⟨_, rfl⟩
     obtain ⟨m14, hm14⟩ : ∃ k, k = m + 14 := ⟨_, rfl⟩
     obtain ⟨a0, ha0⟩ : ∃ a, a = wdh b m := ⟨_, rfl⟩
     obtain ⟨a1, ha1⟩ : ∃ a, a = wdh b m1 := ⟨_, rfl⟩
     obtain ⟨a9, ha9⟩ : ∃ a, a = wdh b m9 := ⟨_, rfl⟩
     obtain ⟨a14, ha14⟩ : ∃ a, a = wdh b m14 := ⟨_, rfl⟩
     have g0 : wr.cell? ⟨w.heap.size + 2, m, none⟩ = some (.int .u32 (a0.toNat : Int)) := by rw [H.out.2.1.cell, fw_get _ (by omega), ha0]
     have g1 : wr.cell? ⟨w.heap.size + 2, m1, none⟩ = some (.int .u32 (a1.toNat : Int)) := by rw [H.out.2.1.cell, fw_get _ (by omega), ha1]
     have g9 : wr.cell? ⟨w.heap.size + 2, m9, none⟩ = some (.int .u32 (a9.toNat : Int)) := by rw [H.out.2.1.cell, fw_get _ (by omega), ha9]
     have g14 : wr.cell? ⟨w.heap.size + 2, m14, none⟩ = some (.int .u32 (a14.toNat : Int)) := by rw [H.out.2.1.cell, fw_get _ (by omega), ha14]
     have hw := wd_hi b (show ¬ i < 16 by omega)
     rw [show i - 2 = m14 by omega, show i - 7 = m9 by omega, show i - 15 = m1 by omega, show i - 16 = m by omega, ← ha0, ← ha1, ← ha9, ← ha14] at hw
     have HW := hide hw
     have t1 : IntKind.i64.wrap ((i : Int) - 15) = (m1 : Int) := by rw [IntWalk.i64_in _ (by omega)]; omega
     have t2 : IntKind.i64.wrap ((i : Int) - 2) = (m14 : Int) := by rw [IntWalk.i64_in _ (by omega)]; omega
     have t7 : IntKind.i64.wrap ((i : Int) - 7) = (m9 : Int) := by rw [IntWalk.i64_in _ (by omega)]; omega
     have t16 : IntKind.i64.wrap ((i : Int) - 16) = (m : Int) := by rw [IntWalk.i64_in _ (by omega)]; omega
     have f1 : (i : Int) - 15 = (m1 : Int) := by omega
     have f2 : (i : Int) - 2 = (m14 : Int) := by omega
     have f7 : (i : Int) - 7 = (m9 : Int) := by omega
     have f16 : (i : Int) - 16 = (m : Int) := by omega
     have b1 : (m1 : Int) < 64 := by omega
     have b9 : (m9 : Int) < 64 := by omega
     have b14 : (m14 : Int) < 64 := by omega
     have b0 : (m : Int) < 64 := by omega
     have p9 : (0 : Int) ≤ (m9 : Int) := by omega
     have p0 : (0 : Int) ≤ (m : Int) := by omega
     have pi : (0 : Int) ≤ (i : Int) := by omega
     have bi : (i : Int) < 64 := by omega
     have HI := hide hi16
     clear hm hm1 hm9 hm14 ha0 ha1 ha9 ha14 hw hi16
     have s2 := H.out.2.1.frozen i
     obtain ⟨y, hy⟩ : ∃ y, wr.cell? ⟨w.heap.size + 2, i, none⟩ = some y := by rw [H.out.2.1.cell]; exact ⟨_, Array.getElem?_eq_getElem (by rw [fw_size _ (by omega)]; omega)⟩
     go_wp2
     go_quiet (fail)
     go_wp2_with (go_at_call 154; refine (QR.out _ _ _ (by omega)).mono ?_; rintro e w' ⟨rfl, rfl⟩)
     go_region
     go_wp2
     go_roundw
     case rel =>
      have hE : wdh b i = D (D (D (X (X (R a14 (-17)) (R a14 (-19))) (S a14 10)) a9) (X (X (R a1 (-7)) (R a1 (-18))) (S a1 3))) a0 := by
       rw [HW.out]
       obtain ⟨rfl, rfl, rfl, rfl⟩ := HEQ.out
       rfl
      have hi16 := HI.out
      rw [← hE]
      refine ⟨i + 1, by omega, by omega, by go_num, (H.out.1.drewN _).far (by simp) _, ?_, (below_drewN H.out.2.2 _).setCell (by simp; omega) _⟩
      rw [← fw_set (wdh b) hlt]
      exact (H.out.2.1.drewN _).set_ i _
     case measure => simp [intOf]; omega
    ·have hi64 : i = 64 := by omega
     subst hi64
     have hfull : ∀ x ∈ (fw 64 (wdh b)).toList, x.oneCell' = true := fun x hx => by
      simp only [fw, Nat.sub_self, List.replicate_zero, List.append_nil, List.mem_map] at hx
      obtain ⟨_, _, rfl⟩ := hx
      rfl
     have HF := hide (show (fw 64 (wdh b)).all (·.oneCell') = true by rw [Array.all_eq_true']; exact fun x hx => hfull x (Array.mem_toList_iff.2 hx))
     have HSZ := hide (And.intro (fw_size (wdh b) (show 64 ≤ 64 by omega)) (fw_size (wdh b) (show 0 ≤ 64 by omega)))
     clear hfull x1 x3 x4 x5 x6
     go_wp2_with (first
      | ((with_reducible change wpList _ _ _ (⟨some 88, _, _, _, _, _⟩ :: _) _ _); refine wpList_load_row (o := ⟨some 88, .load _ _, _, _, _, _⟩) rfl 129 _ rfl (w.heap.size + 2) rfl 129 (fw 64 (wdh b)) (0, 0) _ H.out.2.1 Tryz.underlying129 rfl (by rw [HSZ.out.1]; kernel_rfl) ?_)
      | (refine wpList_store_row (o := ⟨none, .store _ _ _, _, _, _, _⟩) H.out.1 (fw 64 (wdh b)) (by rw [HSZ.out.1, HSZ.out.2]) HF.out rfl 129 _ _ rfl (by rw [HSZ.out.1]; kernel_rfl) rfl rfl ?_; intro w1 hb1 hg1))
     exact bodyPost_ret (results_cell_row rfl _ _ (w.heap.size + 1) 129 (fw 64 (wdh b)) (0, 0) _ rfl hb1 Tryz.underlying129 rfl (by rw [HSZ.out.1]; kernel_rfl)) rfl ⟨rfl, H.out.2.2.grown hg1 H.out.2.2.size fun k hk => by injection hk with hk; omega⟩
end Go.Proofs.YtdohebhbiokljaaGreatDoor
namespace Go.Proofs.YtdohebhbiokljaaGreatDoor
open Go.RowKit
theorem fw_self {k : Nat} (f : Nat → UInt32) (h : k < 64) : (fw k f).setIfInBounds k (.int .u32 0) = fw k f := by
 unfold fw
 rw [List.setIfInBounds_toArray]
 congr 1
 rw [List.set_append_right _ _ (by simp), List.length_map, List.length_range, Nat.sub_self, show 64 - k = (64 - (k + 1)) + 1 by omega, List.replicate_succ, List.set_cons_zero]
def pt (a b c d : UInt8) (j : Nat) : Nat := match j with | 0 => 0 | 1 => a.toNat | 2 => a.toNat * 256 + b.toNat | 3 => (a.toNat * 256 + b.toNat) * 256 + c.toNat | _ => ((a.toNat * 256 + b.toNat) * 256 + c.toNat) * 256 + d.toNat
theorem pt_lt (a b c d : UInt8) (j : Nat) (h : j < 4) : pt a b c d j < 16777216 := by
 have h1 := a.toNat_lt
 have h2 := b.toNat_lt
 have h3 := c.toNat_lt
 have hc : j = 0 ∨ j = 1 ∨ j = 2 ∨ j = 3 := by omega
 rcases hc with rfl | rfl | rfl | rfl <;> simp only [pt] <;> omega
set_option maxRecDepth 100000 in
set_option maxHeartbeats 4000000 in
theorem rwords_any (b : List UInt8) (w : World) (hb : b.length = 64) :
  Calls Tryz.prog 83 #[.agg (bcells b).toArray] w fun e w' => e = .returned (.agg (fw 64 (wdh b))) ∧ Below w.heap.size w w' := by
 obtain ⟨B, hB⟩ : ∃ B, B = (bcells b).toArray := ⟨_, rfl⟩
 have hsz : B.size = 64 := by rw [hB]; simp [hb]
 rw [← hB]
 have HB := hide hB
 clear hB
 go_enter Tryz.func83, Tryz.ntmps83
 go_wp2
 have hz : ((List.replicate 64 (Value.int .u32 0)).toArray) = fw 0 (wdh b) := (fw_zero _).symm
 go_loopw [4, 5] (fun u4 _ wr => ∃ i : Nat, i ≤ 16 ∧ u4 = .int .i64 (i : Int) ∧ Blk wr w.heap.size 98 B ∧ Blk wr (w.heap.size + 1) 129 (fw 0 (wdh b)) ∧ Blk wr (w.heap.size + 2) 129 (fw i (wdh b)) ∧ Below w.heap.size w wr) (fun i _ _ => 16 - (intOf i).toNat)
 case atStart =>
  refine ⟨0, by omega, rfl, ((Blk.new w _ _).alloc _).alloc _, ?_, ?_, (((Below.refl _ w).alloc (Nat.le_refl _) _).alloc (by simp) _).alloc (by simp; omega) _⟩
  ·rw [← hz]
   exact (blk_newk _ _ _ _ (by simp)).alloc _
  ·rw [← hz]
   exact blk_newk _ _ _ _ (by simp)
 case round =>
  clear hz
  obtain ⟨i, hi, rfl, h0, h1, h2, hbel⟩ := hrel
  have H := hide (And.intro h0 (And.intro h1 (And.intro h2 hbel)))
  clear h0 h1 h2 hbel
  by_cases hlt : i < 16
  ·obtain ⟨m, hm⟩ : ∃ m, m = 4 * i := ⟨_, rfl⟩
   have hcell : ∀ j, j < 64 → ∃ x : UInt8, B[j]? = some (.int .u8 (x.toNat : Int)) ∧ b.getD j 0 = x := by
    intro j hj
    refine ⟨b[j]'(by omega), ?_, by simp [hb, hj]⟩
    rw [HB.out]
    simp [bcells, hb, hj]
   obtain ⟨x0, g0, e0⟩ := hcell m (by omega)
   obtain ⟨x1, g1, e1⟩ := hcell (m + 1) (by omega)
   obtain ⟨x2, g2, e2⟩ := hcell (m + 2) (by omega)
   obtain ⟨x3, g3, e3⟩ := hcell (m + 3) (by omega)
   have HW := hide (show wdh b i = be4 x0 x1 x2 x3 by rw [wd_lo b hlt, ← hm, e0, e1, e2, e3])
   have wm : IntKind.i64.wrap (4 * (i : Int)) = (m : Int) := by rw [IntWalk.i64_in _ (by omega)]; omega
   have HX := hide (show ∀ j, j < 4 → ∃ x : UInt8, B[m + j]? = some (.int .u8 (x.toNat : Int)) ∧ pt x0 x1 x2 x3 j * 256 + x.toNat = pt x0 x1 x2 x3 (j + 1) from fun j hj => by
    have hc : j = 0 ∨ j = 1 ∨ j = 2 ∨ j = 3 := by omega
    rcases hc with rfl | rfl | rfl | rfl
    ·exact ⟨x0, g0, by simp [pt]⟩
    ·exact ⟨x1, g1, rfl⟩
    ·exact ⟨x2, g2, rfl⟩
    ·exact ⟨x3, g3, rfl⟩)
   have hmlt : m < 61 := by omega
   have HM := hide hm
   clear hm hcell e0 e1 e2 e3 g0 g1 g2 g3
   go_wp2
   go_loopw [5] (fun u5 wr => ∃ j : Nat, j ≤ 4 ∧ u5 = .int .i64 (j : Int) ∧ Blk wr w.heap.size 98 B ∧ Blk wr (w.heap.size + 1) 129 (fw 0 (wdh b)) ∧ Blk wr (w.heap.size + 2) 129 ((fw i (wdh b)).setIfInBounds i (.int .u32 ((pt x0 x1 x2 x3 j : Nat) : Int))) ∧ Below w.heap.size w wr) (fun i _ => 4 - (intOf i).toNat)
   case atStart =>
    refine ⟨0, by omega, rfl, H.out.1, H.out.2.1, ?_, H.out.2.2.2⟩
    rw [show (.int .u32 ((pt x0 x1 x2 x3 0 : Nat) : Int) : Value) = .int .u32 0 from rfl, fw_self _ (by omega)]
    exact H.out.2.2.1
   case round =>
    clear H
    obtain ⟨j, hj, rfl, h0, h1, h2, hbel⟩ := hrel
    by_cases hlj : j < 4
    ·obtain ⟨x, hx, hnext⟩ := HX.out j hlj
     obtain ⟨q, hq⟩ : ∃ q, q = m + j := ⟨_, rfl⟩
     rw [← hq] at hx
     have hpl := pt_lt x0 x1 x2 x3 j hlj
     obtain ⟨v, hv⟩ : ∃ v, v = pt x0 x1 x2 x3 j := ⟨_, rfl⟩
     rw [← hv] at hnext hpl
     have c1 : wr.cell? ⟨w.heap.size, q, none⟩ = some (.int .u8 (x.toNat : Int)) := (h0.cell q).trans hx
     have c2 : wr.cell? ⟨w.heap.size + 2, i, none⟩ = some (.int .u32 (v : Int)) := by
      rw [h2.cell, ← hv]
      simp [Array.getElem?_setIfInBounds_self, fw_size (wdh b) (show i ≤ 64 by omega)]
      omega
     have c3 := h2.frozen i
     have wq : IntKind.i64.wrap ((m : Int) + (j : Int)) = (q : Int) := by rw [IntWalk.i64_in _ (by omega)]; omega
     have fq : (m : Int) + (j : Int) = (q : Int) := by omega
     have bq : (q : Int) < 64 := by omega
     have bi : (i : Int) < 64 := by omega
     have pq : (0 : Int) ≤ (q : Int) := by omega
     have pi : (0 : Int) ≤ (i : Int) := by omega
     have H := hide (And.intro h0 (And.intro h1 (And.intro h2 hbel)))
     have HN := hide hnext
     have HV := hide hv
     have hxl := x.toNat_lt
     have HQ := hide hq
     clear h0 h1 h2 hbel hnext hv hx hq
     go_wp2
     go_region
     go_wp2
     go_roundw
     case rel =>
      have e : (v : Int) * 256 + (x.toNat : Int) = ((pt x0 x1 x2 x3 (j + 1) : Nat) : Int) := by
       rw [← HN.out]
       simp
      rw [e]
      refine ⟨j + 1, by omega, by go_num, (H.out.1.far (by simp; omega) _).drew, (H.out.2.1.far (by simp) _).drew, ?_, (H.out.2.2.2.setCell (by simp; omega) _).drew⟩
      have h := (H.out.2.2.1.set_ i (.int .u32 ((pt x0 x1 x2 x3 (j + 1) : Nat) : Int))).drew
      rw [Array.setIfInBounds_setIfInBounds] at h
      exact h
     case measure => simp [intOf]; omega
    ·have hj4 : j = 4 := by omega
     subst hj4
     have H := hide (And.intro h0 (And.intro h1 (And.intro h2 hbel)))
     clear h0 h1 h2 hbel
     rw [show ((4 : Nat) : Int) = 4 from rfl]
     go_wp2
     go_roundw
     case rel =>
      refine ⟨i + 1, by omega, by go_num, H.out.1, H.out.2.1, ?_, H.out.2.2.2⟩
      have h2 := H.out.2.2.1
      rw [show ((pt x0 x1 x2 x3 4 : Nat) : Int) = ((wdh b i).toNat : Int) by rw [HW.out, be4_toNat]; simp only [pt]; omega, fw_set _ (by omega)] at h2
      exact h2
     case measure => simp [intOf]; omega
  ·have hi16 : i = 16 := by omega
   subst hi16
   obtain ⟨R, hR⟩ : ∃ R, R = rkh := ⟨_, rfl⟩
   obtain ⟨X, hX⟩ : ∃ X, X = xo := ⟨_, rfl⟩
   obtain ⟨S, hS⟩ : ∃ S, S = sr := ⟨_, rfl⟩
   obtain ⟨D, hD⟩ : ∃ D, D = ad := ⟨_, rfl⟩
   have x1 : ∀ a b : UInt32, bits .xor .u32 (a.toNat : Int) (b.toNat : Int) = ((X a b).toNat : Int) := by rw [hX]; exact w_xor
   have x3 : ∀ a b : UInt32, IntKind.u32.wrap ((a.toNat : Int) + (b.toNat : Int)) = ((D a b).toNat : Int) := by rw [hD]; exact w_add
   have x4 : ∀ a b : UInt32, ((a.toNat : Int) + (b.toNat : Int)) % 4294967296 = ((D a b).toNat : Int) := by rw [hD]; exact w_add'
   have x5 : ∀ a : UInt32, (a.toNat : Int) / 8 = ((S a 3).toNat : Int) := by rw [hS]; exact fun a => w_shr a 3
   have x6 : ∀ a : UInt32, (a.toNat : Int) / 1024 = ((S a 10).toNat : Int) := by rw [hS]; exact fun a => w_shr a 10
   have QR := hide (show ∀ (x : UInt32) (k : Int) (w : World), (1 ≤ k ∧ k ≤ 31) → Calls Tryz.prog 85 #[.int .u32 (x.toNat : Int), .int .u64 k] w fun e w' => e = .returned (.int .u32 ((R x k).toNat : Int)) ∧ w' = w by rw [hR]; exact turn_k)
   have HEQ := hide (And.intro hR (And.intro hX (And.intro hS hD)))
   clear hR hX hS hD hi hlt
   rw [show ((16 : Nat) : Int) = 16 from rfl]
   go_wp2
   go_loopw [6, 7, 8, 9, 10] (fun u5 _ _ _ _ wr => ∃ i : Nat, 16 ≤ i ∧ i ≤ 64 ∧ u5 = .int .i64 (i : Int) ∧ Blk wr (w.heap.size + 1) 129 (fw 0 (wdh b)) ∧ Blk wr (w.heap.size + 2) 129 (fw i (wdh b)) ∧ Below w.heap.size w wr) (fun i _ _ _ _ _ => 64 - (intOf i).toNat)
   case atStart => exact ⟨16, by omega, by omega, rfl, H.out.2.1, H.out.2.2.1, H.out.2.2.2⟩
   case round =>
    clear H
    obtain ⟨i, hi16, hi, rfl, h1, h2, hbel⟩ := hrel
    have H := hide (And.intro h1 (And.intro h2 hbel))
    clear h1 h2 hbel
    by_cases hlt : i < 64
    ·obtain ⟨m, hm⟩ : ∃ m, i = m + 16 := ⟨i - 16, by omega⟩
     obtain ⟨m1, hm1⟩ : ∃ k, k = m + 1 := ⟨_, rfl⟩
     obtain ⟨m9, hm9⟩ : ∃ k, k = m + 9 := ⟨_, rfl⟩
     obtain ⟨m14, hm14⟩ : ∃ k, k = m + 14 := ⟨_, rfl⟩
     obtain ⟨a0, ha0⟩ : ∃ a, a = wdh b m := ⟨_, rfl⟩
     obtain ⟨a1, ha1⟩ : ∃ a, a = wdh b m1 := ⟨_, rfl⟩
     obtain ⟨a9, ha9⟩ : ∃ a, a = wdh b m9 := ⟨_, rfl⟩
     obtain ⟨a14, ha14⟩ : ∃ a, a = wdh b m14 := ⟨_, rfl⟩
     have g0 : wr.cell? ⟨w.heap.size + 2, m, none⟩ = some (.int .u32 (a0.toNat : Int)) := by rw [H.out.2.1.cell, fw_get _ (by omega), ha0]
     have g1 : wr.cell? ⟨w.heap.size + 2, m1, none⟩ = some (.int .u32 (a1.toNat : Int)) := by rw [H.out.2.1.cell, fw_get _ (by omega), ha1]
     have g9 : wr.cell? ⟨w.heap.size + 2, m9, none⟩ = some (.int .u32 (a9.toNat : Int)) := by rw [H.out.2.1.cell, fw_get _ (by omega), ha9]
     have g14 : wr.cell? ⟨w.heap.size + 2, m14, none⟩ = some (.int .u32 (a14.toNat : Int)) := by rw [H.out.2.1.cell, fw_get _ (by omega), ha14]
     have hw := wd_hi b (show ¬ i < 16 by omega)
     rw [show i - 2 = m14 by omega, show i - 7 = m9 by omega, show i - 15 = m1 by omega, show i - 16 = m by omega, ← ha0, ← ha1, ← ha9, ← ha14] at hw
     have HW := hide hw
     have t1 : IntKind.i64.wrap ((i : Int) - 15) = (m1 : Int) := by rw [IntWalk.i64_in _ (by omega)]; omega
     have t2 : IntKind.i64.wrap ((i : Int) - 2) = (m14 : Int) := by rw [IntWalk.i64_in _ (by omega)]; omega
     have t7 : IntKind.i64.wrap ((i : Int) - 7) = (m9 : Int) := by rw [IntWalk.i64_in _ (by omega)]; omega
     have t16 : IntKind.i64.wrap ((i : Int) - 16) = (m : Int) := by rw [IntWalk.i64_in _ (by omega)]; omega
     have f1 : (i : Int) - 15 = (m1 : Int) := by omega
     have f2 : (i : Int) - 2 = (m14 : Int) := by omega
     have f7 : (i : Int) - 7 = (m9 : Int) := by omega
     have f16 : (i : Int) - 16 = (m : Int) := by omega
     have b1 : (m1 : Int) < 64 := by omega
     have b9 : (m9 : Int) < 64 := by omega
     have b14 : (m14 : Int) < 64 := by omega
     have b0 : (m : Int) < 64 := by omega
     have p9 : (0 : Int) ≤ (m9 : Int) := by omega
     have p0 : (0 : Int) ≤ (m : Int) := by omega
     have pi : (0 : Int) ≤ (i : Int) := by omega
     have bi : (i : Int) < 64 := by omega
     have HI := hide hi16
     clear hm hm1 hm9 hm14 ha0 ha1 ha9 ha14 hw hi16
     have s2 := H.out.2.1.frozen i
     obtain ⟨y, hy⟩ : ∃ y, wr.cell? ⟨w.heap.size + 2, i, none⟩ = some y := by rw [H.out.2.1.cell]; exact ⟨_, Array.getElem?_eq_getElem (by rw [fw_size _ (by omega)]; omega)⟩
     go_wp2_with (go_at_call 85; refine (QR.out _ _ _ (by omega)).mono ?_; rintro e w' ⟨rfl, rfl⟩)
     go_region
     go_wp2
     go_roundw
     case rel =>
      have hE : wdh b i = D (D (D (X (X (R a14 17) (R a14 19)) (S a14 10)) a9) (X (X (R a1 7) (R a1 18)) (S a1 3))) a0 := by
       rw [HW.out]
       obtain ⟨rfl, rfl, rfl, rfl⟩ := HEQ.out
       rfl
      have hi16 := HI.out
      rw [← hE]
      refine ⟨i + 1, by omega, by omega, by go_num, (H.out.1.drewN _).far (by simp) _, ?_, (below_drewN H.out.2.2 _).setCell (by simp; omega) _⟩
      rw [← fw_set (wdh b) hlt]
      exact (H.out.2.1.drewN _).set_ i _
     case measure => simp [intOf]; omega
    ·have hi64 : i = 64 := by omega
     subst hi64
     have hfull : ∀ x ∈ (fw 64 (wdh b)).toList, x.oneCell' = true := fun x hx => by
      simp only [fw, Nat.sub_self, List.replicate_zero, List.append_nil, List.mem_map] at hx
      obtain ⟨_, _, rfl⟩ := hx
      rfl
     have HF := hide (show (fw 64 (wdh b)).all (·.oneCell') = true by rw [Array.all_eq_true']; exact fun x hx => hfull x (Array.mem_toList_iff.2 hx))
     have HSZ := hide (And.intro (fw_size (wdh b) (show 64 ≤ 64 by omega)) (fw_size (wdh b) (show 0 ≤ 64 by omega)))
     clear hfull x1 x3 x4 x5 x6
     go_wp2_with (first
      | ((with_reducible change wpList _ _ _ (⟨some 76, _, _, _, _, _⟩ :: _) _ _); refine wpList_load_row (o := ⟨some 76, .load _ _, _, _, _, _⟩) rfl 129 _ rfl (w.heap.size + 2) rfl 129 (fw 64 (wdh b)) (0, 0) _ H.out.2.1 Tryz.underlying129 rfl (by rw [HSZ.out.1]; kernel_rfl) ?_)
      | (refine wpList_store_row (o := ⟨none, .store _ _ _, _, _, _, _⟩) H.out.1 (fw 64 (wdh b)) (by rw [HSZ.out.1, HSZ.out.2]) HF.out rfl 129 _ _ rfl (by rw [HSZ.out.1]; kernel_rfl) rfl rfl ?_; intro w1 hb1 hg1))
     exact bodyPost_ret (results_cell_row rfl _ _ (w.heap.size + 1) 129 (fw 64 (wdh b)) (0, 0) _ rfl hb1 Tryz.underlying129 rfl (by rw [HSZ.out.1]; kernel_rfl)) rfl ⟨rfl, H.out.2.2.grown hg1 H.out.2.2.size fun k hk => by injection hk with hk; omega⟩
end Go.Proofs.YtdohebhbiokljaaGreatDoor
namespace Go.Proofs.YtdohebhbiokljaaGreatDoor
open Go.RowKit
def kList : List UInt32 := [1116352408, 1899447441, 3049323471, 3921009573, 961987163, 1508970993, 2453635748, 2870763221, 3624381080, 310598401, 607225278, 1426881987, 1925078388, 2162078206, 2614888103, 3248222580, 3835390401, 4022224774, 264347078, 604807628, 770255983, 1249150122, 1555081692, 1996064986, 2554220882, 2821834349, 2952996808, 3210313671, 3336571891, 3584528711, 113926993, 338241895, 666307205, 773529912, 1294757372, 1396182291, 1695183700, 1986661051, 2177026350, 2456956037, 2730485921, 2820302411, 3259730800, 3345764771, 3516065817, 3600352804, 4094571909, 275423344, 430227734, 506948616, 659060556, 883997877, 958139571, 1322822218, 1537002063, 1747873779, 1955562222, 2024104815, 2227730452, 2361852424, 2428436474, 2756734187, 3204031479, 3329325298]
def kc (t : Nat) : UInt32 := kList.getD t 0
def h0 : H8 := ⟨1779033703, 3144134277, 1013904242, 2773480762, 1359893119, 2600822924, 528734635, 1541459225⟩
theorem fw_kc : fw 64 kc = #[.int .u32 1116352408, .int .u32 1899447441, .int .u32 3049323471, .int .u32 3921009573, .int .u32 961987163, .int .u32 1508970993, .int .u32 2453635748, .int .u32 2870763221, .int .u32 3624381080, .int .u32 310598401, .int .u32 607225278, .int .u32 1426881987, .int .u32 1925078388, .int .u32 2162078206, .int .u32 2614888103, .int .u32 3248222580, .int .u32 3835390401, .int .u32 4022224774, .int .u32 264347078, .int .u32 604807628, .int .u32 770255983, .int .u32 1249150122, .int .u32 1555081692, .int .u32 1996064986, .int .u32 2554220882, .int .u32 2821834349, .int .u32 2952996808, .int .u32 3210313671, .int .u32 3336571891, .int .u32 3584528711, .int .u32 113926993, .int .u32 338241895, .int .u32 666307205, .int .u32 773529912, .int .u32 1294757372, .int .u32 1396182291, .int .u32 1695183700, .int .u32 1986661051, .int .u32 2177026350, .int .u32 2456956037, .int .u32 2730485921, .int .u32 2820302411, .int .u32 3259730800, .int .u32 3345764771, .int .u32 3516065817, .int .u32 3600352804, .int .u32 4094571909, .int .u32 275423344, .int .u32 430227734, .int .u32 506948616, .int .u32 659060556, .int .u32 883997877, .int .u32 958139571, .int .u32 1322822218, .int .u32 1537002063, .int .u32 1747873779, .int .u32 1955562222, .int .u32 2024104815, .int .u32 2227730452, .int .u32 2361852424, .int .u32 2428436474, .int .u32 2756734187, .int .u32 3204031479, .int .u32 3329325298] := by rfl
theorem zeros_size : (List.replicate 64 (Value.int .u32 0)).toArray.size = 64 := by simp
theorem fw_one (f : Nat → UInt32) : (fw 64 f).all (·.oneCell') = true := by
 rw [Array.all_eq_true']
 intro x hx
 have hx := Array.mem_toList_iff.2 hx
 simp only [fw, Nat.sub_self, List.replicate_zero, List.append_nil, List.mem_map] at hx
 obtain ⟨_, _, rfl⟩ := hx
 rfl
set_option maxRecDepth 100000 in
set_option maxHeartbeats 4000000 in
theorem constants_any (w : World) : Calls Tryz.prog 140 #[] w fun e w' => e = .returned (.agg (fw 64 kc)) ∧ Below w.heap.size w w' := by
 have hb := Blk.new w 129 (List.replicate 64 (Value.int .u32 0)).toArray
 have HB := hide (And.intro hb ((Below.refl w.heap.size w).alloc (Nat.le_refl _) (.cells (List.replicate 64 (Value.int .u32 0)).toArray 129)))
 have HS := hide (And.intro (fw_size kc (show 64 ≤ 64 by omega)) (And.intro zeros_size (fw_one kc)))
 have HK := hide fw_kc
 clear hb
 go_enter Tryz.func140, Tryz.ntmps140
 go_wp2_with ((with_reducible show wpList _ _ _ (⟨none, _, _, _, _, _⟩ :: _) _ _); refine wpList_store_row (o := ⟨none, .store _ _ _, _, _, _, _⟩) HB.out.1 (fw 64 kc) (by rw [HS.out.1, HS.out.2.1]) HS.out.2.2 rfl 129 _ _ rfl (by rw [HS.out.1]; kernel_rfl) rfl (by rw [HK.out]; rfl) ?_; intro w1 hb1 hg1)
 exact bodyPost_ret (results_cell_row rfl _ _ w.heap.size 129 (fw 64 kc) (0, 0) _ rfl hb1 Tryz.underlying129 rfl (by rw [HS.out.1]; kernel_rfl)) rfl ⟨rfl, HB.out.2.grown hg1 (by simp) fun k hk => by injection hk with hk; omega⟩
set_option maxRecDepth 100000 in
set_option maxHeartbeats 4000000 in
theorem rconstants_any (w : World) : Calls Tryz.prog 84 #[] w fun e w' => e = .returned (.agg (fw 64 kc)) ∧ Below w.heap.size w w' := by
 have hb := Blk.new w 129 (List.replicate 64 (Value.int .u32 0)).toArray
 have HB := hide (And.intro hb ((Below.refl w.heap.size w).alloc (Nat.le_refl _) (.cells (List.replicate 64 (Value.int .u32 0)).toArray 129)))
 have HS := hide (And.intro (fw_size kc (show 64 ≤ 64 by omega)) (And.intro zeros_size (fw_one kc)))
 have HK := hide fw_kc
 clear hb
 go_enter Tryz.func84, Tryz.ntmps84
 go_wp2_with ((with_reducible show wpList _ _ _ (⟨none, _, _, _, _, _⟩ :: _) _ _); refine wpList_store_row (o := ⟨none, .store _ _ _, _, _, _, _⟩) HB.out.1 (fw 64 kc) (by rw [HS.out.1, HS.out.2.1]) HS.out.2.2 rfl 129 _ _ rfl (by rw [HS.out.1]; kernel_rfl) rfl (by rw [HK.out]; rfl) ?_; intro w1 hb1 hg1)
 exact bodyPost_ret (results_cell_row rfl _ _ w.heap.size 129 (fw 64 kc) (0, 0) _ rfl hb1 Tryz.underlying129 rfl (by rw [HS.out.1]; kernel_rfl)) rfl ⟨rfl, HB.out.2.grown hg1 (by simp) fun k hk => by injection hk with hk; omega⟩
end Go.Proofs.YtdohebhbiokljaaGreatDoor
namespace Go.Proofs.YtdohebhbiokljaaGreatDoor
open Go.RowKit
def H8.at (s : H8) : Nat → UInt32
 | 0 => s.a | 1 => s.b | 2 => s.c | 3 => s.d | 4 => s.e | 5 => s.f | 6 => s.g | _ => s.h
def partH (s t : H8) (k : Nat) : Array Value := ((List.range 8).map (fun i => Value.int .u32 ((if i < k then ad (s.at i) (t.at i) else s.at i).toNat : Int))).toArray
theorem part_zero (s t : H8) : partH s t 0 = s.cells := by
 simp [partH, H8.cells, List.range_succ, H8.at]
theorem part_full (s t : H8) : partH s t 8 = H8.cells ⟨ad s.a t.a, ad s.b t.b, ad s.c t.c, ad s.d t.d, ad s.e t.e, ad s.f t.f, ad s.g t.g, ad s.h t.h⟩ := by
 simp [partH, H8.cells, List.range_succ, H8.at]
theorem part_size (s t : H8) (k : Nat) : (partH s t k).size = 8 := by simp [partH]
theorem partH_get (s t : H8) {k : Nat} (h : k < 8) : (partH s t k)[k]? = some (.int .u32 ((s.at k).toNat : Int)) := by
 simp [partH, h]
theorem cells_get (s : H8) {k : Nat} (h : k < 8) : s.cells[k]? = some (.int .u32 ((s.at k).toNat : Int)) := by
 rw [← part_zero s s]; simp [partH, h]
theorem part_set (s t : H8) {k : Nat} (h : k < 8) : (partH s t k).setIfInBounds k (.int .u32 ((ad (s.at k) (t.at k)).toNat : Int)) = partH s t (k + 1) := by
 apply Array.ext
 ·simp [partH]
 ·intro i h1 h2
  have h3 : i < 8 := by simpa [partH] using h2
  rw [Array.getElem_setIfInBounds (by simpa [partH] using h3)]
  by_cases hk : k = i
  ·subst hk
   simp [partH]
  ·rw [if_neg hk]
   simp only [partH, List.getElem_toArray, List.getElem_map, List.getElem_range]
   have : i < k + 1 ↔ i < k := by omega
   simp [this]
end Go.Proofs.YtdohebhbiokljaaGreatDoor
namespace Go.Proofs.YtdohebhbiokljaaGreatDoor
open Go.RowKit
def rds (s : H8) (b : List UInt8) : Nat → H8
 | 0 => s
 | t + 1 => rnd (rds s b t) (ad (kc t) (wdh b t))
theorem rds_succ (s : H8) (b : List UInt8) (t : Nat) : rds s b (t + 1) = rnd (rds s b t) (ad (kc t) (wdh b t)) := rfl
def H8.add (s t : H8) : H8 := ⟨ad s.a t.a, ad s.b t.b, ad s.c t.c, ad s.d t.d, ad s.e t.e, ad s.f t.f, ad s.g t.g, ad s.h t.h⟩
theorem H8.one (s : H8) : s.cells.all (·.oneCell') = true := by simp [H8.cells, Value.oneCell']
def mixH (s : H8) (b : List UInt8) : H8 := s.add (rds s b 64)
theorem blk_eight {w : World} {g : Nat} {t : TypeId} {a0 a1 a2 a3 a4 a5 a6 a7 : Value} (h : Blk w g t #[a0, a1, a2, a3, a4, a5, a6, a7]) (b0 b1 b2 b3 b4 b5 b6 b7 : Value) :
  Blk ((((((((w.setCell ⟨g, 0, none⟩ b0).setCell ⟨g, 1, none⟩ b1).setCell ⟨g, 2, none⟩ b2).setCell ⟨g, 3, none⟩ b3).setCell ⟨g, 4, none⟩ b4).setCell ⟨g, 5, none⟩ b5).setCell ⟨g, 6, none⟩ b6).setCell ⟨g, 7, none⟩ b7) g t #[b0, b1, b2, b3, b4, b5, b6, b7] := by
 have := (((((((h.set_ 0 b0).set_ 1 b1).set_ 2 b2).set_ 3 b3).set_ 4 b4).set_ 5 b5).set_ 6 b6).set_ 7 b7
 simpa using this
theorem blk_eight_far {w : World} {g n : Nat} {t : TypeId} {cs : Array Value} (h : Blk w g t cs) (hn : g ≠ n) (b0 b1 b2 b3 b4 b5 b6 b7 : Value) :
  Blk ((((((((w.setCell ⟨n, 0, none⟩ b0).setCell ⟨n, 1, none⟩ b1).setCell ⟨n, 2, none⟩ b2).setCell ⟨n, 3, none⟩ b3).setCell ⟨n, 4, none⟩ b4).setCell ⟨n, 5, none⟩ b5).setCell ⟨n, 6, none⟩ b6).setCell ⟨n, 7, none⟩ b7) g t cs :=
 (((((((h.far hn _).far hn _).far hn _).far hn _).far hn _).far hn _).far hn _).far hn _
theorem below_eight {w0 w : World} {B n : Nat} (h : Below B w0 w) (hn : B ≤ n) (b0 b1 b2 b3 b4 b5 b6 b7 : Value) :
  Below B w0 ((((((((w.setCell ⟨n, 0, none⟩ b0).setCell ⟨n, 1, none⟩ b1).setCell ⟨n, 2, none⟩ b2).setCell ⟨n, 3, none⟩ b3).setCell ⟨n, 4, none⟩ b4).setCell ⟨n, 5, none⟩ b5).setCell ⟨n, 6, none⟩ b6).setCell ⟨n, 7, none⟩ b7) :=
 (((((((h.setCell hn _).setCell hn _).setCell hn _).setCell hn _).setCell hn _).setCell hn _).setCell hn _).setCell hn _
theorem round_eight (y0 y1 y2 y3 y4 y5 y6 y7 k : UInt32) (w : World) : Calls Tryz.prog 141 #[.agg #[.int .u32 (y0.toNat : Int), .int .u32 (y1.toNat : Int), .int .u32 (y2.toNat : Int), .int .u32 (y3.toNat : Int), .int .u32 (y4.toNat : Int), .int .u32 (y5.toNat : Int), .int .u32 (y6.toNat : Int), .int .u32 (y7.toNat : Int)], .int .u32 (k.toNat : Int)] w fun e w' => ∃ z0 z1 z2 z3 z4 z5 z6 z7, rnd ⟨y0, y1, y2, y3, y4, y5, y6, y7⟩ k = ⟨z0, z1, z2, z3, z4, z5, z6, z7⟩ ∧ e = .returned (.agg #[.int .u32 (z0.toNat : Int), .int .u32 (z1.toNat : Int), .int .u32 (z2.toNat : Int), .int .u32 (z3.toNat : Int), .int .u32 (z4.toNat : Int), .int .u32 (z5.toNat : Int), .int .u32 (z6.toNat : Int), .int .u32 (z7.toNat : Int)]) ∧ Below w.heap.size w w' :=
 (round_any ⟨y0, y1, y2, y3, y4, y5, y6, y7⟩ k w).mono fun _ _ h => ⟨_, _, _, _, _, _, _, _, rfl, h.1, h.2⟩
set_option maxRecDepth 100000 in
set_option maxHeartbeats 4000000 in
theorem mix_any (s : H8) (b : List UInt8) (w : World) (hb : b.length = 64) :
  Calls Tryz.prog 126 #[.agg s.cells, .agg (bcells b).toArray] w fun e w' => e = .returned (.agg (mixH s b).cells) ∧ Below w.heap.size w w' := by
 obtain ⟨B, hB⟩ : ∃ B, B = (bcells b).toArray := ⟨_, rfl⟩
 have hsz : B.size = 64 := by rw [hB]; simp [hb]
 have Q1 := hide (fun w => schedule_any b w hb)
 rw [← hB] at Q1 ⊢
 have HB := hide hB
 clear hB
 have HS := hide (And.intro (fw_size (wdh b) (show 64 ≤ 64 by omega)) (And.intro zeros_size (And.intro (fw_one (wdh b)) (And.intro (fw_size kc (show 64 ≤ 64 by omega)) (fw_one kc)))))
 have hsc : s.cells = #[.int .u32 (s.a.toNat : Int), .int .u32 (s.b.toNat : Int), .int .u32 (s.c.toNat : Int), .int .u32 (s.d.toNat : Int), .int .u32 (s.e.toNat : Int), .int .u32 (s.f.toNat : Int), .int .u32 (s.g.toNat : Int), .int .u32 (s.h.toNat : Int)] := rfl
 have HSC := hide hsc
 have HONE := hide s.one
 have hz : ((List.replicate 64 (Value.int .u32 0)).toArray) = fw 0 (wdh b) := (fw_zero _).symm
 have HZ := hide (fun (W : World) => And.intro (show Blk ((W.alloc (.cells (List.replicate 64 (Value.int .u32 0)).toArray 129)).alloc (.cells (List.replicate 64 (Value.int .u32 0)).toArray 129)) W.heap.size 129 (List.replicate 64 (Value.int .u32 0)).toArray from (Blk.new W _ _).alloc _) (show Blk ((W.alloc (.cells (List.replicate 64 (Value.int .u32 0)).toArray 129)).alloc (.cells (List.replicate 64 (Value.int .u32 0)).toArray 129)) (W.heap.size + 1) 129 (List.replicate 64 (Value.int .u32 0)).toArray from blk_newk _ _ _ _ (by simp)))
 have n0 := ((Blk.new w 96 s.cells).alloc (.cells B 98)).alloc (.cells #[.int .u32 0, .int .u32 0, .int .u32 0, .int .u32 0, .int .u32 0, .int .u32 0, .int .u32 0, .int .u32 0] 96)
 have n1 := (Blk.new (w.alloc (.cells s.cells 96)) 98 B).alloc (.cells #[.int .u32 0, .int .u32 0, .int .u32 0, .int .u32 0, .int .u32 0, .int .u32 0, .int .u32 0, .int .u32 0] 96)
 have n2 := Blk.new ((w.alloc (.cells s.cells 96)).alloc (.cells B 98)) 96 #[.int .u32 0, .int .u32 0, .int .u32 0, .int .u32 0, .int .u32 0, .int .u32 0, .int .u32 0, .int .u32 0]
 have nb : Below w.heap.size w (((w.alloc (.cells s.cells 96)).alloc (.cells B 98)).alloc (.cells #[.int .u32 0, .int .u32 0, .int .u32 0, .int .u32 0, .int .u32 0, .int .u32 0, .int .u32 0, .int .u32 0] 96)) := (((Below.refl _ w).alloc (Nat.le_refl _) _).alloc (by simp) _).alloc (by simp; omega) _
 simp only [World.size_alloc] at n1 n2
 have H0 := hide (And.intro n0 (And.intro n1 (And.intro n2 nb)))
 clear n0 n1 n2 nb hsc hz
 go_enter Tryz.func126, Tryz.ntmps126
 go_wp2_with (refine wpList_load_row (o := ⟨some 10, .load _ _, _, _, _, _⟩) rfl 98 _ rfl (w.heap.size + 1) rfl 98 B (0, 0) _ H0.out.2.1 Tryz.underlying98 rfl (by rw [hsz]; kernel_rfl) ?_)
 refine (Q1.out _).mono ?_
 rintro e w1 ⟨rfl, b1⟩
 have H1 := hide (And.intro (H0.out.1.below' b1) (And.intro (H0.out.2.2.1.below' b1) (H0.out.2.2.2.trans (b1.mono H0.out.2.2.2.size))))
 clear b1 H0
 go_wp2_with fail
 refine (constants_any w1).mono ?_
 rintro e w2 ⟨rfl, b2⟩
 have H2 := hide (And.intro (H1.out.1.below' b2) (And.intro (H1.out.2.1.below' b2) (H1.out.2.2.trans (b2.mono H1.out.2.2.size))))
 clear b2 H1
 go_wp2_with first
  | ((with_reducible change wpList _ _ _ (⟨none, .store _ (.tmp 5) _, _, _, _, _⟩ :: _) _ _); refine wpList_store_row (o := ⟨none, .store _ (.tmp 5) _, _, _, _, _⟩) (HZ.out w2).1 (fw 64 (wdh b)) (by rw [HS.out.1, HS.out.2.1]) HS.out.2.2.1 rfl 129 _ _ rfl (by rw [HS.out.1]; kernel_rfl) rfl rfl ?_; intro w3 hb3 hg3; have H3 := hide (And.intro hb3 hg3); clear hb3 hg3)
  | ((with_reducible change wpList _ _ _ (⟨none, .store _ (.tmp 6) _, _, _, _, _⟩ :: _) _ _); refine wpList_store_row (o := ⟨none, .store _ (.tmp 6) _, _, _, _, _⟩) ((HZ.out w2).2.grown H3.out.2 (by simp)) (fw 64 kc) (by rw [HS.out.2.2.2.1, HS.out.2.1]) HS.out.2.2.2.2 rfl 129 _ _ rfl (by rw [HS.out.2.2.2.1]; kernel_rfl) rfl rfl ?_; intro w4 hb4 hg4; have H4 := hide (And.intro hb4 hg4); have hlt := H2.out.1.lt; have H5 := hide (And.intro ((((H2.out.1.alloc _).alloc _).grown H3.out.2 (by simp; omega)).grown H4.out.2 (by simp; omega)) (And.intro ((((H2.out.2.1.alloc _).alloc _).grown H3.out.2 (by have := H2.out.2.1.lt; simp; omega)).grown H4.out.2 (by have := H2.out.2.1.lt; simp; omega)) (And.intro (H3.out.1.grown H4.out.2 (by simp)) hb4))); clear hb4 hg4)
  | ((with_reducible change wpList _ _ _ (⟨some 13, _, _, _, _, _⟩ :: _) _ _); refine wpList_load_row (o := ⟨some 13, .load _ _, _, _, _, _⟩) rfl 96 _ rfl w.heap.size rfl 96 s.cells (0, 0) _ H5.out.1 Tryz.underlying96 rfl (by kernel_rfl) ?_)
  | ((with_reducible change wpList _ _ _ (⟨none, .store _ (.tmp 7) _, _, _, _, _⟩ :: _) _ _); refine wpList_store_row (o := ⟨none, .store _ (.tmp 7) _, _, _, _, _⟩) (Blk.new w4 96 #[.int .u32 0, .int .u32 0, .int .u32 0, .int .u32 0, .int .u32 0, .int .u32 0, .int .u32 0, .int .u32 0]) s.cells rfl HONE.out rfl 96 _ _ rfl (by rw [HSC.out]; kernel_rfl) rfl rfl ?_; intro w5 hb5 hg5; have H6 := hide (And.intro hb5 hg5); clear hb5 hg5)
 have hBEL : Below w.heap.size w w5 := by
  have l2 := H2.out.2.1.lt
  have h2 := H2.out.2.2
  have l3 := H3.out.1.lt
  have l4 := H4.out.1.lt
  have h3 := (((h2.alloc (by omega) _).alloc (by simp; omega) _).grown H3.out.2 (by simp; omega) fun k hk => by injection hk with hk; omega)
  have h4 := h3.grown H4.out.2 (by omega) fun k hk => by injection hk with hk; omega
  exact (h4.alloc (by omega) _).grown H6.out.2 (by simp; omega) fun k hk => by injection hk with hk; omega
 obtain ⟨N4, hN4⟩ : ∃ n, n = w4.heap.size := ⟨_, rfl⟩
 obtain ⟨N2, hN2⟩ : ∃ n, n = w2.heap.size := ⟨_, rfl⟩
 have HLT := hide (show w.heap.size + 2 < N2 ∧ N2 + 1 < N4 by
  have l2 := H2.out.2.1.lt
  have l4 := H4.out.1.lt
  omega)
 have HI := hide (show Blk w5 w.heap.size 96 s.cells ∧ Blk w5 (w.heap.size + 1 + 1) 96 #[.int .u32 0, .int .u32 0, .int .u32 0, .int .u32 0, .int .u32 0, .int .u32 0, .int .u32 0, .int .u32 0] ∧ Blk w5 N2 129 (fw 64 (wdh b)) ∧ Blk w5 (N2 + 1) 129 (fw 64 kc) ∧ Blk w5 N4 96 (rds s b 0).cells ∧ Below w.heap.size w w5 by
  have l2 := H2.out.2.1.lt
  have l4 := H4.out.1.lt
  rw [hN4, hN2]
  exact ⟨(H5.out.1.alloc _).grown H6.out.2 (by simp; omega), (H5.out.2.1.alloc _).grown H6.out.2 (by simp; omega), (H5.out.2.2.1.alloc _).grown H6.out.2 (by simp; omega), (H5.out.2.2.2.alloc _).grown H6.out.2 (by simp; omega), H6.out.1, hBEL⟩)
 rw [← hN4, ← hN2]
 have HNN := hide (And.intro hN4 hN2)
 clear hN4 hN2 hBEL H6 hlt H5 H4 H3 H2 HZ
 go_loopw [14, 8, 15, 16, 17, 18, 19, 20, 21, 22, 23, 24, 25, 26] (fun u14 _ _ _ _ _ _ _ _ _ _ _ _ _ wr => ∃ i : Nat, i ≤ 64 ∧ u14 = .int .i64 (i : Int) ∧ Blk wr w.heap.size 96 s.cells ∧ Blk wr (w.heap.size + 1 + 1) 96 #[.int .u32 0, .int .u32 0, .int .u32 0, .int .u32 0, .int .u32 0, .int .u32 0, .int .u32 0, .int .u32 0] ∧ Blk wr N2 129 (fw 64 (wdh b)) ∧ Blk wr (N2 + 1) 129 (fw 64 kc) ∧ Blk wr N4 96 (rds s b i).cells ∧ Below w.heap.size w wr) (fun i _ _ _ _ _ _ _ _ _ _ _ _ _ _ => 64 - (intOf i).toNat)
 case atStart => exact ⟨0, by omega, rfl, HI.out⟩
 case round =>
  clear HI
  obtain ⟨i, hi, rfl, h1, h2, h3, h4, h5, h6⟩ := hrel
  have H := hide (And.intro h1 (And.intro h2 (And.intro h3 (And.intro h4 (And.intro h5 h6)))))
  clear h1 h2 h3 h4 h5 h6
  by_cases hlt : i < 64
  ·obtain ⟨⟨y0, y1, y2, y3, y4, y5, y6, y7⟩, hy⟩ : ∃ y, y = rds s b i := ⟨_, rfl⟩
   have HY := hide hy
   clear hy
   obtain ⟨a, ha⟩ : ∃ a, a = kc i := ⟨_, rfl⟩
   obtain ⟨c, hc⟩ : ∃ c, c = wdh b i := ⟨_, rfl⟩
   have g0 : wr.cell? ⟨N4, 0, none⟩ = some (.int .u32 (y0.toNat : Int)) := by rw [H.out.2.2.2.2.1.cell, ← HY.out]; rfl
   have s0 : wr.frozen? ⟨N4, 0, none⟩ = false := H.out.2.2.2.2.1.frozen 0
   have g1 : wr.cell? ⟨N4, 1, none⟩ = some (.int .u32 (y1.toNat : Int)) := by rw [H.out.2.2.2.2.1.cell, ← HY.out]; rfl
   have s1 : wr.frozen? ⟨N4, 1, none⟩ = false := H.out.2.2.2.2.1.frozen 1
   have g2 : wr.cell? ⟨N4, 2, none⟩ = some (.int .u32 (y2.toNat : Int)) := by rw [H.out.2.2.2.2.1.cell, ← HY.out]; rfl
   have s2 : wr.frozen? ⟨N4, 2, none⟩ = false := H.out.2.2.2.2.1.frozen 2
   have g3 : wr.cell? ⟨N4, 3, none⟩ = some (.int .u32 (y3.toNat : Int)) := by rw [H.out.2.2.2.2.1.cell, ← HY.out]; rfl
   have s3 : wr.frozen? ⟨N4, 3, none⟩ = false := H.out.2.2.2.2.1.frozen 3
   have g4 : wr.cell? ⟨N4, 4, none⟩ = some (.int .u32 (y4.toNat : Int)) := by rw [H.out.2.2.2.2.1.cell, ← HY.out]; rfl
   have s4 : wr.frozen? ⟨N4, 4, none⟩ = false := H.out.2.2.2.2.1.frozen 4
   have g5 : wr.cell? ⟨N4, 5, none⟩ = some (.int .u32 (y5.toNat : Int)) := by rw [H.out.2.2.2.2.1.cell, ← HY.out]; rfl
   have s5 : wr.frozen? ⟨N4, 5, none⟩ = false := H.out.2.2.2.2.1.frozen 5
   have g6 : wr.cell? ⟨N4, 6, none⟩ = some (.int .u32 (y6.toNat : Int)) := by rw [H.out.2.2.2.2.1.cell, ← HY.out]; rfl
   have s6 : wr.frozen? ⟨N4, 6, none⟩ = false := H.out.2.2.2.2.1.frozen 6
   have g7 : wr.cell? ⟨N4, 7, none⟩ = some (.int .u32 (y7.toNat : Int)) := by rw [H.out.2.2.2.2.1.cell, ← HY.out]; rfl
   have s7 : wr.frozen? ⟨N4, 7, none⟩ = false := H.out.2.2.2.2.1.frozen 7
   have ga : wr.cell? ⟨N2 + 1, i, none⟩ = some (.int .u32 (a.toNat : Int)) := by rw [H.out.2.2.2.1.cell, fw_get _ (by omega), ha]
   have gc : wr.cell? ⟨N2, i, none⟩ = some (.int .u32 (c.toNat : Int)) := by rw [H.out.2.2.1.cell, fw_get _ (by omega), hc]
   obtain ⟨D, hD⟩ : ∃ D, D = ad := ⟨_, rfl⟩
   have x3 : ∀ a b : UInt32, IntKind.u32.wrap ((a.toNat : Int) + (b.toNat : Int)) = ((D a b).toNat : Int) := by rw [hD]; exact w_add
   have x4 : ∀ a b : UInt32, ((a.toNat : Int) + (b.toNat : Int)) % 4294967296 = ((D a b).toNat : Int) := by rw [hD]; exact w_add'
   have QR := hide @round_eight
   have HAC := hide (And.intro ha (And.intro hc hD))
   clear ha hc hD
   have HK := hide (show ∀ w' : World, Below wr.drew.heap.size wr.drew w' → Hid (Blk w' N4 96 (H8.cells ⟨y0, y1, y2, y3, y4, y5, y6, y7⟩) ∧ Below wr.drew.heap.size wr.drew w') ∧ w'.cell? ⟨N4, 0, none⟩ = some (.int .u32 (y0.toNat : Int)) ∧ w'.cell? ⟨N4, 1, none⟩ = some (.int .u32 (y1.toNat : Int)) ∧ w'.cell? ⟨N4, 2, none⟩ = some (.int .u32 (y2.toNat : Int)) ∧ w'.cell? ⟨N4, 3, none⟩ = some (.int .u32 (y3.toNat : Int)) ∧ w'.cell? ⟨N4, 4, none⟩ = some (.int .u32 (y4.toNat : Int)) ∧ w'.cell? ⟨N4, 5, none⟩ = some (.int .u32 (y5.toNat : Int)) ∧ w'.cell? ⟨N4, 6, none⟩ = some (.int .u32 (y6.toNat : Int)) ∧ w'.cell? ⟨N4, 7, none⟩ = some (.int .u32 (y7.toNat : Int)) ∧ w'.frozen? ⟨N4, 0, none⟩ = false ∧ w'.frozen? ⟨N4, 1, none⟩ = false ∧ w'.frozen? ⟨N4, 2, none⟩ = false ∧ w'.frozen? ⟨N4, 3, none⟩ = false ∧ w'.frozen? ⟨N4, 4, none⟩ = false ∧ w'.frozen? ⟨N4, 5, none⟩ = false ∧ w'.frozen? ⟨N4, 6, none⟩ = false ∧ w'.frozen? ⟨N4, 7, none⟩ = false from fun w' hw' => by
    have hk : Blk w' N4 96 (H8.cells ⟨y0, y1, y2, y3, y4, y5, y6, y7⟩) := by rw [HY.out]; exact H.out.2.2.2.2.1.drew.below' hw'
    exact ⟨hide ⟨hk, hw'⟩, (hk.cell 0).trans rfl, (hk.cell 1).trans rfl, (hk.cell 2).trans rfl, (hk.cell 3).trans rfl, (hk.cell 4).trans rfl, (hk.cell 5).trans rfl, (hk.cell 6).trans rfl, (hk.cell 7).trans rfl, hk.frozen 0, hk.frozen 1, hk.frozen 2, hk.frozen 3, hk.frozen 4, hk.frozen 5, hk.frozen 6, hk.frozen 7⟩)
   have bi : (i : Int) < 64 := by omega
   have pi : (0 : Int) ≤ (i : Int) := by omega
   go_wp2
   go_region_with (go_at_call 141; refine (QR.out y0 y1 y2 y3 y4 y5 y6 y7 _ _).mono ?_; rintro e w' ⟨z0, z1, z2, z3, z4, z5, z6, z7, hz, rfl, hbb⟩; go_loud (obtain ⟨HB', q0, q1, q2, q3, q4, q5, q6, q7, p0, p1, p2, p3, p4, p5, p6, p7⟩ := HK.out _ hbb))
   all_goals
    go_wp2
    go_roundw
    case rel =>
     have n0 := HLT.out
     have n1 : w.heap.size ≠ N4 := by omega
     have n2 : w.heap.size + 1 + 1 ≠ N4 := by omega
     have n3 : N2 ≠ N4 := by omega
     have n4 : N2 + 1 ≠ N4 := by omega
     have n5 : w.heap.size ≤ N4 := by omega
     have hE : (rds s b (i + 1)).cells = H8.cells ⟨z0, z1, z2, z3, z4, z5, z6, z7⟩ := by
      have e1 : rds s b (i + 1) = rnd (rds s b i) (ad (kc i) (wdh b i)) := rds_succ s b i
      rw [e1, ← hz, ← HY.out, HAC.out.1, HAC.out.2.1, HAC.out.2.2]
     refine ⟨i + 1, by omega, by go_num, blk_eight_far (H.out.1.drew.below' HB'.out.2) n1 _ _ _ _ _ _ _ _ , blk_eight_far (H.out.2.1.drew.below' HB'.out.2) n2 _ _ _ _ _ _ _ _ , blk_eight_far (H.out.2.2.1.drew.below' HB'.out.2) n3 _ _ _ _ _ _ _ _ , blk_eight_far (H.out.2.2.2.1.drew.below' HB'.out.2) n4 _ _ _ _ _ _ _ _ , ?_, below_eight (H.out.2.2.2.2.2.drew.trans (HB'.out.2.mono H.out.2.2.2.2.2.drew.size)) n5 _ _ _ _ _ _ _ _ ⟩
     rw [hE]
     exact blk_eight HB'.out.1 _ _ _ _ _ _ _ _
    case measure => simp [intOf]; omega
  ·have hi64 : i = 64 := by omega
   subst hi64
   obtain ⟨x, hx⟩ : ∃ x, x = rds s b 64 := ⟨_, rfl⟩
   rw [← hx] at H
   have HX := hide hx
   clear hx hi hlt
   rw [show ((64 : Nat) : Int) = 64 from rfl]
   go_wp2
   go_loopw [27, 9, 28, 29, 30, 31, 32, 33, 34, 35, 36, 37, 38] (fun u27 _ _ _ _ _ _ _ _ _ _ _ _ wr => ∃ i : Nat, i ≤ 8 ∧ u27 = .int .i64 (i : Int) ∧ Blk wr w.heap.size 96 (partH s x i) ∧ Blk wr (w.heap.size + 1 + 1) 96 #[.int .u32 0, .int .u32 0, .int .u32 0, .int .u32 0, .int .u32 0, .int .u32 0, .int .u32 0, .int .u32 0] ∧ Blk wr N4 96 x.cells ∧ Below w.heap.size w wr) (fun i _ _ _ _ _ _ _ _ _ _ _ _ _ => 8 - (intOf i).toNat)
   case atStart => exact ⟨0, by omega, rfl, by rw [part_zero]; exact H.out.1, H.out.2.1, H.out.2.2.2.2.1, H.out.2.2.2.2.2⟩
   case round =>
    clear H
    obtain ⟨i, hi, rfl, h1, h2, h3, h4⟩ := hrel
    have H := hide (And.intro h1 (And.intro h2 (And.intro h3 h4)))
    clear h1 h2 h3 h4
    by_cases hlt : i < 8
    ·obtain ⟨a, ha⟩ : ∃ a, a = s.at i := ⟨_, rfl⟩
     obtain ⟨c, hc⟩ : ∃ c, c = x.at i := ⟨_, rfl⟩
     have ga : wr.cell? ⟨w.heap.size, i, none⟩ = some (.int .u32 (a.toNat : Int)) := by rw [H.out.1.cell, partH_get _ _ hlt, ha]
     have gs := H.out.1.frozen i
     have gc : wr.cell? ⟨N4, i, none⟩ = some (.int .u32 (c.toNat : Int)) := by rw [H.out.2.2.1.cell, cells_get _ hlt, hc]
     obtain ⟨D, hD⟩ : ∃ D, D = ad := ⟨_, rfl⟩
     have x3 : ∀ a b : UInt32, IntKind.u32.wrap ((a.toNat : Int) + (b.toNat : Int)) = ((D a b).toNat : Int) := by rw [hD]; exact w_add
     have x4 : ∀ a b : UInt32, ((a.toNat : Int) + (b.toNat : Int)) % 4294967296 = ((D a b).toNat : Int) := by rw [hD]; exact w_add'
     have HAC := hide (And.intro ha (And.intro hc hD))
     clear ha hc hD
     have bi : (i : Int) < 8 := by omega
     have pi : (0 : Int) ≤ (i : Int) := by omega
     go_wp2
     go_region
     go_wp2
     go_roundw
     case rel =>
      have n0 := HLT.out
      refine ⟨i + 1, by omega, by go_num, ?_, H.out.2.1.drew.far (by simp; omega) _, H.out.2.2.1.drew.far (by simp; omega) _, H.out.2.2.2.drew.setCell (by simp) _⟩
      rw [← part_set s x hlt, ← HAC.out.1, ← HAC.out.2.1, ← HAC.out.2.2]
      exact H.out.1.drew.set_ i _
     case measure => simp [intOf]; omega
    ·have hi8 : i = 8 := by omega
     subst hi8
     have HP := hide (And.intro (part_size s x 8) (show (partH s x 8).all (·.oneCell') = true by rw [part_full]; exact H8.one _))
     go_wp2_with (first
      | ((with_reducible change wpList _ _ _ (⟨some 39, _, _, _, _, _⟩ :: _) _ _); refine wpList_load_row (o := ⟨some 39, .load _ _, _, _, _, _⟩) rfl 96 _ rfl w.heap.size rfl 96 (partH s x 8) (0, 0) _ H.out.1 Tryz.underlying96 rfl (by rw [HP.out.1]; kernel_rfl) ?_)
      | (refine wpList_store_row (o := ⟨none, .store _ _ _, _, _, _, _⟩) H.out.2.1 (partH s x 8) (by rw [HP.out.1]; rfl) HP.out.2 rfl 96 _ _ rfl (by rw [HP.out.1]; kernel_rfl) rfl rfl ?_; intro w6 hb6 hg6))
     refine bodyPost_ret (results_cell_row rfl _ _ (w.heap.size + 1 + 1) 96 (partH s x 8) (0, 0) _ rfl hb6 Tryz.underlying96 rfl (by rw [HP.out.1]; kernel_rfl)) rfl ⟨?_, H.out.2.2.2.grown hg6 H.out.2.2.2.size fun k hk => by injection hk with hk; omega⟩
     rw [part_full, HX.out]
     rfl
end Go.Proofs.YtdohebhbiokljaaGreatDoor
namespace Go.Proofs.YtdohebhbiokljaaGreatDoor
open Go.RowKit
def noughts (n : Nat) : Nat := (119 - n % 64) % 64
def padL (n : Nat) : List UInt8 := 128 :: (List.replicate (noughts n) 0 ++ bigL (8 * n) 8)
theorem padL_length (n : Nat) : (padL n).length = noughts n + 9 := by simp [padL]
theorem padL_whole (n : Nat) : (n + (padL n).length) % 64 = 0 := by rw [padL_length]; unfold noughts; omega
theorem noughts_le (n : Nat) : noughts n ≤ 63 := by unfold noughts; omega
theorem noughts_eq (n k : Nat) (h : k ≤ noughts n) : ((n + (k + 1)) % 64 = 56) ↔ k = noughts n := by unfold noughts at *; omega
def mixN (h : H8) (l : List UInt8) : Nat → H8
 | 0 => h
 | k + 1 => mixH (mixN h l k) ((l.drop (64 * k)).take 64)
theorem mixN_succ (h : H8) (l : List UInt8) (k : Nat) : mixN h l (k + 1) = mixH (mixN h l k) ((l.drop (64 * k)).take 64) := rfl
theorem mixN_front (h : H8) (l r : List UInt8) : ∀ k : Nat, 64 * k ≤ l.length → mixN h (l ++ r) k = mixN h l k
 | 0, _ => rfl
 | k + 1, hk => by
  rw [mixN_succ, mixN_succ, mixN_front h l r k (by omega), List.drop_append_of_le_length (by omega), List.take_append_of_le_length (by rw [List.length_drop]; omega)]
theorem mixN_add (h : H8) (l : List UInt8) (q : Nat) : ∀ m : Nat, mixN h l (q + m) = mixN (mixN h l q) (l.drop (64 * q)) m
 | 0 => rfl
 | m + 1 => by
  rw [← Nat.add_assoc, mixN_succ, mixN_succ, mixN_add h l q m, List.drop_drop, show 64 * q + 64 * m = 64 * (q + m) by omega]
def sha0 : H8 := ⟨0x6a09e667, 0xbb67ae85, 0x3c6ef372, 0xa54ff53a, 0x510e527f, 0x9b05688c, 0x1f83d9ab, 0x5be0cd19⟩
def shaH (l : List UInt8) : H8 := mixN sha0 (l ++ padL l.length) ((l.length + (padL l.length).length) / 64)
theorem shaH_split (l : List UInt8) : shaH l = mixN (mixN sha0 l (l.length / 64)) (l.drop (64 * (l.length / 64)) ++ padL l.length) ((l.drop (64 * (l.length / 64)) ++ padL l.length).length / 64) := by
 have h1 := padL_whole l.length
 unfold shaH
 rw [show (l.length + (padL l.length).length) / 64 = l.length / 64 + (l.length - 64 * (l.length / 64) + (padL l.length).length) / 64 by omega, mixN_add, mixN_front _ _ _ _ (by omega), List.drop_append_of_le_length (by omega), List.length_append, List.length_drop]
def digL (h : H8) : List UInt8 := (List.range 32).map fun i => UInt8.ofNat ((h.at (i / 4)).toNat / 2 ^ (24 - 8 * (i % 4)))
@[simp] theorem digL_length (h : H8) : (digL h).length = 32 := by simp [digL]
theorem digL_get (h : H8) (i : Nat) (hi : i < 32) : (digL h)[i]? = some (UInt8.ofNat ((h.at (i / 4)).toNat / 2 ^ (24 - 8 * (i % 4)))) := by simp [digL, hi]
def shaL (l : List UInt8) : List UInt8 := digL (shaH l)
@[simp] theorem shaL_length (l : List UInt8) : (shaL l).length = 32 := digL_length _
theorem digL_words (h : H8) : digL h = (List.range 8).flatMap fun i => bigL (h.at i).toNat 4 := by
 simp [digL, bigL, List.range_succ, List.flatMap]
theorem digL_take (h : H8) (i : Nat) (hi : i < 8) : (digL h).take (4 * (i + 1)) = (digL h).take (4 * i) ++ bigL (h.at i).toNat 4 := by
 rw [digL_words]
 obtain rfl | rfl | rfl | rfl | rfl | rfl | rfl | rfl : i = 0 ∨ i = 1 ∨ i = 2 ∨ i = 3 ∨ i = 4 ∨ i = 5 ∨ i = 6 ∨ i = 7 := by omega
 all_goals simp [List.range_succ, List.flatMap, bigL]
def fillN (l : List UInt8) (n k : Nat) : Array Value := (bcells (l.take k ++ List.replicate (n - k) 0)).toArray
theorem fillN_zero (l : List UInt8) (n : Nat) : fillN l n 0 = (bcells (List.replicate n 0)).toArray := by simp [fillN]
theorem fillN_full (l : List UInt8) (n : Nat) : fillN l n n = (bcells (l.take n)).toArray := by simp [fillN]
theorem fillN_size (l : List UInt8) (n k : Nat) (h : k ≤ n) (hl : k ≤ l.length) : (fillN l n k).size = n := by
 simp only [fillN, List.size_toArray, bcells_length, List.length_append, List.length_take, List.length_replicate]
 omega
theorem fillN_set (l : List UInt8) (n k : Nat) (x : UInt8) (h : k < n) (hx : l[k]? = some x) : (fillN l n k).setIfInBounds k (.int .u8 (x.toNat : Int)) = fillN l n (k + 1) := by
 have hk : (l.take k).length = k := by
  have := (List.getElem?_eq_some_iff.1 hx).1
  rw [List.length_take]
  omega
 unfold fillN
 rw [take_snoc l k x hx, show n - k = (n - (k + 1)) + 1 by omega, List.replicate_succ, List.setIfInBounds_toArray, bcells_append, bcells_append, bcells_append, List.set_append_right _ _ (by simp [hk]), bcells_length, hk, Nat.sub_self]
 simp [bcells]
theorem fill_word (h : H8) (i : Nat) (hi : i < 8) : (fillN (digL h) 32 (4 * i)).toList.take (4 * i) ++ (bcells (bigL (h.at i).toNat 4) ++ (fillN (digL h) 32 (4 * i)).toList.drop (4 * i + 4)) = (fillN (digL h) 32 (4 * (i + 1))).toList := by
 have hl : ((digL h).take (4 * i)).length = 4 * i := by rw [List.length_take, digL_length]; omega
 simp only [fillN]
 rw [digL_take h i hi, bcells_append, List.take_left' (by simpa using hl), List.drop_append, List.drop_of_length_le (by rw [bcells_length, hl]; omega), bcells_length, hl, bcells_append, bcells_append, show 4 * i + 4 - 4 * i = 4 by omega, show 32 - 4 * i = 4 + (32 - 4 * (i + 1)) by omega]
 simp [bcells]
theorem digL_zero : digL ⟨0, 0, 0, 0, 0, 0, 0, 0⟩ = List.replicate 32 0 := by decide
end Go.Proofs.YtdohebhbiokljaaGreatDoor
namespace Go.Proofs.YtdohebhbiokljaaGreatDoor
open Go.RowKit
theorem rep_snoc (k : Nat) : (128 : UInt8) :: List.replicate (k + 1) 0 = ((128 : UInt8) :: List.replicate k 0) ++ [0] := by
 rw [List.replicate_succ']; rfl
theorem blk_own {w : World} {g n cap base : Nat} {t : TypeId} {cs : Array Value} (h : Blk w g t cs) (l : List UInt8) (hb : base ≤ g) (hc : cs.size = cap) (hn : l.length ≤ cap) (hm : cap ≤ maxLen) (hl : cs.toList.take l.length = bcells l) (hnn : n = l.length) : Own w base t (.slice (some ⟨g, 0, none⟩) n cap) l := by
 subst hnn
 have := h.own (base := base) (n := l.length) (cap := cap) (sz := 1) rfl hb (by rw [hc]; omega) hn hm
 unfold Own
 rw [Nat.mul_one, hl] at this
 exact this
def lenV : Value → Nat | .slice _ n _ => n | _ => 0
set_option maxHeartbeats 1000000 in
theorem pad_any (n : Nat) (w : World) (hn : n ≤ 1099511627776) :
  Calls Tryz.prog 127 #[.int .i64 (n : Int)] w fun e w' => ∃ v, e = .returned (.tuple #[v, .int .i64 0]) ∧ Own w' w.heap.size 5 v (padL n) ∧ Below w.heap.size w w' := by
 have hmk := make_bytes 1 72 (by omega) (by omega)
 have HMK := hide (fun w => show (Instr.makeSlice 34 (.int .i64 1) (.int .i64 72)).run Tryz.prog w = .ok (.slice (some ⟨w.heap.size, 0, none⟩) 1 72) (w.alloc (.cells (bcells (List.replicate 72 0)).toArray 5)) from hmk w)
 clear hmk
 obtain ⟨Z, hZ⟩ : ∃ Z, Z = (bcells (List.replicate 72 0)).toArray := ⟨_, rfl⟩
 rw [← hZ] at HMK
 have HB := hide (show Blk (w.alloc (.cells Z 5)) w.heap.size 5 Z from Blk.new _ _ _)
 have g0 : (w.alloc (.cells Z 5)).cell? ⟨w.heap.size, 0, none⟩ = some (.int .u8 0) := by rw [HB.out.cell, hZ]; rfl
 have s0 : (w.alloc (.cells Z 5)).frozen? ⟨w.heap.size, 0, none⟩ = false := HB.out.frozen 0
 have HI := hide (show Own (w.alloc (.cells (Z.setIfInBounds 0 (.int .u8 128)) 5)) w.heap.size 5 (.slice (some ⟨w.heap.size, 0, none⟩) 1 72) [128] by
  refine blk_own (Blk.new _ _ _) [128] (Nat.le_refl _) ?_ (by simp) (by unfold maxLen; omega) ?_ rfl
  ·rw [hZ]; simp
  ·rw [hZ]; rfl)
 clear hZ HB
 have hmk := HMK.out
 have c1 : ¬ (n : Int) < 0 := by omega
 have c2 : ¬ (1152921504606846976 : Int) < (n : Int) := by omega
 have c3 : IntKind.u64.wrap (n : Int) = (n : Int) := by simp [IntKind.wrap, IntKind.bits, IntKind.signed]; omega
 have c4 : IntKind.u64.wrap ((n : Int) * 8) = ((8 * n : Nat) : Int) := by simp [IntKind.wrap, IntKind.bits, IntKind.signed]; omega
 have c5 : ((n : Int) * 8) % 18446744073709551616 = ((8 * n : Nat) : Int) := by omega
 go_enter Tryz.func127, Tryz.ntmps127
 go_wp2
 go_loopw [4] (fun u4 wr => ∃ k : Nat, k ≤ noughts n ∧ Own wr w.heap.size 5 u4 (128 :: List.replicate k 0) ∧ Below w.heap.size w wr) (fun u4 _ => 100 - lenV u4)
 case atStart => exact ⟨0, by omega, HI.out, (Below.refl _ w).alloc (Nat.le_refl _) _⟩
 case round =>
  clear HI
  obtain ⟨k, hk, ho, hbel⟩ := hrel
  have HO := hide ho
  obtain ⟨A, c, hv, hc, hm, -⟩ := ho.by_.form
  rw [show ((128 : UInt8) :: List.replicate k 0).length = k + 1 by simp] at hv hc
  rw [hv] at HO ⊢
  clear ho hv
  have hn63 := noughts_le n
  have hiff := noughts_eq n k hk
  unfold maxLen at hm
  by_cases hkn : k = noughts n
  ·have d1 : ((n : Int) + ((k : Int) + 1)) % 64 = 56 := by have := hiff.2 hkn; omega
   have HK := hide hkn
   clear hkn hiff
   go_wp2_with first
    | (go_at_call 122; refine (big64_any (8 * n) _ (by omega)).mono ?_; rintro e w1 ⟨b1, rfl, o1⟩; go_loud (have HO1 := hide (And.intro (HO.out.below b1) (And.intro o1.by_ (hbel.trans (b1.mono hbel.size)))); clear b1 o1))
    | (at_builtin; go_loud (refine wpList_pushV elem8 HO1.out.1 HO1.out.2.2 HO1.out.2.2.size HO1.out.2.1 (by simp; have := HK.out; omega) rfl _ _ rfl rfl rfl ?_); intro v2 w2 hown2 hbel2 _ _)
   go_ret2
   refine ⟨_, rfl, ?_, hbel2⟩
   have h3 := hown2
   rw [HK.out] at h3
   exact h3
  ·have d1 : ¬ ((n : Int) + ((k : Int) + 1)) % 64 = 56 := by have := fun h => hkn (hiff.1 h); omega
   have hlt : k < noughts n := by omega
   have HK := hide hlt
   clear hkn hiff hlt
   go_wp2_with (at_builtin; go_loud (refine wpList_pushB elem8 HO.out hbel hbel.size (by simp; omega) 0 rfl _ _ rfl rfl rfl ?_); intro v1 w1 hown1 hbel1 _ _)
   obtain ⟨A1, c1, hv1, -, -, -⟩ := hown1.by_.form
   go_roundw
   case rel => exact ⟨k + 1, HK.out, by rw [rep_snoc]; exact hown1, hbel1⟩
   case measure => rw [hv1]; simp [lenV]; omega
set_option maxHeartbeats 1000000 in
theorem rpad_any (n : Nat) (w : World) (hn : n ≤ 1099511627776) :
  Calls Tryz.prog 54 #[.int .i64 (n : Int)] w fun e w' => ∃ v, e = .returned (.tuple #[v, .int .i64 0]) ∧ Own w' w.heap.size 5 v (padL n) ∧ Below w.heap.size w w' := by
 have HI := hide (show Own (w.alloc (.cells #[.int .u8 128] 5)) w.heap.size 5 (.slice (some ⟨w.heap.size, 0, none⟩) 1 1) [128] from blk_own (Blk.new _ _ _) [128] (Nat.le_refl _) rfl (Nat.le_refl _) (by unfold maxLen; omega) rfl rfl)
 have c1 : ¬ (n : Int) < 0 := by omega
 have c2 : ¬ (1152921504606846976 : Int) < (n : Int) := by omega
 have c3 : IntKind.u64.wrap (n : Int) = (n : Int) := by simp [IntKind.wrap, IntKind.bits, IntKind.signed]; omega
 have c4 : IntKind.u64.wrap ((n : Int) * 8) = ((8 * n : Nat) : Int) := by simp [IntKind.wrap, IntKind.bits, IntKind.signed]; omega
 have c5 : ((n : Int) * 8) % 18446744073709551616 = ((8 * n : Nat) : Int) := by omega
 go_enter Tryz.func54, Tryz.ntmps54
 go_wp2
 go_loopw [4] (fun u4 wr => ∃ k : Nat, k ≤ noughts n ∧ Own wr w.heap.size 5 u4 (128 :: List.replicate k 0) ∧ Below w.heap.size w wr) (fun u4 _ => 100 - lenV u4)
 case atStart => exact ⟨0, by omega, HI.out, (Below.refl _ w).alloc (Nat.le_refl _) _⟩
 case round =>
  clear HI
  obtain ⟨k, hk, ho, hbel⟩ := hrel
  have HO := hide ho
  obtain ⟨A, c, hv, hc, hm, -⟩ := ho.by_.form
  rw [show ((128 : UInt8) :: List.replicate k 0).length = k + 1 by simp] at hv hc
  rw [hv] at HO ⊢
  clear ho hv
  have hn63 := noughts_le n
  have hiff := noughts_eq n k hk
  unfold maxLen at hm
  by_cases hkn : k = noughts n
  ·have d1 : ((n : Int) + ((k : Int) + 1)) % 64 = 56 := by have := hiff.2 hkn; omega
   have HK := hide hkn
   clear hkn hiff
   obtain ⟨X, hX⟩ : ∃ X, X = 8 * n := ⟨_, rfl⟩
   rw [← hX] at c4 c5
   have HI := hide (show Own wr w.heap.size 5 (.slice A (k + 1) c) ((128 :: List.replicate k 0) ++ (bigL X 8).take 0) by simpa using HO.out)
   have HX := hide hX
   clear HO hX
   go_wp2
   clear d1
   go_loopw [4, 6] (fun u4 u6 wr => ∃ i : Nat, i ≤ 8 ∧ u6 = .int .i64 (7 - (i : Int)) ∧ Own wr w.heap.size 5 u4 ((128 :: List.replicate k 0) ++ (bigL X 8).take i) ∧ Below w.heap.size w wr) (fun _ u6 _ => (intOf u6 + 1).toNat)
   case atStart => exact ⟨0, by omega, rfl, HI.out, hbel⟩
   case round =>
    clear HI hbel
    obtain ⟨i, hi, rfl, ho, hbel⟩ := hrel
    have HO := hide ho
    clear ho
    by_cases hlt : i < 8
    ·obtain ⟨j, hj⟩ : ∃ j, j = 8 - 1 - i := ⟨_, rfl⟩
     have e1 : (7 : Int) - (i : Int) = (j : Int) := by omega
     have e3 : (j : Int) < 8 := by omega
     have e4 : (0 : Int) ≤ (j : Int) := by omega
     have hlen : ((128 :: List.replicate k 0) ++ (bigL X 8).take i).length + 1 ≤ 140737488355328 := by simp; omega
     have HLEN := hide hlen
     have HV := hide (show ((X : Int) / 2 ^ (8 * j) % 256) = ((UInt8.ofNat (X / 256 ^ (8 - 1 - i))).toNat : Int) by rw [byte_of, hj])
     have HT := hide (bigL_take X 8 i hlt)
     clear hj hlen
     rw [e1]
     go_wp2_with (at_builtin; go_loud (rw [HV.out]; refine wpList_pushB elem8 HO.out hbel hbel.size HLEN.out (UInt8.ofNat (X / 256 ^ (8 - 1 - i))) rfl _ _ rfl rfl rfl ?_); intro v1 w1 hown1 hbel1 _ _)
     go_roundw
     case rel => exact ⟨i + 1, by omega, by rw [← e1, Int.natCast_add, Int.sub_sub (7 : Int)]; rfl, by rw [HT.out, ← List.append_assoc]; exact hown1, hbel1⟩
     case measure => simp [intOf] <;> omega
    ·have hin : i = 8 := by omega
     subst hin
     go_wp2
     go_ret2
     refine ⟨_, rfl, ?_, hbel⟩
     have := HO.out
     rw [List.take_of_length_le (by simp), HX.out, HK.out] at this
     exact this
  ·have d1 : ¬ ((n : Int) + ((k : Int) + 1)) % 64 = 56 := by have := fun h => hkn (hiff.1 h); omega
   have hlt : k < noughts n := by omega
   have HK := hide hlt
   clear hkn hiff hlt
   go_wp2_with (at_builtin; go_loud (refine wpList_pushB elem8 HO.out hbel hbel.size (by simp; omega) 0 rfl _ _ rfl rfl rfl ?_); intro v1 w1 hown1 hbel1 _ _)
   obtain ⟨A1, c1, hv1, -, -, -⟩ := hown1.by_.form
   go_roundw
   case rel => exact ⟨k + 1, HK.out, by rw [rep_snoc]; exact hown1, hbel1⟩
   case measure => rw [hv1]; simp [lenV]; omega
end Go.Proofs.YtdohebhbiokljaaGreatDoor
namespace Go.Proofs.YtdohebhbiokljaaGreatDoor
open Go.RowKit
def hcs (h : H8) (v : Value) (n : Int) : Array Value := #[.bool true, .int .u32 (h.a.toNat : Int), .int .u32 (h.b.toNat : Int), .int .u32 (h.c.toNat : Int), .int .u32 (h.d.toNat : Int), .int .u32 (h.e.toNat : Int), .int .u32 (h.f.toNat : Int), .int .u32 (h.g.toNat : Int), .int .u32 (h.h.toNat : Int), v, .int .i64 n]
theorem hcs0 : hcs sha0 (.slice none 0 0) 0 = #[.bool true, .int .u32 1779033703, .int .u32 3144134277, .int .u32 1013904242, .int .u32 2773480762, .int .u32 1359893119, .int .u32 2600822924, .int .u32 528734635, .int .u32 1541459225, .slice none 0 0, .int .i64 0] := rfl
set_option maxHeartbeats 1000000 in
theorem new_any (w : World) : Calls Tryz.prog 115 #[] w fun e w' => ∃ g, e = .returned (.pointer (some ⟨g, 0, none⟩)) ∧ Blk w' g 181 (hcs sha0 (.slice none 0 0) 0) ∧ Below w.heap.size w w' ∧ w.heap.size ≤ g := by
 have q1 : ∀ w : World, Calls Tryz.prog 124 #[] w fun e w' => e = .returned (.agg #[.int .u32 1779033703, .int .u32 3144134277, .int .u32 1013904242, .int .u32 2773480762, .int .u32 1359893119, .int .u32 2600822924, .int .u32 528734635, .int .u32 1541459225]) ∧ Below w.heap.size w w' := by
  intro w
  go_enter Tryz.func124, Tryz.ntmps124
  go_wp2
  refine bodyPost_ret (results_cell_row rfl _ _ w.heap.size 96 _ (0, 0) _ rfl (Blk.new _ _ _) Tryz.underlying96 rfl (by kernel_rfl)) rfl ⟨rfl, (Below.refl _ w).alloc (Nat.le_refl _) _⟩
 have Q1 := hide q1
 clear q1
 go_enter Tryz.func115, Tryz.ntmps115
 go_wp2_with fail
 refine (Q1.out _).mono ?_
 rintro e w1 ⟨rfl, b1⟩
 go_wp2
 go_ret
 refine ⟨_, rfl, ?_, b1.alloc b1.size _, b1.size⟩
 rw [hcs0]
 exact Blk.new _ _ _
set_option maxHeartbeats 1000000 in
theorem hok_any (g : Nat) (w : World) (h : w.cell? ⟨g, 0, none⟩ = some (.bool true)) : Calls Tryz.prog 125 #[.pointer (some ⟨g, 0, none⟩)] w fun e w' => e = .returned (.bool true) ∧ w' = w := by
 go_enter Tryz.func125, Tryz.ntmps125
 go_wp2
 go_ret
 exact ⟨rfl, rfl⟩
theorem blk_h8 {w : World} {g : Nat} {t : TypeId} {h : H8} {v : Value} {n : Int} (hb : Blk w g t (hcs h v n)) (z0 z1 z2 z3 z4 z5 z6 z7 : UInt32) :
  Blk ((((((((w.setCell ⟨g, 1, none⟩ (.int .u32 (z0.toNat : Int))).setCell ⟨g, 2, none⟩ (.int .u32 (z1.toNat : Int))).setCell ⟨g, 3, none⟩ (.int .u32 (z2.toNat : Int))).setCell ⟨g, 4, none⟩ (.int .u32 (z3.toNat : Int))).setCell ⟨g, 5, none⟩ (.int .u32 (z4.toNat : Int))).setCell ⟨g, 6, none⟩ (.int .u32 (z5.toNat : Int))).setCell ⟨g, 7, none⟩ (.int .u32 (z6.toNat : Int))).setCell ⟨g, 8, none⟩ (.int .u32 (z7.toNat : Int))) g t (hcs ⟨z0, z1, z2, z3, z4, z5, z6, z7⟩ v n) := by
 have := (((((((hb.set_ 1 (.int .u32 (z0.toNat : Int))).set_ 2 (.int .u32 (z1.toNat : Int))).set_ 3 (.int .u32 (z2.toNat : Int))).set_ 4 (.int .u32 (z3.toNat : Int))).set_ 5 (.int .u32 (z4.toNat : Int))).set_ 6 (.int .u32 (z5.toNat : Int))).set_ 7 (.int .u32 (z6.toNat : Int))).set_ 8 (.int .u32 (z7.toNat : Int))
 simpa [hcs] using this
theorem below_h8 {w0 w : World} {B n : Nat} (h : Below B w0 w) (hn : B ≤ n) (b0 b1 b2 b3 b4 b5 b6 b7 : Value) : Below B w0 ((((((((w.setCell ⟨n, 1, none⟩ b0).setCell ⟨n, 2, none⟩ b1).setCell ⟨n, 3, none⟩ b2).setCell ⟨n, 4, none⟩ b3).setCell ⟨n, 5, none⟩ b4).setCell ⟨n, 6, none⟩ b5).setCell ⟨n, 7, none⟩ b6).setCell ⟨n, 8, none⟩ b7) :=
 (((((((h.setCell hn _).setCell hn _).setCell hn _).setCell hn _).setCell hn _).setCell hn _).setCell hn _).setCell hn _
theorem mix_eight (y0 y1 y2 y3 y4 y5 y6 y7 : UInt32) (b : List UInt8) (cs : Array Value) (w : World) (hb : b.length = 64) (hc : cs = (bcells b).toArray) : Calls Tryz.prog 126 #[.agg #[.int .u32 (y0.toNat : Int), .int .u32 (y1.toNat : Int), .int .u32 (y2.toNat : Int), .int .u32 (y3.toNat : Int), .int .u32 (y4.toNat : Int), .int .u32 (y5.toNat : Int), .int .u32 (y6.toNat : Int), .int .u32 (y7.toNat : Int)], .agg cs] w fun e w' => ∃ z0 z1 z2 z3 z4 z5 z6 z7, mixH ⟨y0, y1, y2, y3, y4, y5, y6, y7⟩ b = ⟨z0, z1, z2, z3, z4, z5, z6, z7⟩ ∧ e = .returned (.agg #[.int .u32 (z0.toNat : Int), .int .u32 (z1.toNat : Int), .int .u32 (z2.toNat : Int), .int .u32 (z3.toNat : Int), .int .u32 (z4.toNat : Int), .int .u32 (z5.toNat : Int), .int .u32 (z6.toNat : Int), .int .u32 (z7.toNat : Int)]) ∧ Below w.heap.size w w' := by
 subst hc
 exact (mix_any ⟨y0, y1, y2, y3, y4, y5, y6, y7⟩ b w hb).mono fun _ _ h => ⟨_, _, _, _, _, _, _, _, rfl, h.1, h.2⟩
theorem wpOp_value {P : Program} {ops : Array Oper} {Q : Exit → Act → World → Prop} {K : Act → World → Prop} {i : Nat} {o : Oper} {a : Act} {w : World} {v : Value} (hi : ops[i]? = some o) (hg : o.guard = none) (hv : (execOp a.eval o).run P w = .ok (.value v) w) (h : K (a.put o.dst v) w) : wpOp P ops Q i K a w := by
 unfold Go.wpOp
 simp only [hi]
 have hw : Region.wanted o (yielded ops a.tmps) = true := by simp [Region.wanted, hg]
 simp only [hw, if_true, Oper.wp, hv, Oper.upon]
 exact .inl h
theorem put_swap (a : Act) {d e : Tmp} (h : d ≠ e) (u v : Value) : (a.put (some d) u).put (some e) v = (a.put (some e) v).put (some d) u := by
 simp only [Act.put]
 congr 1
 exact Array.setIfInBounds_comm _ _ h
theorem listed_swap (l : Array Bool) (i j : Nat) : (l.setIfInBounds i true).setIfInBounds j true = (l.setIfInBounds j true).setIfInBounds i true := by
 by_cases h : i = j
 ·subst h; rfl
 ·exact Array.setIfInBounds_comm _ _ h
theorem wpAny_pair {P : Program} {md : Region.Mode} {ops : Array Oper} {Q : Exit → Act → World → Prop} {fuel : Nat} {listed : Array Bool} {a : Act} {w : World} {oi oj : Oper} (i j : Nat) (di dj : Tmp) (vi vj : Value)
  (hr : Region.ready md ops listed = [i, j]) (hri : Region.ready md ops (listed.setIfInBounds i true) = [j]) (hrj : Region.ready md ops (listed.setIfInBounds j true) = [i])
  (hi : ops[i]? = some oi) (hj : ops[j]? = some oj) (gi : oi.guard = none) (gj : oj.guard = none) (ei : oi.dst = some di) (ej : oj.dst = some dj) (hne : di ≠ dj)
  (yi : (execOp a.eval oi).run P w = .ok (.value vi) w) (yi2 : (execOp (a.put (some dj) vj).eval oi).run P w = .ok (.value vi) w)
  (yj : (execOp a.eval oj).run P w = .ok (.value vj) w) (yj2 : (execOp (a.put (some di) vi).eval oj).run P w = .ok (.value vj) w)
  (h : wpAny P md ops Q fuel ((listed.setIfInBounds i true).setIfInBounds j true) ((a.put (some di) vi).put (some dj) vj) w) : wpAny P md ops Q (fuel + 1 + 1) listed a w := by
 refine wpAny_all hr (by simp) fun k hk => ?_
 rcases List.mem_cons.1 hk with rfl | hk
 ·refine wpOp_value hi gi yi (wpAny_all hri (by simp) fun k hk => ?_)
  obtain rfl := List.mem_singleton.1 hk
  refine wpOp_value hj gj (by rw [ei]; exact yj2) ?_
  rw [ei, ej]
  exact h
 ·obtain rfl := List.mem_singleton.1 hk
  refine wpOp_value hj gj yj (wpAny_all hrj (by simp) fun k hk => ?_)
  obtain rfl := List.mem_singleton.1 hk
  refine wpOp_value hi gi (by rw [ej]; exact yi2) ?_
  rw [ei, ej, listed_swap, put_swap _ (Ne.symm hne)]
  exact h
theorem exec_load_mid {P : Program} {a : Act} {w : World} {o : Oper} (ty : TypeId) (x : Operand) (ho : o.op = .load ty x)
  (b i : Nat) (hx : a.eval x = .pointer (some ⟨b, i, none⟩)) (cs : List Value) (d : TypeDesc) (hc : w.rangeAt b i cs) (hu : P.underlying ty = some d) (hd : d.isRow = true) (hi : (P.info? ty).map (·.size) = some cs.length) :
  (execOp a.eval o).run P w = .ok (.value (.agg cs.toArray)) w := by
 unfold execOp
 simp only [ho, hx, Instr.loadAt, Instr.sureAddr, Sem.run_bind, Sem.run_pure, Result.andThen_ok, run_loadVar_mid w b i ty cs d hc hu hd hi]
theorem sub_by {w : World} {g o c : Nat} {l : List UInt8} (h : By w (.slice (some ⟨g, o, none⟩) l.length c) l) (i j c' : Nat) (hij : i + j ≤ l.length) (hc' : j ≤ c') (hm : c' ≤ maxLen) :
  By w (.slice (some ⟨g, o + i, none⟩) j c') ((l.drop i).take j) := by
 obtain ⟨h0, A, c0, hv, hc0, hm0, hcell⟩ := h
 injection hv with e1 e2 e3
 have hlen : ((l.drop i).take j).length = j := by rw [List.length_take, List.length_drop]; omega
 refine ⟨by simp, _, c', by rw [hlen], by rw [hlen]; exact hc', hm, fun hp => ?_⟩
 rw [hlen] at hp
 obtain ⟨b, o2, hA, hb, hcs⟩ := hcell (by omega)
 rw [← e1] at hA
 cases hA
 refine ⟨g, o + i, rfl, hb, fun q hq => ?_⟩
 rw [hlen] at hq
 rw [Nat.add_assoc, hcs (i + q) (by omega), bcells_get, bcells_get, List.getElem?_take_of_lt (by omega), List.getElem?_drop]
theorem by_from {w : World} {g o R c : Nat} {l : List UInt8} (h : By w (.slice (some ⟨g, o, none⟩) R c) l) (hR : R = l.length) (h64 : 64 ≤ R) (hc : R ≤ c) (hm : c ≤ maxLen) :
  By w (.slice (if c = 64 then some ⟨g, o, none⟩ else some ⟨g, o + 64, none⟩) (R - 64) (c - 64)) (l.drop 64) := by
 by_cases hc64 : c = 64
 ·have h0 : l.drop 64 = [] := List.drop_of_length_le (by omega)
  rw [if_pos hc64, h0, show R - 64 = 0 by omega, show c - 64 = 0 by omega]
  exact ⟨by simp, _, 0, rfl, Nat.le_refl _, by unfold maxLen; omega, fun hp => by simp at hp⟩
 ·rw [if_neg hc64]
  rw [hR] at h
  have h2 := sub_by h 64 (R - 64) (c - 64) (by omega) (by omega) (by omega)
  rw [List.take_of_length_le (by rw [List.length_drop]; omega)] at h2
  exact h2
theorem range_by {w : World} {A : Option Addr} {n c : Nat} {l : List UInt8} (h : By w (.slice A n c) l) (hp : 0 < l.length) : ∃ b o, A = some ⟨b, o, none⟩ ∧ b < w.heap.size ∧ w.rangeAt b o (bcells l) := by
 obtain ⟨h0, A2, c0, hv, hc0, hm0, hcell⟩ := h
 injection hv with e1 e2 e3
 subst e1
 obtain ⟨b, o, hA, hb, hcs⟩ := hcell hp
 refine ⟨b, o, hA, hb, fun j v hj => ?_⟩
 rw [hcs j (by have := (List.getElem?_eq_some_iff.1 hj).1; simpa using this), hj]
theorem range_take {w : World} {b o : Nat} {l : List UInt8} (h : w.rangeAt b o (bcells l)) (k : Nat) : w.rangeAt b o (bcells (l.take k)) := fun j v hj => h j v (by
 rw [bcells_get] at hj ⊢
 by_cases hk : j < k
 ·rw [List.getElem?_take_of_lt hk] at hj; exact hj
 ·rw [List.getElem?_eq_none (by rw [List.length_take]; omega)] at hj; cases hj)
theorem range_below {w w' : World} {b o B : Nat} {cs : List Value} (h : w.rangeAt b o cs) (hb : Below B w w') (hB : b < B) : w'.rangeAt b o cs := fun j v hj => (hb.cell (p := ⟨b, o + j, none⟩) hB).trans (h j v hj)
theorem own_farh {w : World} {base : Nat} {e : TypeId} {v : Value} {l : List UInt8} (h : Own w base e v l) {p : Addr} (hp : v.ownBlock = none ∨ v.ownBlock ≠ some p.block) (u : Value) : Own (w.setCell p u) base e v l := by
 obtain ⟨h1, h2 | ⟨g, cap, cur, hv, hg, hh, r⟩⟩ := h
 ·exact ⟨h1, .inl h2⟩
 ·subst hv
  refine ⟨h1, .inr ⟨g, cap, cur, rfl, hg, (Below.heap_setCell w p u g ?_).trans hh, r⟩⟩
  rcases hp with hp | hp
  ·simp [Value.ownBlock] at hp
  ·intro e2
   exact hp (by simp [Value.ownBlock, e2])
set_option maxRecDepth 100000 in
set_option maxHeartbeats 4000000 in
theorem hwrite_any (N : Nat) (v : Value) (l : List UInt8) (w0 w : World) (hv : By w0 v l) (hb : Below N w0 w) (h0 : w0.heap.size ≤ N) (hN : Blk w N 181 (hcs sha0 (.slice none 0 0) 0)) (hl : l.length ≤ 1099511627776) :
  Calls Tryz.prog 116 #[.pointer (some ⟨N, 0, none⟩), v] w fun e w' => e = .returned (.int .i64 0) ∧ Below N w0 w' ∧ ∃ u, Blk w' N 181 (hcs (mixN sha0 l (l.length / 64)) u (l.length : Int)) ∧ By w' u (l.drop (64 * (l.length / 64))) := by
 obtain ⟨A, c, rfl, hc, hm, -⟩ := hv.form
 have HV := hide hv
 clear hv
 unfold maxLen at hm
 obtain ⟨L, hL⟩ : ∃ L, L = l.length := ⟨_, rfl⟩
 rw [← hL] at hc hl HV ⊢
 obtain ⟨m, hmm⟩ : ∃ m, m = L / 64 := ⟨_, rfl⟩
 rw [← hmm]
 have g0 : w.cell? ⟨N, 0, none⟩ = some (.bool true) := (hN.cell 0).trans rfl
 have g9 : w.cell? ⟨N, 9, none⟩ = some (.slice none 0 0) := (hN.cell 9).trans rfl
 have ga : w.cell? ⟨N, 10, none⟩ = some (.int .i64 0) := (hN.cell 10).trans rfl
 have sa : w.frozen? ⟨N, 10, none⟩ = false := hN.frozen 10
 have HN := hide (show Blk (w.setCell ⟨N, 10, none⟩ (.int .i64 (L : Int))) N 181 (hcs (mixN sha0 l 0) (.slice none 0 0) (L : Int)) ∧ Below N w0 (w.setCell ⟨N, 10, none⟩ (.int .i64 (L : Int))) from ⟨hN.set_ 10 _, hb.setCell (Nat.le_refl _) _⟩)
 have HL := hide (And.intro hL hmm)
 have HW := hide h0
 clear hL hmm hN hb h0
 go_enter Tryz.func116, Tryz.ntmps116
 go_wp2_with fail
 refine (hok_any N w g0).mono ?_
 rintro e w1 ⟨rfl, rfl⟩
 go_wp2
 have HV0 := hide (show By w0 (.slice A L c) (l.drop (64 * 0)) from by simpa using HV.out)
 clear g0 g9 ga sa
 go_loopw [1] (fun u1 wr => ∃ q : Nat, q ≤ m ∧ By w0 u1 (l.drop (64 * q)) ∧ Blk wr N 181 (hcs (mixN sha0 l q) (.slice none 0 0) (L : Int)) ∧ Below N w0 wr) (fun u1 _ => lenV u1)
 case atStart => exact ⟨0, by omega, HV0.out, HN.out⟩
 case round =>
  clear HN HV0
  obtain ⟨q, hq, hv, h1, h2⟩ := hrel
  have H := hide (And.intro h1 h2)
  clear h1 h2
  obtain ⟨I, hI⟩ : ∃ I, I = 64 * q := ⟨_, rfl⟩
  rw [← hI] at hv
  obtain ⟨h, hh⟩ : ∃ h, h = mixN sha0 l q := ⟨_, rfl⟩
  rw [← hh] at H
  obtain ⟨M, hM⟩ : ∃ M, M = l.drop I := ⟨_, rfl⟩
  rw [← hM] at hv
  have hR : M.length = L - I := by rw [hM, List.length_drop, ← HL.out.1]
  have HIQ := hide (And.intro hI (And.intro hh hM))
  have hqL : L = 64 * m + L % 64 := by have := HL.out.2; omega
  by_cases hlt : q < m
  ·obtain ⟨y0, y1, y2, y3, y4, y5, y6, y7⟩ := h
   have g1 : wr.cell? ⟨N, 1, none⟩ = some (.int .u32 (y0.toNat : Int)) := (H.out.1.cell 1).trans rfl
   have s1 : wr.frozen? ⟨N, 1, none⟩ = false := H.out.1.frozen 1
   have g2 : wr.cell? ⟨N, 2, none⟩ = some (.int .u32 (y1.toNat : Int)) := (H.out.1.cell 2).trans rfl
   have s2 : wr.frozen? ⟨N, 2, none⟩ = false := H.out.1.frozen 2
   have g3 : wr.cell? ⟨N, 3, none⟩ = some (.int .u32 (y2.toNat : Int)) := (H.out.1.cell 3).trans rfl
   have s3 : wr.frozen? ⟨N, 3, none⟩ = false := H.out.1.frozen 3
   have g4 : wr.cell? ⟨N, 4, none⟩ = some (.int .u32 (y3.toNat : Int)) := (H.out.1.cell 4).trans rfl
   have s4 : wr.frozen? ⟨N, 4, none⟩ = false := H.out.1.frozen 4
   have g5 : wr.cell? ⟨N, 5, none⟩ = some (.int .u32 (y4.toNat : Int)) := (H.out.1.cell 5).trans rfl
   have s5 : wr.frozen? ⟨N, 5, none⟩ = false := H.out.1.frozen 5
   have g6 : wr.cell? ⟨N, 6, none⟩ = some (.int .u32 (y5.toNat : Int)) := (H.out.1.cell 6).trans rfl
   have s6 : wr.frozen? ⟨N, 6, none⟩ = false := H.out.1.frozen 6
   have g7 : wr.cell? ⟨N, 7, none⟩ = some (.int .u32 (y6.toNat : Int)) := (H.out.1.cell 7).trans rfl
   have s7 : wr.frozen? ⟨N, 7, none⟩ = false := H.out.1.frozen 7
   have g8 : wr.cell? ⟨N, 8, none⟩ = some (.int .u32 (y7.toNat : Int)) := (H.out.1.cell 8).trans rfl
   have s8 : wr.frozen? ⟨N, 8, none⟩ = false := H.out.1.frozen 8
   obtain ⟨A1, c1, rfl, hc1, hm1, -⟩ := hv.form
   obtain ⟨b, o, rfl, hbl, hr⟩ := range_by hv (by omega)
   obtain ⟨R, hRR⟩ : ∃ R, R = M.length := ⟨_, rfl⟩
   rw [← hRR] at hv hc1 ⊢
   have e1 : (64 : Int) ≤ (R : Int) := by omega
   have e2 : (R : Int) ≤ (c1 : Int) := by omega
   have hs2a : ∀ W : World, (Instr.arrayAt 98 (.slice (some ⟨b, o, none⟩) R c1)).run Tryz.prog W = .ok (.pointer (some ⟨b, o, none⟩)) W := fun W => run_arrayAt W 98 5 64 _ R c1 Tryz.underlying98 (by omega)
   obtain ⟨bl, hbb⟩ : ∃ bl, bl = M.take 64 := ⟨_, rfl⟩
   have hbl64 : bl.length = 64 := by rw [hbb, List.length_take]; omega
   obtain ⟨cs, hcd⟩ : ∃ cs, cs = bcells bl := ⟨_, rfl⟩
   have hrw : wr.drew.rangeAt b o cs := by rw [hcd, hbb]; exact range_take (range_below hr H.out.2 (Nat.lt_of_lt_of_le hbl HW.out)) 64
   have hcl : cs.length = 64 := by rw [hcd, bcells_length, hbl64]
   have QM := hide (fun w => mix_eight y0 y1 y2 y3 y4 y5 y6 y7 bl cs.toArray w hbl64 (by rw [hcd]))
   have hci : (Tryz.prog.info? 98).map (·.size) = some cs.length := by rw [hcl]; kernel_rfl
   have HR := hide (And.intro hrw hci)
   have HY := hide (show wr.drew.rangeAt N 1 [.int .u32 (y0.toNat : Int), .int .u32 (y1.toNat : Int), .int .u32 (y2.toNat : Int), .int .u32 (y3.toNat : Int), .int .u32 (y4.toNat : Int), .int .u32 (y5.toNat : Int), .int .u32 (y6.toNat : Int), .int .u32 (y7.toNat : Int)] ∧ (Tryz.prog.info? 179).map (·.size) = some ([.int .u32 (y0.toNat : Int), .int .u32 (y1.toNat : Int), .int .u32 (y2.toNat : Int), .int .u32 (y3.toNat : Int), .int .u32 (y4.toNat : Int), .int .u32 (y5.toNat : Int), .int .u32 (y6.toNat : Int), .int .u32 (y7.toNat : Int)] : List Value).length from ⟨fun j v hj => by
    have hj8 : j < 8 := by simpa using (List.getElem?_eq_some_iff.1 hj).1
    rw [show wr.drew.cell? ⟨N, 1 + j, none⟩ = wr.cell? ⟨N, 1 + j, none⟩ from rfl, H.out.1.cell, ← hj]
    obtain rfl | rfl | rfl | rfl | rfl | rfl | rfl | rfl : j = 0 ∨ j = 1 ∨ j = 2 ∨ j = 3 ∨ j = 4 ∨ j = 5 ∨ j = 6 ∨ j = 7 := by omega
    all_goals rfl, by kernel_rfl⟩)
   have HB := hide (And.intro hv (And.intro hbb (And.intro hRR (And.intro hc1 hm1))))
   have HK := hide (show ∀ w' : World, Below wr.drew.heap.size wr.drew w' → Hid (Blk w' N 181 (hcs ⟨y0, y1, y2, y3, y4, y5, y6, y7⟩ (.slice none 0 0) (L : Int)) ∧ Below N w0 w') ∧ w'.cell? ⟨N, 1, none⟩ = some (.int .u32 (y0.toNat : Int)) ∧ w'.cell? ⟨N, 2, none⟩ = some (.int .u32 (y1.toNat : Int)) ∧ w'.cell? ⟨N, 3, none⟩ = some (.int .u32 (y2.toNat : Int)) ∧ w'.cell? ⟨N, 4, none⟩ = some (.int .u32 (y3.toNat : Int)) ∧ w'.cell? ⟨N, 5, none⟩ = some (.int .u32 (y4.toNat : Int)) ∧ w'.cell? ⟨N, 6, none⟩ = some (.int .u32 (y5.toNat : Int)) ∧ w'.cell? ⟨N, 7, none⟩ = some (.int .u32 (y6.toNat : Int)) ∧ w'.cell? ⟨N, 8, none⟩ = some (.int .u32 (y7.toNat : Int)) ∧ w'.frozen? ⟨N, 1, none⟩ = false ∧ w'.frozen? ⟨N, 2, none⟩ = false ∧ w'.frozen? ⟨N, 3, none⟩ = false ∧ w'.frozen? ⟨N, 4, none⟩ = false ∧ w'.frozen? ⟨N, 5, none⟩ = false ∧ w'.frozen? ⟨N, 6, none⟩ = false ∧ w'.frozen? ⟨N, 7, none⟩ = false ∧ w'.frozen? ⟨N, 8, none⟩ = false from fun w' hw' => by
    have hk := H.out.1.drew.below' hw'
    refine ⟨hide ⟨hk, H.out.2.drew.trans (hw'.mono (Nat.le_of_lt H.out.1.lt))⟩, (hk.cell 1).trans rfl, (hk.cell 2).trans rfl, (hk.cell 3).trans rfl, (hk.cell 4).trans rfl, (hk.cell 5).trans rfl, (hk.cell 6).trans rfl, (hk.cell 7).trans rfl, (hk.cell 8).trans rfl, hk.frozen 1, hk.frozen 2, hk.frozen 3, hk.frozen 4, hk.frozen 5, hk.frozen 6, hk.frozen 7, hk.frozen 8⟩)
   clear hv hr hR hqL hbb hbl64 hI hh hM hRR hc1 hm1 hrw hcd hci hcl
   go_wp2
   refine wp_region_any (by kernel_rfl) ?_
   change wpAny _ _ _ _ _ _ _ (World.drew _)
   refine wpAny_take (i := 0) (v := ?v0) rfl (by kernel_rfl) (by kernel_rfl) (by kernel_rfl) (fun _ _ _ h => h) (Or.inl ⟨by rfl, ?hy0⟩) ?rest0
   case hy0 => (intro w; go_simp; try with_reducible rfl)
   refine wpAny_take (i := 1) (v := ?v1) rfl (by kernel_rfl) (by kernel_rfl) (by kernel_rfl) (fun _ _ _ h => h) (Or.inl ⟨by rfl, ?hy1⟩) ?rest1
   case hy1 => (intro w; go_simp; try with_reducible rfl)
   refine wpAny_take (i := 2) (v := ?v2) rfl (by kernel_rfl) (by kernel_rfl) (by kernel_rfl) (fun _ _ _ h => h) (Or.inl ⟨by rfl, ?hy2⟩) ?rest2
   case hy2 => (intro w; go_simp; try with_reducible rfl)
   refine wpAny_take (i := 3) (v := ?v3) rfl (by kernel_rfl) (by kernel_rfl) (by kernel_rfl) (fun _ _ _ h => h) (Or.inl ⟨by rfl, ?hy3⟩) ?rest3
   case hy3 => (intro w; go_simp; try with_reducible rfl)
   refine wpAny_take (i := 5) (v := ?v5) rfl (by kernel_rfl) (by kernel_rfl) (by kernel_rfl) (fun _ _ _ h => h) (Or.inl ⟨by rfl, ?hy5⟩) ?rest5
   case hy5 => (intro w; go_simp; try with_reducible rfl)
   refine wpAny_take (i := 6) (v := ?v6) rfl (by kernel_rfl) (by kernel_rfl) (by kernel_rfl) (fun _ _ _ h => h) (Or.inl ⟨by rfl, ?hy6⟩) ?rest6
   case hy6 => (intro w; go_simp; try with_reducible rfl)
   simp only [Act.put, List.setIfInBounds_toArray, List.set_cons_zero, List.set_cons_succ]
   refine wpAny_pair 4 7 80 83 (.agg (List.toArray [.int .u32 (y0.toNat : Int), .int .u32 (y1.toNat : Int), .int .u32 (y2.toNat : Int), .int .u32 (y3.toNat : Int), .int .u32 (y4.toNat : Int), .int .u32 (y5.toNat : Int), .int .u32 (y6.toNat : Int), .int .u32 (y7.toNat : Int)])) (.agg cs.toArray) (by kernel_rfl) (by kernel_rfl) (by kernel_rfl) rfl rfl rfl rfl rfl rfl (by decide) ?yi ?yi2 ?yj ?yj2 ?go
   case yi => exact exec_load_mid 179 (.tmp 79) (by kernel_rfl) N 1 (by kernel_rfl) _ _ HY.out.1 Tryz.underlying179 rfl HY.out.2
   case yi2 => exact exec_load_mid 179 (.tmp 79) (by kernel_rfl) N 1 (by kernel_rfl) _ _ HY.out.1 Tryz.underlying179 rfl HY.out.2
   case yj => exact exec_load_mid 98 (.tmp 82) (by kernel_rfl) b o (by kernel_rfl) cs _ HR.out.1 Tryz.underlying98 rfl HR.out.2
   case yj2 => exact exec_load_mid 98 (.tmp 82) (by kernel_rfl) b o (by kernel_rfl) cs _ HR.out.1 Tryz.underlying98 rfl HR.out.2
   case go =>
    simp only [Act.put, List.setIfInBounds_toArray, List.set_cons_zero, List.set_cons_succ]
    refine wpAny_ready (rs := [8]) (by kernel_rfl) (by simp) ?_
    refine AllReady.cons rfl (fun K hK => ?_) ?_
    rotate_left
    exact AllReady.nil
    go_simp
    refine (QM.out _).mono ?_
    rintro e w' ⟨z0, z1, z2, z3, z4, z5, z6, z7, hz, rfl, hbb⟩
    obtain ⟨HB', p1, p2, p3, p4, p5, p6, p7, p8, f1, f2, f3, f4, f5, f6, f7, f8⟩ := HK.out _ hbb
    refine hK _ _ ?_
    clear hK K
    try simp only [Act.put, List.setIfInBounds_toArray, List.set_cons_zero, List.set_cons_succ]
    refine wpAny_take (i := 9) (v := ?v9) rfl (by kernel_rfl) (by kernel_rfl) (by kernel_rfl) (fun _ _ _ h => h) (Or.inl ⟨by rfl, ?hy9⟩) ?rest9
    case hy9 => (intro w; go_simp; try with_reducible rfl)
    refine wpAny_take (i := 10) (v := ?v10) rfl (by kernel_rfl) (by kernel_rfl) (by kernel_rfl) (fun _ _ _ h => h) (Or.inl ⟨by rfl, ?hy10⟩) ?rest10
    case hy10 => (intro w; go_simp; try with_reducible rfl)
    refine wpAny_ready (rs := [11]) (by kernel_rfl) (by simp) ?_
    refine AllReady.cons rfl (fun K hK => ?_) ?_
    rotate_left
    exact AllReady.nil
    go_simp
    refine hK _ _ ?_
    clear hK K
    refine wpAny_done (by kernel_rfl) ?_ _
    clear p1 p2 p3 p4 p5 p6 p7 p8 f1 f2 f3 f4 f5 f6 f7 f8
    go_wp2
    go_roundw
    case rel =>
     refine ⟨q + 1, hlt, ?_, ?_, below_h8 HB'.out.2 (Nat.le_refl _) _ _ _ _ _ _ _ _⟩
     ·have h2 := by_from HB.out.1 HB.out.2.2.1 (by have := e1; omega) HB.out.2.2.2.1 HB.out.2.2.2.2
      rw [HIQ.out.2.2, HIQ.out.1, List.drop_drop] at h2
      rw [show 64 * (q + 1) = 64 * q + 64 by omega]
      exact h2
     ·have h2 := blk_h8 HB'.out.1 z0 z1 z2 z3 z4 z5 z6 z7
      rw [mixN_succ, ← HIQ.out.2.1, ← HIQ.out.1, ← HIQ.out.2.2, ← HB.out.2.1, hz]
      exact h2
    case measure => simp [lenV]; omega
  ·have hqm : q = m := by omega
   subst hqm
   obtain ⟨A1, c1, rfl, hc1, hm1, -⟩ := hv.form
   have HV1 := hide (show By wr (.slice A1 M.length c1) M from hv.below (H.out.2.mono HW.out))
   have hlen : ([] : List UInt8).length + M.length ≤ 140737488355328 := by simp; omega
   have HLEN := hide hlen
   have g9 : wr.cell? ⟨N, 9, none⟩ = some (.slice none 0 0) := (H.out.1.cell 9).trans rfl
   obtain ⟨R, hRR⟩ : ∃ R, R = M.length := ⟨_, rfl⟩
   rw [← hRR] at hc1 HV1 ⊢
   have e1 : ¬ (64 : Int) ≤ (R : Int) := by omega
   have HRM := hide hRR
   clear hlen hR hqL hRR hv hM hh hI
   go_wp2_with (at_builtin; go_loud (refine wpList_pushV (l := []) elem8 (Own.nil wr N _) H.out.2 (Nat.le_of_lt H.out.1.lt) HV1.out HLEN.out rfl _ _ rfl rfl rfl ?_); intro v1 w1 o1 b1 g1 _; go_loud (obtain ⟨A2, n2, c2, rfl⟩ : ∃ A n c, v1 = .slice A n c := (by obtain ⟨A, c, h, -⟩ := o1.by_.form; exact ⟨A, _, c, h⟩); have HE := hide (And.intro o1 (And.intro b1 (H.out.1.grown g1 (by simp [Value.ownBlock])))); have c9 : w1.cell? ⟨N, 9, none⟩ = some (.slice none 0 0) := (HE.out.2.2.cell 9).trans rfl; have s9 : w1.frozen? ⟨N, 9, none⟩ = false := HE.out.2.2.frozen 9; clear o1 b1 g1))
   go_ret
   refine ⟨rfl, HE.out.2.1.setCell (Nat.le_refl _) _, .slice A2 n2 c2, ?_, ?_⟩
   ·have h2 := HE.out.2.2.set_ 9 (.slice A2 n2 c2)
    rw [HIQ.out.2.1] at h2
    exact h2
   ·have h2 := own_farh (p := ⟨N, 9, none⟩) HE.out.1 (own_blk_ne HE.out.1 HE.out.2.2 (by decide)) (.slice A2 n2 c2)
    rw [← HIQ.out.1, ← HIQ.out.2.2]
    exact h2.by_
end Go.Proofs.YtdohebhbiokljaaGreatDoor
namespace Go.Proofs.YtdohebhbiokljaaGreatDoor
open Go.RowKit
theorem word_size (w : World) : (sizeOf 88).run Tryz.prog w = .ok 1 w := by
 have h : (Tryz.prog.info? 88).map (·.size) = some 1 := by kernel_rfl
 rcases hi : Tryz.prog.info? 88 with _ | i
 ·rw [hi] at h; cases h
 ·rw [hi] at h
  simp only [Option.map_some, Option.some.injEq] at h
  simp [sizeOf, typeInfo, run_program, hi, h]
set_option maxRecDepth 10000 in
set_option maxHeartbeats 1000000 in
theorem words_eq (x0 x1 x2 x3 x4 x5 x6 x7 : Int) (w : World) : (Op.equalIn 10000 179 (.agg #[.int .u32 x0, .int .u32 x1, .int .u32 x2, .int .u32 x3, .int .u32 x4, .int .u32 x5, .int .u32 x6, .int .u32 x7]) (.agg #[.int .u32 0, .int .u32 0, .int .u32 0, .int .u32 0, .int .u32 0, .int .u32 0, .int .u32 0, .int .u32 0])).run Tryz.prog w = .ok ((x0 == 0) && (x1 == 0) && (x2 == 0) && (x3 == 0) && (x4 == 0) && (x5 == 0) && (x6 == 0) && (x7 == 0)) w := by
 have hi : ∀ (a b : Int) (w : World), (Op.equalIn 9999 88 (.int .u32 a) (.int .u32 b)).run Tryz.prog w = .ok (a == b) w := fun a b w => run_equalIn_int w 9998 88 .u32 .u32 a b Tryz.underlying88
 rw [Op.equalIn]
 simp only [Sem.run_bind, run_underlying Tryz.underlying179, Result.andThen_ok, word_size, Std.Legacy.Range.forIn_eq_forIn_range', Std.Legacy.Range.size]
 simp only [Nat.sub_zero, Nat.add_sub_cancel, Nat.div_one, List.range'_succ, List.range'_zero, List.forIn_cons, List.forIn_nil]
 have hp0 : (Go.part 88 #[Value.int .u32 x0, Value.int .u32 x1, Value.int .u32 x2, Value.int .u32 x3, Value.int .u32 x4, Value.int .u32 x5, Value.int .u32 x6, Value.int .u32 x7] (0 * 1)).run Tryz.prog w = .ok (.int .u32 x0) w := by simp [Go.part, isAgg, run_underlying Tryz.underlying88]
 have hz0 : (Go.part 88 #[Value.int .u32 0, Value.int .u32 0, Value.int .u32 0, Value.int .u32 0, Value.int .u32 0, Value.int .u32 0, Value.int .u32 0, Value.int .u32 0] (0 * 1)).run Tryz.prog w = .ok (.int .u32 0) w := by simp [Go.part, isAgg, run_underlying Tryz.underlying88]
 have hp1 : (Go.part 88 #[Value.int .u32 x0, Value.int .u32 x1, Value.int .u32 x2, Value.int .u32 x3, Value.int .u32 x4, Value.int .u32 x5, Value.int .u32 x6, Value.int .u32 x7] ((0 + 1) * 1)).run Tryz.prog w = .ok (.int .u32 x1) w := by simp [Go.part, isAgg, run_underlying Tryz.underlying88]
 have hz1 : (Go.part 88 #[Value.int .u32 0, Value.int .u32 0, Value.int .u32 0, Value.int .u32 0, Value.int .u32 0, Value.int .u32 0, Value.int .u32 0, Value.int .u32 0] ((0 + 1) * 1)).run Tryz.prog w = .ok (.int .u32 0) w := by simp [Go.part, isAgg, run_underlying Tryz.underlying88]
 have hp2 : (Go.part 88 #[Value.int .u32 x0, Value.int .u32 x1, Value.int .u32 x2, Value.int .u32 x3, Value.int .u32 x4, Value.int .u32 x5, Value.int .u32 x6, Value.int .u32 x7] ((0 + 1 + 1) * 1)).run Tryz.prog w = .ok (.int .u32 x2) w := by simp [Go.part, isAgg, run_underlying Tryz.underlying88]
 have hz2 : (Go.part 88 #[Value.int .u32 0, Value.int .u32 0, Value.int .u32 0, Value.int .u32 0, Value.int .u32 0, Value.int .u32 0, Value.int .u32 0, Value.int .u32 0] ((0 + 1 + 1) * 1)).run Tryz.prog w = .ok (.int .u32 0) w := by simp [Go.part, isAgg, run_underlying Tryz.underlying88]
 have hp3 : (Go.part 88 #[Value.int .u32 x0, Value.int .u32 x1, Value.int .u32 x2, Value.int .u32 x3, Value.int .u32 x4, Value.int .u32 x5, Value.int .u32 x6, Value.int .u32 x7] ((0 + 1 + 1 + 1) * 1)).run Tryz.prog w = .ok (.int .u32 x3) w := by simp [Go.part, isAgg, run_underlying Tryz.underlying88]
 have hz3 : (Go.part 88 #[Value.int .u32 0, Value.int .u32 0, Value.int .u32 0, Value.int .u32 0, Value.int .u32 0, Value.int .u32 0, Value.int .u32 0, Value.int .u32 0] ((0 + 1 + 1 + 1) * 1)).run Tryz.prog w = .ok (.int .u32 0) w := by simp [Go.part, isAgg, run_underlying Tryz.underlying88]
 have hp4 : (Go.part 88 #[Value.int .u32 x0, Value.int .u32 x1, Value.int .u32 x2, Value.int .u32 x3, Value.int .u32 x4, Value.int .u32 x5, Value.int .u32 x6, Value.int .u32 x7] ((0 + 1 + 1 + 1 + 1) * 1)).run Tryz.prog w = .ok (.int .u32 x4) w := by simp [Go.part, isAgg, run_underlying Tryz.underlying88]
 have hz4 : (Go.part 88 #[Value.int .u32 0, Value.int .u32 0, Value.int .u32 0, Value.int .u32 0, Value.int .u32 0, Value.int .u32 0, Value.int .u32 0, Value.int .u32 0] ((0 + 1 + 1 + 1 + 1) * 1)).run Tryz.prog w = .ok (.int .u32 0) w := by simp [Go.part, isAgg, run_underlying Tryz.underlying88]
 have hp5 : (Go.part 88 #[Value.int .u32 x0, Value.int .u32 x1, Value.int .u32 x2, Value.int .u32 x3, Value.int .u32 x4, Value.int .u32 x5, Value.int .u32 x6, Value.int .u32 x7] ((0 + 1 + 1 + 1 + 1 + 1) * 1)).run Tryz.prog w = .ok (.int .u32 x5) w := by simp [Go.part, isAgg, run_underlying Tryz.underlying88]
 have hz5 : (Go.part 88 #[Value.int .u32 0, Value.int .u32 0, Value.int .u32 0, Value.int .u32 0, Value.int .u32 0, Value.int .u32 0, Value.int .u32 0, Value.int .u32 0] ((0 + 1 + 1 + 1 + 1 + 1) * 1)).run Tryz.prog w = .ok (.int .u32 0) w := by simp [Go.part, isAgg, run_underlying Tryz.underlying88]
 have hp6 : (Go.part 88 #[Value.int .u32 x0, Value.int .u32 x1, Value.int .u32 x2, Value.int .u32 x3, Value.int .u32 x4, Value.int .u32 x5, Value.int .u32 x6, Value.int .u32 x7] ((0 + 1 + 1 + 1 + 1 + 1 + 1) * 1)).run Tryz.prog w = .ok (.int .u32 x6) w := by simp [Go.part, isAgg, run_underlying Tryz.underlying88]
 have hz6 : (Go.part 88 #[Value.int .u32 0, Value.int .u32 0, Value.int .u32 0, Value.int .u32 0, Value.int .u32 0, Value.int .u32 0, Value.int .u32 0, Value.int .u32 0] ((0 + 1 + 1 + 1 + 1 + 1 + 1) * 1)).run Tryz.prog w = .ok (.int .u32 0) w := by simp [Go.part, isAgg, run_underlying Tryz.underlying88]
 have hp7 : (Go.part 88 #[Value.int .u32 x0, Value.int .u32 x1, Value.int .u32 x2, Value.int .u32 x3, Value.int .u32 x4, Value.int .u32 x5, Value.int .u32 x6, Value.int .u32 x7] ((0 + 1 + 1 + 1 + 1 + 1 + 1 + 1) * 1)).run Tryz.prog w = .ok (.int .u32 x7) w := by simp [Go.part, isAgg, run_underlying Tryz.underlying88]
 have hz7 : (Go.part 88 #[Value.int .u32 0, Value.int .u32 0, Value.int .u32 0, Value.int .u32 0, Value.int .u32 0, Value.int .u32 0, Value.int .u32 0, Value.int .u32 0] ((0 + 1 + 1 + 1 + 1 + 1 + 1 + 1) * 1)).run Tryz.prog w = .ok (.int .u32 0) w := by simp [Go.part, isAgg, run_underlying Tryz.underlying88]
 cases h0 : (x0 == 0)
 ·simp [Go.part, isAgg, run_underlying Tryz.underlying88, hi, h0]
 simp only [Sem.run_bind, hp0, hz0, Result.andThen_ok, hi, h0, Bool.not_true, Bool.false_eq_true, if_false, Sem.run_pure, Bool.true_and]
 cases h1 : (x1 == 0)
 ·simp [Go.part, isAgg, run_underlying Tryz.underlying88, hi, h1]
 simp only [Sem.run_bind, hp1, hz1, Result.andThen_ok, hi, h1, Bool.not_true, Bool.false_eq_true, if_false, Sem.run_pure, Bool.true_and]
 cases h2 : (x2 == 0)
 ·simp [Go.part, isAgg, run_underlying Tryz.underlying88, hi, h2]
 simp only [Sem.run_bind, hp2, hz2, Result.andThen_ok, hi, h2, Bool.not_true, Bool.false_eq_true, if_false, Sem.run_pure, Bool.true_and]
 cases h3 : (x3 == 0)
 ·simp [Go.part, isAgg, run_underlying Tryz.underlying88, hi, h3]
 simp only [Sem.run_bind, hp3, hz3, Result.andThen_ok, hi, h3, Bool.not_true, Bool.false_eq_true, if_false, Sem.run_pure, Bool.true_and]
 cases h4 : (x4 == 0)
 ·simp [Go.part, isAgg, run_underlying Tryz.underlying88, hi, h4]
 simp only [Sem.run_bind, hp4, hz4, Result.andThen_ok, hi, h4, Bool.not_true, Bool.false_eq_true, if_false, Sem.run_pure, Bool.true_and]
 cases h5 : (x5 == 0)
 ·simp [Go.part, isAgg, run_underlying Tryz.underlying88, hi, h5]
 simp only [Sem.run_bind, hp5, hz5, Result.andThen_ok, hi, h5, Bool.not_true, Bool.false_eq_true, if_false, Sem.run_pure, Bool.true_and]
 cases h6 : (x6 == 0)
 ·simp [Go.part, isAgg, run_underlying Tryz.underlying88, hi, h6]
 simp only [Sem.run_bind, hp6, hz6, Result.andThen_ok, hi, h6, Bool.not_true, Bool.false_eq_true, if_false, Sem.run_pure, Bool.true_and]
 cases h7 : (x7 == 0)
 ·simp [Go.part, isAgg, run_underlying Tryz.underlying88, hi, h7]
 simp only [Sem.run_bind, hp7, hz7, Result.andThen_ok, hi, h7, Bool.not_true, Bool.false_eq_true, if_false, Sem.run_pure, Bool.true_and]
theorem word_index (x0 x1 x2 x3 x4 x5 x6 x7 : Int) (i : Nat) (y : Int) (hi : i < 8) (h : (#[.int .u32 x0, .int .u32 x1, .int .u32 x2, .int .u32 x3, .int .u32 x4, .int .u32 x5, .int .u32 x6, .int .u32 x7] : Array Value)[i]? = some (.int .u32 y)) (w : World) : (Instr.index 179 (.agg #[.int .u32 x0, .int .u32 x1, .int .u32 x2, .int .u32 x3, .int .u32 x4, .int .u32 x5, .int .u32 x6, .int .u32 x7]) (.int .i64 (i : Int))).run Tryz.prog w = .ok (.int .u32 y) w := by
 have hw : IntKind.i64.wrap (i : Int) = (i : Int) := by simp [IntKind.wrap, IntKind.bits, IntKind.signed]; omega
 obtain rfl | rfl | rfl | rfl | rfl | rfl | rfl | rfl : i = 0 ∨ i = 1 ∨ i = 2 ∨ i = 3 ∨ i = 4 ∨ i = 5 ∨ i = 6 ∨ i = 7 := by omega
 all_goals
  simp at h
  subst h
  simp [Instr.index, asIntOf, run_underlying Tryz.underlying179, word_size, Go.part, isAgg, run_underlying Tryz.underlying88]
theorem u8_size (w : World) : (sizeOf 5).run Tryz.prog w = .ok 1 w := by
 have h : (Tryz.prog.info? 5).map (·.size) = some 1 := by kernel_rfl
 rcases hi : Tryz.prog.info? 5 with _ | i
 ·rw [hi] at h; cases h
 ·rw [hi] at h
  simp only [Option.map_some, Option.some.injEq] at h
  simp [sizeOf, typeInfo, run_program, hi, h]
theorem dig_slice (D j : Nat) (hj : j ≤ 28) (w : World) : (Instr.sliceAt 23 (.pointer (some ⟨D, 0, none⟩)) (some (.int .i64 (j : Int))) none none).run Tryz.prog w = .ok (.slice (some ⟨D, j, none⟩) (32 - j) (32 - j)) w := by
 have h1 : Tryz.prog.arrayLen 23 = 32 := by kernel_rfl
 have h2 : Tryz.prog.elem 23 = 5 := by kernel_rfl
 rw [run_sliceAt_array_l w 23 _ (by kernel_rfl) .i64 (j : Int) (by omega) (by rw [h1]; omega), h1, h2, u8_size]
 have h3 : ¬ 32 = j := by omega
 simp [slicedAt, h3, Go.Addr.add_mid, Result.andThen]
end Go.Proofs.YtdohebhbiokljaaGreatDoor
