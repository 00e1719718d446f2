/- Joined texts: ShaC. -/
import Derived.Test.YtkhlbpclfeakpaaDoorJ9
import Derived.Deep.RegionHeld3

/- The words of a block, spread over the rounds: the program's schedule. -/
namespace Go.Proofs.YtkhlbpclfeakpaaDoor
open Go.RowKit

/-- 64 words of which the first k are reckoned. -/
def fw (k : Nat) (f : Nat → UInt32) : Array Value := ((List.range k).map (fun i => Value.int .u32 ((f i).toNat : Int)) ++ List.replicate (64 - k) (Value.int .u32 0)).toArray
theorem fw_size {k : Nat} (f : Nat → UInt32) (h : k ≤ 64) : (fw k f).size = 64 := by simp [fw]; omega
theorem fw_get {k i : Nat} (f : Nat → UInt32) (h : i < k) : (fw k f)[i]? = some (.int .u32 ((f i).toNat : Int)) := by
  unfold fw
  rw [List.getElem?_toArray, List.getElem?_append_left (by simp; omega), List.getElem?_map, List.getElem?_range h]
  rfl
theorem fw_set {k : Nat} (f : Nat → UInt32) (h : k < 64) : (fw k f).setIfInBounds k (.int .u32 ((f k).toNat : Int)) = fw (k + 1) f := by
  unfold fw
  rw [List.setIfInBounds_toArray]
  congr 1
  rw [List.set_append_right _ _ (by simp), List.length_map, List.length_range, Nat.sub_self, show 64 - k = (64 - (k + 1)) + 1 by omega, List.replicate_succ, List.set_cons_zero, List.range_succ, List.map_append, List.append_assoc]
  rfl
theorem blk_newh (w : World) (g : Nat) (t : TypeId) (cs : Array Value) (h : g = w.heap.size) : Blk (w.alloc (.cells cs t)) g t cs := by rw [h]; exact Blk.new w t cs
theorem fw_zero (f : Nat → UInt32) : fw 0 f = (List.replicate 64 (Value.int .u32 0)).toArray := by simp [fw]

def sg0 (x : UInt32) : UInt32 := xo (xo (rkh x (-7)) (rkh x (-18))) (sr x 3)
def sg1 (x : UInt32) : UInt32 := xo (xo (rkh x (-17)) (rkh x (-19))) (sr x 10)
/-- Four bytes, the highest first. -/
def be4 (a b c d : UInt8) : UInt32 := UInt32.ofNat (a.toNat * 16777216 + b.toNat * 65536 + c.toNat * 256 + d.toNat)
theorem or_add (a b n : Nat) (h : b < 2 ^ n) : a * 2 ^ n ||| b = a * 2 ^ n + b := by
  rw [Nat.mul_comm]; exact (Nat.two_pow_add_eq_or_of_lt h a).symm
theorem be4_nat (a b c d : Nat) (ha : a < 256) (hb : b < 256) (hc : c < 256) (hd : d < 256) : ((a * 16777216 ||| b * 65536) ||| c * 256) ||| d = ((a * 256 + b) * 256 + c) * 256 + d := by
  have e1 : a * 16777216 ||| b * 65536 = a * 16777216 + b * 65536 := or_add a (b * 65536) 24 (by omega)
  have e2 : (a * 256 + b) * 65536 ||| c * 256 = (a * 256 + b) * 65536 + c * 256 := or_add (a * 256 + b) (c * 256) 16 (by omega)
  have e3 : ((a * 256 + b) * 256 + c) * 256 ||| d = ((a * 256 + b) * 256 + c) * 256 + d := or_add ((a * 256 + b) * 256 + c) d 8 (by omega)
  rw [e1, show a * 16777216 + b * 65536 = (a * 256 + b) * 65536 by omega, e2, show (a * 256 + b) * 65536 + c * 256 = ((a * 256 + b) * 256 + c) * 256 by omega, e3]
theorem be4_toNat (a b c d : UInt8) : (be4 a b c d).toNat = a.toNat * 16777216 + b.toNat * 65536 + c.toNat * 256 + d.toNat := by
  have h1 := a.toNat_lt
  have h2 := b.toNat_lt
  have h3 := c.toNat_lt
  have h4 := d.toNat_lt
  unfold be4
  exact ofNat_lt (by omega)
theorem be4_int (a b c d : UInt8) : bits .or .u32 (bits .or .u32 (bits .or .u32 ((a.toNat : Int) % 4294967296 * 16777216 % 4294967296) ((b.toNat : Int) % 4294967296 * 65536 % 4294967296)) ((c.toNat : Int) % 4294967296 * 256 % 4294967296)) ((d.toNat : Int) % 4294967296) = ((be4 a b c d).toNat : Int) := by
  have h1 := a.toNat_lt
  have h2 := b.toNat_lt
  have h3 := c.toNat_lt
  have h4 := d.toNat_lt
  rw [be4_toNat]
  generalize a.toNat = A at *
  generalize b.toNat = B at *
  generalize c.toNat = C at *
  generalize d.toNat = D at *
  rw [show (A : Int) % 4294967296 * 16777216 % 4294967296 = ((A * 16777216 : Nat) : Int) by omega, show (B : Int) % 4294967296 * 65536 % 4294967296 = ((B * 65536 : Nat) : Int) by omega,
    show (C : Int) % 4294967296 * 256 % 4294967296 = ((C * 256 : Nat) : Int) by omega, show (D : Int) % 4294967296 = (D : Int) by omega]
  have hn := be4_nat A B C D h1 h2 h3 h4
  rw [u32_or_nat _ _ (by omega) (by omega), u32_or_nat _ _ (Nat.or_lt_two_pow (n := 32) (by omega) (by omega)) (by omega), u32_or_nat _ _ (Nat.or_lt_two_pow (n := 32) (Nat.or_lt_two_pow (n := 32) (by omega) (by omega)) (by omega)) (by omega), hn]
  omega
/-- The words of a block. -/
def wdh (b : List UInt8) (t : Nat) : UInt32 :=
  if t < 16 then be4 (b.getD (4 * t) 0) (b.getD (4 * t + 1) 0) (b.getD (4 * t + 2) 0) (b.getD (4 * t + 3) 0)
  else ad (ad (ad (sg1 (wdh b (t - 2))) (wdh b (t - 7))) (sg0 (wdh b (t - 15)))) (wdh b (t - 16))
termination_by t
theorem wd_lo (b : List UInt8) {t : Nat} (h : t < 16) : wdh b t = be4 (b.getD (4 * t) 0) (b.getD (4 * t + 1) 0) (b.getD (4 * t + 2) 0) (b.getD (4 * t + 3) 0) := by
  rw [wdh, if_pos h]
theorem wd_hi (b : List UInt8) {t : Nat} (h : ¬ t < 16) : wdh b t = ad (ad (ad (sg1 (wdh b (t - 2))) (wdh b (t - 7))) (sg0 (wdh b (t - 15)))) (wdh b (t - 16)) := by
  rw [wdh, if_neg h]

set_option maxRecDepth 100000 in
set_option maxHeartbeats 4000000 in
theorem schedule_any (b : List UInt8) (w : World) (hb : b.length = 64) :
    Calls Tryd.prog 173 #[.agg (bcells b).toArray] w fun e w' => e = .returned (.agg (fw 64 (wdh b))) ∧ Below w.heap.size w w' := by
  obtain ⟨B, hB⟩ : ∃ B, B = (bcells b).toArray := ⟨_, rfl⟩
  have hsz : B.size = 64 := by rw [hB]; simp [hb]
  rw [← hB]
  have HB := hide hB
  clear hB
  go_enter Tryd.func173, Tryd.ntmps173
  go_wp2
  have hz : ((List.replicate 64 (Value.int .u32 0)).toArray) = fw 0 (wdh b) := (fw_zero _).symm
  go_loopw [4, 10] (fun _ u10 wr => ∃ i : Nat, i ≤ 16 ∧ u10 = .int .i64 (i : Int) ∧ Blk wr w.heap.size 171 B ∧ Blk wr (w.heap.size + 1) 178 (fw 0 (wdh b)) ∧ Blk wr (w.heap.size + 2) 178 (fw i (wdh b)) ∧ Below w.heap.size w wr) (fun _ i _ => 16 - (intOf i).toNat)
  case atStart =>
    refine ⟨0, by omega, rfl, ((Blk.new w _ _).alloc _).alloc _, ?_, ?_, (((Below.refl _ w).alloc (Nat.le_refl _) _).alloc (by simp) _).alloc (by simp; omega) _⟩
    · rw [← hz]
      exact (blk_newh _ _ _ _ (by simp)).alloc _
    · rw [← hz]
      exact blk_newh _ _ _ _ (by simp)
  case round =>
    clear hz
    obtain ⟨i, hi, rfl, h0, h1, h2, hbel⟩ := hrel
    have H := hide (And.intro h0 (And.intro h1 (And.intro h2 hbel)))
    clear h0 h1 h2 hbel
    obtain ⟨wz, hwz⟩ : ∃ x, x = wr := ⟨_, rfl⟩
    by_cases hlt : i < 16
    · obtain ⟨m, hm⟩ : ∃ m, m = 4 * i := ⟨_, rfl⟩
      have hmlt : m < 61 := by omega
      have hcell : ∀ j, j < 64 → ∃ x : UInt8, wr.cell? ⟨w.heap.size, j, none⟩ = some (.int .u8 (x.toNat : Int)) ∧ b.getD j 0 = x := by
        intro j hj
        refine ⟨b[j]'(by omega), ?_, by simp [hb, hj]⟩
        rw [H.out.1.cell, HB.out]
        simp [bcells, hb, hj]
      obtain ⟨x0, g0, e0⟩ := hcell m (by omega)
      obtain ⟨x1, g1, e1⟩ := hcell (m + 1) (by omega)
      obtain ⟨x2, g2, e2⟩ := hcell (m + 2) (by omega)
      obtain ⟨x3, g3, e3⟩ := hcell (m + 3) (by omega)
      have HW := hide (show wdh b i = be4 x0 x1 x2 x3 by rw [wd_lo b hlt, ← hm, e0, e1, e2, e3])
      have wm : IntKind.i64.wrap (4 * (i : Int)) = (m : Int) := by rw [IntWalk.i64_in _ (by omega)]; omega
      have s2 := H.out.2.2.1.frozen i
      obtain ⟨y, hy⟩ : ∃ y, wr.cell? ⟨w.heap.size + 2, i, none⟩ = some y := by rw [H.out.2.2.1.cell]; exact ⟨_, Array.getElem?_eq_getElem (by rw [fw_size _ (by omega)]; omega)⟩
      have i1 : (m : Int) < 64 := by omega
      have j1 : (m : Int) + 1 < 64 := by omega
      have j2 : (m : Int) + 2 < 64 := by omega
      have j3 : (m : Int) + 3 < 64 := by omega
      have l1 : (0 : Int) ≤ (m : Int) + 1 := by omega
      have l2 : (0 : Int) ≤ (m : Int) + 2 := by omega
      have l3 : (0 : Int) ≤ (m : Int) + 3 := by omega
      have n1 : ((m : Int) + 1).toNat = m + 1 := by omega
      have n2 : ((m : Int) + 2).toNat = m + 2 := by omega
      have n3 : ((m : Int) + 3).toNat = m + 3 := by omega
      have v1 : IntKind.i64.wrap ((m : Int) + 1) = (m : Int) + 1 := IntWalk.i64_in _ (by omega)
      have v2 : IntKind.i64.wrap ((m : Int) + 2) = (m : Int) + 2 := IntWalk.i64_in _ (by omega)
      have v3 : IntKind.i64.wrap ((m : Int) + 3) = (m : Int) + 3 := IntWalk.i64_in _ (by omega)
      have far : ∀ (j : Nat) (u : Value), (wr.setCell ⟨w.heap.size + 1 + 1, i, none⟩ u).cell? ⟨w.heap.size, j, none⟩ = wr.cell? ⟨w.heap.size, j, none⟩ := fun j u => World.cell?_of_block (Below.heap_setCell wr ⟨w.heap.size + 1 + 1, i, none⟩ u w.heap.size (by simp; omega))
      have i2 : (0 : Int) ≤ (m : Int) := by omega
      have i3 : (i : Int) < 64 := by omega
      have i5 : (i : Int) < 16 := by omega
      have i4 : (0 : Int) ≤ (i : Int) := by omega
      have HM := hide hm
      clear hm hcell e0 e1 e2 e3 hwz
      go_wp2
      go_region_held3 (fun w' => w'.cell? ⟨w.heap.size, m, none⟩ = some (.int .u8 (x0.toNat : Int)) ∧ w'.cell? ⟨w.heap.size, m + 1, none⟩ = some (.int .u8 (x1.toNat : Int)) ∧ w'.cell? ⟨w.heap.size, m + 2, none⟩ = some (.int .u8 (x2.toNat : Int)) ∧ w'.cell? ⟨w.heap.size, m + 3, none⟩ = some (.int .u8 (x3.toNat : Int))) (go_keep) (fail)
      clear far v1 v2 v3 n1 n2 n3 wm
      go_wp2
      go_roundw
      case rel =>
        have hbe := be4_int x0 x1 x2 x3
        rw [← HW.out] at hbe
        rw [hbe]
        refine ⟨i + 1, by omega, by go_num, (H.out.1.far (by simp; omega) _).drew, (H.out.2.1.far (by simp) _).drew, ?_, (H.out.2.2.2.setCell (by simp; omega) _).drew⟩
        rw [← fw_set (wdh b) (show i < 64 by omega)]
        exact (H.out.2.2.1.set_ i _).drew
      case measure => simp [intOf]; omega
    · have hi16 : i = 16 := by omega
      subst hi16
      obtain ⟨R, hR⟩ : ∃ R, R = rkh := ⟨_, rfl⟩
      obtain ⟨X, hX⟩ : ∃ X, X = xo := ⟨_, rfl⟩
      obtain ⟨S, hS⟩ : ∃ S, S = sr := ⟨_, rfl⟩
      obtain ⟨D, hD⟩ : ∃ D, D = ad := ⟨_, rfl⟩
      have x1 : ∀ a b : UInt32, bits .xor .u32 (a.toNat : Int) (b.toNat : Int) = ((X a b).toNat : Int) := by rw [hX]; exact w_xor
      have x3 : ∀ a b : UInt32, IntKind.u32.wrap ((a.toNat : Int) + (b.toNat : Int)) = ((D a b).toNat : Int) := by rw [hD]; exact w_add
      have x4 : ∀ a b : UInt32, ((a.toNat : Int) + (b.toNat : Int)) % 4294967296 = ((D a b).toNat : Int) := by rw [hD]; exact w_add'
      have x5 : ∀ a : UInt32, (a.toNat : Int) / 8 = ((S a 3).toNat : Int) := by rw [hS]; exact fun a => w_shr a 3
      have x6 : ∀ a : UInt32, (a.toNat : Int) / 1024 = ((S a 10).toNat : Int) := by rw [hS]; exact fun a => w_shr a 10
      have QR := hide (show ∀ (x : UInt32) (k : Int) (w : World), (-31 ≤ k ∧ k ≤ -1) → Calls Tryd.prog 180 #[.int .u32 (x.toNat : Int), .int .i64 k] w fun e w' => e = .returned (.int .u32 ((R x k).toNat : Int)) ∧ w' = w by rw [hR]; exact rotl_k)
      have HEQ := hide (And.intro hR (And.intro hX (And.intro hS hD)))
      clear hR hX hS hD hwz hi hlt
      rw [show ((16 : Nat) : Int) = 16 from rfl]
      go_wp2
      go_loopw [5, 6, 7, 8, 9] (fun u5 _ _ _ _ wr => ∃ i : Nat, 16 ≤ i ∧ i ≤ 64 ∧ u5 = .int .i64 (i : Int) ∧ Blk wr (w.heap.size + 1) 178 (fw 0 (wdh b)) ∧ Blk wr (w.heap.size + 2) 178 (fw i (wdh b)) ∧ Below w.heap.size w wr) (fun i _ _ _ _ _ => 64 - (intOf i).toNat)
      case atStart => exact ⟨16, by omega, by omega, rfl, H.out.2.1, H.out.2.2.1, H.out.2.2.2⟩
      case round =>
        clear H
        obtain ⟨i, hi16, hi, rfl, h1, h2, hbel⟩ := hrel
        have H := hide (And.intro h1 (And.intro h2 hbel))
        clear h1 h2 hbel
        by_cases hlt : i < 64
        · obtain ⟨m, hm⟩ : ∃ m, i = m + 16 := ⟨i - 16, by omega⟩
          obtain ⟨m1, hm1⟩ : ∃ k, k = m + 1 := ⟨_, rfl⟩
          obtain ⟨m9, hm9⟩ : ∃ k, k = m + 9 := ⟨_, rfl⟩
          obtain ⟨m14, hm14⟩ : ∃ k, k = m + 14 := ⟨_, rfl⟩
          obtain ⟨a0, ha0⟩ : ∃ a, a = wdh b m := ⟨_, rfl⟩
          obtain ⟨a1, ha1⟩ : ∃ a, a = wdh b m1 := ⟨_, rfl⟩
          obtain ⟨a9, ha9⟩ : ∃ a, a = wdh b m9 := ⟨_, rfl⟩
          obtain ⟨a14, ha14⟩ : ∃ a, a = wdh b m14 := ⟨_, rfl⟩
          have g0 : wr.cell? ⟨w.heap.size + 2, m, none⟩ = some (.int .u32 (a0.toNat : Int)) := by rw [H.out.2.1.cell, fw_get _ (by omega), ha0]
          have g1 : wr.cell? ⟨w.heap.size + 2, m1, none⟩ = some (.int .u32 (a1.toNat : Int)) := by rw [H.out.2.1.cell, fw_get _ (by omega), ha1]
          have g9 : wr.cell? ⟨w.heap.size + 2, m9, none⟩ = some (.int .u32 (a9.toNat : Int)) := by rw [H.out.2.1.cell, fw_get _ (by omega), ha9]
          have g14 : wr.cell? ⟨w.heap.size + 2, m14, none⟩ = some (.int .u32 (a14.toNat : Int)) := by rw [H.out.2.1.cell, fw_get _ (by omega), ha14]
          have hw := wd_hi b (show ¬ i < 16 by omega)
          rw [show i - 2 = m14 by omega, show i - 7 = m9 by omega, show i - 15 = m1 by omega, show i - 16 = m by omega, ← ha0, ← ha1, ← ha9, ← ha14] at hw
          have HW := hide hw
          have t1 : IntKind.i64.wrap ((i : Int) - 15) = (m1 : Int) := by rw [IntWalk.i64_in _ (by omega)]; omega
          have t2 : IntKind.i64.wrap ((i : Int) - 2) = (m14 : Int) := by rw [IntWalk.i64_in _ (by omega)]; omega
          have t7 : IntKind.i64.wrap ((i : Int) - 7) = (m9 : Int) := by rw [IntWalk.i64_in _ (by omega)]; omega
          have t16 : IntKind.i64.wrap ((i : Int) - 16) = (m : Int) := by rw [IntWalk.i64_in _ (by omega)]; omega
          have f1 : (i : Int) - 15 = (m1 : Int) := by omega
          have f2 : (i : Int) - 2 = (m14 : Int) := by omega
          have f7 : (i : Int) - 7 = (m9 : Int) := by omega
          have f16 : (i : Int) - 16 = (m : Int) := by omega
          have b1 : (m1 : Int) < 64 := by omega
          have b9 : (m9 : Int) < 64 := by omega
          have b14 : (m14 : Int) < 64 := by omega
          have b0 : (m : Int) < 64 := by omega
          have p9 : (0 : Int) ≤ (m9 : Int) := by omega
          have p0 : (0 : Int) ≤ (m : Int) := by omega
          have pi : (0 : Int) ≤ (i : Int) := by omega
          have bi : (i : Int) < 64 := by omega
          have HI := hide hi16
          clear hm hm1 hm9 hm14 ha0 ha1 ha9 ha14 hw hi16
          have s2 := H.out.2.1.frozen i
          obtain ⟨y, hy⟩ : ∃ y, wr.cell? ⟨w.heap.size + 2, i, none⟩ = some y := by rw [H.out.2.1.cell]; exact ⟨_, Array.getElem?_eq_getElem (by rw [fw_size _ (by omega)]; omega)⟩
          go_wp2
          go_quiet (fail)
          go_wp2_with (go_at_call 180; refine (QR.out _ _ _ (by omega)).mono ?_; rintro e w' ⟨rfl, rfl⟩)
          go_region
          go_wp2
          go_roundw
          case rel =>
            have hE : wdh b i = D (D (D (X (X (R a14 (-17)) (R a14 (-19))) (S a14 10)) a9) (X (X (R a1 (-7)) (R a1 (-18))) (S a1 3))) a0 := by
              rw [HW.out]
              obtain ⟨rfl, rfl, rfl, rfl⟩ := HEQ.out
              rfl
            have hi16 := HI.out
            rw [← hE]
            refine ⟨i + 1, by omega, by omega, by go_num, (H.out.1.drewN _).far (by simp) _, ?_, (below_drewN H.out.2.2 _).setCell (by simp; omega) _⟩
            rw [← fw_set (wdh b) hlt]
            exact (H.out.2.1.drewN _).set_ i _
          case measure => simp [intOf]; omega
        · have hi64 : i = 64 := by omega
          subst hi64
          have hfull : ∀ x ∈ (fw 64 (wdh b)).toList, x.oneCell' = true := fun x hx => by
            simp only [fw, Nat.sub_self, List.replicate_zero, List.append_nil, List.mem_map] at hx
            obtain ⟨_, _, rfl⟩ := hx
            rfl
          have HF := hide (show (fw 64 (wdh b)).all (·.oneCell') = true by rw [Array.all_eq_true']; exact fun x hx => hfull x (Array.mem_toList_iff.2 hx))
          have HSZ := hide (And.intro (fw_size (wdh b) (show 64 ≤ 64 by omega)) (fw_size (wdh b) (show 0 ≤ 64 by omega)))
          clear hfull x1 x3 x4 x5 x6
          go_wp2_with (first
            | ((with_reducible change wpList _ _ _ (⟨some 88, _, _, _, _, _⟩ :: _) _ _); refine wpList_load_row (o := ⟨some 88, .load _ _, _, _, _, _⟩) rfl 178 _ rfl (w.heap.size + 2) rfl 178 (fw 64 (wdh b)) (0, 0) _ H.out.2.1 Tryd.underlying178 rfl (by rw [HSZ.out.1]; kernel_rfl) ?_)
            | (refine wpList_store_row (o := ⟨none, .store _ _ _, _, _, _, _⟩) H.out.1 (fw 64 (wdh b)) (by rw [HSZ.out.1, HSZ.out.2]) HF.out rfl 178 _ _ rfl (by rw [HSZ.out.1]; kernel_rfl) rfl rfl ?_; intro w1 hb1 hg1))
          exact bodyPost_ret (results_cell_row rfl _ _ (w.heap.size + 1) 178 (fw 64 (wdh b)) (0, 0) _ rfl hb1 Tryd.underlying178 rfl (by rw [HSZ.out.1]; kernel_rfl)) rfl ⟨rfl, H.out.2.2.grown hg1 H.out.2.2.size fun k hk => by injection hk with hk; omega⟩
end Go.Proofs.YtkhlbpclfeakpaaDoor
