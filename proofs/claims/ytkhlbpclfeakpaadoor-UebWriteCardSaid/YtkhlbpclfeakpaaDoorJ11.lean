/- Joined texts: ShaD. -/
import Derived.Test.YtkhlbpclfeakpaaDoorJ10

/- The words of a block: the document's. -/
namespace Go.Proofs.YtkhlbpclfeakpaaDoor
open Go.RowKit

theorem fw_self {k : Nat} (f : Nat → UInt32) (h : k < 64) : (fw k f).setIfInBounds k (.int .u32 0) = fw k f := by
  unfold fw
  rw [List.setIfInBounds_toArray]
  congr 1
  rw [List.set_append_right _ _ (by simp), List.length_map, List.length_range, Nat.sub_self, show 64 - k = (64 - (k + 1)) + 1 by omega, List.replicate_succ, List.set_cons_zero]
/-- The first j of four bytes, put together. -/
def pt (a b c d : UInt8) (j : Nat) : Nat := match j with | 0 => 0 | 1 => a.toNat | 2 => a.toNat * 256 + b.toNat | 3 => (a.toNat * 256 + b.toNat) * 256 + c.toNat | _ => ((a.toNat * 256 + b.toNat) * 256 + c.toNat) * 256 + d.toNat
theorem pt_lt (a b c d : UInt8) (j : Nat) (h : j < 4) : pt a b c d j < 16777216 := by
  have h1 := a.toNat_lt
  have h2 := b.toNat_lt
  have h3 := c.toNat_lt
  have hc : j = 0 ∨ j = 1 ∨ j = 2 ∨ j = 3 := by omega
  rcases hc with rfl | rfl | rfl | rfl <;> simp only [pt] <;> omega

set_option maxRecDepth 100000 in
set_option maxHeartbeats 4000000 in
theorem rwords_any (b : List UInt8) (w : World) (hb : b.length = 64) :
    Calls Tryd.prog 133 #[.agg (bcells b).toArray] w fun e w' => e = .returned (.agg (fw 64 (wdh b))) ∧ Below w.heap.size w w' := by
  obtain ⟨B, hB⟩ : ∃ B, B = (bcells b).toArray := ⟨_, rfl⟩
  have hsz : B.size = 64 := by rw [hB]; simp [hb]
  rw [← hB]
  have HB := hide hB
  clear hB
  go_enter Tryd.func133, Tryd.ntmps133
  go_wp2
  have hz : ((List.replicate 64 (Value.int .u32 0)).toArray) = fw 0 (wdh b) := (fw_zero _).symm
  go_loopw [4, 5] (fun u4 _ wr => ∃ i : Nat, i ≤ 16 ∧ u4 = .int .i64 (i : Int) ∧ Blk wr w.heap.size 171 B ∧ Blk wr (w.heap.size + 1) 178 (fw 0 (wdh b)) ∧ Blk wr (w.heap.size + 2) 178 (fw i (wdh b)) ∧ Below w.heap.size w wr) (fun i _ _ => 16 - (intOf i).toNat)
  case atStart =>
    refine ⟨0, by omega, rfl, ((Blk.new w _ _).alloc _).alloc _, ?_, ?_, (((Below.refl _ w).alloc (Nat.le_refl _) _).alloc (by simp) _).alloc (by simp; omega) _⟩
    · rw [← hz]
      exact (blk_newh _ _ _ _ (by simp)).alloc _
    · rw [← hz]
      exact blk_newh _ _ _ _ (by simp)
  case round =>
    clear hz
    obtain ⟨i, hi, rfl, h0, h1, h2, hbel⟩ := hrel
    have H := hide (And.intro h0 (And.intro h1 (And.intro h2 hbel)))
    clear h0 h1 h2 hbel
    by_cases hlt : i < 16
    · obtain ⟨m, hm⟩ : ∃ m, m = 4 * i := ⟨_, rfl⟩
      have hcell : ∀ j, j < 64 → ∃ x : UInt8, B[j]? = some (.int .u8 (x.toNat : Int)) ∧ b.getD j 0 = x := by
        intro j hj
        refine ⟨b[j]'(by omega), ?_, by simp [hb, hj]⟩
        rw [HB.out]
        simp [bcells, hb, hj]
      obtain ⟨x0, g0, e0⟩ := hcell m (by omega)
      obtain ⟨x1, g1, e1⟩ := hcell (m + 1) (by omega)
      obtain ⟨x2, g2, e2⟩ := hcell (m + 2) (by omega)
      obtain ⟨x3, g3, e3⟩ := hcell (m + 3) (by omega)
      have HW := hide (show wdh b i = be4 x0 x1 x2 x3 by rw [wd_lo b hlt, ← hm, e0, e1, e2, e3])
      have wm : IntKind.i64.wrap (4 * (i : Int)) = (m : Int) := by rw [IntWalk.i64_in _ (by omega)]; omega
      have HX := hide (show ∀ j, j < 4 → ∃ x : UInt8, B[m + j]? = some (.int .u8 (x.toNat : Int)) ∧ pt x0 x1 x2 x3 j * 256 + x.toNat = pt x0 x1 x2 x3 (j + 1) from fun j hj => by
        have hc : j = 0 ∨ j = 1 ∨ j = 2 ∨ j = 3 := by omega
        rcases hc with rfl | rfl | rfl | rfl
        · exact ⟨x0, g0, by simp [pt]⟩
        · exact ⟨x1, g1, rfl⟩
        · exact ⟨x2, g2, rfl⟩
        · exact ⟨x3, g3, rfl⟩)
      have hmlt : m < 61 := by omega
      have HM := hide hm
      clear hm hcell e0 e1 e2 e3 g0 g1 g2 g3
      go_wp2
      go_loopw [5] (fun u5 wr => ∃ j : Nat, j ≤ 4 ∧ u5 = .int .i64 (j : Int) ∧ Blk wr w.heap.size 171 B ∧ Blk wr (w.heap.size + 1) 178 (fw 0 (wdh b)) ∧ Blk wr (w.heap.size + 2) 178 ((fw i (wdh b)).setIfInBounds i (.int .u32 ((pt x0 x1 x2 x3 j : Nat) : Int))) ∧ Below w.heap.size w wr) (fun i _ => 4 - (intOf i).toNat)
      case atStart =>
        refine ⟨0, by omega, rfl, H.out.1, H.out.2.1, ?_, H.out.2.2.2⟩
        rw [show (.int .u32 ((pt x0 x1 x2 x3 0 : Nat) : Int) : Value) = .int .u32 0 from rfl, fw_self _ (by omega)]
        exact H.out.2.2.1
      case round =>
        clear H
        obtain ⟨j, hj, rfl, h0, h1, h2, hbel⟩ := hrel
        by_cases hlj : j < 4
        · obtain ⟨x, hx, hnext⟩ := HX.out j hlj
          obtain ⟨q, hq⟩ : ∃ q, q = m + j := ⟨_, rfl⟩
          rw [← hq] at hx
          have hpl := pt_lt x0 x1 x2 x3 j hlj
          obtain ⟨v, hv⟩ : ∃ v, v = pt x0 x1 x2 x3 j := ⟨_, rfl⟩
          rw [← hv] at hnext hpl
          have c1 : wr.cell? ⟨w.heap.size, q, none⟩ = some (.int .u8 (x.toNat : Int)) := (h0.cell q).trans hx
          have c2 : wr.cell? ⟨w.heap.size + 2, i, none⟩ = some (.int .u32 (v : Int)) := by
            rw [h2.cell, ← hv]
            simp [Array.getElem?_setIfInBounds_self, fw_size (wdh b) (show i ≤ 64 by omega)]
            omega
          have c3 := h2.frozen i
          have wq : IntKind.i64.wrap ((m : Int) + (j : Int)) = (q : Int) := by rw [IntWalk.i64_in _ (by omega)]; omega
          have fq : (m : Int) + (j : Int) = (q : Int) := by omega
          have bq : (q : Int) < 64 := by omega
          have bi : (i : Int) < 64 := by omega
          have pq : (0 : Int) ≤ (q : Int) := by omega
          have pi : (0 : Int) ≤ (i : Int) := by omega
          have H := hide (And.intro h0 (And.intro h1 (And.intro h2 hbel)))
          have HN := hide hnext
          have HV := hide hv
          have hxl := x.toNat_lt
          have HQ := hide hq
          clear h0 h1 h2 hbel hnext hv hx hq
          go_wp2
          go_region
          go_wp2
          go_roundw
          case rel =>
            have e : (v : Int) * 256 + (x.toNat : Int) = ((pt x0 x1 x2 x3 (j + 1) : Nat) : Int) := by
              rw [← HN.out]
              simp
            rw [e]
            refine ⟨j + 1, by omega, by go_num, (H.out.1.far (by simp; omega) _).drew, (H.out.2.1.far (by simp) _).drew, ?_, (H.out.2.2.2.setCell (by simp; omega) _).drew⟩
            have h := (H.out.2.2.1.set_ i (.int .u32 ((pt x0 x1 x2 x3 (j + 1) : Nat) : Int))).drew
            rw [Array.setIfInBounds_setIfInBounds] at h
            exact h
          case measure => simp [intOf]; omega
        · have hj4 : j = 4 := by omega
          subst hj4
          have H := hide (And.intro h0 (And.intro h1 (And.intro h2 hbel)))
          clear h0 h1 h2 hbel
          rw [show ((4 : Nat) : Int) = 4 from rfl]
          go_wp2
          go_roundw
          case rel =>
            refine ⟨i + 1, by omega, by go_num, H.out.1, H.out.2.1, ?_, H.out.2.2.2⟩
            have h2 := H.out.2.2.1
            rw [show ((pt x0 x1 x2 x3 4 : Nat) : Int) = ((wdh b i).toNat : Int) by rw [HW.out, be4_toNat]; simp only [pt]; omega, fw_set _ (by omega)] at h2
            exact h2
          case measure => simp [intOf]; omega
    · have hi16 : i = 16 := by omega
      subst hi16
      obtain ⟨R, hR⟩ : ∃ R, R = rkh := ⟨_, rfl⟩
      obtain ⟨X, hX⟩ : ∃ X, X = xo := ⟨_, rfl⟩
      obtain ⟨S, hS⟩ : ∃ S, S = sr := ⟨_, rfl⟩
      obtain ⟨D, hD⟩ : ∃ D, D = ad := ⟨_, rfl⟩
      have x1 : ∀ a b : UInt32, bits .xor .u32 (a.toNat : Int) (b.toNat : Int) = ((X a b).toNat : Int) := by rw [hX]; exact w_xor
      have x3 : ∀ a b : UInt32, IntKind.u32.wrap ((a.toNat : Int) + (b.toNat : Int)) = ((D a b).toNat : Int) := by rw [hD]; exact w_add
      have x4 : ∀ a b : UInt32, ((a.toNat : Int) + (b.toNat : Int)) % 4294967296 = ((D a b).toNat : Int) := by rw [hD]; exact w_add'
      have x5 : ∀ a : UInt32, (a.toNat : Int) / 8 = ((S a 3).toNat : Int) := by rw [hS]; exact fun a => w_shr a 3
      have x6 : ∀ a : UInt32, (a.toNat : Int) / 1024 = ((S a 10).toNat : Int) := by rw [hS]; exact fun a => w_shr a 10
      have QR := hide (show ∀ (x : UInt32) (k : Int) (w : World), (1 ≤ k ∧ k ≤ 31) → Calls Tryd.prog 135 #[.int .u32 (x.toNat : Int), .int .u64 k] w fun e w' => e = .returned (.int .u32 ((R x k).toNat : Int)) ∧ w' = w by rw [hR]; exact turn_k)
      have HEQ := hide (And.intro hR (And.intro hX (And.intro hS hD)))
      clear hR hX hS hD hi hlt
      rw [show ((16 : Nat) : Int) = 16 from rfl]
      go_wp2
      go_loopw [6, 7, 8, 9, 10] (fun u5 _ _ _ _ wr => ∃ i : Nat, 16 ≤ i ∧ i ≤ 64 ∧ u5 = .int .i64 (i : Int) ∧ Blk wr (w.heap.size + 1) 178 (fw 0 (wdh b)) ∧ Blk wr (w.heap.size + 2) 178 (fw i (wdh b)) ∧ Below w.heap.size w wr) (fun i _ _ _ _ _ => 64 - (intOf i).toNat)
      case atStart => exact ⟨16, by omega, by omega, rfl, H.out.2.1, H.out.2.2.1, H.out.2.2.2⟩
      case round =>
        clear H
        obtain ⟨i, hi16, hi, rfl, h1, h2, hbel⟩ := hrel
        have H := hide (And.intro h1 (And.intro h2 hbel))
        clear h1 h2 hbel
        by_cases hlt : i < 64
        · obtain ⟨m, hm⟩ : ∃ m, i = m + 16 := ⟨i - 16, by omega⟩
          obtain ⟨m1, hm1⟩ : ∃ k, k = m + 1 := ⟨_, rfl⟩
          obtain ⟨m9, hm9⟩ : ∃ k, k = m + 9 := ⟨_, rfl⟩
          obtain ⟨m14, hm14⟩ : ∃ k, k = m + 14 := ⟨_, rfl⟩
          obtain ⟨a0, ha0⟩ : ∃ a, a = wdh b m := ⟨_, rfl⟩
          obtain ⟨a1, ha1⟩ : ∃ a, a = wdh b m1 := ⟨_, rfl⟩
          obtain ⟨a9, ha9⟩ : ∃ a, a = wdh b m9 := ⟨_, rfl⟩
          obtain ⟨a14, ha14⟩ : ∃ a, a = wdh b m14 := ⟨_, rfl⟩
          have g0 : wr.cell? ⟨w.heap.size + 2, m, none⟩ = some (.int .u32 (a0.toNat : Int)) := by rw [H.out.2.1.cell, fw_get _ (by omega), ha0]
          have g1 : wr.cell? ⟨w.heap.size + 2, m1, none⟩ = some (.int .u32 (a1.toNat : Int)) := by rw [H.out.2.1.cell, fw_get _ (by omega), ha1]
          have g9 : wr.cell? ⟨w.heap.size + 2, m9, none⟩ = some (.int .u32 (a9.toNat : Int)) := by rw [H.out.2.1.cell, fw_get _ (by omega), ha9]
          have g14 : wr.cell? ⟨w.heap.size + 2, m14, none⟩ = some (.int .u32 (a14.toNat : Int)) := by rw [H.out.2.1.cell, fw_get _ (by omega), ha14]
          have hw := wd_hi b (show ¬ i < 16 by omega)
          rw [show i - 2 = m14 by omega, show i - 7 = m9 by omega, show i - 15 = m1 by omega, show i - 16 = m by omega, ← ha0, ← ha1, ← ha9, ← ha14] at hw
          have HW := hide hw
          have t1 : IntKind.i64.wrap ((i : Int) - 15) = (m1 : Int) := by rw [IntWalk.i64_in _ (by omega)]; omega
          have t2 : IntKind.i64.wrap ((i : Int) - 2) = (m14 : Int) := by rw [IntWalk.i64_in _ (by omega)]; omega
          have t7 : IntKind.i64.wrap ((i : Int) - 7) = (m9 : Int) := by rw [IntWalk.i64_in _ (by omega)]; omega
          have t16 : IntKind.i64.wrap ((i : Int) - 16) = (m : Int) := by rw [IntWalk.i64_in _ (by omega)]; omega
          have f1 : (i : Int) - 15 = (m1 : Int) := by omega
          have f2 : (i : Int) - 2 = (m14 : Int) := by omega
          have f7 : (i : Int) - 7 = (m9 : Int) := by omega
          have f16 : (i : Int) - 16 = (m : Int) := by omega
          have b1 : (m1 : Int) < 64 := by omega
          have b9 : (m9 : Int) < 64 := by omega
          have b14 : (m14 : Int) < 64 := by omega
          have b0 : (m : Int) < 64 := by omega
          have p9 : (0 : Int) ≤ (m9 : Int) := by omega
          have p0 : (0 : Int) ≤ (m : Int) := by omega
          have pi : (0 : Int) ≤ (i : Int) := by omega
          have bi : (i : Int) < 64 := by omega
          have HI := hide hi16
          clear hm hm1 hm9 hm14 ha0 ha1 ha9 ha14 hw hi16
          have s2 := H.out.2.1.frozen i
          obtain ⟨y, hy⟩ : ∃ y, wr.cell? ⟨w.heap.size + 2, i, none⟩ = some y := by rw [H.out.2.1.cell]; exact ⟨_, Array.getElem?_eq_getElem (by rw [fw_size _ (by omega)]; omega)⟩
          go_wp2_with (go_at_call 135; refine (QR.out _ _ _ (by omega)).mono ?_; rintro e w' ⟨rfl, rfl⟩)
          go_region
          go_wp2
          go_roundw
          case rel =>
            have hE : wdh b i = D (D (D (X (X (R a14 17) (R a14 19)) (S a14 10)) a9) (X (X (R a1 7) (R a1 18)) (S a1 3))) a0 := by
              rw [HW.out]
              obtain ⟨rfl, rfl, rfl, rfl⟩ := HEQ.out
              rfl
            have hi16 := HI.out
            rw [← hE]
            refine ⟨i + 1, by omega, by omega, by go_num, (H.out.1.drewN _).far (by simp) _, ?_, (below_drewN H.out.2.2 _).setCell (by simp; omega) _⟩
            rw [← fw_set (wdh b) hlt]
            exact (H.out.2.1.drewN _).set_ i _
          case measure => simp [intOf]; omega
        · have hi64 : i = 64 := by omega
          subst hi64
          have hfull : ∀ x ∈ (fw 64 (wdh b)).toList, x.oneCell' = true := fun x hx => by
            simp only [fw, Nat.sub_self, List.replicate_zero, List.append_nil, List.mem_map] at hx
            obtain ⟨_, _, rfl⟩ := hx
            rfl
          have HF := hide (show (fw 64 (wdh b)).all (·.oneCell') = true by rw [Array.all_eq_true']; exact fun x hx => hfull x (Array.mem_toList_iff.2 hx))
          have HSZ := hide (And.intro (fw_size (wdh b) (show 64 ≤ 64 by omega)) (fw_size (wdh b) (show 0 ≤ 64 by omega)))
          clear hfull x1 x3 x4 x5 x6
          go_wp2_with (first
            | ((with_reducible change wpList _ _ _ (⟨some 76, _, _, _, _, _⟩ :: _) _ _); refine wpList_load_row (o := ⟨some 76, .load _ _, _, _, _, _⟩) rfl 178 _ rfl (w.heap.size + 2) rfl 178 (fw 64 (wdh b)) (0, 0) _ H.out.2.1 Tryd.underlying178 rfl (by rw [HSZ.out.1]; kernel_rfl) ?_)
            | (refine wpList_store_row (o := ⟨none, .store _ _ _, _, _, _, _⟩) H.out.1 (fw 64 (wdh b)) (by rw [HSZ.out.1, HSZ.out.2]) HF.out rfl 178 _ _ rfl (by rw [HSZ.out.1]; kernel_rfl) rfl rfl ?_; intro w1 hb1 hg1))
          exact bodyPost_ret (results_cell_row rfl _ _ (w.heap.size + 1) 178 (fw 64 (wdh b)) (0, 0) _ rfl hb1 Tryd.underlying178 rfl (by rw [HSZ.out.1]; kernel_rfl)) rfl ⟨rfl, H.out.2.2.grown hg1 H.out.2.2.size fun k hk => by injection hk with hk; omega⟩
end Go.Proofs.YtkhlbpclfeakpaaDoor
