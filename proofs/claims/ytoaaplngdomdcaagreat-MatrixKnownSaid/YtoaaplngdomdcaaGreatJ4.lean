/- Joined texts: MvH. -/
import Derived.Test.YtoaaplngdomdcaaGreatJ3
import Derived.Deep.LoopGhost
import Derived.WalkMore

/- Matrices of words: rows reckoned with till columns have a single one. -/
namespace Go.Proofs.YtoaaplngdomdcaaGreat.MV
open Go.RowKit
section
variable {p gm : Nat} {hp : 0 < p}
variable {w : World} {base g n m : Nat} {M : Nat → Nat → (Fin p)}

theorem step_none {A : Nat → Nat → (Fin p)} {r c : Nat} (h : ∀ i, r ≤ i → i < n → (Fp p hp).inv (A i c) = none) : (Fp p hp).step n (A, r) c = (A, r) := by
  have hp : (Fp p hp).pivot A n r c = none := by
    unfold Fd.pivot
    rw [List.find?_eq_none]
    intro i hi
    by_cases hr : r ≤ i
    · simp [h i hr (List.mem_range.1 hi)]
    · simp [hr]
  unfold Fd.step
  simp only [hp]
theorem step_some {A : Nat → Nat → (Fin p)} {r c i : Nat} {y : (Fin p)} (hi : i < n) (hr : r ≤ i) (hy : (Fp p hp).inv (A i c) = some y) (h : ∀ k, r ≤ k → k < i → (Fp p hp).inv (A k c) = none) :
    (Fp p hp).step n (A, r) c = ((Fp p hp).cleared ((Fp p hp).scaled (Fd.swapped A r i) r y) r c, r + 1) := by
  have hp : (Fp p hp).pivot A n r c = some i := by
    unfold Fd.pivot
    rw [List.find?_range_eq_some]
    refine ⟨by simp [hr, hy], List.mem_range.2 hi, fun k hk => ?_⟩
    by_cases hrk : r ≤ k
    · simp [h k hrk hk]
    · simp [hrk]
  unfold Fd.step
  simp only [hp, hy, Option.getD_some]

set_option maxRecDepth 100000 in
set_option maxHeartbeats 8000000 in
theorem reduced_c (cap cols : Nat) (hg : Gr w base g n m M) (hk : (Fk p gm) w) (hlo : gm < base) (hc : cols ≤ m) (hn : n ≤ 256) (hm : m ≤ 2048) (hbase : base ≤ w.heap.size) (hcap : n ≤ cap ∧ cap ≤ maxLen) :
    Calls Tryz.prog 95 #[(modF gm), .slice (some ⟨g, 0, none⟩) n cap, .int .i64 (cols : Int)] w fun e w' => e = .returned (.int .i64 (((Fp p hp).red n M cols).2 : Int)) ∧ Gr w' base g n m ((Fp p hp).red n M cols).1 ∧ Below base w w' ∧ Kt 23 22 w w' := by
  have m2 := meth_inv (gm := gm)
  have m3 := ahead_inv (gm := gm)
  have m4 := meth_mul (gm := gm)
  have m5 := ahead_mul (gm := gm)
  have HK := hide (And.intro hk hlo)
  have HG := hide hg
  have HB := hide (And.intro hn (And.intro hm (And.intro hbase (And.intro hcap hc))))
  clear hg hk hlo hbase hcap
  go_enter Tryz.func95, Tryz.ntmps95
  go_wp2
  go_step3
  go_wp2
  go_step3
  go_wp2
  go_loopg [7, 8, 9, 10, 11, 12, 14, 60] cols (fun k u7 _ _ _ _ _ u14 _ wr => ∃ c : Nat, c ≤ cols ∧ k = cols - c ∧ u14 = .int .i64 (c : Int) ∧ u7 = .int .i64 (((Fp p hp).red n M c).2 : Int) ∧ Gr wr base g n m ((Fp p hp).red n M c).1 ∧ Below base w wr ∧ Kt 23 22 w wr)
  case atStart => exact ⟨0, by omega, by omega, rfl, rfl, HG.out, Below.refl _ _, Kt.refl _ _ _⟩
  case round =>
    clear HG
    obtain ⟨c, hcc, rfl, rfl, rfl, hgc, hbel, hkt⟩ := hrel
    have HKT := hide hkt
    clear hkt
    have HG := hide hgc
    clear hgc
    by_cases hlt : c < cols
    · have i1 : (c : Int) < (cols : Int) := by omega
      have i2 : (0 : Int) ≤ (c : Int) := by omega
      have i3 : (c : Int) < (m : Int) := by omega
      have hrn := (Fd.red_rank (F := (Fp p hp)) n M c).2
      have HNX := hide (show (Fp p hp).red n M (c + 1) = (Fp p hp).step n (((Fp p hp).red n M c).1, ((Fp p hp).red n M c).2) c from rfl)
      generalize ((Fp p hp).red n M c).2 = r at *
      generalize ((Fp p hp).red n M c).1 = A at *
      have r2 : (0 : Int) ≤ (r : Int) := by omega
      go_wp2_with fail
      go_loopg [7, 9, 10, 11, 12, 60] (n - r) (fun k u7 u9 _ _ _ _ wr => ∃ i : Nat, r ≤ i ∧ i ≤ n ∧ k = n - i ∧ u7 = .int .i64 (r : Int) ∧ u9 = .int .i64 (i : Int) ∧ (∀ k, r ≤ k → k < i → (Fp p hp).inv (A k c) = none) ∧ Gr wr base g n m A ∧ Below base w wr ∧ Kt 23 22 w wr)
      case atStart => exact ⟨r, Nat.le_refl _, hrn, rfl, rfl, rfl, fun k h1 h2 => by omega, HG.out, hbel, HKT.out⟩
      case round =>
        clear HG hbel HKT
        obtain ⟨i, hri, hin, rfl, rfl, rfl, hno, hgi, hbel, hkt⟩ := hrel
        have HKT := hide hkt
        clear hkt
        have HG := hide hgi
        have HNO := hide hno
        clear hgi hno
        by_cases hil : i < n
        · have j1 : (i : Int) < (n : Int) := by omega
          have j2 : (0 : Int) ≤ (i : Int) := by omega
          have r1 : (r : Int) < (n : Int) := by omega
          obtain ⟨b, cb, hb1, hb2, hb3, hb4, hb5, hb6, hb7⟩ := HG.out.at_ (by decide) hil
          obtain ⟨hv1, _, _⟩ := hb7 c (by omega)
          obtain ⟨x, hx⟩ : ∃ x, x = A i c := ⟨_, rfl⟩
          rw [← hx] at hv1
          have HX := hide hx
          have HS : Hid (∀ W, Below wr.heap.size wr W → W.cell? ⟨g, i, none⟩ = some (.slice (some ⟨b, 0, none⟩) m cb) ∧ W.cell? ⟨b, c, none⟩ = some (.int .u32 ((Fin.val x : Nat) : Int))) := fun W hW =>
            ⟨(hW.cell (World.block_lt_of_cell? _ _ hb1)).trans hb1, (hW.cell (World.block_lt_of_cell? _ _ hv1)).trans hv1⟩
          obtain ⟨s1, s2⟩ := HS.out wr (Below.refl _ _)
          clear hx hb1 hb2 hb3 hb4 hb5 hb6 hb7 hv1
          rcases hinv : (Fp p hp).inv x with _ | y
          · have Q : Hid (∀ W, Below wr.heap.size wr W → Calls Tryz.prog 21 #[(.pointer (some ⟨gm, 0, none⟩)), .int .u32 ((Fin.val x : Nat) : Int)] W fun e w'' => e = .returned (.tuple #[.int .u32 0, .bool false]) ∧ Below wr.heap.size wr w'') := fun W hW =>
              (finv_none (hp := hp) hinv W ((Fk.keep HK.out.1 HK.out.2 hbel).below hW)).mono fun e w'' ⟨a, b⟩ => ⟨a, by subst b; first | exact hW | exact hW.alloc hW.size _⟩
            have HV := hide hinv
            clear hinv
            go_wp2_with fail
            go_region_held3 (fun w' => w'.cell? ⟨g, i, none⟩ = some (.slice (some ⟨b, 0, none⟩) m cb) ∧ w'.cell? ⟨b, c, none⟩ = some (.int .u32 ((Fin.val x : Nat) : Int))) (first | go_keep | exact HS.out _ (by assumption))
              (first | (go_at_call 21; (with_reducible refine (Q.out _ ?bb).mono ?_); (case bb => (repeat (first | with_reducible exact Below.refl _ _ | with_reducible assumption | with_reducible refine Below.drew ?_))); rintro e w2 ⟨rfl, q2⟩))
            all_goals
              go_wp2
              go_roundg (n - (i + 1))
              case rel => exact ⟨i + 1, by omega, by omega, rfl, rfl, by go_num, fun k h1 h2 => (by
                by_cases e : k = i
                · rw [e, ← HX.out]; exact HV.out
                · exact HNO.out k h1 (by omega)), HG.out.below q2, hbel.trans (q2.mono (by have := hbel.size; have := HB.out; omega)), HKT.out.below q2⟩
              case measure => omega
          · have Q : Hid (∀ W, Below wr.heap.size wr W → Calls Tryz.prog 21 #[(.pointer (some ⟨gm, 0, none⟩)), .int .u32 ((Fin.val x : Nat) : Int)] W fun e w'' => e = .returned (.tuple #[.int .u32 ((Fin.val y : Nat) : Int), .bool true]) ∧ Below wr.heap.size wr w'') := fun W hW =>
              (finv_some (hp := hp) hinv W ((Fk.keep HK.out.1 HK.out.2 hbel).below hW)).mono fun e w'' ⟨a, b⟩ => ⟨a, by subst b; first | exact hW | exact hW.alloc hW.size _⟩
            have HV := hide hinv
            clear hinv
            go_wp2_with fail
            go_region_held3 (fun w' => w'.cell? ⟨g, i, none⟩ = some (.slice (some ⟨b, 0, none⟩) m cb) ∧ w'.cell? ⟨b, c, none⟩ = some (.int .u32 ((Fin.val x : Nat) : Int))) (first | go_keep | exact HS.out _ (by assumption))
              (first | (go_at_call 21; (with_reducible refine (Q.out _ ?bb).mono ?_); (case bb => (repeat (first | with_reducible exact Below.refl _ _ | with_reducible assumption | with_reducible refine Below.drew ?_))); rintro e w2 ⟨rfl, q2⟩))
            have hbel2 : Below base w w2 := hbel.trans (q2.mono (by have := hbel.size; have := HB.out; omega))
            have HG2 := hide (HG.out.below q2)
            have HKT2 := hide (HKT.out.below q2)
            have vi1 := (HS.out _ q2).1
            obtain ⟨_, _, _, vi2, _⟩ := HG2.out.at_ (by decide) hil
            obtain ⟨d, cd, vr1, vr2, _⟩ := HG2.out.at_ (by decide) (show r < n by omega)
            obtain ⟨z, hz⟩ := HG2.out.some_set hil r (.slice (some ⟨b, 0, none⟩) m cb)
            have HG3 := hide (HG2.out.swap (by decide) (show r < n by omega) hil vr1 vi1)
            clear HS Q s1 s2 HG q2
            go_wp2_with fail
            go_region
            have hge := HG2.out.le_
            have hG4 := HG3.out.below (Below.refl _ _).drew
            have hK4 : Kt 23 22 w ((w2.setCell ⟨g, r, none⟩ (.slice (some ⟨b, 0, none⟩) m cb)).setCell ⟨g, i, none⟩ (.slice (some ⟨d, 0, none⟩) m cd)).drew := (HKT2.out.trans (HG2.out.kt_swap r i _ _)).below (Below.refl _ _).drew
            have hB4 := ((hbel2.setCell (p := ⟨g, r, none⟩) hge (.slice (some ⟨b, 0, none⟩) m cb)).setCell (p := ⟨g, i, none⟩) hge (.slice (some ⟨d, 0, none⟩) m cd)).drew
            generalize ((w2.setCell ⟨g, r, none⟩ (.slice (some ⟨b, 0, none⟩) m cb)).setCell ⟨g, i, none⟩ (.slice (some ⟨d, 0, none⟩) m cd)).drew = W3 at hG4 hB4 hK4 ⊢
            have HE := hide (show (Fp p hp).step n (A, r) c = ((Fp p hp).cleared ((Fp p hp).scaled (Fd.swapped A r i) r y) r c, r + 1) from step_some hil hri (by rw [← HX.out]; exact HV.out) fun k h1 h2 => HNO.out k h1 h2)
            generalize Fd.swapped A r i = A1 at *
            obtain ⟨X1, hX1⟩ : ∃ X1, X1 = (Fp p hp).scaled A1 r y := ⟨_, rfl⟩
            have HX1 : Hid (∀ a b, X1 a b = if a = r then (Fp p hp).mul (A1 r b) y else A1 a b) := fun a b => by rw [hX1]; unfold Fd.scaled; split <;> rfl
            rw [← hX1] at HE
            have HG4 := hide hG4
            have HB4 := hide (And.intro hB4 hK4)
            obtain ⟨b4, c4, vb, _⟩ := HG4.out.at_ (by decide) (show r < n by omega)
            clear hX1 hG4 hB4 hK4 HKT HKT2 HG3 HG2 HX HV HNO vi1 vi2 vr1 vr2 hz hge hbel2
            go_wp2_with fail
            go_loopg [12, 60] m (fun k _ u60 wr => ∃ j : Nat, j ≤ m ∧ k = m - j ∧ u60 = .int .i64 (j : Int) ∧ Gr wr base g n m (part r j A1 X1) ∧ Below base w wr ∧ Kt 23 22 w wr)
            case atStart => exact ⟨0, by omega, rfl, rfl, HG4.out.congr (fun a b _ _ => by
              unfold part
              split
              · rw [HX1.out, if_neg (by omega)]
              · rfl), HB4.out.1, HB4.out.2⟩
            case round =>
              clear HG4 HB4 vb
              obtain ⟨j, hj, rfl, rfl, hgj, hbel, hkt⟩ := hrel
              have HKT := hide hkt
              clear hkt
              have HG := hide hgj
              clear hgj
              by_cases hjm : j < m
              · have k1 : (j : Int) < (m : Int) := by omega
                have k2 : (0 : Int) ≤ (j : Int) := by omega
                obtain ⟨b, cb, hb1, hb2, hb3, hb4, hb5, hb6, hb7⟩ := HG.out.at_ (by decide) (show r < n by omega)
                obtain ⟨hv1, hf1, hst⟩ := hb7 j hjm
                rw [part_at] at hv1
                obtain ⟨x, hx⟩ : ∃ x, x = A1 r j := ⟨_, rfl⟩
                rw [← hx] at hv1
                have HEQ := hide (show X1 r j = (Fp p hp).mul x y by rw [HX1.out, if_pos rfl, hx])
                have HST := hide (And.intro hst (And.intro hb3 (fun (W : World) (hW : Below wr.heap.size wr W) (u : Value) => HKT.out.trans (HG.out.kt_store (show r < n by omega) hb1 hW j u))))
                have HS : Hid (∀ W, Below wr.heap.size wr W → W.cell? ⟨g, r, none⟩ = some (.slice (some ⟨b, 0, none⟩) m cb) ∧ W.cell? ⟨b, j, none⟩ = some (.int .u32 ((Fin.val x : Nat) : Int))) := fun W hW =>
                  ⟨(hW.cell (World.block_lt_of_cell? _ _ hb1)).trans hb1, (hW.cell (World.block_lt_of_cell? _ _ hv1)).trans hv1⟩
                have Q2 : Hid (∀ W, Below wr.heap.size wr W → Calls Tryz.prog 24 #[(.pointer (some ⟨gm, 0, none⟩)), .int .u32 ((Fin.val x : Nat) : Int), .int .u32 ((Fin.val y : Nat) : Int)] W fun e w'' => e = .returned (.int .u32 ((Fin.val ((Fp p hp).mul x y) : Nat) : Int)) ∧ Below wr.heap.size wr w'') := fun W hW =>
                  (fmul_c (hp := hp) x y W ((Fk.keep HK.out.1 HK.out.2 hbel).below hW)).mono fun e w'' ⟨a, b⟩ => ⟨a, by subst b; first | exact hW | exact hW.alloc hW.size _⟩
                clear hb1 hb2 hb3 hb4 hb5 hb6 hb7 hv1 hf1 hst hx HG
                go_wp2_with fail
                refine region_last_at (S := fun w' => w'.cell? ⟨g, r, none⟩ = some (.slice (some ⟨b, 0, none⟩) m cb) ∧ w'.cell? ⟨b, j, none⟩ = some (.int .u32 ((Fin.val x : Nat) : Int))) 19 rfl rfl (by kernel_rfl) (by kernel_rfl) (by kernel_rfl) (by kernel_rfl) (HS.out _ (Below.refl _ _).drew) (fun hHeld => ?_)
                simp only [List.take_succ_cons, List.take_zero]
                refine wpAnyH_take (i := 0) (v := ?_) rfl (by kernel_rfl) (by kernel_rfl) (by kernel_rfl) (fun _ _ _ h => h) (Or.inl ⟨by rfl, ?_⟩) (by assumption) ?_
                rotate_left
                · (intro w9 hSw; (try dsimp only at hSw); go_simp; try with_reducible rfl)
                try simp only [Act.put, List.setIfInBounds_toArray, List.set_cons_zero, List.set_cons_succ]
                refine wpAnyH_take (i := 1) (v := ?_) rfl (by kernel_rfl) (by kernel_rfl) (by kernel_rfl) (fun _ _ _ h => h) (Or.inl ⟨by rfl, ?_⟩) (by assumption) ?_
                rotate_left
                · (intro w9 hSw; (try dsimp only at hSw); go_simp; try with_reducible rfl)
                try simp only [Act.put, List.setIfInBounds_toArray, List.set_cons_zero, List.set_cons_succ]
                refine wpAnyH_take (i := 2) (v := ?_) rfl (by kernel_rfl) (by kernel_rfl) (by kernel_rfl) (fun _ _ _ h => h) (Or.inl ⟨by rfl, ?_⟩) (by assumption) ?_
                rotate_left
                · (intro w9 hSw; (try dsimp only at hSw); go_simp; try with_reducible rfl)
                try simp only [Act.put, List.setIfInBounds_toArray, List.set_cons_zero, List.set_cons_succ]
                refine wpAnyH_take (i := 3) (v := ?_) rfl (by kernel_rfl) (by kernel_rfl) (by kernel_rfl) (fun _ _ _ h => h) (Or.inl ⟨by rfl, ?_⟩) (by assumption) ?_
                rotate_left
                · (intro w9 hSw; (try dsimp only at hSw); go_simp; try with_reducible rfl)
                try simp only [Act.put, List.setIfInBounds_toArray, List.set_cons_zero, List.set_cons_succ]
                refine wpAnyH_take (i := 4) (v := ?_) rfl (by kernel_rfl) (by kernel_rfl) (by kernel_rfl) (fun _ _ _ h => h) (Or.inl ⟨by rfl, ?_⟩) (by assumption) ?_
                rotate_left
                · (intro w9 hSw; (try dsimp only at hSw); go_simp; try with_reducible rfl)
                try simp only [Act.put, List.setIfInBounds_toArray, List.set_cons_zero, List.set_cons_succ]
                refine wpAnyH_take (i := 5) (v := ?_) rfl (by kernel_rfl) (by kernel_rfl) (by kernel_rfl) (fun _ _ _ h => h) (Or.inl ⟨by rfl, ?_⟩) (by assumption) ?_
                rotate_left
                · (intro w9 hSw; (try dsimp only at hSw); go_simp; try with_reducible rfl)
                try simp only [Act.put, List.setIfInBounds_toArray, List.set_cons_zero, List.set_cons_succ]
                refine wpAnyH_take (i := 6) (v := ?_) rfl (by kernel_rfl) (by kernel_rfl) (by kernel_rfl) (fun _ _ _ h => h) (Or.inl ⟨by rfl, ?_⟩) (by assumption) ?_
                rotate_left
                · (intro w9 hSw; (try dsimp only at hSw); go_simp; try with_reducible rfl)
                try simp only [Act.put, List.setIfInBounds_toArray, List.set_cons_zero, List.set_cons_succ]
                refine wpAnyH_take (i := 7) (v := ?_) rfl (by kernel_rfl) (by kernel_rfl) (by kernel_rfl) (fun _ _ _ h => h) (Or.inl ⟨by rfl, ?_⟩) (by assumption) ?_
                rotate_left
                · (intro w9 hSw; (try dsimp only at hSw); go_simp; try with_reducible rfl)
                try simp only [Act.put, List.setIfInBounds_toArray, List.set_cons_zero, List.set_cons_succ]
                refine wpAnyH_take (i := 8) (v := ?_) rfl (by kernel_rfl) (by kernel_rfl) (by kernel_rfl) (fun _ _ _ h => h) (Or.inl ⟨by rfl, ?_⟩) (by assumption) ?_
                rotate_left
                · (intro w9 hSw; (try dsimp only at hSw); go_simp; try with_reducible rfl)
                try simp only [Act.put, List.setIfInBounds_toArray, List.set_cons_zero, List.set_cons_succ]
                refine wpAnyH_take (i := 9) (v := ?_) rfl (by kernel_rfl) (by kernel_rfl) (by kernel_rfl) (fun _ _ _ h => h) (Or.inl ⟨by rfl, ?_⟩) (by assumption) ?_
                rotate_left
                · (intro w9 hSw; (try dsimp only at hSw); go_simp; try with_reducible rfl)
                try simp only [Act.put, List.setIfInBounds_toArray, List.set_cons_zero, List.set_cons_succ]
                refine wpAnyH_take (i := 10) (v := ?_) rfl (by kernel_rfl) (by kernel_rfl) (by kernel_rfl) (fun _ _ _ h => h) (Or.inl ⟨by rfl, ?_⟩) (by assumption) ?_
                rotate_left
                · (intro w9 hSw; (try dsimp only at hSw); go_simp; try with_reducible rfl)
                try simp only [Act.put, List.setIfInBounds_toArray, List.set_cons_zero, List.set_cons_succ]
                refine wpAnyH_take (i := 11) (v := ?_) rfl (by kernel_rfl) (by kernel_rfl) (by kernel_rfl) (fun _ _ _ h => h) (Or.inl ⟨by rfl, ?_⟩) (by assumption) ?_
                rotate_left
                · (intro w9 hSw; (try dsimp only at hSw); go_simp; try with_reducible rfl)
                try simp only [Act.put, List.setIfInBounds_toArray, List.set_cons_zero, List.set_cons_succ]
                refine wpAnyH_take (i := 12) (v := ?_) rfl (by kernel_rfl) (by kernel_rfl) (by kernel_rfl) (fun _ _ _ h => h) (Or.inl ⟨by rfl, ?_⟩) (by assumption) ?_
                rotate_left
                · (intro w9 hSw; (try dsimp only at hSw); go_simp; try with_reducible rfl)
                try simp only [Act.put, List.setIfInBounds_toArray, List.set_cons_zero, List.set_cons_succ]
                refine wpAnyH_take (i := 13) (v := ?_) rfl (by kernel_rfl) (by kernel_rfl) (by kernel_rfl) (fun _ _ _ h => h) (Or.inl ⟨by rfl, ?_⟩) (by assumption) ?_
                rotate_left
                · (intro w9 hSw; (try dsimp only at hSw); go_simp; try with_reducible rfl)
                try simp only [Act.put, List.setIfInBounds_toArray, List.set_cons_zero, List.set_cons_succ]
                refine wpAnyH_take (i := 14) (v := ?_) rfl (by kernel_rfl) (by kernel_rfl) (by kernel_rfl) (fun _ _ _ h => h) (Or.inl ⟨by rfl, ?_⟩) (by assumption) ?_
                rotate_left
                · (intro w9 hSw; (try dsimp only at hSw); go_simp; try with_reducible rfl)
                try simp only [Act.put, List.setIfInBounds_toArray, List.set_cons_zero, List.set_cons_succ]
                refine wpAnyH_take (i := 15) (v := ?_) rfl (by kernel_rfl) (by kernel_rfl) (by kernel_rfl) (fun _ _ _ h => h) (Or.inl ⟨by rfl, ?_⟩) (by assumption) ?_
                rotate_left
                · (intro w9 hSw; (try dsimp only at hSw); go_simp; try with_reducible rfl)
                try simp only [Act.put, List.setIfInBounds_toArray, List.set_cons_zero, List.set_cons_succ]
                refine wpAnyH_take (i := 16) (v := ?_) rfl (by kernel_rfl) (by kernel_rfl) (by kernel_rfl) (fun _ _ _ h => h) (Or.inl ⟨by rfl, ?_⟩) (by assumption) ?_
                rotate_left
                · (intro w9 hSw; (try dsimp only at hSw); go_simp; try with_reducible rfl)
                try simp only [Act.put, List.setIfInBounds_toArray, List.set_cons_zero, List.set_cons_succ]
                refine wpAnyH_ready (rs := [17]) (by kernel_rfl) (by simp) ?_
                refine AllReadyH.cons rfl (fun K hK => ?_) AllReadyH.nil
                go_simp
                refine (Q2.out _ (Below.refl _ _).drew).mono ?_
                rintro e w2 ⟨rfl, q2⟩
                refine hK.out _ _ (HS.out _ q2) (fun hHeld => ?_)
                clear hK K
                try simp only [Act.put, List.setIfInBounds_toArray, List.set_cons_zero, List.set_cons_succ]
                refine wpAnyH_take (i := 18) (v := ?_) rfl (by kernel_rfl) (by kernel_rfl) (by kernel_rfl) (fun _ _ _ h => h) (Or.inl ⟨by rfl, ?_⟩) (by assumption) ?_
                rotate_left
                · (intro w9 hSw; (try dsimp only at hSw); go_simp; try with_reducible rfl)
                try simp only [Act.put, List.setIfInBounds_toArray, List.set_cons_zero, List.set_cons_succ]
                refine wpAnyH_done (by kernel_rfl) ?_ _
                refine Behind.run ?_
                obtain ⟨s1, s2⟩ := HS.out _ q2
                obtain ⟨hfz, hG3⟩ := HST.out.1 _ (X1 r j) q2
                rw [part_upd, HEQ.out] at hG3
                have HG3 := hide hG3
                have HB3 := hide (hbel.trans ((q2.mono (by have := hbel.size; have := HB.out; omega))))
                clear hG3
                simp only [List.getElem_toArray, List.getElem_cons_succ, List.getElem_cons_zero]
                go_simp
                go_wp2
                go_roundg (m - (j + 1))
                case rel => exact ⟨j + 1, by omega, rfl, by go_num, HG3.out, HB3.out.setCell HST.out.2.1 _, HST.out.2.2 _ q2 _⟩
                case measure => omega
              · have hjm2 : j = m := by omega
                have HGX := hide (HG.out.congr (M' := X1) (fun a b _ hb => by
                  unfold part
                  split
                  · rfl
                  · rw [HX1.out, if_neg (by omega)]))
                have q := cleared_c (hp := hp) cap r c HGX.out (Fk.keep HK.out.1 HK.out.2 hbel) HK.out.2 (by omega) (by omega) hn hm (Nat.le_trans HB.out.2.2.1 hbel.size) HB.out.2.2.2.1
                clear HG
                go_wp2_with fail
                refine q.mono ?_
                rintro e w5 ⟨rfl, hG5, hB5, hK5⟩
                have HG5 := hide hG5
                have HB5 := hide (And.intro (hbel.trans hB5) (HKT.out.trans hK5))
                clear q hG5 hB5 hK5
                go_wp2
                go_roundg (cols - (c + 1))
                case rel => exact ⟨c + 1, by omega, rfl, by go_num, by rw [HNX.out, HE.out]; go_num, by rw [HNX.out, HE.out]; exact HG5.out, HB5.out.1, HB5.out.2⟩
                case measure => omega
        · have hin2 : i = n := by omega
          go_wp2
          go_roundg (cols - (c + 1))
          case rel => exact ⟨c + 1, by omega, rfl, by go_num, by rw [HNX.out, step_none fun k h1 h2 => HNO.out k h1 (by omega)], by rw [HNX.out, step_none fun k h1 h2 => HNO.out k h1 (by omega)]; exact HG.out, hbel, HKT.out⟩
          case measure => omega
    · have hcn : c = cols := by omega
      subst hcn
      go_wp2
      try rw [Exit.noGoto_ret]
      go_ret
      exact ⟨rfl, HG.out, hbel, HKT.out⟩
end
end Go.Proofs.YtoaaplngdomdcaaGreat.MV
