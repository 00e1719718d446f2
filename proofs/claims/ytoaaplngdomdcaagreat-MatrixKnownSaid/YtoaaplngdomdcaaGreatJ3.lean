/- Joined texts: MvG. -/
import Derived.Test.YtoaaplngdomdcaaGreatJ2

/- Matrices of words: a row taken so often from all others that they have nothing in a column. -/
namespace Go.Proofs.YtoaaplngdomdcaaGreat.MV
open Go.RowKit
section
variable {p gm : Nat} {hp : 0 < p}
variable {w : World} {base g n m : Nat} {M : Nat → Nat → (Fin p)}

set_option maxRecDepth 100000 in
set_option maxHeartbeats 8000000 in
theorem cleared_c (cap own c : Nat) (hg : Gr w base g n m M) (hk : (Fk p gm) w) (hlo : gm < base) (ho : own < n) (hc : c < m) (hn : n ≤ 256) (hm : m ≤ 2048) (hbase : base ≤ w.heap.size) (hcap : n ≤ cap ∧ cap ≤ maxLen) :
    Calls Tryz.prog 133 #[(modF gm), .slice (some ⟨g, 0, none⟩) n cap, .int .i64 (own : Int), .int .i64 (c : Int)] w fun e w' => e = .returned (.tuple #[]) ∧ Gr w' base g n m ((Fp p hp).cleared M own c) ∧ Below base w w' ∧ Kt 23 22 w w' := by
  have m2 := meth_sub (gm := gm)
  have m3 := ahead_sub (gm := gm)
  have m4 := meth_mul (gm := gm)
  have m5 := ahead_mul (gm := gm)
  have HK := hide (And.intro hk hlo)
  have HG := hide hg
  have HB := hide (And.intro hn (And.intro hm (And.intro hbase hcap)))
  have o1 : (own : Int) < (n : Int) := by omega
  have o2 : (0 : Int) ≤ (own : Int) := by omega
  have c1 : (c : Int) < (m : Int) := by omega
  have c2 : (0 : Int) ≤ (c : Int) := by omega
  obtain ⟨X, hX⟩ : ∃ X, X = (Fp p hp).cleared M own c := ⟨_, rfl⟩
  have HX : Hid (∀ i j, X i j = if i = own then M i j else (Fp p hp).sub (M i j) ((Fp p hp).mul (M i c) (M own j))) := fun i j => by rw [hX]; unfold Fd.cleared; split <;> rfl
  rw [← hX]
  clear hX hg hk hlo hbase hcap
  go_enter Tryz.func133, Tryz.ntmps133
  go_wp2_with fail
  go_loopw [8, 9, 10, 13, 31] (fun _ _ _ u13 _ wr => ∃ i : Nat, i ≤ n ∧ u13 = .int .i64 (i : Int) ∧ Gr wr base g n m (part i 0 M X) ∧ Below base w wr ∧ Kt 23 22 w wr) (fun _ _ _ u13 _ _ => n - (intOf u13).toNat)
  case atStart => exact ⟨0, by omega, rfl, HG.out.congr fun i j _ _ => (if_neg (by omega)).symm, Below.refl _ _, Kt.refl _ _ _⟩
  case round =>
    clear HG
    obtain ⟨i, hi, rfl, hgi, hbel, hkt⟩ := hrel
    have HG := hide hgi
    clear hgi
    by_cases hlt : i < n
    · have i1 : (i : Int) < (n : Int) := by omega
      have i2 : (0 : Int) ≤ (i : Int) := by omega
      by_cases hio : i = own
      · subst hio
        go_wp2
        go_roundw
        case rel => exact ⟨i + 1, by omega, by go_num, by rw [← part_skip (fun y => by rw [HX.out, if_pos rfl])]; exact HG.out, hbel, hkt⟩
        case measure => simp [intOf]; omega
      · have i3 : ((i : Int) == (own : Int)) = false := by simp only [beq_eq_false_iff_ne]; omega
        obtain ⟨b, cb, hb1, hb2, hb3, hb4, hb5, hb6, hb7⟩ := HG.out.at_ (by decide) hlt
        obtain ⟨hv, _⟩ := hb7 c hc
        rw [part_row] at hv
        obtain ⟨y, hy⟩ : ∃ y, y = M i c := ⟨_, rfl⟩
        rw [← hy] at hv
        have hv2 : wr.cell? ⟨b, c, none⟩ = some (.int .u32 ((Fin.val y : Nat) : Int)) := hv
        have HY := hide hy
        clear hv hy hb7
        go_wp2_with fail
        go_loopw [10, 31] (fun _ u31 wr => ∃ j : Nat, j ≤ m ∧ u31 = .int .i64 (j : Int) ∧ Gr wr base g n m (part i j M X) ∧ Below base w wr ∧ Kt 23 22 w wr) (fun _ u31 _ => m - (intOf u31).toNat)
        case atStart => exact ⟨0, by omega, rfl, HG.out, hbel, hkt⟩
        case round =>
          clear HG hbel hkt hb1 hb2 hb3 hb4 hb5 hb6 hv2
          obtain ⟨j, hj, rfl, hgj, hbel, hkt⟩ := hrel
          have HKT := hide hkt
          clear hkt
          have HG := hide hgj
          clear hgj
          by_cases hjm : j < m
          · have j1 : (j : Int) < (m : Int) := by omega
            have j2 : (0 : Int) ≤ (j : Int) := by omega
            obtain ⟨b, cb, hb1, hb2, hb3, hb4, hb5, hb6, hb7⟩ := HG.out.at_ (by decide) hlt
            obtain ⟨d, cd, hd1, hd2, hd3, hd4, hd5, hd6, hd7⟩ := HG.out.at_ (by decide) ho
            obtain ⟨hv1, hf1, hst⟩ := hb7 j hjm
            obtain ⟨hw1, _, _⟩ := hd7 j hjm
            rw [part_at] at hv1
            have hrow : part i j M X own j = M own j := by
              unfold part
              split
              · rw [HX.out, if_pos rfl]
              · rfl
            rw [hrow] at hw1
            obtain ⟨x, hx⟩ : ∃ x, x = M i j := ⟨_, rfl⟩
            obtain ⟨z, hz⟩ : ∃ z, z = M own j := ⟨_, rfl⟩
            rw [← hx] at hv1
            rw [← hz] at hw1
            have HE := hide (show X i j = (Fp p hp).sub x ((Fp p hp).mul y z) by rw [HX.out, if_neg hio, hx, HY.out, hz])
            have HST := hide (And.intro hst (And.intro hb3 (fun (W : World) (hW : Below wr.heap.size wr W) (u : Value) => HKT.out.trans (HG.out.kt_store hlt hb1 hW j u))))
            have HS : Hid (∀ W, Below wr.heap.size wr W → W.cell? ⟨g, i, none⟩ = some (.slice (some ⟨b, 0, none⟩) m cb) ∧ W.cell? ⟨g, own, none⟩ = some (.slice (some ⟨d, 0, none⟩) m cd) ∧ W.cell? ⟨b, j, none⟩ = some (.int .u32 ((Fin.val x : Nat) : Int)) ∧ W.cell? ⟨d, j, none⟩ = some (.int .u32 ((Fin.val z : Nat) : Int))) := fun W hW =>
              ⟨(hW.cell (World.block_lt_of_cell? _ _ hb1)).trans hb1, (hW.cell (World.block_lt_of_cell? _ _ hd1)).trans hd1, (hW.cell (World.block_lt_of_cell? _ _ hv1)).trans hv1, (hW.cell (World.block_lt_of_cell? _ _ hw1)).trans hw1⟩
            have Q2 : Hid (∀ W, Below wr.heap.size wr W → Calls Tryz.prog 24 #[(.pointer (some ⟨gm, 0, none⟩)), .int .u32 ((Fin.val y : Nat) : Int), .int .u32 ((Fin.val z : Nat) : Int)] W fun e w'' => e = .returned (.int .u32 ((Fin.val ((Fp p hp).mul y z) : Nat) : Int)) ∧ Below wr.heap.size wr w'') := fun W hW =>
              (fmul_c (hp := hp) y z W ((Fk.keep HK.out.1 HK.out.2 hbel).below hW)).mono fun e w'' ⟨a, b⟩ => ⟨a, by subst b; first | exact hW | exact hW.alloc hW.size _⟩
            have Q3 : Hid (∀ u W, Below wr.heap.size wr W → Calls Tryz.prog 23 #[(.pointer (some ⟨gm, 0, none⟩)), .int .u32 ((Fin.val x : Nat) : Int), .int .u32 ((Fin.val u : Nat) : Int)] W fun e w'' => e = .returned (.int .u32 ((Fin.val ((Fp p hp).sub x u) : Nat) : Int)) ∧ Below wr.heap.size wr w'') := fun u W hW =>
              (fsub_c (hp := hp) x u W ((Fk.keep HK.out.1 HK.out.2 hbel).below hW)).mono fun e w'' ⟨a, b⟩ => ⟨a, by
                obtain ⟨q, b⟩ := b
                subst b
                exact below_drewN hW q⟩
            clear hb1 hb2 hb3 hb4 hb5 hb6 hb7 hd1 hd2 hd3 hd4 hd5 hd6 hd7 hv1 hf1 hst hw1 hrow hx hz HG
            go_wp2_with fail
            refine region_last_at (S := fun w' => w'.cell? ⟨g, i, none⟩ = some (.slice (some ⟨b, 0, none⟩) m cb) ∧ w'.cell? ⟨g, own, none⟩ = some (.slice (some ⟨d, 0, none⟩) m cd) ∧ w'.cell? ⟨b, j, none⟩ = some (.int .u32 ((Fin.val x : Nat) : Int)) ∧ w'.cell? ⟨d, j, none⟩ = some (.int .u32 ((Fin.val z : Nat) : Int))) 31 rfl rfl (by kernel_rfl) (by kernel_rfl) (by kernel_rfl) (by kernel_rfl) (HS.out _ (Below.refl _ _).drew) (fun hHeld => ?_)
            simp only [List.take_succ_cons, List.take_zero]
            refine wpAnyH_take (i := 0) (v := ?_) rfl (by kernel_rfl) (by kernel_rfl) (by kernel_rfl) (fun _ _ _ h => h) (Or.inl ⟨by rfl, ?_⟩) (by assumption) ?_
            rotate_left
            · (intro w9 hSw; (try dsimp only at hSw); go_simp; try with_reducible rfl)
            try simp only [Act.put, List.setIfInBounds_toArray, List.set_cons_zero, List.set_cons_succ]
            refine wpAnyH_take (i := 1) (v := ?_) rfl (by kernel_rfl) (by kernel_rfl) (by kernel_rfl) (fun _ _ _ h => h) (Or.inl ⟨by rfl, ?_⟩) (by assumption) ?_
            rotate_left
            · (intro w9 hSw; (try dsimp only at hSw); go_simp; try with_reducible rfl)
            try simp only [Act.put, List.setIfInBounds_toArray, List.set_cons_zero, List.set_cons_succ]
            refine wpAnyH_take (i := 2) (v := ?_) rfl (by kernel_rfl) (by kernel_rfl) (by kernel_rfl) (fun _ _ _ h => h) (Or.inl ⟨by rfl, ?_⟩) (by assumption) ?_
            rotate_left
            · (intro w9 hSw; (try dsimp only at hSw); go_simp; try with_reducible rfl)
            try simp only [Act.put, List.setIfInBounds_toArray, List.set_cons_zero, List.set_cons_succ]
            refine wpAnyH_take (i := 3) (v := ?_) rfl (by kernel_rfl) (by kernel_rfl) (by kernel_rfl) (fun _ _ _ h => h) (Or.inl ⟨by rfl, ?_⟩) (by assumption) ?_
            rotate_left
            · (intro w9 hSw; (try dsimp only at hSw); go_simp; try with_reducible rfl)
            try simp only [Act.put, List.setIfInBounds_toArray, List.set_cons_zero, List.set_cons_succ]
            refine wpAnyH_take (i := 4) (v := ?_) rfl (by kernel_rfl) (by kernel_rfl) (by kernel_rfl) (fun _ _ _ h => h) (Or.inl ⟨by rfl, ?_⟩) (by assumption) ?_
            rotate_left
            · (intro w9 hSw; (try dsimp only at hSw); go_simp; try with_reducible rfl)
            try simp only [Act.put, List.setIfInBounds_toArray, List.set_cons_zero, List.set_cons_succ]
            refine wpAnyH_take (i := 5) (v := ?_) rfl (by kernel_rfl) (by kernel_rfl) (by kernel_rfl) (fun _ _ _ h => h) (Or.inl ⟨by rfl, ?_⟩) (by assumption) ?_
            rotate_left
            · (intro w9 hSw; (try dsimp only at hSw); go_simp; try with_reducible rfl)
            try simp only [Act.put, List.setIfInBounds_toArray, List.set_cons_zero, List.set_cons_succ]
            refine wpAnyH_take (i := 6) (v := ?_) rfl (by kernel_rfl) (by kernel_rfl) (by kernel_rfl) (fun _ _ _ h => h) (Or.inl ⟨by rfl, ?_⟩) (by assumption) ?_
            rotate_left
            · (intro w9 hSw; (try dsimp only at hSw); go_simp; try with_reducible rfl)
            try simp only [Act.put, List.setIfInBounds_toArray, List.set_cons_zero, List.set_cons_succ]
            refine wpAnyH_take (i := 7) (v := ?_) rfl (by kernel_rfl) (by kernel_rfl) (by kernel_rfl) (fun _ _ _ h => h) (Or.inl ⟨by rfl, ?_⟩) (by assumption) ?_
            rotate_left
            · (intro w9 hSw; (try dsimp only at hSw); go_simp; try with_reducible rfl)
            try simp only [Act.put, List.setIfInBounds_toArray, List.set_cons_zero, List.set_cons_succ]
            refine wpAnyH_take (i := 8) (v := ?_) rfl (by kernel_rfl) (by kernel_rfl) (by kernel_rfl) (fun _ _ _ h => h) (Or.inl ⟨by rfl, ?_⟩) (by assumption) ?_
            rotate_left
            · (intro w9 hSw; (try dsimp only at hSw); go_simp; try with_reducible rfl)
            try simp only [Act.put, List.setIfInBounds_toArray, List.set_cons_zero, List.set_cons_succ]
            refine wpAnyH_take (i := 9) (v := ?_) rfl (by kernel_rfl) (by kernel_rfl) (by kernel_rfl) (fun _ _ _ h => h) (Or.inl ⟨by rfl, ?_⟩) (by assumption) ?_
            rotate_left
            · (intro w9 hSw; (try dsimp only at hSw); go_simp; try with_reducible rfl)
            try simp only [Act.put, List.setIfInBounds_toArray, List.set_cons_zero, List.set_cons_succ]
            refine wpAnyH_take (i := 10) (v := ?_) rfl (by kernel_rfl) (by kernel_rfl) (by kernel_rfl) (fun _ _ _ h => h) (Or.inl ⟨by rfl, ?_⟩) (by assumption) ?_
            rotate_left
            · (intro w9 hSw; (try dsimp only at hSw); go_simp; try with_reducible rfl)
            try simp only [Act.put, List.setIfInBounds_toArray, List.set_cons_zero, List.set_cons_succ]
            refine wpAnyH_take (i := 11) (v := ?_) rfl (by kernel_rfl) (by kernel_rfl) (by kernel_rfl) (fun _ _ _ h => h) (Or.inl ⟨by rfl, ?_⟩) (by assumption) ?_
            rotate_left
            · (intro w9 hSw; (try dsimp only at hSw); go_simp; try with_reducible rfl)
            try simp only [Act.put, List.setIfInBounds_toArray, List.set_cons_zero, List.set_cons_succ]
            refine wpAnyH_take (i := 12) (v := ?_) rfl (by kernel_rfl) (by kernel_rfl) (by kernel_rfl) (fun _ _ _ h => h) (Or.inl ⟨by rfl, ?_⟩) (by assumption) ?_
            rotate_left
            · (intro w9 hSw; (try dsimp only at hSw); go_simp; try with_reducible rfl)
            try simp only [Act.put, List.setIfInBounds_toArray, List.set_cons_zero, List.set_cons_succ]
            refine wpAnyH_take (i := 13) (v := ?_) rfl (by kernel_rfl) (by kernel_rfl) (by kernel_rfl) (fun _ _ _ h => h) (Or.inl ⟨by rfl, ?_⟩) (by assumption) ?_
            rotate_left
            · (intro w9 hSw; (try dsimp only at hSw); go_simp; try with_reducible rfl)
            try simp only [Act.put, List.setIfInBounds_toArray, List.set_cons_zero, List.set_cons_succ]
            refine wpAnyH_take (i := 14) (v := ?_) rfl (by kernel_rfl) (by kernel_rfl) (by kernel_rfl) (fun _ _ _ h => h) (Or.inl ⟨by rfl, ?_⟩) (by assumption) ?_
            rotate_left
            · (intro w9 hSw; (try dsimp only at hSw); go_simp; try with_reducible rfl)
            try simp only [Act.put, List.setIfInBounds_toArray, List.set_cons_zero, List.set_cons_succ]
            refine wpAnyH_take (i := 15) (v := ?_) rfl (by kernel_rfl) (by kernel_rfl) (by kernel_rfl) (fun _ _ _ h => h) (Or.inl ⟨by rfl, ?_⟩) (by assumption) ?_
            rotate_left
            · (intro w9 hSw; (try dsimp only at hSw); go_simp; try with_reducible rfl)
            try simp only [Act.put, List.setIfInBounds_toArray, List.set_cons_zero, List.set_cons_succ]
            refine wpAnyH_take (i := 16) (v := ?_) rfl (by kernel_rfl) (by kernel_rfl) (by kernel_rfl) (fun _ _ _ h => h) (Or.inl ⟨by rfl, ?_⟩) (by assumption) ?_
            rotate_left
            · (intro w9 hSw; (try dsimp only at hSw); go_simp; try with_reducible rfl)
            try simp only [Act.put, List.setIfInBounds_toArray, List.set_cons_zero, List.set_cons_succ]
            refine wpAnyH_take (i := 17) (v := ?_) rfl (by kernel_rfl) (by kernel_rfl) (by kernel_rfl) (fun _ _ _ h => h) (Or.inl ⟨by rfl, ?_⟩) (by assumption) ?_
            rotate_left
            · (intro w9 hSw; (try dsimp only at hSw); go_simp; try with_reducible rfl)
            try simp only [Act.put, List.setIfInBounds_toArray, List.set_cons_zero, List.set_cons_succ]
            refine wpAnyH_take (i := 18) (v := ?_) rfl (by kernel_rfl) (by kernel_rfl) (by kernel_rfl) (fun _ _ _ h => h) (Or.inl ⟨by rfl, ?_⟩) (by assumption) ?_
            rotate_left
            · (intro w9 hSw; (try dsimp only at hSw); go_simp; try with_reducible rfl)
            try simp only [Act.put, List.setIfInBounds_toArray, List.set_cons_zero, List.set_cons_succ]
            refine wpAnyH_take (i := 19) (v := ?_) rfl (by kernel_rfl) (by kernel_rfl) (by kernel_rfl) (fun _ _ _ h => h) (Or.inl ⟨by rfl, ?_⟩) (by assumption) ?_
            rotate_left
            · (intro w9 hSw; (try dsimp only at hSw); go_simp; try with_reducible rfl)
            try simp only [Act.put, List.setIfInBounds_toArray, List.set_cons_zero, List.set_cons_succ]
            refine wpAnyH_take (i := 20) (v := ?_) rfl (by kernel_rfl) (by kernel_rfl) (by kernel_rfl) (fun _ _ _ h => h) (Or.inl ⟨by rfl, ?_⟩) (by assumption) ?_
            rotate_left
            · (intro w9 hSw; (try dsimp only at hSw); go_simp; try with_reducible rfl)
            try simp only [Act.put, List.setIfInBounds_toArray, List.set_cons_zero, List.set_cons_succ]
            refine wpAnyH_take (i := 21) (v := ?_) rfl (by kernel_rfl) (by kernel_rfl) (by kernel_rfl) (fun _ _ _ h => h) (Or.inl ⟨by rfl, ?_⟩) (by assumption) ?_
            rotate_left
            · (intro w9 hSw; (try dsimp only at hSw); go_simp; try with_reducible rfl)
            try simp only [Act.put, List.setIfInBounds_toArray, List.set_cons_zero, List.set_cons_succ]
            refine wpAnyH_take (i := 22) (v := ?_) rfl (by kernel_rfl) (by kernel_rfl) (by kernel_rfl) (fun _ _ _ h => h) (Or.inl ⟨by rfl, ?_⟩) (by assumption) ?_
            rotate_left
            · (intro w9 hSw; (try dsimp only at hSw); go_simp; try with_reducible rfl)
            try simp only [Act.put, List.setIfInBounds_toArray, List.set_cons_zero, List.set_cons_succ]
            refine wpAnyH_take (i := 23) (v := ?_) rfl (by kernel_rfl) (by kernel_rfl) (by kernel_rfl) (fun _ _ _ h => h) (Or.inl ⟨by rfl, ?_⟩) (by assumption) ?_
            rotate_left
            · (intro w9 hSw; (try dsimp only at hSw); go_simp; try with_reducible rfl)
            try simp only [Act.put, List.setIfInBounds_toArray, List.set_cons_zero, List.set_cons_succ]
            refine wpAnyH_take (i := 24) (v := ?_) rfl (by kernel_rfl) (by kernel_rfl) (by kernel_rfl) (fun _ _ _ h => h) (Or.inl ⟨by rfl, ?_⟩) (by assumption) ?_
            rotate_left
            · (intro w9 hSw; (try dsimp only at hSw); go_simp; try with_reducible rfl)
            try simp only [Act.put, List.setIfInBounds_toArray, List.set_cons_zero, List.set_cons_succ]
            refine wpAnyH_take (i := 26) (v := ?_) rfl (by kernel_rfl) (by kernel_rfl) (by kernel_rfl) (fun _ _ _ h => h) (Or.inl ⟨by rfl, ?_⟩) (by assumption) ?_
            rotate_left
            · (intro w9 hSw; (try dsimp only at hSw); go_simp; try with_reducible rfl)
            try simp only [Act.put, List.setIfInBounds_toArray, List.set_cons_zero, List.set_cons_succ]
            refine wpAnyH_take (i := 27) (v := ?_) rfl (by kernel_rfl) (by kernel_rfl) (by kernel_rfl) (fun _ _ _ h => h) (Or.inl ⟨by rfl, ?_⟩) (by assumption) ?_
            rotate_left
            · (intro w9 hSw; (try dsimp only at hSw); go_simp; try with_reducible rfl)
            try simp only [Act.put, List.setIfInBounds_toArray, List.set_cons_zero, List.set_cons_succ]
            refine wpAnyH_take (i := 28) (v := ?_) rfl (by kernel_rfl) (by kernel_rfl) (by kernel_rfl) (fun _ _ _ h => h) (Or.inl ⟨by rfl, ?_⟩) (by assumption) ?_
            rotate_left
            · (intro w9 hSw; (try dsimp only at hSw); go_simp; try with_reducible rfl)
            try simp only [Act.put, List.setIfInBounds_toArray, List.set_cons_zero, List.set_cons_succ]
            refine wpAnyH_ready (rs := [25]) (by kernel_rfl) (by simp) ?_
            refine AllReadyH.cons rfl (fun K hK => ?_) AllReadyH.nil
            go_simp
            refine (Q2.out _ (Below.refl _ _).drew).mono ?_
            rintro e w2 ⟨rfl, q2⟩
            refine hK.out _ _ (HS.out _ q2) (fun hHeld => ?_)
            clear hK K
            try simp only [Act.put, List.setIfInBounds_toArray, List.set_cons_zero, List.set_cons_succ]
            refine wpAnyH_ready (rs := [29]) (by kernel_rfl) (by simp) ?_
            refine AllReadyH.cons rfl (fun K hK => ?_) AllReadyH.nil
            go_simp
            refine (Q3.out _ _ q2).mono ?_
            rintro e w3 ⟨rfl, q3⟩
            refine hK.out _ _ (HS.out _ q3) (fun hHeld => ?_)
            clear hK K
            try simp only [Act.put, List.setIfInBounds_toArray, List.set_cons_zero, List.set_cons_succ]
            refine wpAnyH_take (i := 30) (v := ?_) rfl (by kernel_rfl) (by kernel_rfl) (by kernel_rfl) (fun _ _ _ h => h) (Or.inl ⟨by rfl, ?_⟩) (by assumption) ?_
            rotate_left
            · (intro w9 hSw; (try dsimp only at hSw); go_simp; try with_reducible rfl)
            try simp only [Act.put, List.setIfInBounds_toArray, List.set_cons_zero, List.set_cons_succ]
            refine wpAnyH_done (by kernel_rfl) ?_ _
            refine Behind.run ?_
            obtain ⟨s1, s2, s3, s4⟩ := HS.out _ q3
            obtain ⟨hfz, hG3⟩ := HST.out.1 _ (X i j) q3
            rw [part_upd, HE.out] at hG3
            have HG3 := hide hG3
            have HB3 := hide (hbel.trans ((q3.mono (by have := hbel.size; have := HB.out; omega))))
            clear hG3
            simp only [List.getElem_toArray, List.getElem_cons_succ, List.getElem_cons_zero]
            go_simp
            go_wp2
            go_roundw
            case rel => exact ⟨j + 1, by omega, by go_num, HG3.out, HB3.out.setCell HST.out.2.1 _, HST.out.2.2 _ q3 _⟩
            case measure => simp [intOf]; omega
          · have hjm2 : j = m := by omega
            subst hjm2
            go_wp2
            go_roundw
            case rel => exact ⟨i + 1, by omega, by go_num, HG.out.congr fun x y _ hy => part_next x y hy, hbel, HKT.out⟩
            case measure => simp [intOf]; omega
    · have hin : i = n := by omega
      subst hin
      go_wp2
      go_end0
      exact ⟨rfl, HG.out.congr fun x y hx _ => if_pos (.inl hx), hbel, hkt⟩
end
end Go.Proofs.YtoaaplngdomdcaaGreat.MV
