/- Joined texts: DdParses. -/
import Derived.Test.YtcpceaflnnkhnaaGreatDoorJ30
import Derived.Test.YtcpceaflnnkhnaaGreatDoorJ31
import Derived.Test.YtcpceaflnnkhnaaGreatDoorJ32

/- The law DeedParses. (Printed by wip/ddparses.py.) -/
namespace Go.Proofs.YtcpceaflnnkhnaaGreatDoor
open Go.RowKit

theorem apart2 {w : World} (base : Nat) {a b : Value} {la lb : List UInt8} (hbase : base ≤ w.heap.size) (ha : Own w base 5 a la) (hb : Own w base 5 b lb)
    (hab : Apx.Apt a b) (h1 : la.length ≤ 140737488355000) (h2 : lb.length ≤ 140737488355000) :
    Calls Tryz.prog 13 #[.slice (some ⟨w.heap.size, 0, none⟩) 2 2] (w.alloc (.cells #[a, b] 32)) fun e w' => e = .returned (.bool true) ∧ Below base w w' := by
  have hblk := Blk.new w 32 #[a, b]
  have hown := hblk.own (base := base) (n := 2) (cap := 2) (sz := 1) rfl hbase rfl (Nat.le_refl _) (by simp [maxLen])
  have := Apx.apart_any base (.slice (some ⟨w.heap.size, 0, none⟩) 2 2) 2 (fun j => match j with | 0 => a | _ => b) (fun j => match j with | 0 => la.length | _ => lb.length)
    (fun j => match j with | 0 => bcells la | _ => bcells lb) (w.alloc (.cells #[a, b] 32)) (by simp; omega) (fun j => by split <;> simp) (fun j _ => by split <;> assumption) (by omega) hown
    (fun j hj => by
      match j, hj with
      | 0, _ => exact World.ownsRow.alloc ha _
      | 1, _ => exact World.ownsRow.alloc hb _)
    (fun i j hi hj hne => by
      match i, hi, j, hj with
      | 0, _, 0, _ => exact absurd rfl hne
      | 1, _, 1, _ => exact absurd rfl hne
      | 0, _, 1, _ => exact hab
      | 1, _, 0, _ => exact hab.symm)
  exact this.mono fun e w' ⟨he, hb⟩ => ⟨he, ((Below.refl base w).alloc hbase _).trans hb⟩
/-- What a text is read as, the place and the fault, of the program and of the document. -/
theorem post_form (l : List UInt8) : ∃ (c : CP) (a er : Int), c.lit.length ≤ 140737488355000 ∧ ∀ w e w', ParsedPost l w e w' → ∃ A n k F, e = .returned (.tuple #[.agg F, .int .i64 a, .int .i64 er]) ∧ F.size = 107 ∧ F.all (·.oneCell') = true ∧ Capy w' F c (.slice A n k) ∧ Own w' w.heap.size 5 (.slice A n k) c.lit ∧ Below w.heap.size w w' := by
  cases hF : capF l with
  | some q =>
    obtain ⟨a, er⟩ := q
    refine ⟨CP.zero, ((a : Nat) : Int), ((er : Nat) : Int), by simp [CP.zero], fun w e w' h => ?_⟩
    exact ⟨none, 0, 0, _, h.2.2 a er hF, CP.cells_size CP.zero_wf _, CP.zero_one, Capy.zero w', Own.nil _ _ _, h.1⟩
  | none =>
    obtain ⟨hm, hwf, -⟩ := text_parse hF
    refine ⟨capC l, 0, 0, ?_, fun w e w' h => ?_⟩
    · rcases hm with ⟨-, -, h3, -⟩ | ⟨-, -, h3, -⟩ | ⟨-, -, -, h4⟩
      · rw [h3]; simp
      · rw [h3]; simp
      · omega
    · obtain ⟨A, n, k, rfl, ho⟩ := h.2.1 hF
      exact ⟨A, n, k, _, rfl, CP.cells_size hwf _, CP.cells_one _ _ _ _, ⟨rfl, hwf, capC_in _, ho.by_⟩, ho, h.1⟩
set_option maxRecDepth 100000 in
set_option maxHeartbeats 16000000 in
theorem law_deedparses (s : ByteArray) (mx : Int) (w : World) (hs : s.size ≤ 9223372036854775807) (hm : w.cell? ⟨1, 0, none⟩ = some (.int .i64 mx)) (ht : Tab w) (he : Err w) (hh : Handle w) :
    Calls Tryz.prog 3 #[.string s] w fun e w' => e = .returned (.bool true) ∧ Below w.heap.size w w' := by
  obtain ⟨c, a, er, hl, hp⟩ := post_form (lst s)
  have QP := hide (fun W (hW : Below w.heap.size w W) => (parsed_any s mx W hs ((hW.cell (World.block_lt_of_cell? _ _ hm)).trans hm) (ht.below hW) (he.below hW) (hh.below hW)).mono (fun e w' h => hp W e w' h))
  have QR := hide (fun W => (rparsed_any s W).mono (fun e w' h => hp W e w' h))
  have QS := hide (fun W X Y u v (hx : Capy W X c u) (hy : Capy W Y c v) => rsame_cap X Y c c u v W hx hy)
  rw [decide_eq_true rfl] at QS
  have QA := hide (fun W (hW : Below w.heap.size w W) => awake_any mx W ((hW.cell (World.block_lt_of_cell? _ _ hm)).trans hm) (ht.below hW) (he.below hW) (hh.below hW))
  have HLL := hide hl
  clear hl hp hm ht he hh hs
  go_enter Tryz.func3, Tryz.ntmps3
  go_wp2_with fail
  refine (QP.out _ (Below.refl _ _)).mono ?_
  rintro e w1 ⟨A1, n1, k1, F1, rfl, f1, f2, hc, ho, b⟩
  have H1 := hide (show F1.size = 107 ∧ F1.all (·.oneCell') = true ∧ Capy w1 F1 c (.slice A1 n1 k1) ∧ Own w1 w.heap.size 5 (.slice A1 n1 k1) c.lit ∧ Below w.heap.size w w1 from ⟨f1, f2, hc, ho, b⟩)
  clear f1 f2 hc ho b
  go_wp2_with first
    | ((with_reducible change wpList _ _ _ (⟨none, .store _ (.tmp 3) _, _, _, _, _⟩ :: _) _ _); go_loud (refine wpList_store_row (o := ⟨none, .store _ (.tmp 3) _, _, _, _, _⟩) (Blk.new w1 34 Tryz.zeroCells34) F1 (by rw [H1.out.1]; kernel_rfl) H1.out.2.1 rfl 34 _ _ rfl (by rw [H1.out.1]; kernel_rfl) rfl rfl ?_; intro w2 hb hg; have S1 := hide (show Blk w2 w1.heap.size 34 F1 ∧ Below w1.heap.size w1 w2 from ⟨hb, (Below.al0 (Below.refl w1.heap.size w1) _).grown hg (by simp) (fun k hk => by injection hk with hk; omega)⟩); clear hb hg))
  refine (QP.out _ (Below.step H1.out.2.2.2.2 S1.out.2)).mono ?_
  rintro e w3 ⟨A2, n2, k2, F2, rfl, f1, f2, hc, ho, b⟩
  have H3 := hide (show F2.size = 107 ∧ F2.all (·.oneCell') = true ∧ Capy w3 F2 c (.slice A2 n2 k2) ∧ Own w3 w2.heap.size 5 (.slice A2 n2 k2) c.lit ∧ Below w2.heap.size w2 w3 from ⟨f1, f2, hc, ho, b⟩)
  clear f1 f2 hc ho b
  go_wp2_with first
    | ((with_reducible change wpList _ _ _ (⟨none, .store _ (.tmp 6) _, _, _, _, _⟩ :: _) _ _); go_loud (refine wpList_store_row (o := ⟨none, .store _ (.tmp 6) _, _, _, _, _⟩) (Blk.new w3 34 Tryz.zeroCells34) F2 (by rw [H3.out.1]; kernel_rfl) H3.out.2.1 rfl 34 _ _ rfl (by rw [H3.out.1]; kernel_rfl) rfl rfl ?_; intro w4 hb hg; have S3 := hide (show Blk w4 w3.heap.size 34 F2 ∧ Below w3.heap.size w3 w4 from ⟨hb, (Below.al0 (Below.refl w3.heap.size w3) _).grown hg (by simp) (fun k hk => by injection hk with hk; omega)⟩); clear hb hg))
  refine (QR.out w4).mono ?_
  rintro e w5 ⟨A3, n3, k3, F3, rfl, f1, f2, hc, ho, b⟩
  have H5 := hide (show F3.size = 107 ∧ F3.all (·.oneCell') = true ∧ Capy w5 F3 c (.slice A3 n3 k3) ∧ Below w4.heap.size w4 w5 from ⟨f1, f2, hc, b⟩)
  clear f1 f2 hc ho b
  have HA := hide (show Apx.Apt (.slice A1 n1 k1) (.slice A2 n2 k2) from Apx.apt_later H1.out.2.2.2.1 H3.out.2.2.2.1 S1.out.2.size)
  go_wp2_with first
    | ((with_reducible change wpList _ _ _ (⟨none, .store _ (.tmp 9) _, _, _, _, _⟩ :: _) _ _); go_loud (refine wpList_store_row (o := ⟨none, .store _ (.tmp 9) _, _, _, _, _⟩) (Blk.new w5 34 Tryz.zeroCells34) F3 (by rw [H5.out.1]; kernel_rfl) H5.out.2.1 rfl 34 _ _ rfl (by rw [H5.out.1]; kernel_rfl) rfl rfl ?_; intro w6 hb hg; have S5 := hide (show Blk w6 w5.heap.size 34 F3 ∧ Below w5.heap.size w5 w6 from ⟨hb, (Below.al0 (Below.refl w5.heap.size w5) _).grown hg (by simp) (fun k hk => by injection hk with hk; omega)⟩); clear hb hg))
    | ((with_reducible change wpList _ _ _ (⟨some 39, _, _, _, _, _⟩ :: _) _ _); refine wpList_yields (by kernel_rfl) (.agg F1) (ex_load 34 _ rfl w1.heap.size 0 (by kernel_rfl) F1.toList _ (rng_of ((S1.out.1.below' H3.out.2.2.2.2).below' S3.out.2 |>.below' H5.out.2.2.2 |>.below' S5.out.2)) Tryz.underlying34 rfl (by rw [Array.length_toList, H1.out.1]; kernel_rfl)) ?_)
    | ((with_reducible change wpList _ _ _ (⟨some 40, _, _, _, _, _⟩ :: _) _ _); refine wpList_yields (by kernel_rfl) (.agg F3) (ex_load 34 _ rfl w5.heap.size 0 (by kernel_rfl) F3.toList _ (rng_of S5.out.1) Tryz.underlying34 rfl (by rw [Array.length_toList, H5.out.1]; kernel_rfl)) ?_)
  have HK := hide (show ∀ W', Below w6.heap.size w6 W' → Blk W' w1.heap.size 34 F1 ∧ Blk W' w3.heap.size 34 F2 ∧ Blk W' w5.heap.size 34 F3 ∧ Capy W' F1 c (.slice A1 n1 k1) ∧ Capy W' F2 c (.slice A2 n2 k2) ∧ Capy W' F3 c (.slice A3 n3 k3) ∧ Own W' w.heap.size 5 (.slice A1 n1 k1) c.lit ∧ Own W' w.heap.size 5 (.slice A2 n2 k2) c.lit ∧ Below w.heap.size w W' from fun W' h6 => by
    have h5 := Below.step S5.out.2 h6
    have h4 := Below.step H5.out.2.2.2 h5
    have h3 := Below.step S3.out.2 h4
    have h2 := Below.step H3.out.2.2.2.2 h3
    have h1 := Below.step S1.out.2 h2
    have hw := Below.step H1.out.2.2.2.2 h1
    exact ⟨S1.out.1.below' h2, S3.out.1.below' h4, S5.out.1.below' h6, H1.out.2.2.1.below h1, H3.out.2.2.1.below h3, H5.out.2.2.1.below h5, Own.below H1.out.2.2.2.1 h1, Own.lower (Own.below H3.out.2.2.2.1 h3) (Below.step H1.out.2.2.2.2 S1.out.2).size, hw⟩)
  have R6 := hide (Below.refl w6.heap.size w6)
  refine (QS.out _ F1 F3 _ _ (HK.out _ R6.out).2.2.2.1 (HK.out _ R6.out).2.2.2.2.2.1).mono ?_
  rintro e w7 ⟨rfl, b⟩
  have R7 := hide (Below.step R6.out b)
  clear b
  go_wp2_with first
    | ((with_reducible change wpList _ _ _ (⟨some 45, _, _, _, _, _⟩ :: _) _ _); refine wpList_yields (by kernel_rfl) (.agg F2) (ex_load 34 _ rfl w3.heap.size 0 (by kernel_rfl) F2.toList _ (rng_of (HK.out _ R7.out).2.1) Tryz.underlying34 rfl (by rw [Array.length_toList, H3.out.1]; kernel_rfl)) ?_)
    | ((with_reducible change wpList _ _ _ (⟨some 46, _, _, _, _, _⟩ :: _) _ _); refine wpList_yields (by kernel_rfl) (.agg F3) (ex_load 34 _ rfl w5.heap.size 0 (by kernel_rfl) F3.toList _ (rng_of (HK.out _ R7.out).2.2.1) Tryz.underlying34 rfl (by rw [Array.length_toList, H5.out.1]; kernel_rfl)) ?_)
  refine (QS.out _ F2 F3 _ _ (HK.out _ R7.out).2.2.2.2.1 (HK.out _ R7.out).2.2.2.2.2.1).mono ?_
  rintro e w8 ⟨rfl, b⟩
  have R8 := hide (Below.step R7.out b)
  clear b
  have y1 := ((HK.out _ R8.out).1.cell 106).trans (HK.out _ R8.out).2.2.2.1.lit
  have y2 := ((HK.out _ R8.out).2.1.cell 106).trans (HK.out _ R8.out).2.2.2.2.1.lit
  go_wp2_with fail
  refine (apart2 w.heap.size (HK.out _ R8.out).2.2.2.2.2.2.2.2.size (HK.out _ R8.out).2.2.2.2.2.2.1 (HK.out _ R8.out).2.2.2.2.2.2.2.1 HA.out HLL.out HLL.out).mono ?_
  rintro e w9 ⟨rfl, b⟩
  have R9 := hide ((HK.out _ R8.out).2.2.2.2.2.2.2.2.trans b)
  clear b y1 y2
  go_wp2_with fail
  refine (QA.out _ R9.out).mono ?_
  rintro e w10 ⟨rfl, b⟩
  have R10 := hide (Below.step R9.out b)
  clear b
  go_wp2
  go_ret
  exact ⟨rfl, R10.out⟩
end Go.Proofs.YtcpceaflnnkhnaaGreatDoor
