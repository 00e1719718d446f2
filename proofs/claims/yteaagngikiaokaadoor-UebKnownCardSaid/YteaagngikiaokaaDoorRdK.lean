/- The law UebKnown. -/
import Derived.Test.YteaagngikiaokaaDoorRdJ
namespace Go.Proofs.YteaagngikiaokaaDoor
open Go.RowKit

theorem knownU (w : World) : Calls Tryd.prog 32 #[] w fun e w' => e = .returned (.agg kU.cells) ∧ Below w.heap.size w w' := known_any w
theorem krows1 (w : World) : Rws (w.alloc (.cells #[.string ⟨#[98]⟩, .slice none 0 0, .string ⟨#[97]⟩, .slice none 0 0] 55)) (.slice (some ⟨w.heap.size, 0, none⟩) 2 2) [(⟨#[98]⟩, .slice none 0 0, []), (⟨#[97]⟩, .slice none 0 0, [])] := by
  have hb := blk_new' w w.heap.size 55 #[.string ⟨#[98]⟩, .slice none 0 0, .string ⟨#[97]⟩, .slice none 0 0] rfl
  have := hb.own (base := 0) (e := 55) (n := 2) (cap := 2) (sz := 2) rfl (Nat.zero_le _) rfl (Nat.le_refl _) (by unfold maxLen; omega)
  refine ⟨Sl.of_own this, fun x hx => ?_⟩
  simp only [List.mem_cons, List.mem_nil_iff, or_false] at hx
  rcases hx with rfl | rfl
  · exact By.nil _
  · exact By.nil _
theorem krows2 (w : World) : Rws ((w.alloc (.cells #[.int .u8 120, .int .u8 121, .int .u8 122] 5 (3, 4))).alloc (.cells #[.string ⟨#[97]⟩, .slice (some ⟨w.heap.size, 0, none⟩) 3 3, .string ⟨#[98]⟩, .slice none 0 0] 55)) (.slice (some ⟨w.heap.size + 1, 0, none⟩) 2 2) [(⟨#[97]⟩, .slice (some ⟨w.heap.size, 0, none⟩) 3 3, [120, 121, 122]), (⟨#[98]⟩, .slice none 0 0, [])] := by
  have hb := blk_new' (w.alloc (.cells #[.int .u8 120, .int .u8 121, .int .u8 122] 5 (3, 4))) (w.heap.size + 1) 55 #[.string ⟨#[97]⟩, .slice (some ⟨w.heap.size, 0, none⟩) 3 3, .string ⟨#[98]⟩, .slice none 0 0] (by simp)
  have := hb.own (base := 0) (e := 55) (n := 2) (cap := 2) (sz := 2) rfl (Nat.zero_le _) rfl (Nat.le_refl _) (by unfold maxLen; omega)
  refine ⟨Sl.of_own this, fun x hx => ?_⟩
  simp only [List.mem_cons, List.mem_nil_iff, or_false] at hx
  rcases hx with rfl | rfl
  · exact (by_marked w 5 (3, 4) [120, 121, 122] (by simp)).alloc _
  · exact By.nil _
def kS : Nat → ByteArray
  | 0 => ⟨#[49, 58, 97, 44, 51, 58, 120, 121, 122, 44, 49, 58, 97, 44, 48, 58, 44]⟩
  | 1 => ⟨#[48, 49, 58, 97, 44, 48, 58, 44]⟩
  | _ => ⟨#[49, 58, 97, 44, 49, 58]⟩
def kP : Nat → Nat
  | 0 => 10
  | _ => 0
theorem kround {W : World} {g h : Nat} (h1 : Blk W g 9 #[.string (kS 0), .string (kS 1), .string (kS 2)]) (h2 : Blk W h 3 #[.int .i64 10, .int .i64 0, .int .i64 0]) {i : Nat} (hi : i < 3) :
    W.cell? ⟨g, i, none⟩ = some (.string (kS i)) ∧ W.cell? ⟨h, i, none⟩ = some (.int .i64 (kP i : Int)) ∧ unpack (lst (kS i)) = ([], kP i, 131) ∧ (kS i).size ≤ 100 := by
  have hc : i = 0 ∨ i = 1 ∨ i = 2 := by omega
  rw [h1.cell, h2.cell]
  rcases hc with rfl | rfl | rfl
  · exact ⟨rfl, rfl, kunp_t1, by decide⟩
  · exact ⟨rfl, rfl, kunp_t2, by decide⟩
  · exact ⟨rfl, rfl, kunp_t3, by decide⟩

set_option maxRecDepth 100000 in
set_option maxHeartbeats 8000000 in
theorem law_uknown (w : World) (ht : Tab w) (he : Err w) : Calls Tryd.prog 9 #[] w fun e w' => e = .returned (.bool true) ∧ Below w.heap.size w w' := by
  have HT := hide (And.intro ht he)
  have Q1 := hide (awake_yes w ht)
  have kc := fun (w : World) (C : Array Value) (n c : Nat) => Lib.run_convert_bytes_const (P := Tryd.prog) w 27 5 C n c Tryd.underlying27 Tryd.underlying5
  clear ht he
  go_enter Tryd.func9, Tryd.ntmps9
  go_wp2_with fail
  refine Q1.out.mono ?_
  rintro e w1 ⟨rfl, b1⟩
  have B1 := hide b1
  have al1 := (Below.refl w1.heap.size w1).alloc (Nat.le_refl _) (.cells #[.string ⟨#[98]⟩, .slice none 0 0, .string ⟨#[97]⟩, .slice none 0 0] 55)
  have Q2 := hide (pack_any _ _ _ (krows1 w1) ((HT.out.1.below B1.out).below al1))
  have AL1 := hide al1
  clear b1 Q1 al1
  go_wp2_with fail
  refine Q2.out.mono ?_
  rintro e w2 ⟨b2, ⟨hmay, -⟩ | ⟨-, rfl⟩⟩
  · exact absurd hmay kno_ba
  have B2 := hide ((B1.out.trans (AL1.out.mono B1.out.size)).trans (b2.mono (Nat.le_trans B1.out.size AL1.out.size)))
  have al2 := (Below.refl w2.heap.size w2).alloc (Nat.le_refl _) (.cells (bcells kB1).toArray 5 (17, 18))
  have Q3 := hide (unpack_any _ kB1 _ (by_marked w2 5 (17, 18) kB1 (by decide)) (by decide) ((HT.out.1.below B2.out).below al2) ((HT.out.2.below B2.out).below al2))
  have AL2 := hide al2
  clear b2 Q2 al2 AL1
  go_wp2_with fail
  refine Q3.out.mono ?_
  rintro e w3 ⟨b3, ⟨L, v3, hu, rfl, o3⟩ | ⟨p, hu, rfl⟩⟩
  rotate_left
  · rw [kunp_1] at hu; simp at hu
  have hL : rws L = [([97], [120, 121, 122]), ([98], [])] := by
    rw [kunp_1] at hu
    exact (Prod.mk.inj hu).1.symm
  have B3 := hide ((B2.out.trans (AL2.out.mono B2.out.size)).trans (b3.mono (Nat.le_trans B2.out.size AL2.out.size)))
  have al3 := ((Below.refl w3.heap.size w3).alloc (Nat.le_refl _) (.cells #[.int .u8 120, .int .u8 121, .int .u8 122] 5 (3, 4))).alloc (by simp) (.cells #[.string ⟨#[97]⟩, .slice (some ⟨w3.heap.size, 0, none⟩) 3 3, .string ⟨#[98]⟩, .slice none 0 0] 55)
  have Q4 := hide (sameRows_eq v3 _ L _ _ (o3.rws_.below al3) (krows2 w3) (by rw [hL]; rfl))
  have AL3 := hide al3
  clear b3 Q3 al3 AL2 hu hL o3
  go_wp2_with fail
  refine Q4.out.mono ?_
  rintro e w4 ⟨rfl, b4⟩
  have B4 := hide ((B3.out.trans (AL3.out.mono B3.out.size)).trans (b4.mono (Nat.le_trans B3.out.size AL3.out.size)))
  clear b4 Q4 AL3
  go_wp2_with fail
  go_loopw [8] (fun u8 wr => ∃ i : Nat, i ≤ 3 ∧ u8 = .int .i64 (i : Int) ∧ Below w4.heap.size w4 wr ∧ Blk wr w4.heap.size 9 #[.string (kS 0), .string (kS 1), .string (kS 2)] ∧ Blk wr (w4.heap.size + 1) 3 #[.int .i64 10, .int .i64 0, .int .i64 0]) (fun u8 _ => 3 - (intOf u8).toNat)
  case atStart => exact ⟨0, by omega, rfl, ((Below.refl _ _).alloc (Nat.le_refl _) _).alloc (by simp) _, (Blk.new _ _ _).alloc _, blk_new' _ _ _ _ (by simp)⟩
  case round =>
    obtain ⟨i, hi, rfl, hb, hk1, hk2⟩ := hrel
    by_cases hlt : i < 3
    · have i1 : (i : Int) < 3 := by omega
      have i3 : (0 : Int) ≤ (i : Int) := by omega
      obtain ⟨hc1, hc2, hu, hs⟩ := kround hk1 hk2 hlt
      generalize kS i = s at *
      generalize kP i = p at *
      obtain ⟨g, cc, w6, hr, hby, b6, hg, hsz2, hcc, hcm⟩ := run_bytes_str 9 27 5 s wr Tryd.underlying9 Tryd.underlying27 Tryd.underlying5 (by unfold maxLen; omega)
      have C6 := hide (hb.trans (b6.mono hb.size))
      have K6 := hide (And.intro (hk1.below' b6) (hk2.below' b6))
      have D6 := hide ((hb.trans (b6.mono hb.size)))
      have T6 := hide (B4.out.trans (C6.out.mono B4.out.size))
      have hc6 : w6.cell? ⟨w4.heap.size + 1, i, none⟩ = some (.int .i64 (p : Int)) := (b6.cell (p := ⟨w4.heap.size + 1, i, none⟩) hk2.lt).trans hc2
      have HC6 := hide hc6
      have HK := hide (hk2.below' b6).lt
      have HU := hide hu
      have Q7 := hide (unpack_any _ (lst s) w6 hby (by rw [lst_len]; omega) (HT.out.1.below T6.out) (HT.out.2.below T6.out))
      clear hby b6 hg hsz2 hcc hcm hb hk1 hk2 hu hc6 hc2
      go_wp2_with fail
      refine Q7.out.mono ?_
      rintro e w7 ⟨b7, ⟨L, v7, hu', rfl, o7⟩ | ⟨p', hu', rfl⟩⟩
      · rw [HU.out] at hu'; simp at hu'
      · obtain rfl : p' = p := by
          rw [HU.out] at hu'
          simp only [Prod.mk.injEq] at hu'
          exact hu'.2.1.symm
        have hc7 : w7.cell? ⟨w4.heap.size + 1, i, none⟩ = some (.int .i64 (p' : Int)) := (b7.cell (p := ⟨w4.heap.size + 1, i, none⟩) HK.out).trans HC6.out
        have C7 := hide (C6.out.trans (b7.mono C6.out.size))
        have K7 := hide (And.intro (K6.out.1.below' b7) (K6.out.2.below' b7))
        clear b7 hu' Q7
        go_wp2_with fail
        go_roundw
        case rel => exact ⟨i + 1, by omega, by go_num, C7.out, K7.out.1, K7.out.2⟩
        case measure => simp [intOf]; omega
    · have hi3 : i = 3 := by omega
      subst hi3
      have C5 := hide (B4.out.trans (hb.mono B4.out.size))
      have Q8 := hide (unpack_any (.slice none 0 0) [] wr (By.nil wr) (by decide) (HT.out.1.below C5.out) (HT.out.2.below C5.out))
      clear hb hk1 hk2
      go_wp2_with fail
      refine Q8.out.mono ?_
      rintro e w7 ⟨b7, ⟨L, v7, hu, rfl, o7⟩ | ⟨p, hu, rfl⟩⟩
      rotate_left
      · rw [kunp_nil] at hu; simp at hu
      obtain ⟨_, A7, c7, hv7, _⟩ := Sl.of_own o7.1
      have hL0 : L.length = 0 := by
        rw [kunp_nil] at hu
        have := (Prod.mk.inj hu).1
        rw [← rws_length, ← this]; rfl
      subst hv7
      rw [hL0]
      have C7 := hide (C5.out.trans (b7.mono C5.out.size))
      clear b7 o7 hu hL0 Q8
      go_wp2_with fail
      refine (knownU w7).mono ?_
      rintro e w8 ⟨rfl, b8⟩
      have C8 := hide (C7.out.trans (b8.mono C7.out.size))
      have Q9 := hide (writeU_ok kU kU_wf kU_may w8 (HT.out.1.below C8.out))
      clear b8
      go_wp2_with fail
      refine Q9.out.mono ?_
      rintro e w9 ⟨b9, A9, c9, rfl, o9⟩
      have C9 := hide (C8.out.trans (b9.mono C8.out.size))
      have hs89 := b9.size
      have O9 := hide (o9.alloc (.cells (bcells kZ).toArray 5 (7, 8)))
      have D9 := hide ((Below.refl w8.heap.size w8).trans b9 |>.alloc hs89 (.cells (bcells kZ).toArray 5 (7, 8)))
      have YZ := hide (by_marked w9 5 (7, 8) kZ (by decide))
      have HLEN := hide (show (writeU kU).length + kZ.length ≤ 140737488355328 by have := writeU_len kU_wf kU_may; have : kZ.length = 7 := rfl; omega)
      clear b9 o9 Q9
      go_wp2_with (at_builtin; go_loud (refine wpList_pushV elem8 O9.out D9.out D9.out.size YZ.out HLEN.out rfl _ _ rfl rfl rfl ?_); intro v10 w10 ho10 hb10 _ _)
      have C10 := hide (C8.out.trans (hb10.mono C8.out.size))
      have q10 := read_any v10 _ w10 ho10.by_ (by have := HLEN.out; simp; omega) (HT.out.1.below C10.out) (HT.out.2.below C10.out)
      rw [kread_z] at q10
      have Q10 := hide q10
      clear ho10 hb10 q10
      refine Q10.out.mono ?_
      rintro e w11 ⟨b11, rfl⟩
      unfold readV
      have C11 := hide (C10.out.trans (b11.mono C10.out.size))
      clear b11 Q10
      go_wp2_with fail
      refine (knownU w11).mono ?_
      rintro e w12 ⟨rfl, b12⟩
      have C12 := hide (C11.out.trans (b12.mono C11.out.size))
      clear b12
      have HSZ := hide (US.size_ kU_wf)
      go_wp2_with first
        | ((with_reducible show wpList _ _ _ (⟨none, .store _ (.tmp 14) _, _, _, _, _⟩ :: _) _ _); refine wpList_storeU (o := ⟨none, .store _ _ _, _, _, _, _⟩) (Blk.new w12 _ _) zcells_size kU kU_wf (ueb_one kU) rfl _ _ rfl rfl rfl ?_; intro w13 hb13 hg13; have C13 := hide (C12.out.trans ((((Below.refl _ w12).alloc (Nat.le_refl _) _).grown hg13 (by simp) (fun k hk => by cases hk; exact Nat.le_refl _)).mono C12.out.size)); have K13 := hide hb13; clear hb13 hg13)
        | ((with_reducible show wpList _ _ _ (⟨none, .store _ (.tmp 109) _, _, _, _, _⟩ :: _) _ _); refine wpList_store_blk (o := ⟨none, .store _ _ _, _, _, _, _⟩) K13.out 2 (by rw [HSZ.out]; omega) (.int .i64 64) rfl rfl 3 _ _ rfl (by kernel_rfl) rfl rfl ?_; intro w14 hb14 hg14; have C14 := hide (C13.out.grown hg14 C13.out.size (fun k hk => by cases hk; exact C12.out.size)); have K14 := hide (kU_set ▸ hb14); clear hb14 hg14)
        | ((with_reducible show wpList _ _ _ (⟨some 111, _, _, _, _, _⟩ :: _) _ _); refine wpList_loadU (o := ⟨some 111, .load _ _, _, _, _, _⟩) rfl _ rfl w12.heap.size rfl kU2 kU2_wf K14.out ?_)
      refine (writeU_bad kU2 kU2_wf kU2_in kU2_no w14).mono ?_
      rintro e w15 ⟨b15, rfl⟩
      have C15 := hide (C14.out.trans (b15.mono C14.out.size))
      clear b15
      go_wp2_with fail
      go_ret
      exact ⟨rfl, C15.out⟩
end Go.Proofs.YteaagngikiaokaaDoor
