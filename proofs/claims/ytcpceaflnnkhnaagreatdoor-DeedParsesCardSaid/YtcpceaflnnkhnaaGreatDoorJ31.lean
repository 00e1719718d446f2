/- Joined texts: DdBack. -/
import Derived.Test.YtcpceaflnnkhnaaGreatDoorJ18

/- The law DeedBack. (Printed by wip/ddback.py.) -/
namespace Go.Proofs.YtcpceaflnnkhnaaGreatDoor
open Go.RowKit

theorem range_of {W : World} {g : Nat} {t : TypeId} {cs : Array Value} (h : Blk W g t cs) : W.rangeAt g 0 cs.toList := fun j u hu => by rw [Nat.zero_add, h.cell j]; simpa using hu
theorem decode_at (l : List UInt8) : (decode l).2.1 ≤ l.length := by
  unfold decode
  split
  · rename_i i hi
    unfold bad at hi
    rw [List.findIdx?_eq_some_iff_getElem] at hi
    obtain ⟨hk, _⟩ := hi
    simp only []
    omega
  · split
    · simp only []; omega
    · simp only []; omega
theorem place_lt (l : List UInt8) (i : Nat) (h : i < (flds l).length) : place (flds l) i + (part_ (flds l) i).length ≤ l.length := by
  have h1 := place_succ (flds l) i ((flds l)[i]) (List.getElem?_eq_getElem h)
  have h2 := place_le l (i + 1)
  have h3 : part_ (flds l) i = (flds l)[i] := by unfold part_; rw [List.getD_eq_getElem?_getD, List.getElem?_eq_getElem h]; rfl
  rw [h3]
  omega
theorem ltrF_bd {l : List UInt8} {i lo hi a er : Nat} (hi2 : i < (flds l).length) (h : ltrF (flds l) i lo hi = some (a, er)) : a ≤ l.length ∧ er ≠ 0 := by
  unfold ltrF at h
  split at h
  · rename_i hE
    injection h with h
    injection h with h1 h2
    subst h1 h2
    have h3 := place_lt l i hi2
    have h4 := decode_at (part_ (flds l) i)
    refine ⟨?_, hE⟩
    unfold ltrO
    split <;> omega
  · cases h
theorem numF_bd {l : List UInt8} {i a er : Nat} {m : Int} (hi2 : i < (flds l).length) (h : numF (flds l) i m = some (a, er)) : a ≤ l.length ∧ er ≠ 0 := by
  unfold numF at h
  split at h
  · injection h with h
    injection h with h1 h2
    subst h1 h2
    have h3 := place_lt l i hi2
    exact ⟨by omega, by omega⟩
  · cases h
theorem first_some {x y : Option (Nat × Nat)} {q : Nat × Nat} (h : first_ x y = some q) : x = some q ∨ y = some q := by
  unfold first_ at h
  cases x with
  | none => exact .inr h
  | some z => exact .inl h
/-- Where the fault is: in the text, or just behind it. -/
theorem capF_bd {l : List UInt8} {a er : Nat} (h : capF l = some (a, er)) : a ≤ l.length ∧ er ≠ 0 := by
  unfold capF at h
  split at h
  · injection h with h; injection h with h1 h2; omega
  split at h
  · injection h with h; injection h with h1 h2; omega
  split at h
  · injection h with h; injection h with h1 h2; omega
  rename_i hl _ hn
  split at h
  · injection h with h; injection h with h1 h2
    have := place_lt l 1 (by omega)
    omega
  · rename_i k d hk
    have hw : want k = 3 ∨ want k = 8 := by unfold want; split <;> omega
    split at h
    · injection h with h; injection h with h1 h2; omega
    split at h
    · injection h with h; injection h with h1 h2
      have := place_lt l (want k) (by assumption)
      omega
    · have hlen : (flds l).length = want k := by omega
      rcases first_some h with h | h
      · unfold bodyF at h
        split at h
        · rename_i hk3
          exact ltrF_bd (by omega) h
        · rename_i hk3
          have h8 : want k = 8 := by unfold want; rw [if_neg hk3]
          rcases first_some h with h | h
          · exact ltrF_bd (by omega) h
          rcases first_some h with h | h
          · exact ltrF_bd (by omega) h
          rcases first_some h with h | h
          · exact numF_bd (by omega) h
          rcases first_some h with h | h
          · exact numF_bd (by omega) h
          rcases first_some h with h | h
          · exact numF_bd (by omega) h
          · exact numF_bd (by omega) h
      · unfold mayF at h
        split at h
        · cases h
        · injection h with h; injection h with h1 h2; omega
theorem capC_in (l : List UInt8) : (capC l).in64 := by
  unfold capC
  split
  · exact CP.zero_in
  · exact capOf_in _ _ _
/-- What Parse answers where a text is read. -/
theorem parsed_ok (s : ByteArray) (mx : Int) (w : World) (hs : s.size ≤ 9223372036854775807) (hm : w.cell? ⟨1, 0, none⟩ = some (.int .i64 mx)) (ht : Tab w) (he : Err w) (hh : Handle w) (hF : capF (lst s) = none) :
    Calls Tryz.prog 10 #[.string s] w fun e w' => ∃ A n k F, e = .returned (.tuple #[.agg F, .int .i64 0, .int .i64 0]) ∧ F.size = 107 ∧ F.all (·.oneCell') = true ∧ Capy w' F (capC (lst s)) (.slice A n k) ∧ Below w.heap.size w w' :=
  (parsed_any s mx w hs hm ht he hh).mono (by
    rintro e w' ⟨hb, h1, -⟩
    obtain ⟨A, n, k, rfl, ho⟩ := h1 hF
    have hwf := (text_parse hF).2.1
    exact ⟨A, n, k, _, rfl, CP.cells_size hwf _, CP.cells_one _ _ _ _, ⟨rfl, hwf, capC_in _, ho.by_⟩, hb⟩)
theorem parsed_no (s : ByteArray) (mx : Int) (a er : Nat) (w : World) (hs : s.size ≤ 9223372036854775807) (hm : w.cell? ⟨1, 0, none⟩ = some (.int .i64 mx)) (ht : Tab w) (he : Err w) (hh : Handle w) (hF : capF (lst s) = some (a, er)) :
    Calls Tryz.prog 10 #[.string s] w fun e w' => ∃ F : Array Value, e = .returned (.tuple #[.agg F, .int .i64 ((a : Nat) : Int), .int .i64 ((er : Nat) : Int)]) ∧ F.size = 107 ∧ F.all (·.oneCell') = true ∧ Below w.heap.size w w' :=
  (parsed_any s mx w hs hm ht he hh).mono (by
    rintro e w' ⟨hb, -, h1⟩
    exact ⟨_, h1 a er hF, CP.cells_size CP.zero_wf _, CP.zero_one, hb⟩)
set_option maxRecDepth 100000 in
set_option maxHeartbeats 8000000 in
theorem law_deedback (cs : Array Value) (c : CP) (v : Value) (s : ByteArray) (mx : Int) (w : World) (hs : s.size ≤ 9223372036854775807) (h : Capy w cs c v) (hm : w.cell? ⟨1, 0, none⟩ = some (.int .i64 mx)) (ht : Tab w) (he : Err w) (hh : Handle w) :
    Calls Tryz.prog 5 #[.agg cs, .string s] w fun e w' => e = .returned (.bool true) ∧ Below w.heap.size w w' := by
  obtain ⟨W, hW⟩ : ∃ W, W = w.alloc (.cells cs 34) := ⟨_, rfl⟩
  have HW := hide hW
  have HB := hide (show Blk W w.heap.size 34 cs ∧ Below w.heap.size w W from by
    rw [hW]
    exact ⟨Blk.new w 34 cs, (Below.refl w.heap.size w).alloc (Nat.le_refl _) _⟩)
  have HZ := hide h.size
  have P1 := hide (fun W (hW : Below w.heap.size w W) => print_val cs c v W (h.below hW) (ht.below hW))
  have QA := hide (fun W (hW : Below w.heap.size w W) => awake_any mx W ((hW.cell (World.block_lt_of_cell? _ _ hm)).trans hm) (ht.below hW) (he.below hW) (hh.below hW))
  have QC := hide (fun W (hW : Below w.heap.size w W) => check_cap cs c v W (h.below hW))
  have QS : Hid (∀ W F u, Below w.heap.size w W → Capy W F c u → Calls Tryz.prog 16 #[.agg cs, .agg F] W fun e w' => e = .returned (.bool true) ∧ Below W.heap.size W w') := hide fun W F u hW hF => by
    have := same_cap cs F c c v u W (h.below hW) hF
    rwa [decide_eq_true rfl] at this
  have PA : Hid (c.may → ∀ W, Below w.heap.size w W → Calls Tryz.prog 10 #[.string (prS c)] W fun e w' => ∃ A n k F, e = .returned (.tuple #[.agg F, .int .i64 0, .int .i64 0]) ∧ F.size = 107 ∧ F.all (·.oneCell') = true ∧ Capy w' F c (.slice A n k) ∧ Below W.heap.size W w') := hide fun hmay W hW => by
    have ht1 : lst (prS c) = c.text := by unfold prS; rw [if_pos hmay, lst_mk]
    have hp := parse_text h.wf hmay
    rw [← ht1] at hp
    obtain ⟨g1, g2⟩ : capF (lst (prS c)) = none ∧ capC (lst (prS c)) = c := by
      unfold parseC at hp
      cases hF : capF (lst (prS c)) with
      | some q =>
        rw [hF] at hp
        simp only [Prod.mk.injEq] at hp
        have := (capF_bd (a := q.1) (er := q.2) hF).2
        exact absurd hp.2.2 this
      | none =>
        rw [hF] at hp
        simp only [Prod.mk.injEq] at hp
        exact ⟨rfl, hp.1⟩
    have := parsed_ok (prS c) mx W (by have := text_len h.wf hmay; rw [← ht1, lst_len] at this; omega) ((hW.cell (World.block_lt_of_cell? _ _ hm)).trans hm) (ht.below hW) (he.below hW) (hh.below hW) g1
    rwa [g2] at this
  have HL : Hid (c.may → (prS c).size ≤ 124) := hide fun hmay => by
    have h1 := text_len h.wf hmay
    have ht1 : lst (prS c) = c.text := by unfold prS; rw [if_pos hmay, lst_mk]
    rwa [← ht1, lst_len] at h1
  unfold prE at P1
  cases hF : capF (lst s) with
  | some q =>
    obtain ⟨a, er⟩ := q
    obtain ⟨hab, her⟩ := capF_bd hF
    rw [lst_len] at hab
    have PB := hide (fun W (hW : Below w.heap.size w W) => parsed_no s mx a er W hs ((hW.cell (World.block_lt_of_cell? _ _ hm)).trans hm) (ht.below hW) (he.below hW) (hh.below hW) hF)
    have her2 : (((er : Nat) : Int) != 0) = true := by rw [bne_iff_ne]; omega
    have ia : (0 : Int) ≤ (a : Int) := by omega
    have ib : (a : Int) ≤ (s.size : Int) := by omega
    by_cases hmay : c.may
    · rw [if_pos hmay] at P1 QC
      have PA := hide (PA.out hmay)
      have hl := HL.out hmay
      generalize prS c = sa at *
      have hl2 : ¬ (124 : Int) < (sa.size : Int) := by omega
      clear h hm ht he hh hF hW hmay HL hab her QC hl
      go_enter Tryz.func5, Tryz.ntmps5
      go_upto_region 1 with fail
      rw [← HW.out]
      go_wp2_with ((with_reducible change wpList _ _ _ (⟨some 16, _, _, _, _, _⟩ :: _) _ _); refine wpList_load_row (o := ⟨some 16, .load _ _, _, _, _, _⟩) rfl 34 _ rfl w.heap.size rfl 34 cs (0, 0) _ HB.out.1 Tryz.underlying34 rfl (by rw [HZ.out]; kernel_rfl) ?_)
      refine (P1.out _ HB.out.2).mono ?_
      rintro e w1 ⟨rfl, b1⟩
      have H1 := hide (And.intro (HB.out.1.below' b1) (Below.step HB.out.2 b1))
      clear b1
      go_wp2_with fail
      refine (PA.out _ H1.out.2).mono ?_
      rintro e w2 ⟨A, n, k, F, rfl, f1, f2, hcy, b2⟩
      have H2 := hide (And.intro (H1.out.1.below' b2) (Below.step H1.out.2 b2))
      have HF := hide (And.intro f1 (And.intro f2 hcy))
      clear b2 f1 f2 hcy
      go_wp2_with first
        | ((with_reducible change wpList _ _ _ (⟨none, .store _ (.tmp 7) _, _, _, _, _⟩ :: _) _ _); go_loud (refine wpList_store_row (o := ⟨none, .store _ (.tmp 7) _, _, _, _, _⟩) (Blk.new w2 34 Tryz.zeroCells34) F (by rw [HF.out.1]; kernel_rfl) HF.out.2.1 rfl 34 _ _ rfl (by rw [HF.out.1]; kernel_rfl) rfl rfl ?_; intro w3 hb hg; have H3 := hide (show Blk w3 w2.heap.size 34 F ∧ Below w2.heap.size w2 w3 from ⟨hb, (Below.al0 (Below.refl w2.heap.size w2) _).grown hg (by simp) (fun k hk => by injection hk with hk; omega)⟩); clear hb hg))
        | ((with_reducible change wpList _ _ _ (⟨some 35, _, _, _, _, _⟩ :: _) _ _); refine wpList_yields (by kernel_rfl) (.agg cs) (ex_load 34 _ rfl w.heap.size 0 (by kernel_rfl) cs.toList _ (range_of (H2.out.1.below' H3.out.2)) Tryz.underlying34 rfl (by rw [Array.length_toList, HZ.out]; kernel_rfl)) ?_)
        | ((with_reducible change wpList _ _ _ (⟨some 36, _, _, _, _, _⟩ :: _) _ _); refine wpList_yields (by kernel_rfl) (.agg F) (ex_load 34 _ rfl w2.heap.size 0 (by kernel_rfl) F.toList _ (range_of H3.out.1) Tryz.underlying34 rfl (by rw [Array.length_toList, HF.out.1]; kernel_rfl)) ?_)
      refine (QS.out w3 F _ (Below.step H2.out.2 H3.out.2) (HF.out.2.2.below H3.out.2)).mono ?_
      rintro e w4 ⟨rfl, b4⟩
      have H4 := hide (Below.step (Below.step H2.out.2 H3.out.2) b4)
      clear b4
      go_wp2_with fail
      refine (PB.out _ H4.out).mono ?_
      rintro e w5 ⟨F', rfl, f1, f2, b5⟩
      have H5 := hide (Below.step H4.out b5)
      have HG := hide (And.intro f1 f2)
      clear b5 f1 f2
      go_wp2_with ((with_reducible change wpList _ _ _ (⟨none, .store _ (.tmp 10) _, _, _, _, _⟩ :: _) _ _); go_loud (refine wpList_store_row (o := ⟨none, .store _ (.tmp 10) _, _, _, _, _⟩) (Blk.new w5 34 Tryz.zeroCells34) F' (by rw [HG.out.1]; kernel_rfl) HG.out.2 rfl 34 _ _ rfl (by rw [HG.out.1]; kernel_rfl) rfl rfl ?_; intro w6 hb hg; have H6 := hide (show Blk w6 w5.heap.size 34 F' ∧ Below w5.heap.size w5 w6 from ⟨hb, (Below.al0 (Below.refl w5.heap.size w5) _).grown hg (by simp) (fun k hk => by injection hk with hk; omega)⟩); clear hb hg))
      refine (QA.out _ (Below.step H5.out H6.out.2)).mono ?_
      rintro e w8 ⟨rfl, b8⟩
      have H8 := hide (Below.step (Below.step H5.out H6.out.2) b8)
      clear b8
      go_wp2
      go_ret
      exact ⟨rfl, H8.out⟩
    · rw [if_neg hmay] at P1 QC
      have e0 : prS c = ⟨#[]⟩ := by unfold prS; rw [if_neg hmay]
      rw [e0] at P1
      clear h hm ht he hh hF hW hmay HL PA hab her e0
      go_enter Tryz.func5, Tryz.ntmps5
      go_upto_region 1 with fail
      rw [← HW.out]
      go_wp2_with ((with_reducible change wpList _ _ _ (⟨some 16, _, _, _, _, _⟩ :: _) _ _); refine wpList_load_row (o := ⟨some 16, .load _ _, _, _, _, _⟩) rfl 34 _ rfl w.heap.size rfl 34 cs (0, 0) _ HB.out.1 Tryz.underlying34 rfl (by rw [HZ.out]; kernel_rfl) ?_)
      refine (P1.out _ HB.out.2).mono ?_
      rintro e w1 ⟨rfl, b1⟩
      have H1 := hide (And.intro (HB.out.1.below' b1) (Below.step HB.out.2 b1))
      clear b1
      go_wp2_with ((with_reducible change wpList _ _ _ (⟨some 52, _, _, _, _, _⟩ :: _) _ _); refine wpList_yields (by kernel_rfl) (.agg cs) (ex_load 34 _ rfl w.heap.size 0 (by kernel_rfl) cs.toList _ (range_of H1.out.1) Tryz.underlying34 rfl (by rw [Array.length_toList, HZ.out]; kernel_rfl)) ?_)
      refine (QC.out _ H1.out.2).mono ?_
      rintro e w4 ⟨rfl, b4⟩
      have H4 := hide (Below.step H1.out.2 b4)
      clear b4
      go_wp2_with fail
      refine (PB.out _ H4.out).mono ?_
      rintro e w5 ⟨F', rfl, f1, f2, b5⟩
      have H5 := hide (Below.step H4.out b5)
      have HG := hide (And.intro f1 f2)
      clear b5 f1 f2
      go_wp2_with ((with_reducible change wpList _ _ _ (⟨none, .store _ (.tmp 10) _, _, _, _, _⟩ :: _) _ _); go_loud (refine wpList_store_row (o := ⟨none, .store _ (.tmp 10) _, _, _, _, _⟩) (Blk.new w5 34 Tryz.zeroCells34) F' (by rw [HG.out.1]; kernel_rfl) HG.out.2 rfl 34 _ _ rfl (by rw [HG.out.1]; kernel_rfl) rfl rfl ?_; intro w6 hb hg; have H6 := hide (show Blk w6 w5.heap.size 34 F' ∧ Below w5.heap.size w5 w6 from ⟨hb, (Below.al0 (Below.refl w5.heap.size w5) _).grown hg (by simp) (fun k hk => by injection hk with hk; omega)⟩); clear hb hg))
      refine (QA.out _ (Below.step H5.out H6.out.2)).mono ?_
      rintro e w8 ⟨rfl, b8⟩
      have H8 := hide (Below.step (Below.step H5.out H6.out.2) b8)
      clear b8
      go_wp2
      go_ret
      exact ⟨rfl, H8.out⟩
  | none =>
    have PB := hide (fun W (hW : Below w.heap.size w W) => parsed_ok s mx W hs ((hW.cell (World.block_lt_of_cell? _ _ hm)).trans hm) (ht.below hW) (he.below hW) (hh.below hW) hF)
    obtain ⟨t1, t2, t3⟩ := text_parse hF
    have PD : Hid (∀ W F u, Below w.heap.size w W → Capy W F (capC (lst s)) u → Calls Tryz.prog 18 #[.agg F] W fun e w' => e = .returned (.tuple #[.string s, .int .i64 0]) ∧ Below W.heap.size W w') := hide fun W F u hW hF => by
      have := print_val F _ u W hF (ht.below hW)
      unfold prE at this
      rw [if_pos t1, show prS (capC (lst s)) = s from lst_inj (by unfold prS; rw [if_pos t1, lst_mk, t3])] at this
      exact this
    generalize capC (lst s) = d at *
    by_cases hmay : c.may
    · rw [if_pos hmay] at P1 QC
      have PA := hide (PA.out hmay)
      have hl := HL.out hmay
      generalize prS c = sa at *
      have hl2 : ¬ (124 : Int) < (sa.size : Int) := by omega
      clear h hm ht he hh hF hW hmay HL QC hl t1 t2 t3
      go_enter Tryz.func5, Tryz.ntmps5
      go_upto_region 1 with fail
      rw [← HW.out]
      go_wp2_with ((with_reducible change wpList _ _ _ (⟨some 16, _, _, _, _, _⟩ :: _) _ _); refine wpList_load_row (o := ⟨some 16, .load _ _, _, _, _, _⟩) rfl 34 _ rfl w.heap.size rfl 34 cs (0, 0) _ HB.out.1 Tryz.underlying34 rfl (by rw [HZ.out]; kernel_rfl) ?_)
      refine (P1.out _ HB.out.2).mono ?_
      rintro e w1 ⟨rfl, b1⟩
      have H1 := hide (And.intro (HB.out.1.below' b1) (Below.step HB.out.2 b1))
      clear b1
      go_wp2_with fail
      refine (PA.out _ H1.out.2).mono ?_
      rintro e w2 ⟨A, n, k, F, rfl, f1, f2, hcy, b2⟩
      have H2 := hide (And.intro (H1.out.1.below' b2) (Below.step H1.out.2 b2))
      have HF := hide (And.intro f1 (And.intro f2 hcy))
      clear b2 f1 f2 hcy
      go_wp2_with first
        | ((with_reducible change wpList _ _ _ (⟨none, .store _ (.tmp 7) _, _, _, _, _⟩ :: _) _ _); go_loud (refine wpList_store_row (o := ⟨none, .store _ (.tmp 7) _, _, _, _, _⟩) (Blk.new w2 34 Tryz.zeroCells34) F (by rw [HF.out.1]; kernel_rfl) HF.out.2.1 rfl 34 _ _ rfl (by rw [HF.out.1]; kernel_rfl) rfl rfl ?_; intro w3 hb hg; have H3 := hide (show Blk w3 w2.heap.size 34 F ∧ Below w2.heap.size w2 w3 from ⟨hb, (Below.al0 (Below.refl w2.heap.size w2) _).grown hg (by simp) (fun k hk => by injection hk with hk; omega)⟩); clear hb hg))
        | ((with_reducible change wpList _ _ _ (⟨some 35, _, _, _, _, _⟩ :: _) _ _); refine wpList_yields (by kernel_rfl) (.agg cs) (ex_load 34 _ rfl w.heap.size 0 (by kernel_rfl) cs.toList _ (range_of (H2.out.1.below' H3.out.2)) Tryz.underlying34 rfl (by rw [Array.length_toList, HZ.out]; kernel_rfl)) ?_)
        | ((with_reducible change wpList _ _ _ (⟨some 36, _, _, _, _, _⟩ :: _) _ _); refine wpList_yields (by kernel_rfl) (.agg F) (ex_load 34 _ rfl w2.heap.size 0 (by kernel_rfl) F.toList _ (range_of H3.out.1) Tryz.underlying34 rfl (by rw [Array.length_toList, HF.out.1]; kernel_rfl)) ?_)
      refine (QS.out w3 F _ (Below.step H2.out.2 H3.out.2) (HF.out.2.2.below H3.out.2)).mono ?_
      rintro e w4 ⟨rfl, b4⟩
      have H4 := hide (Below.step (Below.step H2.out.2 H3.out.2) b4)
      clear b4
      go_wp2_with fail
      refine (PB.out _ H4.out).mono ?_
      rintro e w5 ⟨A', n', k', F', rfl, f1, f2, hcy, b5⟩
      have H5 := hide (Below.step H4.out b5)
      have HG := hide (And.intro f1 (And.intro f2 hcy))
      clear b5 f1 f2 hcy
      go_wp2_with first
        | ((with_reducible change wpList _ _ _ (⟨none, .store _ (.tmp 10) _, _, _, _, _⟩ :: _) _ _); go_loud (refine wpList_store_row (o := ⟨none, .store _ (.tmp 10) _, _, _, _, _⟩) (Blk.new w5 34 Tryz.zeroCells34) F' (by rw [HG.out.1]; kernel_rfl) HG.out.2.1 rfl 34 _ _ rfl (by rw [HG.out.1]; kernel_rfl) rfl rfl ?_; intro w6 hb hg; have H6 := hide (show Blk w6 w5.heap.size 34 F' ∧ Below w5.heap.size w5 w6 from ⟨hb, (Below.al0 (Below.refl w5.heap.size w5) _).grown hg (by simp) (fun k hk => by injection hk with hk; omega)⟩); clear hb hg))
        | ((with_reducible change wpList _ _ _ (⟨some 76, _, _, _, _, _⟩ :: _) _ _); refine wpList_load_row (o := ⟨some 76, .load _ _, _, _, _, _⟩) rfl 34 _ rfl w5.heap.size rfl 34 F' (0, 0) _ H6.out.1 Tryz.underlying34 rfl (by rw [HG.out.1]; kernel_rfl) ?_)
      refine (PD.out w6 F' _ (Below.step H5.out H6.out.2) (HG.out.2.2.below H6.out.2)).mono ?_
      rintro e w7 ⟨rfl, b7⟩
      have H7 := hide (Below.step (Below.step H5.out H6.out.2) b7)
      clear b7
      go_wp2_with fail
      refine (QA.out _ H7.out).mono ?_
      rintro e w8 ⟨rfl, b8⟩
      have H8 := hide (Below.step H7.out b8)
      clear b8
      go_wp2
      go_ret
      exact ⟨rfl, H8.out⟩
    · rw [if_neg hmay] at P1 QC
      have e0 : prS c = ⟨#[]⟩ := by unfold prS; rw [if_neg hmay]
      rw [e0] at P1
      clear h hm ht he hh hF hW hmay HL PA e0 t1 t2 t3
      go_enter Tryz.func5, Tryz.ntmps5
      go_upto_region 1 with fail
      rw [← HW.out]
      go_wp2_with ((with_reducible change wpList _ _ _ (⟨some 16, _, _, _, _, _⟩ :: _) _ _); refine wpList_load_row (o := ⟨some 16, .load _ _, _, _, _, _⟩) rfl 34 _ rfl w.heap.size rfl 34 cs (0, 0) _ HB.out.1 Tryz.underlying34 rfl (by rw [HZ.out]; kernel_rfl) ?_)
      refine (P1.out _ HB.out.2).mono ?_
      rintro e w1 ⟨rfl, b1⟩
      have H1 := hide (And.intro (HB.out.1.below' b1) (Below.step HB.out.2 b1))
      clear b1
      go_wp2_with ((with_reducible change wpList _ _ _ (⟨some 52, _, _, _, _, _⟩ :: _) _ _); refine wpList_yields (by kernel_rfl) (.agg cs) (ex_load 34 _ rfl w.heap.size 0 (by kernel_rfl) cs.toList _ (range_of H1.out.1) Tryz.underlying34 rfl (by rw [Array.length_toList, HZ.out]; kernel_rfl)) ?_)
      refine (QC.out _ H1.out.2).mono ?_
      rintro e w4 ⟨rfl, b4⟩
      have H4 := hide (Below.step H1.out.2 b4)
      clear b4
      go_wp2_with fail
      refine (PB.out _ H4.out).mono ?_
      rintro e w5 ⟨A', n', k', F', rfl, f1, f2, hcy, b5⟩
      have H5 := hide (Below.step H4.out b5)
      have HG := hide (And.intro f1 (And.intro f2 hcy))
      clear b5 f1 f2 hcy
      go_wp2_with first
        | ((with_reducible change wpList _ _ _ (⟨none, .store _ (.tmp 10) _, _, _, _, _⟩ :: _) _ _); go_loud (refine wpList_store_row (o := ⟨none, .store _ (.tmp 10) _, _, _, _, _⟩) (Blk.new w5 34 Tryz.zeroCells34) F' (by rw [HG.out.1]; kernel_rfl) HG.out.2.1 rfl 34 _ _ rfl (by rw [HG.out.1]; kernel_rfl) rfl rfl ?_; intro w6 hb hg; have H6 := hide (show Blk w6 w5.heap.size 34 F' ∧ Below w5.heap.size w5 w6 from ⟨hb, (Below.al0 (Below.refl w5.heap.size w5) _).grown hg (by simp) (fun k hk => by injection hk with hk; omega)⟩); clear hb hg))
        | ((with_reducible change wpList _ _ _ (⟨some 76, _, _, _, _, _⟩ :: _) _ _); refine wpList_load_row (o := ⟨some 76, .load _ _, _, _, _, _⟩) rfl 34 _ rfl w5.heap.size rfl 34 F' (0, 0) _ H6.out.1 Tryz.underlying34 rfl (by rw [HG.out.1]; kernel_rfl) ?_)
      refine (PD.out w6 F' _ (Below.step H5.out H6.out.2) (HG.out.2.2.below H6.out.2)).mono ?_
      rintro e w7 ⟨rfl, b7⟩
      have H7 := hide (Below.step (Below.step H5.out H6.out.2) b7)
      clear b7
      go_wp2_with fail
      refine (QA.out _ H7.out).mono ?_
      rintro e w8 ⟨rfl, b8⟩
      have H8 := hide (Below.step H7.out b8)
      clear b8
      go_wp2
      go_ret
      exact ⟨rfl, H8.out⟩
end Go.Proofs.YtcpceaflnnkhnaaGreatDoor
