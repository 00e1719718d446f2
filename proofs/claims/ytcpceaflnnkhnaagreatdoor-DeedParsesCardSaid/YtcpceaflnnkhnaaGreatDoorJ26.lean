/- Joined texts: RdrA, RdrB, RdrC. -/
import Derived.Test.YtcpceaflnnkhnaaGreatDoorJ23
import Derived.Test.YtcpceaflnnkhnaaGreatDoorJ19
import Derived.Test.YtcpceaflnnkhnaaGreatDoorJ24
import Derived.Test.YtcpceaflnnkhnaaGreatDoorJ3
import Derived.Test.YtcpceaflnnkhnaaGreatDoorJ25
import Derived.Test.YtcpceaflnnkhnaaGreatDoorJ1
import Derived.BigQuiet
import Derived.Deep.QuietTactic

/- The document's reader of parts: part and fail. (Printed by wip/rdra.py.) -/
namespace Go.Proofs.YtcpceaflnnkhnaaGreatDoor
open Go.RowKit
attribute [local go_sem ↓] Go.wp_at_zero Go.wp_at_succ

theorem i64_idR (x : Int) (h0 : -9223372036854775808 ≤ x) (h : x ≤ 9223372036854775807) : IntKind.i64.wrap x = x := by
  simp only [IntKind.wrap, IntKind.bits, IntKind.signed]
  simp
  omega
/-- A reader in block b over the parts ts in block g: the next part, its place, the first fault. -/
structure Rdr (W : World) (b g cap : Nat) (ts : List ByteArray) (n a fl : Nat) (er : Int) : Prop where
  blk : Blk W b 74 #[.slice (some ⟨g, 0, none⟩) ts.length cap, .int .i64 (n : Int), .int .i64 (a : Int), .int .i64 (fl : Int), .int .i64 er]
  own : OwnT W 0 (.slice (some ⟨g, 0, none⟩) ts.length cap) ts
  ne : g ≠ b
theorem OwnT.keptB {W w' : World} {base g n cap b : Nat} {ts : List ByteArray} (h : OwnT W base (.slice (some ⟨g, 0, none⟩) n cap) ts) (hg : W.grownBy w' (some b)) (hne : g ≠ b) : OwnT w' base (.slice (some ⟨g, 0, none⟩) n cap) ts :=
  World.ownsRow.kept h hg (.inr (by show some g ≠ some b; simpa using hne))
theorem grownOfBelow {W w' : World} (h : Below W.heap.size W w') (row : Option Nat) : W.grownBy w' row := ⟨h.os, h.tape, h.output, h.size, fun k hk _ => h.block k hk⟩
theorem Rdr.below {W w' : World} {b g cap : Nat} {ts : List ByteArray} {n a fl : Nat} {er : Int} (h : Rdr W b g cap ts n a fl er) (hb : Below W.heap.size W w') : Rdr w' b g cap ts n a fl er := ⟨h.blk.below' hb, h.own.below hb, h.ne⟩
theorem Rdr.cells {W : World} {b g cap : Nat} {ts : List ByteArray} {n a fl : Nat} {er : Int} (h : Rdr W b g cap ts n a fl er) : W.cell? ⟨b, 0, none⟩ = some (.slice (some ⟨g, 0, none⟩) ts.length cap) ∧ W.cell? ⟨b, 1, none⟩ = some (.int .i64 (n : Int)) ∧ W.cell? ⟨b, 2, none⟩ = some (.int .i64 (a : Int)) ∧ W.cell? ⟨b, 3, none⟩ = some (.int .i64 (fl : Int)) ∧ W.cell? ⟨b, 4, none⟩ = some (.int .i64 er) :=
  ⟨h.blk.cell 0, h.blk.cell 1, h.blk.cell 2, h.blk.cell 3, h.blk.cell 4⟩
theorem Rdr.step {W : World} {b g cap : Nat} {ts : List ByteArray} {n a fl : Nat} {er : Int} (h : Rdr W b g cap ts n a fl er) (x : ByteArray) (q : Nat) : Rdr (((W.drewN q).setCell ⟨b, 1, none⟩ (.int .i64 ((n : Int) + 1))).setCell ⟨b, 2, none⟩ (.int .i64 ((a : Int) + (x.size : Int) + 1))) b g cap ts (n + 1) (a + x.size + 1) fl er ∧ W.grownBy (((W.drewN q).setCell ⟨b, 1, none⟩ (.int .i64 ((n : Int) + 1))).setCell ⟨b, 2, none⟩ (.int .i64 ((a : Int) + (x.size : Int) + 1))) (some b) := by
  have hg : W.grownBy (((W.drewN q).setCell ⟨b, 1, none⟩ (.int .i64 ((n : Int) + 1))).setCell ⟨b, 2, none⟩ (.int .i64 ((a : Int) + (x.size : Int) + 1))) (some b) := ((grown_drewN (World.grownBy.refl W _) q).trans_ (store_grown _ b 1 _)).trans_ (store_grown _ b 2 _)
  have hb := ((h.blk.drewN q).set_ 1 (.int .i64 ((n : Int) + 1))).set_ 2 (.int .i64 ((a : Int) + (x.size : Int) + 1))
  exact ⟨⟨by push_cast; exact hb, h.own.keptB hg h.ne, h.ne⟩, hg⟩
theorem Rdr.failed {W : World} {b g cap : Nat} {ts : List ByteArray} {n a fl : Nat} {er : Int} (h : Rdr W b g cap ts n a fl er) (p q : Nat) : Rdr ((W.setCell ⟨b, 3, none⟩ (.int .i64 (p : Int))).setCell ⟨b, 4, none⟩ (.int .i64 (q : Int))) b g cap ts n a p (q : Int) ∧ W.grownBy ((W.setCell ⟨b, 3, none⟩ (.int .i64 (p : Int))).setCell ⟨b, 4, none⟩ (.int .i64 (q : Int))) (some b) := by
  have hg : W.grownBy ((W.setCell ⟨b, 3, none⟩ (.int .i64 (p : Int))).setCell ⟨b, 4, none⟩ (.int .i64 (q : Int))) (some b) := (store_grown _ b 3 _).trans_ (store_grown _ b 4 _)
  exact ⟨⟨(h.blk.set_ 3 (.int .i64 (p : Int))).set_ 4 (.int .i64 (q : Int)), h.own.keptB hg h.ne, h.ne⟩, hg⟩
set_option maxRecDepth 100000 in
set_option maxHeartbeats 8000000 in
theorem part_any (W : World) (b g cap : Nat) (ts : List ByteArray) (n a fl : Nat) (er : Int) (x : ByteArray) (h : Rdr W b g cap ts n a fl er) (hx : ts[n]? = some x) (ha : a ≤ 1000000) (hs : x.size ≤ 1000000) (hl : ts.length ≤ 1000000) :
    Calls Tryz.prog 35 #[.pointer (some ⟨b, 0, none⟩)] W fun e w' => e = .returned (.tuple #[.string x, .int .i64 (a : Int)]) ∧ Rdr w' b g cap ts (n + 1) (a + x.size + 1) fl er ∧ W.grownBy w' (some b) := by
  have hn : n < ts.length := (List.getElem?_eq_some_iff.1 hx).1
  obtain ⟨c0, c1, c2, -, -⟩ := h.cells
  have f1 := h.blk.frozen 1
  have f2 := h.blk.frozen 2
  have cx : W.cell? ⟨g, n, none⟩ = some (.string x) := by
    have := World.ownsRow.cellAt h.own n (by omega)
    rw [this, List.getElem?_map, hx]; rfl
  have hne := h.ne
  have i0 : (0 : Int) ≤ (n : Int) := by omega
  have i1 : (n : Int) < (ts.length : Int) := by omega
  have a1 : IntKind.i64.wrap ((n : Int) + 1) = (n : Int) + 1 := i64_idR _ (by omega) (by omega)
  have a2 : IntKind.i64.wrap ((a : Int) + (x.size : Int)) = (a : Int) + (x.size : Int) := i64_idR _ (by omega) (by omega)
  have a3 : IntKind.i64.wrap ((a : Int) + (x.size : Int) + 1) = (a : Int) + (x.size : Int) + 1 := i64_idR _ (by omega) (by omega)
  obtain ⟨L, hL⟩ : ∃ L, L = ts.length := ⟨_, rfl⟩
  have HR := hide h
  rw [← hL] at c0 i1
  clear h hx hn ha hs hl
  go_enter Tryz.func35, Tryz.ntmps35
  go_wp2
  go_quiet (fail)
  go_wp2
  go_ret2
  exact ⟨rfl, HR.out.step x nq⟩
/-- A reader whose first fault is st. -/
def errP (st : Option (Nat × Nat)) : Nat × Nat := st.getD (0, 0)
structure RdS (W : World) (b g cap : Nat) (ts : List ByteArray) (n : Nat) (st : Option (Nat × Nat)) : Prop where
  r : Rdr W b g cap ts n (place (ts.map lst) n) (errP st).1 ((errP st).2 : Int)
  nz : ∀ x, st = some x → x.2 ≠ 0
/-- Few and short parts. -/
structure Sm (ts : List ByteArray) : Prop where
  len : ts.length ≤ 1000
  pl : ∀ n, place (ts.map lst) n ≤ 1000
  sz : ∀ x ∈ ts, x.size ≤ 1000
theorem RdS.below {W w' : World} {b g cap : Nat} {ts : List ByteArray} {n : Nat} {st : Option (Nat × Nat)} (h : RdS W b g cap ts n st) (hb : Below W.heap.size W w') : RdS w' b g cap ts n st := ⟨h.r.below hb, h.nz⟩
theorem part_of {ts : List ByteArray} {n : Nat} {x : ByteArray} (hx : ts[n]? = some x) : part_ (ts.map lst) n = lst x := by
  unfold part_
  rw [List.getD_eq_getElem?_getD, List.getElem?_map, hx]
  rfl
theorem part_st (W : World) (b g cap : Nat) (ts : List ByteArray) (n : Nat) (st : Option (Nat × Nat)) (x : ByteArray) (h : RdS W b g cap ts n st) (hx : ts[n]? = some x) (hs : Sm ts) :
    Calls Tryz.prog 35 #[.pointer (some ⟨b, 0, none⟩)] W fun e w' => e = .returned (.tuple #[.string x, .int .i64 (place (ts.map lst) n : Int)]) ∧ RdS w' b g cap ts (n + 1) st ∧ W.grownBy w' (some b) := by
  have h1 := hs.pl n
  have h2 := hs.sz x (List.mem_of_getElem? hx)
  have h3 := hs.len
  refine (part_any W b g cap ts n _ _ _ x h.r hx (by omega) (by omega) (by omega)).mono ?_
  rintro e w' ⟨rfl, h4, h5⟩
  refine ⟨rfl, ⟨?_, h.nz⟩, h5⟩
  rw [place_succ (ts.map lst) n (lst x) (by rw [List.getElem?_map, hx]; rfl), lst_len, ← Nat.add_assoc]
  exact h4
set_option maxRecDepth 100000 in
set_option maxHeartbeats 8000000 in
theorem fail_first (W : World) (b g cap : Nat) (ts : List ByteArray) (n a p q : Nat) (h : Rdr W b g cap ts n a 0 0) :
    Calls Tryz.prog 38 #[.pointer (some ⟨b, 0, none⟩), .int .i64 (p : Int), .int .i64 (q : Int)] W fun e w' => e = .returned (.tuple #[]) ∧ Rdr w' b g cap ts n a p (q : Int) ∧ W.grownBy w' (some b) := by
  obtain ⟨-, -, -, -, c4⟩ := h.cells
  have f3 := h.blk.frozen 3
  have f4 := h.blk.frozen 4
  have c3 := h.cells.2.2.2.1
  have HR := hide h
  clear h
  go_enter Tryz.func38, Tryz.ntmps38
  go_wp2
  go_end0
  exact ⟨rfl, HR.out.failed p q⟩
set_option maxRecDepth 100000 in
set_option maxHeartbeats 8000000 in
theorem fail_later (W : World) (b g cap : Nat) (ts : List ByteArray) (n a fl p q : Nat) (er : Int) (h : Rdr W b g cap ts n a fl er) (he : ¬ er = 0) :
    Calls Tryz.prog 38 #[.pointer (some ⟨b, 0, none⟩), .int .i64 (p : Int), .int .i64 (q : Int)] W fun e w' => e = .returned (.tuple #[]) ∧ w' = W := by
  obtain ⟨-, -, -, -, c4⟩ := h.cells
  clear h
  go_enter Tryz.func38, Tryz.ntmps38
  go_wp2
  go_end0
  exact ⟨rfl, rfl⟩
theorem fail_st (W : World) (b g cap : Nat) (ts : List ByteArray) (n p q : Nat) (st : Option (Nat × Nat)) (h : RdS W b g cap ts n st) (hq : q ≠ 0) :
    Calls Tryz.prog 38 #[.pointer (some ⟨b, 0, none⟩), .int .i64 (p : Int), .int .i64 (q : Int)] W fun e w' => e = .returned (.tuple #[]) ∧ RdS w' b g cap ts n (first_ st (some (p, q))) ∧ W.grownBy w' (some b) := by
  cases st with
  | none => exact (fail_first W b g cap ts n _ p q h.r).mono fun e w' k => ⟨k.1, ⟨k.2.1, fun x hx => by injection hx with hx; subst hx; exact hq⟩, k.2.2⟩
  | some x =>
    have hx := h.nz x rfl
    refine (fail_later W b g cap ts n _ _ p q _ h.r (by show ¬ ((x.2 : Nat) : Int) = 0; omega)).mono ?_
    rintro e w' ⟨rfl, rfl⟩
    exact ⟨rfl, h, World.grownBy.refl _ _⟩
end Go.Proofs.YtcpceaflnnkhnaaGreatDoor

/- The document's reader of parts: letters and number. (Printed by wip/rdrb.py.) -/
namespace Go.Proofs.YtcpceaflnnkhnaaGreatDoor
open Go.RowKit
attribute [local go_sem ↓] Go.wp_at_zero Go.wp_at_succ

theorem make_32 : ∃ Z : Array Value, ∀ w : World, (Instr.makeSlice 32 (.int .i64 32) (.int .i64 32)).run Tryz.prog w = .ok (.slice (some ⟨w.heap.size, 0, none⟩) 32 32) (w.alloc (.cells Z 5)) := ⟨_, fun w => make_bytes 32 32 (Nat.le_refl _) (by omega) w⟩

set_option maxRecDepth 100000 in
set_option maxHeartbeats 8000000 in
theorem letters_16 (W : World) (b g cap : Nat) (ts : List ByteArray) (n : Nat) (st : Option (Nat × Nat)) (x : ByteArray) (h : RdS W b g cap ts n st) (hx : ts[n]? = some x) (hs : Sm ts) :
    Calls Tryz.prog 66 #[.pointer (some ⟨b, 0, none⟩), .int .i64 (16)] W fun e w' => ∃ A m k, e = .returned (.slice A m k) ∧ RdS w' b g cap ts (n + 1) (first_ st (ltrF (ts.map lst) n 16 16)) ∧ (ltrE (lst x) 16 16 = 0 → Own w' W.heap.size 5 (.slice A m k) (decode (lst x)).1) ∧ W.grownBy w' (some b) := by
  obtain ⟨Z32, hmk0⟩ := make_32
  have HMK := hide hmk0
  clear hmk0
  have hp := hs.pl n
  have hz := hs.sz x (List.mem_of_getElem? hx)
  have hO := decode_place x
  obtain ⟨E, hE⟩ : ∃ E, E = (decode (lst x)).2.2 := ⟨_, rfl⟩
  obtain ⟨O, hO2⟩ : ∃ O, O = (decode (lst x)).2.1 := ⟨_, rfl⟩
  obtain ⟨l, hl⟩ : ∃ l, l = (decode (lst x)).1 := ⟨_, rfl⟩
  obtain ⟨P, hP⟩ : ∃ P, P = place (ts.map lst) n := ⟨_, rfl⟩
  have Q1 := hide (part_st W b g cap ts n st x h hx hs)
  have Q2 := hide (fun W => rbytes_any x W (by omega))
  rw [← hE, ← hO2, ← hl] at Q2
  rw [← hP] at Q1 hp
  rw [← hO2] at hO
  have a1 : IntKind.i64.wrap ((P : Int) + (O : Int)) = ((P + O : Nat) : Int) := by rw [i64_idR _ (by omega) (by omega)]; push_cast; rfl
  have hw := h.r.blk.lt
  have Q3 := hide (fun W' (h : RdS W' b g cap ts (n + 1) st) (p q : Nat) (hq : q ≠ 0) => fail_st W' b g cap ts (n + 1) p q st h hq)
  have hpx := part_of hx
  have HF := hide (show (E ≠ 0 → ltrE (lst x) 16 16 = E ∧ ltrF (ts.map lst) n 16 16 = some (P + O, E)) ∧ (E = 0 → (l.length ≠ 16 → ltrE (lst x) 16 16 = 150 ∧ ltrF (ts.map lst) n 16 16 = some (P, 150)) ∧ (¬ (l.length ≠ 16) → ltrE (lst x) 16 16 = 0 ∧ ltrF (ts.map lst) n 16 16 = none)) from by
    unfold ltrF ltrO
    rw [hpx]
    unfold ltrE
    rw [← hE, ← hO2, ← hl, ← hP]
    refine ⟨fun he => ⟨by rw [if_pos he], by rw [if_pos he, if_pos he, if_pos he]⟩, fun he => ⟨fun hb => ?_, fun hb => ?_⟩⟩
    · rw [if_neg (by omega), if_pos (by omega), if_pos (by omega), if_neg (by omega)]
      exact ⟨rfl, rfl⟩
    · rw [if_neg (by omega), if_neg (by omega), if_neg (by omega)]
      exact ⟨rfl, rfl⟩)
  clear h hx hs hz hO hpx hp hE hO2 hP
  obtain ⟨m, hm⟩ : ∃ m, m = l.length := ⟨_, rfl⟩
  have HM := hide hm
  by_cases hE0 : E = 0
  rotate_left
  · have e1 : ¬ (E : Int) = 0 := by omega
    have HE := hide hE0
    clear hE0
    rw [(HF.out.1 HE.out).1, (HF.out.1 HE.out).2]
    rw [← hl]
    clear hl hm
    go_enter Tryz.func66, Tryz.ntmps66
    go_wp2_with fail
    refine Q1.out.mono ?_
    rintro e w1 ⟨rfl, r1, g1⟩
    have H1 := hide (And.intro r1 g1)
    clear r1 g1
    go_wp2_with fail
    refine (Q2.out _).mono ?_
    rintro e w2 ⟨v, rfl, ho, b2⟩
    have H2 := hide (And.intro (H1.out.1.below b2) (H1.out.2.trans_ (grownOfBelow b2 _)))
    clear ho b2
    go_wp2_with fail
    refine (Q3.out _ H2.out.1 _ _ HE.out).mono ?_
    rintro e w3 ⟨rfl, r3, g3⟩
    have H3 := hide (And.intro r3 (H2.out.2.trans_ g3))
    clear r3 g3
    have hmk := HMK.out
    go_wp2
    go_ret
    refine ⟨_, _, _, rfl, H3.out.1.below ((Below.refl _ _).alloc (Nat.le_refl _) _), fun h => absurd h HE.out, H3.out.2.trans_ (grownOfBelow ((Below.refl _ _).alloc (Nat.le_refl _) _) _)⟩
  subst hE0
  by_cases hb : l.length ≠ 16
  · have HB := hide (HF.out.2 rfl).1
    have hb2 := HB.out hb
    rw [hb2.1, hb2.2]
    rw [← hl]
    clear hb2 hl
    have d1 : ¬ (m : Int) = 16 := by omega
    clear hm
    go_enter Tryz.func66, Tryz.ntmps66
    go_wp2_with fail
    refine Q1.out.mono ?_
    rintro e w1 ⟨rfl, r1, g1⟩
    have H1 := hide (And.intro r1 g1)
    clear r1 g1
    go_wp2_with fail
    refine (Q2.out _).mono ?_
    rintro e w2 ⟨v, rfl, ho, b2⟩
    have H2 := hide (And.intro (H1.out.1.below b2) (H1.out.2.trans_ (grownOfBelow b2 _)))
    obtain ⟨A, k, rfl, -, -, -⟩ := ho.by_.form
    rw [← HM.out]
    clear ho b2
    go_wp2_with fail
    refine (Q3.out _ H2.out.1 P 150 (by omega)).mono ?_
    rintro e w3 ⟨rfl, r3, g3⟩
    have H3 := hide (And.intro r3 (H2.out.2.trans_ g3))
    clear r3 g3
    have hmk := HMK.out
    go_wp2
    go_ret
    refine ⟨_, _, _, rfl, H3.out.1.below ((Below.refl _ _).alloc (Nat.le_refl _) _), fun h => absurd h (by decide), H3.out.2.trans_ (grownOfBelow ((Below.refl _ _).alloc (Nat.le_refl _) _) _)⟩
  · have hb2 := (HF.out.2 rfl).2 hb
    rw [hb2.1, hb2.2]
    have hf : first_ st none = st := by cases st <;> rfl
    rw [hf]
    rw [← hl]
    clear hb2 hl hf
    have d1 : (m : Int) = 16 := by omega
    have d2 : m = 16 := by omega
    clear d1
    subst d2
    clear hm
    go_enter Tryz.func66, Tryz.ntmps66
    go_wp2_with fail
    refine Q1.out.mono ?_
    rintro e w1 ⟨rfl, r1, g1⟩
    have H1 := hide (And.intro r1 g1)
    clear r1 g1
    go_wp2_with fail
    refine (Q2.out _).mono ?_
    rintro e w2 ⟨v, rfl, ho, b2⟩
    have H2 := hide (And.intro (H1.out.1.below b2) (H1.out.2.trans_ (grownOfBelow b2 _)))
    obtain ⟨A, k, rfl, -, -, -⟩ := ho.by_.form
    have HO := hide (show Own w2 W.heap.size 5 (.slice A l.length k) l from Own.lower ho H1.out.2.size)
    rw [← HM.out] at HO ⊢
    clear ho b2
    go_wp2
    go_ret
    exact ⟨_, _, _, rfl, H2.out.1, fun _ => HO.out, H2.out.2⟩
set_option maxRecDepth 100000 in
set_option maxHeartbeats 8000000 in
theorem letters_32 (W : World) (b g cap : Nat) (ts : List ByteArray) (n : Nat) (st : Option (Nat × Nat)) (x : ByteArray) (h : RdS W b g cap ts n st) (hx : ts[n]? = some x) (hs : Sm ts) :
    Calls Tryz.prog 66 #[.pointer (some ⟨b, 0, none⟩), .int .i64 (32)] W fun e w' => ∃ A m k, e = .returned (.slice A m k) ∧ RdS w' b g cap ts (n + 1) (first_ st (ltrF (ts.map lst) n 32 32)) ∧ (ltrE (lst x) 32 32 = 0 → Own w' W.heap.size 5 (.slice A m k) (decode (lst x)).1) ∧ W.grownBy w' (some b) := by
  obtain ⟨Z32, hmk0⟩ := make_32
  have HMK := hide hmk0
  clear hmk0
  have hp := hs.pl n
  have hz := hs.sz x (List.mem_of_getElem? hx)
  have hO := decode_place x
  obtain ⟨E, hE⟩ : ∃ E, E = (decode (lst x)).2.2 := ⟨_, rfl⟩
  obtain ⟨O, hO2⟩ : ∃ O, O = (decode (lst x)).2.1 := ⟨_, rfl⟩
  obtain ⟨l, hl⟩ : ∃ l, l = (decode (lst x)).1 := ⟨_, rfl⟩
  obtain ⟨P, hP⟩ : ∃ P, P = place (ts.map lst) n := ⟨_, rfl⟩
  have Q1 := hide (part_st W b g cap ts n st x h hx hs)
  have Q2 := hide (fun W => rbytes_any x W (by omega))
  rw [← hE, ← hO2, ← hl] at Q2
  rw [← hP] at Q1 hp
  rw [← hO2] at hO
  have a1 : IntKind.i64.wrap ((P : Int) + (O : Int)) = ((P + O : Nat) : Int) := by rw [i64_idR _ (by omega) (by omega)]; push_cast; rfl
  have hw := h.r.blk.lt
  have Q3 := hide (fun W' (h : RdS W' b g cap ts (n + 1) st) (p q : Nat) (hq : q ≠ 0) => fail_st W' b g cap ts (n + 1) p q st h hq)
  have hpx := part_of hx
  have HF := hide (show (E ≠ 0 → ltrE (lst x) 32 32 = E ∧ ltrF (ts.map lst) n 32 32 = some (P + O, E)) ∧ (E = 0 → (l.length ≠ 32 → ltrE (lst x) 32 32 = 150 ∧ ltrF (ts.map lst) n 32 32 = some (P, 150)) ∧ (¬ (l.length ≠ 32) → ltrE (lst x) 32 32 = 0 ∧ ltrF (ts.map lst) n 32 32 = none)) from by
    unfold ltrF ltrO
    rw [hpx]
    unfold ltrE
    rw [← hE, ← hO2, ← hl, ← hP]
    refine ⟨fun he => ⟨by rw [if_pos he], by rw [if_pos he, if_pos he, if_pos he]⟩, fun he => ⟨fun hb => ?_, fun hb => ?_⟩⟩
    · rw [if_neg (by omega), if_pos (by omega), if_pos (by omega), if_neg (by omega)]
      exact ⟨rfl, rfl⟩
    · rw [if_neg (by omega), if_neg (by omega), if_neg (by omega)]
      exact ⟨rfl, rfl⟩)
  clear h hx hs hz hO hpx hp hE hO2 hP
  obtain ⟨m, hm⟩ : ∃ m, m = l.length := ⟨_, rfl⟩
  have HM := hide hm
  by_cases hE0 : E = 0
  rotate_left
  · have e1 : ¬ (E : Int) = 0 := by omega
    have HE := hide hE0
    clear hE0
    rw [(HF.out.1 HE.out).1, (HF.out.1 HE.out).2]
    rw [← hl]
    clear hl hm
    go_enter Tryz.func66, Tryz.ntmps66
    go_wp2_with fail
    refine Q1.out.mono ?_
    rintro e w1 ⟨rfl, r1, g1⟩
    have H1 := hide (And.intro r1 g1)
    clear r1 g1
    go_wp2_with fail
    refine (Q2.out _).mono ?_
    rintro e w2 ⟨v, rfl, ho, b2⟩
    have H2 := hide (And.intro (H1.out.1.below b2) (H1.out.2.trans_ (grownOfBelow b2 _)))
    clear ho b2
    go_wp2_with fail
    refine (Q3.out _ H2.out.1 _ _ HE.out).mono ?_
    rintro e w3 ⟨rfl, r3, g3⟩
    have H3 := hide (And.intro r3 (H2.out.2.trans_ g3))
    clear r3 g3
    have hmk := HMK.out
    go_wp2
    go_ret
    refine ⟨_, _, _, rfl, H3.out.1.below ((Below.refl _ _).alloc (Nat.le_refl _) _), fun h => absurd h HE.out, H3.out.2.trans_ (grownOfBelow ((Below.refl _ _).alloc (Nat.le_refl _) _) _)⟩
  subst hE0
  by_cases hb : l.length ≠ 32
  · have HB := hide (HF.out.2 rfl).1
    have hb2 := HB.out hb
    rw [hb2.1, hb2.2]
    rw [← hl]
    clear hb2 hl
    have d1 : ¬ (m : Int) = 32 := by omega
    clear hm
    go_enter Tryz.func66, Tryz.ntmps66
    go_wp2_with fail
    refine Q1.out.mono ?_
    rintro e w1 ⟨rfl, r1, g1⟩
    have H1 := hide (And.intro r1 g1)
    clear r1 g1
    go_wp2_with fail
    refine (Q2.out _).mono ?_
    rintro e w2 ⟨v, rfl, ho, b2⟩
    have H2 := hide (And.intro (H1.out.1.below b2) (H1.out.2.trans_ (grownOfBelow b2 _)))
    obtain ⟨A, k, rfl, -, -, -⟩ := ho.by_.form
    rw [← HM.out]
    clear ho b2
    go_wp2_with fail
    refine (Q3.out _ H2.out.1 P 150 (by omega)).mono ?_
    rintro e w3 ⟨rfl, r3, g3⟩
    have H3 := hide (And.intro r3 (H2.out.2.trans_ g3))
    clear r3 g3
    have hmk := HMK.out
    go_wp2
    go_ret
    refine ⟨_, _, _, rfl, H3.out.1.below ((Below.refl _ _).alloc (Nat.le_refl _) _), fun h => absurd h (by decide), H3.out.2.trans_ (grownOfBelow ((Below.refl _ _).alloc (Nat.le_refl _) _) _)⟩
  · have hb2 := (HF.out.2 rfl).2 hb
    rw [hb2.1, hb2.2]
    have hf : first_ st none = st := by cases st <;> rfl
    rw [hf]
    rw [← hl]
    clear hb2 hl hf
    have d1 : (m : Int) = 32 := by omega
    have d2 : m = 32 := by omega
    clear d1
    subst d2
    clear hm
    go_enter Tryz.func66, Tryz.ntmps66
    go_wp2_with fail
    refine Q1.out.mono ?_
    rintro e w1 ⟨rfl, r1, g1⟩
    have H1 := hide (And.intro r1 g1)
    clear r1 g1
    go_wp2_with fail
    refine (Q2.out _).mono ?_
    rintro e w2 ⟨v, rfl, ho, b2⟩
    have H2 := hide (And.intro (H1.out.1.below b2) (H1.out.2.trans_ (grownOfBelow b2 _)))
    obtain ⟨A, k, rfl, -, -, -⟩ := ho.by_.form
    have HO := hide (show Own w2 W.heap.size 5 (.slice A l.length k) l from Own.lower ho H1.out.2.size)
    rw [← HM.out] at HO ⊢
    clear ho b2
    go_wp2
    go_ret
    exact ⟨_, _, _, rfl, H2.out.1, fun _ => HO.out, H2.out.2⟩
set_option maxRecDepth 100000 in
set_option maxHeartbeats 8000000 in
theorem letters_lit (W : World) (b g cap : Nat) (ts : List ByteArray) (n : Nat) (st : Option (Nat × Nat)) (x : ByteArray) (h : RdS W b g cap ts n st) (hx : ts[n]? = some x) (hs : Sm ts) :
    Calls Tryz.prog 66 #[.pointer (some ⟨b, 0, none⟩), .int .i64 (-1)] W fun e w' => ∃ A m k, e = .returned (.slice A m k) ∧ RdS w' b g cap ts (n + 1) (first_ st (ltrF (ts.map lst) n 0 32)) ∧ (ltrE (lst x) 0 32 = 0 → Own w' W.heap.size 5 (.slice A m k) (decode (lst x)).1) ∧ W.grownBy w' (some b) := by
  obtain ⟨Z32, hmk0⟩ := make_32
  have HMK := hide hmk0
  clear hmk0
  have hp := hs.pl n
  have hz := hs.sz x (List.mem_of_getElem? hx)
  have hO := decode_place x
  obtain ⟨E, hE⟩ : ∃ E, E = (decode (lst x)).2.2 := ⟨_, rfl⟩
  obtain ⟨O, hO2⟩ : ∃ O, O = (decode (lst x)).2.1 := ⟨_, rfl⟩
  obtain ⟨l, hl⟩ : ∃ l, l = (decode (lst x)).1 := ⟨_, rfl⟩
  obtain ⟨P, hP⟩ : ∃ P, P = place (ts.map lst) n := ⟨_, rfl⟩
  have Q1 := hide (part_st W b g cap ts n st x h hx hs)
  have Q2 := hide (fun W => rbytes_any x W (by omega))
  rw [← hE, ← hO2, ← hl] at Q2
  rw [← hP] at Q1 hp
  rw [← hO2] at hO
  have a1 : IntKind.i64.wrap ((P : Int) + (O : Int)) = ((P + O : Nat) : Int) := by rw [i64_idR _ (by omega) (by omega)]; push_cast; rfl
  have hw := h.r.blk.lt
  have Q3 := hide (fun W' (h : RdS W' b g cap ts (n + 1) st) (p q : Nat) (hq : q ≠ 0) => fail_st W' b g cap ts (n + 1) p q st h hq)
  have hpx := part_of hx
  have HF := hide (show (E ≠ 0 → ltrE (lst x) 0 32 = E ∧ ltrF (ts.map lst) n 0 32 = some (P + O, E)) ∧ (E = 0 → (32 < l.length → ltrE (lst x) 0 32 = 150 ∧ ltrF (ts.map lst) n 0 32 = some (P, 150)) ∧ (¬ (32 < l.length) → ltrE (lst x) 0 32 = 0 ∧ ltrF (ts.map lst) n 0 32 = none)) from by
    unfold ltrF ltrO
    rw [hpx]
    unfold ltrE
    rw [← hE, ← hO2, ← hl, ← hP]
    refine ⟨fun he => ⟨by rw [if_pos he], by rw [if_pos he, if_pos he, if_pos he]⟩, fun he => ⟨fun hb => ?_, fun hb => ?_⟩⟩
    · rw [if_neg (by omega), if_pos (by omega), if_pos (by omega), if_neg (by omega)]
      exact ⟨rfl, rfl⟩
    · rw [if_neg (by omega), if_neg (by omega), if_neg (by omega)]
      exact ⟨rfl, rfl⟩)
  clear h hx hs hz hO hpx hp hE hO2 hP
  obtain ⟨m, hm⟩ : ∃ m, m = l.length := ⟨_, rfl⟩
  have HM := hide hm
  by_cases hE0 : E = 0
  rotate_left
  · have e1 : ¬ (E : Int) = 0 := by omega
    have HE := hide hE0
    clear hE0
    rw [(HF.out.1 HE.out).1, (HF.out.1 HE.out).2]
    rw [← hl]
    clear hl hm
    go_enter Tryz.func66, Tryz.ntmps66
    go_wp2_with fail
    refine Q1.out.mono ?_
    rintro e w1 ⟨rfl, r1, g1⟩
    have H1 := hide (And.intro r1 g1)
    clear r1 g1
    go_wp2_with fail
    refine (Q2.out _).mono ?_
    rintro e w2 ⟨v, rfl, ho, b2⟩
    have H2 := hide (And.intro (H1.out.1.below b2) (H1.out.2.trans_ (grownOfBelow b2 _)))
    clear ho b2
    go_wp2_with fail
    refine (Q3.out _ H2.out.1 _ _ HE.out).mono ?_
    rintro e w3 ⟨rfl, r3, g3⟩
    have H3 := hide (And.intro r3 (H2.out.2.trans_ g3))
    clear r3 g3
    have hmk := HMK.out
    go_wp2
    go_ret
    refine ⟨_, _, _, rfl, H3.out.1.below ((Below.refl _ _).alloc (Nat.le_refl _) _), fun h => absurd h HE.out, H3.out.2.trans_ (grownOfBelow ((Below.refl _ _).alloc (Nat.le_refl _) _) _)⟩
  subst hE0
  by_cases hb : 32 < l.length
  · have HB := hide (HF.out.2 rfl).1
    have hb2 := HB.out hb
    rw [hb2.1, hb2.2]
    rw [← hl]
    clear hb2 hl
    have d1 : (32 : Int) < (m : Int) := by omega
    clear hm
    go_enter Tryz.func66, Tryz.ntmps66
    go_wp2_with fail
    refine Q1.out.mono ?_
    rintro e w1 ⟨rfl, r1, g1⟩
    have H1 := hide (And.intro r1 g1)
    clear r1 g1
    go_wp2_with fail
    refine (Q2.out _).mono ?_
    rintro e w2 ⟨v, rfl, ho, b2⟩
    have H2 := hide (And.intro (H1.out.1.below b2) (H1.out.2.trans_ (grownOfBelow b2 _)))
    obtain ⟨A, k, rfl, -, -, -⟩ := ho.by_.form
    rw [← HM.out]
    clear ho b2
    go_wp2_with fail
    refine (Q3.out _ H2.out.1 P 150 (by omega)).mono ?_
    rintro e w3 ⟨rfl, r3, g3⟩
    have H3 := hide (And.intro r3 (H2.out.2.trans_ g3))
    clear r3 g3
    have hmk := HMK.out
    go_wp2
    go_ret
    refine ⟨_, _, _, rfl, H3.out.1.below ((Below.refl _ _).alloc (Nat.le_refl _) _), fun h => absurd h (by decide), H3.out.2.trans_ (grownOfBelow ((Below.refl _ _).alloc (Nat.le_refl _) _) _)⟩
  · have hb2 := (HF.out.2 rfl).2 hb
    rw [hb2.1, hb2.2]
    have hf : first_ st none = st := by cases st <;> rfl
    rw [hf]
    rw [← hl]
    clear hb2 hl hf
    have d1 : ¬ (32 : Int) < (m : Int) := by omega
    clear hm
    go_enter Tryz.func66, Tryz.ntmps66
    go_wp2_with fail
    refine Q1.out.mono ?_
    rintro e w1 ⟨rfl, r1, g1⟩
    have H1 := hide (And.intro r1 g1)
    clear r1 g1
    go_wp2_with fail
    refine (Q2.out _).mono ?_
    rintro e w2 ⟨v, rfl, ho, b2⟩
    have H2 := hide (And.intro (H1.out.1.below b2) (H1.out.2.trans_ (grownOfBelow b2 _)))
    obtain ⟨A, k, rfl, -, -, -⟩ := ho.by_.form
    have HO := hide (show Own w2 W.heap.size 5 (.slice A l.length k) l from Own.lower ho H1.out.2.size)
    rw [← HM.out] at HO ⊢
    clear ho b2
    go_wp2
    go_ret
    exact ⟨_, _, _, rfl, H2.out.1, fun _ => HO.out, H2.out.2⟩
set_option maxRecDepth 100000 in
set_option maxHeartbeats 8000000 in
theorem number_st (W : World) (b g cap : Nat) (ts : List ByteArray) (n : Nat) (st : Option (Nat × Nat)) (x : ByteArray) (most : Int) (h : RdS W b g cap ts n st) (hx : ts[n]? = some x) (hs : Sm ts) (hm : -9223372036854775808 ≤ most ∧ most ≤ 9223372036854775807) :
    Calls Tryz.prog 67 #[.pointer (some ⟨b, 0, none⟩), .int .i64 most] W fun e w' => e = .returned (.int .i64 (rdN (lst x) most)) ∧ RdS w' b g cap ts (n + 1) (first_ st (numF (ts.map lst) n most)) ∧ W.grownBy w' (some b) := by
  have hz := hs.sz x (List.mem_of_getElem? hx)
  obtain ⟨P, hP⟩ : ∃ P, P = place (ts.map lst) n := ⟨_, rfl⟩
  obtain ⟨N, hN⟩ : ∃ N, N = rdN (lst x) most := ⟨_, rfl⟩
  have Q1 := hide (part_st W b g cap ts n st x h hx hs)
  have Q2 := hide (fun W => rread_any x most W (by omega) hm)
  rw [← hN] at Q2 ⊢
  rw [← hP] at Q1
  have Q3 := hide (fun W' (h : RdS W' b g cap ts (n + 1) st) (p q : Nat) (hq : q ≠ 0) => fail_st W' b g cap ts (n + 1) p q st h hq)
  have hpx := part_of hx
  by_cases hr : rd (lst x) most = none
  · have hf : numF (ts.map lst) n most = some (P, 102) := by unfold numF; rw [hpx, if_pos hr, hP]
    have he : rdE (lst x) most = 102 := by unfold rdE; rw [hr]
    rw [hf]
    rw [he] at Q2
    clear h hx hs hz hP hN hpx hr hf he hm
    go_enter Tryz.func67, Tryz.ntmps67
    go_wp2_with fail
    refine Q1.out.mono ?_
    rintro e w1 ⟨rfl, r1, g1⟩
    have H1 := hide (And.intro r1 g1)
    clear r1 g1
    go_wp2_with fail
    refine (Q2.out _).mono ?_
    rintro e w2 ⟨rfl, rfl⟩
    go_wp2_with fail
    refine (Q3.out _ H1.out.1 P 102 (by omega)).mono ?_
    rintro e w3 ⟨rfl, r3, g3⟩
    have H3 := hide (And.intro r3 (H1.out.2.trans_ g3))
    clear r3 g3
    go_wp2
    go_ret
    exact ⟨rfl, H3.out⟩
  · have hf : numF (ts.map lst) n most = none := by unfold numF; rw [hpx, if_neg hr]
    have he : rdE (lst x) most = 0 := by
      unfold rdE
      cases hh : rd (lst x) most with
      | none => exact absurd hh hr
      | some y => rfl
    have hff : first_ st none = st := by cases st <;> rfl
    rw [hf, hff]
    rw [he] at Q2
    clear h hx hs hz hP hN hpx hr hf he hff hm
    go_enter Tryz.func67, Tryz.ntmps67
    go_wp2_with fail
    refine Q1.out.mono ?_
    rintro e w1 ⟨rfl, r1, g1⟩
    have H1 := hide (And.intro r1 g1)
    clear r1 g1
    go_wp2_with fail
    refine (Q2.out _).mono ?_
    rintro e w2 ⟨rfl, rfl⟩
    go_wp2
    go_ret
    exact ⟨rfl, H1.out⟩
end Go.Proofs.YtcpceaflnnkhnaaGreatDoor

/- The document's kindOf. (Printed by wip/rdrc.py.) -/
namespace Go.Proofs.YtcpceaflnnkhnaaGreatDoor
open Go.RowKit
attribute [local go_sem ↓] Go.wp_at_zero Go.wp_at_succ

set_option maxRecDepth 100000 in
set_option maxHeartbeats 8000000 in
theorem kword_same (k : Nat) (d : Bool) (w : World) (hk : k = 1 ∨ k = 2 ∨ k = 3) :
    Calls Tryz.prog 46 #[.int .u8 (k : Int), .bool d] w fun e w' => e = .returned (.string ⟨(wordL k d).toArray⟩) ∧ w' = w := by
  rcases hk with rfl | rfl | rfl <;> cases d
  all_goals
    go_enter Tryz.func46, Tryz.ntmps46
    go_wp2
    go_ret
    exact ⟨by kernel_rfl, rfl⟩
/-- What a kind's word is read as. -/
def kindV (p : List UInt8) : Value := match kindL p with
  | none => .tuple #[.int .u8 0, .bool false, .bool false]
  | some (k, d) => .tuple #[.int .u8 (k : Int), .bool d, .bool true]
theorem kindL_word (k : Nat) (d : Bool) (hk : k = 1 ∨ k = 2 ∨ k = 3) : kindL (wordL k d) = some (k, d) := by
  rcases hk with rfl | rfl | rfl <;> cases d <;> decide
theorem kindL_no {p : List UInt8} (h : ∀ k d, 1 ≤ k → k < 4 → p ≠ wordL k d) : kindL p = none := by
  unfold kindL
  rw [if_neg (h 1 false (by omega) (by omega)), if_neg (h 1 true (by omega) (by omega)), if_neg (h 2 false (by omega) (by omega)), if_neg (h 2 true (by omega) (by omega)), if_neg (h 3 false (by omega) (by omega)), if_neg (h 3 true (by omega) (by omega))]
theorem bs_eq (x : ByteArray) (l : List UInt8) : ((⟨l.toArray⟩ : ByteArray) = x) ↔ lst x = l := by
  constructor
  · rintro rfl
    exact lst_mk l
  · intro h
    exact lst_inj (by rw [lst_mk, h])
theorem kwordx (k : Nat) (d : Bool) (hk : k = 1 ∨ k = 2 ∨ k = 3) : ∃ wd : ByteArray, (∀ x, (wd = x) ↔ lst x = wordL k d) ∧ ∀ W, Calls Tryz.prog 46 #[.int .u8 (k : Int), .bool d] W fun e w' => e = .returned (.string wd) ∧ w' = W := ⟨_, fun x => bs_eq x _, fun W => kword_same k d W hk⟩
set_option maxRecDepth 100000 in
set_option maxHeartbeats 8000000 in
theorem kind_any (x : ByteArray) (w : World) :
    Calls Tryz.prog 36 #[.string x] w fun e w' => e = .returned (kindV (lst x)) ∧ w' = w := by
  have HQ := hide (fun (k : Nat) (d : Bool) (hk : k = 1 ∨ k = 2 ∨ k = 3) => kwordx k d hk)
  have HN := hide (fun h => kindL_no (p := lst x) h)
  go_enter Tryz.func36, Tryz.ntmps36
  go_wp2
  go_loopw [5, 6] (fun u5 _ wr => wr = w ∧ ∃ k : Nat, (k = 1 ∨ k = 2 ∨ k = 3 ∨ k = 4) ∧ u5 = .int .u8 (k : Int) ∧ ∀ k' d', 1 ≤ k' → k' < k → lst x ≠ wordL k' d') (fun u5 _ _ => 4 - (intOf u5).toNat)
  case atStart => exact ⟨rfl, 1, .inl rfl, rfl, fun k' d' h1 h2 => by omega⟩
  case round =>
    obtain ⟨rfl, k, hk, rfl, hno⟩ := hrel
    have HO := hide hno
    clear hno
    rcases hk with rfl | rfl | rfl | rfl
    · rw [show ((1 : Nat) : Int) = 1 from rfl]
      go_wp2
      go_loopw [6] (fun u6 wr2 => wr2 = wr ∧ ∃ i : Nat, (i = 0 ∨ i = 1 ∨ i = 2) ∧ u6 = .int .i64 (i : Int) ∧ ∀ d' : Bool, (if d' = true then 1 else 0) < i → lst x ≠ wordL 1 d') (fun u6 _ => 2 - (intOf u6).toNat)
      case atStart => exact ⟨rfl, 0, .inl rfl, rfl, fun d' h => by omega⟩
      case round =>
        obtain ⟨rfl, i, hi, rfl, h0⟩ := hrel
        rcases hi with rfl | rfl | rfl
        · obtain ⟨wd, hw1, hw2⟩ := HQ.out 1 false (.inl rfl)
          rw [show ((0 : Nat) : Int) = 0 from rfl]
          have HW := hide hw2
          clear hw2
          have hc := h0
          clear h0
          have HH := hide hc
          clear hc
          by_cases heq : lst x = wordL 1 false
          · have hbe : wd = x := (hw1 x).2 heq
            have hsf : (x.toList == x.toList) = true := by simp
            have hk : kindV (lst x) = .tuple #[.int .u8 1, .bool false, .bool true] := by unfold kindV; rw [heq, kindL_word 1 false (.inl rfl)]; rfl
            have HK := hide hk
            clear hw1 heq hk
            subst hbe
            go_wp2_with fail
            refine (HW.out _).mono ?_
            rintro e w' ⟨rfl, rfl⟩
            go_wp2
            go_ret3
            exact ⟨by rw [HK.out]; rfl, rfl⟩
          · have hbe : (wd.toList == x.toList) = false := by
              rw [str_toList, str_toList, beq_eq_false_iff_ne]
              exact fun h => heq ((hw1 x).1 (lst_inj h))
            have HE := hide heq
            clear hw1 heq
            go_wp2_with fail
            refine (HW.out _).mono ?_
            rintro e w' ⟨rfl, rfl⟩
            go_wp2
            go_roundw
            case rel => exact ⟨by trivial, 1, .inr (.inl rfl), rfl, fun d' hd => by cases d' <;> first | exact HE.out | exact HH.out _ (by decide) | (exact absurd hd (by decide))⟩
            case measure => simp [intOf]
        · obtain ⟨wd, hw1, hw2⟩ := HQ.out 1 true (.inl rfl)
          rw [show ((1 : Nat) : Int) = 1 from rfl]
          have HW := hide hw2
          clear hw2
          have hc := h0
          clear h0
          have HH := hide hc
          clear hc
          by_cases heq : lst x = wordL 1 true
          · have hbe : wd = x := (hw1 x).2 heq
            have hsf : (x.toList == x.toList) = true := by simp
            have hk : kindV (lst x) = .tuple #[.int .u8 1, .bool true, .bool true] := by unfold kindV; rw [heq, kindL_word 1 true (.inl rfl)]; rfl
            have HK := hide hk
            clear hw1 heq hk
            subst hbe
            go_wp2_with fail
            refine (HW.out _).mono ?_
            rintro e w' ⟨rfl, rfl⟩
            go_wp2
            go_ret3
            exact ⟨by rw [HK.out]; rfl, rfl⟩
          · have hbe : (wd.toList == x.toList) = false := by
              rw [str_toList, str_toList, beq_eq_false_iff_ne]
              exact fun h => heq ((hw1 x).1 (lst_inj h))
            have HE := hide heq
            clear hw1 heq
            go_wp2_with fail
            refine (HW.out _).mono ?_
            rintro e w' ⟨rfl, rfl⟩
            go_wp2
            go_roundw
            case rel => exact ⟨by trivial, 2, .inr (.inr rfl), rfl, fun d' hd => by cases d' <;> first | exact HE.out | exact HH.out _ (by decide) | (exact absurd hd (by decide))⟩
            case measure => simp [intOf]
        · have HH := hide h0
          rw [show ((2 : Nat) : Int) = 2 from rfl]
          clear h0
          go_wp2
          go_roundw
          case rel => exact ⟨by trivial, 2, .inr (.inl rfl), rfl, fun k' d' h1 h2 => by
            by_cases hk : k' = 1
            · subst hk
              exact HH.out d' (by cases d' <;> decide)
            · exact HO.out k' d' h1 (by omega)⟩
          case measure => simp [intOf]
    · rw [show ((2 : Nat) : Int) = 2 from rfl]
      go_wp2
      go_loopw [6] (fun u6 wr2 => wr2 = wr ∧ ∃ i : Nat, (i = 0 ∨ i = 1 ∨ i = 2) ∧ u6 = .int .i64 (i : Int) ∧ ∀ d' : Bool, (if d' = true then 1 else 0) < i → lst x ≠ wordL 2 d') (fun u6 _ => 2 - (intOf u6).toNat)
      case atStart => exact ⟨rfl, 0, .inl rfl, rfl, fun d' h => by omega⟩
      case round =>
        obtain ⟨rfl, i, hi, rfl, h0⟩ := hrel
        rcases hi with rfl | rfl | rfl
        · obtain ⟨wd, hw1, hw2⟩ := HQ.out 2 false (.inr (.inl rfl))
          rw [show ((0 : Nat) : Int) = 0 from rfl]
          have HW := hide hw2
          clear hw2
          have hc := h0
          clear h0
          have HH := hide hc
          clear hc
          by_cases heq : lst x = wordL 2 false
          · have hbe : wd = x := (hw1 x).2 heq
            have hsf : (x.toList == x.toList) = true := by simp
            have hk : kindV (lst x) = .tuple #[.int .u8 2, .bool false, .bool true] := by unfold kindV; rw [heq, kindL_word 2 false (.inr (.inl rfl))]; rfl
            have HK := hide hk
            clear hw1 heq hk
            subst hbe
            go_wp2_with fail
            refine (HW.out _).mono ?_
            rintro e w' ⟨rfl, rfl⟩
            go_wp2
            go_ret3
            exact ⟨by rw [HK.out]; rfl, rfl⟩
          · have hbe : (wd.toList == x.toList) = false := by
              rw [str_toList, str_toList, beq_eq_false_iff_ne]
              exact fun h => heq ((hw1 x).1 (lst_inj h))
            have HE := hide heq
            clear hw1 heq
            go_wp2_with fail
            refine (HW.out _).mono ?_
            rintro e w' ⟨rfl, rfl⟩
            go_wp2
            go_roundw
            case rel => exact ⟨by trivial, 1, .inr (.inl rfl), rfl, fun d' hd => by cases d' <;> first | exact HE.out | exact HH.out _ (by decide) | (exact absurd hd (by decide))⟩
            case measure => simp [intOf]
        · obtain ⟨wd, hw1, hw2⟩ := HQ.out 2 true (.inr (.inl rfl))
          rw [show ((1 : Nat) : Int) = 1 from rfl]
          have HW := hide hw2
          clear hw2
          have hc := h0
          clear h0
          have HH := hide hc
          clear hc
          by_cases heq : lst x = wordL 2 true
          · have hbe : wd = x := (hw1 x).2 heq
            have hsf : (x.toList == x.toList) = true := by simp
            have hk : kindV (lst x) = .tuple #[.int .u8 2, .bool true, .bool true] := by unfold kindV; rw [heq, kindL_word 2 true (.inr (.inl rfl))]; rfl
            have HK := hide hk
            clear hw1 heq hk
            subst hbe
            go_wp2_with fail
            refine (HW.out _).mono ?_
            rintro e w' ⟨rfl, rfl⟩
            go_wp2
            go_ret3
            exact ⟨by rw [HK.out]; rfl, rfl⟩
          · have hbe : (wd.toList == x.toList) = false := by
              rw [str_toList, str_toList, beq_eq_false_iff_ne]
              exact fun h => heq ((hw1 x).1 (lst_inj h))
            have HE := hide heq
            clear hw1 heq
            go_wp2_with fail
            refine (HW.out _).mono ?_
            rintro e w' ⟨rfl, rfl⟩
            go_wp2
            go_roundw
            case rel => exact ⟨by trivial, 2, .inr (.inr rfl), rfl, fun d' hd => by cases d' <;> first | exact HE.out | exact HH.out _ (by decide) | (exact absurd hd (by decide))⟩
            case measure => simp [intOf]
        · have HH := hide h0
          rw [show ((2 : Nat) : Int) = 2 from rfl]
          clear h0
          go_wp2
          go_roundw
          case rel => exact ⟨by trivial, 3, .inr (.inr (.inl rfl)), rfl, fun k' d' h1 h2 => by
            by_cases hk : k' = 2
            · subst hk
              exact HH.out d' (by cases d' <;> decide)
            · exact HO.out k' d' h1 (by omega)⟩
          case measure => simp [intOf]
    · rw [show ((3 : Nat) : Int) = 3 from rfl]
      go_wp2
      go_loopw [6] (fun u6 wr2 => wr2 = wr ∧ ∃ i : Nat, (i = 0 ∨ i = 1 ∨ i = 2) ∧ u6 = .int .i64 (i : Int) ∧ ∀ d' : Bool, (if d' = true then 1 else 0) < i → lst x ≠ wordL 3 d') (fun u6 _ => 2 - (intOf u6).toNat)
      case atStart => exact ⟨rfl, 0, .inl rfl, rfl, fun d' h => by omega⟩
      case round =>
        obtain ⟨rfl, i, hi, rfl, h0⟩ := hrel
        rcases hi with rfl | rfl | rfl
        · obtain ⟨wd, hw1, hw2⟩ := HQ.out 3 false (.inr (.inr rfl))
          rw [show ((0 : Nat) : Int) = 0 from rfl]
          have HW := hide hw2
          clear hw2
          have hc := h0
          clear h0
          have HH := hide hc
          clear hc
          by_cases heq : lst x = wordL 3 false
          · have hbe : wd = x := (hw1 x).2 heq
            have hsf : (x.toList == x.toList) = true := by simp
            have hk : kindV (lst x) = .tuple #[.int .u8 3, .bool false, .bool true] := by unfold kindV; rw [heq, kindL_word 3 false (.inr (.inr rfl))]; rfl
            have HK := hide hk
            clear hw1 heq hk
            subst hbe
            go_wp2_with fail
            refine (HW.out _).mono ?_
            rintro e w' ⟨rfl, rfl⟩
            go_wp2
            go_ret3
            exact ⟨by rw [HK.out]; rfl, rfl⟩
          · have hbe : (wd.toList == x.toList) = false := by
              rw [str_toList, str_toList, beq_eq_false_iff_ne]
              exact fun h => heq ((hw1 x).1 (lst_inj h))
            have HE := hide heq
            clear hw1 heq
            go_wp2_with fail
            refine (HW.out _).mono ?_
            rintro e w' ⟨rfl, rfl⟩
            go_wp2
            go_roundw
            case rel => exact ⟨by trivial, 1, .inr (.inl rfl), rfl, fun d' hd => by cases d' <;> first | exact HE.out | exact HH.out _ (by decide) | (exact absurd hd (by decide))⟩
            case measure => simp [intOf]
        · obtain ⟨wd, hw1, hw2⟩ := HQ.out 3 true (.inr (.inr rfl))
          rw [show ((1 : Nat) : Int) = 1 from rfl]
          have HW := hide hw2
          clear hw2
          have hc := h0
          clear h0
          have HH := hide hc
          clear hc
          by_cases heq : lst x = wordL 3 true
          · have hbe : wd = x := (hw1 x).2 heq
            have hsf : (x.toList == x.toList) = true := by simp
            have hk : kindV (lst x) = .tuple #[.int .u8 3, .bool true, .bool true] := by unfold kindV; rw [heq, kindL_word 3 true (.inr (.inr rfl))]; rfl
            have HK := hide hk
            clear hw1 heq hk
            subst hbe
            go_wp2_with fail
            refine (HW.out _).mono ?_
            rintro e w' ⟨rfl, rfl⟩
            go_wp2
            go_ret3
            exact ⟨by rw [HK.out]; rfl, rfl⟩
          · have hbe : (wd.toList == x.toList) = false := by
              rw [str_toList, str_toList, beq_eq_false_iff_ne]
              exact fun h => heq ((hw1 x).1 (lst_inj h))
            have HE := hide heq
            clear hw1 heq
            go_wp2_with fail
            refine (HW.out _).mono ?_
            rintro e w' ⟨rfl, rfl⟩
            go_wp2
            go_roundw
            case rel => exact ⟨by trivial, 2, .inr (.inr rfl), rfl, fun d' hd => by cases d' <;> first | exact HE.out | exact HH.out _ (by decide) | (exact absurd hd (by decide))⟩
            case measure => simp [intOf]
        · have HH := hide h0
          rw [show ((2 : Nat) : Int) = 2 from rfl]
          clear h0
          go_wp2
          go_roundw
          case rel => exact ⟨by trivial, 4, .inr (.inr (.inr rfl)), rfl, fun k' d' h1 h2 => by
            by_cases hk : k' = 3
            · subst hk
              exact HH.out d' (by cases d' <;> decide)
            · exact HO.out k' d' h1 (by omega)⟩
          case measure => simp [intOf]
    · have hk : kindV (lst x) = .tuple #[.int .u8 0, .bool false, .bool false] := by unfold kindV; rw [HN.out (fun k d h1 h2 => HO.out k d h1 h2)]
      have HK := hide hk
      clear hk
      rw [show ((4 : Nat) : Int) = 4 from rfl]
      go_wp2
      go_ret3
      exact ⟨by rw [HK.out]; rfl, rfl⟩
end Go.Proofs.YtcpceaflnnkhnaaGreatDoor
