/- UebCut: a beginning of a table's bytes is the table of its whole rows, or none. -/
import Derived.Test.YteaagngikiaokaaDoorAwkB
namespace Go.Proofs.YteaagngikiaokaaDoor
open Go.RowKit

theorem By.take {w : World} {A : Option Addr} {n c : Nat} {l : List UInt8} (h : By w (.slice A n c) l) (k : Nat) (hk : k ≤ l.length) : By w (.slice A k c) (l.take k) := by
  obtain ⟨h0, A', c0, hv, hc, hm, hcell⟩ := h
  injection hv with e1 e2 e3
  subst e1 e2 e3
  have hl : (l.take k).length = k := by rw [List.length_take]; omega
  refine ⟨by simp, _, _, by rw [hl], by rw [hl]; omega, hm, fun h1 => ?_⟩
  rw [hl] at h1
  obtain ⟨b, o, hA, hb, hcs⟩ := hcell (by omega)
  refine ⟨b, o, hA, hb, fun j hj => ?_⟩
  rw [hl] at hj
  rw [hcs j (by omega), bcells_get, bcells_get, List.getElem?_take_of_lt (by omega)]
theorem rcells_take (L : List RowV) (k : Nat) : rcells (L.take k) = (rcells L).take (k * 2) := by
  induction L generalizing k with
  | nil => simp [rcells]
  | cons x L ih =>
    cases k with
    | zero => simp [rcells]
    | succ k =>
      rw [List.take_succ_cons]
      have : (k + 1) * 2 = k * 2 + 1 + 1 := by omega
      rw [this]
      simp only [rcells, List.flatMap_cons, List.cons_append, List.nil_append, List.take_succ_cons] at ih ⊢
      rw [ih]
theorem Rws.take {w : World} {A : Option Addr} {n c : Nat} {L : List RowV} (h : Rws w (.slice A n c) L) (k : Nat) (hk : k ≤ L.length) : Rws w (.slice A k c) (L.take k) := by
  obtain ⟨⟨h0, A', c0, hv, hc, hm, hcell⟩, hy⟩ := h
  injection hv with e1 e2 e3
  subst e1 e2 e3
  have hl : (L.take k).length = k := by rw [List.length_take]; omega
  refine ⟨⟨by simp, _, _, by rw [hl], by rw [hl]; omega, hm, fun h1 => ?_⟩, fun x hx => hy x (List.mem_of_mem_take hx)⟩
  rw [hl] at h1
  obtain ⟨b, o, hA, hb, hcs⟩ := hcell (by omega)
  refine ⟨b, o, hA, hb, fun j hj => ?_⟩
  rw [hl] at hj
  rw [hcs j (by omega), rcells_take, List.getElem?_take_of_lt (by omega)]

set_option maxRecDepth 100000 in
set_option maxHeartbeats 8000000 in
theorem law_cut (v : Value) (L : List RowV) (x : Int) (w : World) (h : Rws w v L) (hx : (Lit.int .i64 x).wf = true) (ht : Tab w) (he : Err w) :
    Calls Tryd.prog 6 #[v, .int .i64 x] w fun e w' => e = .returned (.bool true) ∧ Below w.heap.size w w' := by
  have hx := wf64 hx
  have HX := hide hx
  have q1 := awake_yes w ht
  have HT := hide (And.intro ht he)
  have HR := hide h
  obtain ⟨A0, c0, rfl, hc0, hm0, _⟩ := h.form
  unfold maxLen at hm0
  have Q1 := hide q1
  clear q1 h ht he hx
  go_enter Tryd.func6, Tryd.ntmps6
  go_wp2_with fail
  refine Q1.out.mono ?_
  rintro e w1 ⟨rfl, b1⟩
  have q2 := pack_any _ _ w1 (HR.out.below b1) (HT.out.1.below b1)
  have B1 := hide b1
  have Q2 := hide q2
  clear q2 b1 Q1
  go_wp2_with fail
  refine Q2.out.mono ?_
  rintro e w2 ⟨b2, ⟨hmay, v2, rfl, o2⟩ | ⟨hno, rfl⟩⟩
  · have B2 := hide (B1.out.trans (b2.mono B1.out.size))
    obtain ⟨A2, c2, hv2, hcc2, _⟩ := o2.by_.form
    subst hv2
    have HMAY := hide hmay
    have O2 := hide o2
    have h64 := may_len hmay
    rw [rws_length] at h64
    have hlen : (encs (rws L)).length ≤ 67108864 := by
      have := encs_len (rws L) 64 (by simpa using h64) (may_mem hmay)
      omega
    obtain ⟨N, hN⟩ : ∃ N, N = (encs (rws L)).length := ⟨_, rfl⟩
    have q3 := fun w => pick_any x (N + 1) w HX.out (by omega) (by omega)
    have Q3 := hide q3
    clear q3 b2 o2 hmay Q2 B1
    rw [← hN] at hlen hcc2 ⊢
    have HN := hide hN
    clear hN
    go_wp2_with fail
    refine (Q3.out _).mono ?_
    rintro e w3 ⟨⟨k, hk, rfl⟩, rfl⟩
    have hby := O2.out.by_.take k (by have := HN.out; omega)
    have q4 := unpack_any _ _ _ hby (by rw [List.length_take]; omega) (HT.out.1.below B2.out) (HT.out.2.below B2.out)
    have Q4 := hide q4
    have k1 : (0 : Int) ≤ (k : Int) := by omega
    have k2 : (k : Int) ≤ (c2 : Int) := by omega
    have hcut := hide (cut_cases (rws L) k HMAY.out (by have := HN.out; omega))
    clear q4 hby Q3
    go_wp2_with fail
    refine Q4.out.mono ?_
    rintro e w4 ⟨b4, ⟨L2, v4, hu, rfl, o4⟩ | ⟨p, hu, rfl⟩⟩
    · have C4 := hide (B2.out.trans (b4.mono B2.out.size))
      obtain ⟨i0, hi0, hi0k, hi0u⟩ : ∃ i, i ≤ (rws L).length ∧ (encs ((rws L).take i)).length = k ∧ unpack ((encs (rws L)).take k) = ((rws L).take i, 0, 0) := by
        rcases hcut.out with h | ⟨_, p, _, h⟩
        · exact h
        · rw [hu] at h; simp at h
      have hL2 : rws L2 = (rws L).take i0 := by
        rw [hu] at hi0u
        exact (Prod.mk.inj hi0u).1
      have HL2 := hide hL2
      have HI0 := hide (And.intro (show i0 ≤ L.length by simpa using hi0) hi0k)
      have HO4 := hide o4
      obtain ⟨_, A4, c4, hv4, _⟩ := Sl.of_own o4.1
      subst hv4
      clear hL2 hi0 hi0k hi0u hu o4 b4 hcut Q4
      go_wp2_with fail
      go_loopw [10] (fun u10 wr => ∃ i : Nat, i ≤ L.length + 1 ∧ u10 = .int .i64 i ∧ (∀ j, j < i → (encs ((rws L).take j)).length < k) ∧ Below w4.heap.size w4 wr) (fun i _ => L.length + 1 - (intOf i).toNat)
      case atStart => exact ⟨0, by omega, rfl, fun j hj => absurd hj (Nat.not_lt_zero _), Below.refl _ _⟩
      case round =>
        obtain ⟨i, hi, rfl, hlow, hw⟩ := hrel
        have HLOW := hide hlow
        clear hlow
        by_cases hle : i ≤ L.length
        · have i1 : (i : Int) ≤ (L.length : Int) := by omega
          have i2 : (0 : Int) ≤ (i : Int) := by omega
          have i3 : (i : Int) ≤ (c0 : Int) := by omega
          have hbw := C4.out.trans (hw.mono C4.out.size)
          have hri : Rws wr (.slice A0 i c0) (L.take i) := (HR.out.take i hle).below hbw
          have q5 := pack_any _ _ wr hri (HT.out.1.below hbw)
          have hrt : rws (L.take i) = (rws L).take i := by simp [rws, List.map_take]
          rw [hrt] at q5
          have Q5 := hide q5
          have HRI := hide hri
          have HBW := hide hbw
          clear q5 hri hbw hrt
          go_wp2_with fail
          refine Q5.out.mono ?_
          rintro e w5 ⟨b5, ⟨-, v5, rfl, o5⟩ | ⟨hno, -⟩⟩
          · have B5 := hide (HBW.out.trans (b5.mono HBW.out.size))
            have BW := hide (hw.trans (b5.mono hw.size))
            have HRI5 := hide (HRI.out.below b5)
            obtain ⟨A5, c5, hv5, _⟩ := o5.by_.form
            subst hv5
            clear b5 o5 Q5
            rcases Nat.lt_trichotomy (encs ((rws L).take i)).length k with hlt | heq | hgt
            · have g1 : (((encs ((rws L).take i)).length : Int) == (k : Int)) = false := beq_eq_false_iff_ne.2 (by omega)
              have g2 : decide ((k : Int) < ((encs ((rws L).take i)).length : Int)) = false := decide_eq_false (by omega)
              have g3 : ((encs ((rws L).take i)).length == k) = false := beq_eq_false_iff_ne.2 (by omega)
              have g4 : decide (k < (encs ((rws L).take i)).length) = false := decide_eq_false (by omega)
              have HLT := hide hlt
              clear hlt
              go_wp2_with fail
              go_roundw
              case rel =>
                refine ⟨i + 1, by omega, by go_num, fun j hj => ?_, BW.out⟩
                rcases Nat.lt_or_ge j i with hji | hji
                · exact HLOW.out j hji
                · rw [show j = i by omega]; exact HLT.out
              case measure => simp [intOf]; omega
            · have g1 : (((encs ((rws L).take i)).length : Int) == (k : Int)) = true := beq_iff_eq.2 (by omega)
              have g3 : ((encs ((rws L).take i)).length == k) = true := beq_iff_eq.2 (by omega)
              have hii : i = i0 := by
                rcases Nat.lt_trichotomy i i0 with h | h | h
                · have := encs_take_lt (rws L) i i0 h (by simpa using HI0.out.1); have := HI0.out.2; omega
                · exact h
                · have := encs_take_lt (rws L) i0 i h (by simpa using hle); have := HI0.out.2; omega
              have q6 := sameRows_eq _ _ L2 (L.take i) w5 ((HO4.out.below BW.out).rws_) HRI5.out (by rw [HL2.out, ← hii]; simp [rws, List.map_take])
              have Q6 := hide q6
              clear q6 hii heq
              go_wp2_with fail
              refine Q6.out.mono ?_
              rintro e w6 ⟨rfl, b6⟩
              go_wp2_with fail
              go_ret
              exact ⟨rfl, B5.out.trans (b6.mono B5.out.size)⟩
            · have hii : i0 < i := by
                rcases Nat.lt_or_ge i0 i with h | h
                · exact h
                · rcases Nat.eq_or_lt_of_le h with h | h
                  · rw [h] at hgt; have := HI0.out.2; omega
                  · have := encs_take_lt (rws L) i i0 h (by simpa using HI0.out.1); have := HI0.out.2; omega
              have := HLOW.out i0 hii
              have := HI0.out.2
              omega
          · exact absurd (may_take HMAY.out i) hno
        · have i1 : ¬ (i : Int) ≤ (L.length : Int) := by omega
          have := HLOW.out i0 (by have := HI0.out.1; omega)
          have := HI0.out.2
          omega
    · have C4 := hide (B2.out.trans (b4.mono B2.out.size))
      obtain ⟨hne, hpk⟩ : (∀ i, i ≤ (rws L).length → (encs ((rws L).take i)).length ≠ k) ∧ p < k := by
        rcases hcut.out with ⟨i, _, _, h⟩ | ⟨h1, p', h2, h⟩
        · rw [hu] at h; simp at h
        · rw [hu] at h
          have := (Prod.mk.inj (Prod.mk.inj h).2).1
          exact ⟨h1, by omega⟩
      have HNE := hide hne
      have gp : decide ((p : Int) < (k : Int)) = true := decide_eq_true (by omega)
      have gp2 : decide (p < k) = true := decide_eq_true hpk
      clear hne hu b4 hcut Q4 hpk
      go_wp2_with fail
      go_loopw [10] (fun u10 wr => ∃ i : Nat, i ≤ L.length + 1 ∧ u10 = .int .i64 i ∧ (∀ j, j < i → (encs ((rws L).take j)).length < k) ∧ Below w4.heap.size w4 wr) (fun i _ => L.length + 1 - (intOf i).toNat)
      case atStart => exact ⟨0, by omega, rfl, fun j hj => absurd hj (Nat.not_lt_zero _), Below.refl _ _⟩
      case round =>
        obtain ⟨i, hi, rfl, hlow, hw⟩ := hrel
        have HLOW := hide hlow
        clear hlow
        by_cases hle : i ≤ L.length
        · have i1 : (i : Int) ≤ (L.length : Int) := by omega
          have i2 : (0 : Int) ≤ (i : Int) := by omega
          have i3 : (i : Int) ≤ (c0 : Int) := by omega
          have hbw := C4.out.trans (hw.mono C4.out.size)
          have hri : Rws wr (.slice A0 i c0) (L.take i) := (HR.out.take i hle).below hbw
          have q5 := pack_any _ _ wr hri (HT.out.1.below hbw)
          have hrt : rws (L.take i) = (rws L).take i := by simp [rws, List.map_take]
          rw [hrt] at q5
          have Q5 := hide q5
          have HRI := hide hri
          have HBW := hide hbw
          clear q5 hri hbw hrt
          go_wp2_with fail
          refine Q5.out.mono ?_
          rintro e w5 ⟨b5, ⟨-, v5, rfl, o5⟩ | ⟨hno, -⟩⟩
          · have B5 := hide (HBW.out.trans (b5.mono HBW.out.size))
            have BW := hide (hw.trans (b5.mono hw.size))
            have HRI5 := hide (HRI.out.below b5)
            obtain ⟨A5, c5, hv5, _⟩ := o5.by_.form
            subst hv5
            clear b5 o5 Q5
            rcases Nat.lt_trichotomy (encs ((rws L).take i)).length k with hlt | heq | hgt
            · have g1 : (((encs ((rws L).take i)).length : Int) == (k : Int)) = false := beq_eq_false_iff_ne.2 (by omega)
              have g2 : decide ((k : Int) < ((encs ((rws L).take i)).length : Int)) = false := decide_eq_false (by omega)
              have g3 : ((encs ((rws L).take i)).length == k) = false := beq_eq_false_iff_ne.2 (by omega)
              have g4 : decide (k < (encs ((rws L).take i)).length) = false := decide_eq_false (by omega)
              have HLT := hide hlt
              clear hlt
              go_wp2_with fail
              go_roundw
              case rel =>
                refine ⟨i + 1, by omega, by go_num, fun j hj => ?_, BW.out⟩
                rcases Nat.lt_or_ge j i with hji | hji
                · exact HLOW.out j hji
                · rw [show j = i by omega]; exact HLT.out
              case measure => simp [intOf]; omega
            · exact absurd heq (HNE.out i (by simpa using hle))
            · have g1 : (((encs ((rws L).take i)).length : Int) == (k : Int)) = false := beq_eq_false_iff_ne.2 (by omega)
              have g2 : decide ((k : Int) < ((encs ((rws L).take i)).length : Int)) = true := decide_eq_true (by omega)
              have g3 : ((encs ((rws L).take i)).length == k) = false := beq_eq_false_iff_ne.2 (by omega)
              have g4 : decide (k < (encs ((rws L).take i)).length) = true := decide_eq_true (by omega)
              clear hgt
              go_wp2_with fail
              go_ret
              exact ⟨rfl, B5.out⟩
          · exact absurd (may_take HMAY.out i) hno
        · have i1 : ¬ (i : Int) ≤ (L.length : Int) := by omega
          go_wp2_with fail
          go_ret
          exact ⟨rfl, C4.out.trans (hw.mono C4.out.size)⟩
  · have B2 := hide (B1.out.trans (b2.mono B1.out.size))
    clear b2 Q2 hno
    go_wp2_with fail
    go_ret
    exact ⟨rfl, B2.out⟩
end Go.Proofs.YteaagngikiaokaaDoor
