/- Joined texts: MbZB. -/
import Derived.Test.YtoaaplngdomdcaaGreatJ6
import Derived.Test.YtoaaplngdomdcaaGreatJ11
import Derived.Test.YtoaaplngdomdcaaGreatJ12

/- What the statements call a matrix, over bytes: times, solve. Printed by wip/zbb.py. -/
namespace Go.Proofs.YtoaaplngdomdcaaGreat.MB
open Go.RowKit
section
variable {w : World} {n : Nat} {M : Nat → Nat → UInt8}
theorem own_of {w : World} {base n : Nat} {v : Value} (r : Nat → UInt8) (h : w.ownsRow base 5 1 v n (bcells ((List.range n).map r))) : Own w base 5 v ((List.range n).map r) := by
  unfold Own
  rw [List.length_map, List.length_range]
  exact h
theorem bcells_rcells (y : Nat → UInt8) (n : Nat) : bcells ((List.range n).map y) = rcells en y n := by simp [bcells, rcells, en]

set_option maxRecDepth 100000 in
set_option maxHeartbeats 8000000 in
theorem mtimes_c (x : Nat) (ve : Value) (y : Nat → UInt8) (h : Mtx w x n n M) (hk : Fk w) (hn : 1 ≤ n ∧ n ≤ 256) (hv : Ny w .u32 ve ((List.range n).map fun i => (y i).toNat)) :
    Calls Tryz.prog 18 #[.agg #[.pointer (some ⟨x, 0, none⟩), .pointer none], ve] w fun e w' => ∃ (u : Value) (er : Int) (b : Bool) (L : List UInt8), e = .returned (.tuple #[u, .int .i64 er, .bool b]) ∧ OwnN w' w.heap.size 22 .u32 u (L.map UInt8.toNat) ∧ Below w.heap.size w w' ∧ (er = 0 ∧ L = (List.range n).map fun i => F8.dot n (M i) y) := by
  have b0 := (Below.refl w.heap.size w).alloc (Nat.le_refl _) (.cells #[.pointer (some ⟨x, 0, none⟩), .pointer none] 32)
  have n0 := Blk.new w 32 #[.pointer (some ⟨x, 0, none⟩), .pointer none]
  generalize hW0 : w.alloc (.cells #[.pointer (some ⟨x, 0, none⟩), .pointer none] 32) = W0 at b0 n0
  have Q1 := hide (bytes_any _ _ W0 (hv.below b0) (by simp; omega))
  rw [show ((List.range n).map fun i => (y i).toNat).map UInt8.ofNat = (List.range n).map y by simp] at Q1
  have HH := hide (And.intro h (And.intro hk hn))
  have HB0 := hide (And.intro b0 n0)
  have d0 : W0.cell? ⟨w.heap.size, 0, none⟩ = some (.pointer (some ⟨x, 0, none⟩)) := by rw [n0.cell]; rfl
  have d1 : W0.cell? ⟨w.heap.size, 1, none⟩ = some (.pointer none) := by rw [n0.cell]; rfl
  clear h hk hn hv b0 n0
  go_enter Tryz.func18, Tryz.ntmps18
  go_wp2_with fail
  refine Q1.out.mono ?_
  rintro e w1 ⟨vb, rfl, o1, b1⟩
  obtain ⟨A1, c1, rfl, _⟩ := o1.by_.form
  obtain ⟨bl, hbl, hlen⟩ : ∃ bl : List UInt8, bl = (List.range n).map y ∧ bl.length = n := ⟨_, rfl, by simp⟩
  rw [← hbl] at o1 ⊢
  have HBL := hide (And.intro hbl hlen)
  have by1 := o1.by_
  rw [hlen] at by1 ⊢
  have Q2 := hide (lent_any _ bl w1 by1 (by have := HH.out.2.2; omega))
  have O1 := hide (And.intro o1 b1)
  clear Q1 o1 by1 hbl hlen d0 d1
  go_wp2_with fail
  refine Q2.out.mono ?_
  rintro e w2 ⟨v, rfl, o2, b2⟩
  obtain ⟨g, cap, rfl, hg, hglt⟩ := o2.form (by simp)
  have hby := o2.front
  have hs : Sl w2 1 (.slice (some ⟨g, 0, none⟩) n cap) n (rcells en y n) := by
    have h5 : Sl w2 1 (.slice (some ⟨g, 0, none⟩) bl.length cap) bl.length (bcells bl) := hby
    rw [HBL.out.2, HBL.out.1, bcells_rcells] at h5
    exact h5
  have k1 : n ≤ cap := by obtain ⟨A', c', hv, hc', _⟩ := hs.form; injection hv; omega
  have k2 : (n : Int) ≤ (cap : Int) := by omega
  have k3 : (0 : Int) ≤ (n : Int) := by omega
  have hbw : Below w.heap.size w w2 := Below.step (Below.step HB0.out.1 O1.out.2) b2
  have Q3 : Hid (∀ V W, Below w2.heap.size w2 V → Below V.heap.size V W → Calls Tryz.prog 59 #[.pointer (some ⟨x, 0, none⟩), .slice (some ⟨g, 0, none⟩) n cap] W fun e w' => ∃ (u : Value) (er : Int) (L : List UInt8), e = .returned (.tuple #[u, .int .i64 er]) ∧ Own w' V.heap.size 5 u L ∧ Below V.heap.size V w' ∧ ((er = 0 ∧ L = (List.range n).map fun i => F8.dot n (M i) y) ∧ L.length ≤ 256)) := hide (fun V W hV hVW => by
    have hW := Below.step hV hVW
    refine (times_c ((HH.out.1.below hbw).below hW) HH.out.2.1 HH.out.2.2 (by have := HH.out.2.2; omega) _ y (hs.below hW)).mono ?_
    rintro e w' ⟨u, rfl, ho, hb⟩
    rw [← bcells_rcells] at ho
    exact ⟨u, 0, _, rfl, own_of _ (row_mono ho hVW.size), Below.step hVW hb, ⟨rfl, rfl⟩, by have := HH.out.2.2; simp; omega⟩)
  have HS : Hid (∀ W, Below w2.heap.size w2 W → W.cell? ⟨w.heap.size, 0, none⟩ = some (.pointer (some ⟨x, 0, none⟩)) ∧ W.cell? ⟨w.heap.size, 1, none⟩ = some (.pointer none)) := fun W hb => ⟨by rw [(((HB0.out.2.below' O1.out.2).below' b2).below' hb).cell]; rfl, by rw [(((HB0.out.2.below' O1.out.2).below' b2).below' hb).cell]; rfl⟩
  obtain ⟨e0, e1⟩ := HS.out w2 (Below.refl _ _)
  have O2 := hide (And.intro o2 (And.intro b2 (And.intro hglt hbw)))
  generalize hNN : (bl ++ marks 0 bl.length 70).length = NN at *
  clear Q2 b2 o2 hby hs hg hglt hbw
  go_wp2_with fail
  go_region_held3 (fun w' => w'.cell? ⟨w.heap.size, 0, none⟩ = some (.pointer (some ⟨x, 0, none⟩)) ∧ w'.cell? ⟨w.heap.size, 1, none⟩ = some (.pointer none)) (first | go_keep | exact HS.out _ (by assumption) | exact HS.out _ (Below.drew (by assumption)) | exact HS.out _ (Below.drew (Below.refl _ _)))
    (first | (go_at_call 59; (with_reducible refine (Q3.out w2 _ (Below.refl _ _) ?bb).mono ?_); (case bb => (repeat (first | with_reducible exact Below.refl _ _ | with_reducible assumption | with_reducible refine Below.drew ?_))); rintro e w3 ⟨u, er, L, rfl, ho3, hb3, hcd⟩; have HCD := hide hcd; clear hcd))
  obtain ⟨f0, f1⟩ := HS.out w3 hb3
  have HS3 : Hid (∀ W, Below w3.heap.size w3 W → W.cell? ⟨w.heap.size, 0, none⟩ = some (.pointer (some ⟨x, 0, none⟩)) ∧ W.cell? ⟨w.heap.size, 1, none⟩ = some (.pointer none)) := fun W hb => HS.out _ (Below.step hb3 hb)
  have O3 := hide (And.intro ho3 hb3)
  clear ho3 hb3 e0 e1
  go_wp2_with fail
  go_region_held3 (fun w' => w'.cell? ⟨w.heap.size, 0, none⟩ = some (.pointer (some ⟨x, 0, none⟩)) ∧ w'.cell? ⟨w.heap.size, 1, none⟩ = some (.pointer none)) (first | go_keep | exact HS3.out _ (by assumption) | exact HS3.out _ (Below.drew (by assumption)) | exact HS3.out _ (Below.drew (Below.refl _ _)))
    (first | (go_at_call 59; (with_reducible refine (Q3.out w3 _ O3.out.2 ?bb).mono ?_); (case bb => (repeat (first | with_reducible exact Below.refl _ _ | with_reducible assumption | with_reducible refine Below.drew ?_))); rintro e w4 ⟨u2, er2, L2, rfl, ho4, hb4, hcd⟩; have HCD2 := hide hcd; clear hcd))
  have hLL : L2 = L := by
    rw [HCD.out.1.2, HCD2.out.1.2]
  subst hLL
  have ho3 := Own.below O3.out.1 hb4
  obtain ⟨A5, c5, rfl, _⟩ := ho3.by_.form
  obtain ⟨A6, c6, rfl, _⟩ := ho4.by_.form
  have O4 := hide (And.intro ho4 (And.intro hb4 ho3))
  have hlen2 := HCD.out.2
  have Q6 := hide (words_any _ L2 w4 ho3.by_ (by omega))
  clear ho3 ho4 hb4 HCD2 f0 f1 Q3
  go_wp2_with fail
  refine Q6.out.mono ?_
  rintro e w5 ⟨v5, rfl, o5, b5⟩
  have O5 := hide (And.intro o5 b5)
  have ofl := O2.out.1.below (Below.step O3.out.2 (Below.step O4.out.2.1 b5))
  have obl := O1.out.1.below (Below.step O2.out.2.1 (Below.step O3.out.2 (Below.step O4.out.2.1 b5)))
  have Q7 := hide (kept_any _ _ _ bl w5 ofl.by_ obl.by_ (by have := HH.out.2.2; have := HBL.out.2; omega))
  have hkb : decide (bl ++ marks 0 bl.length 70 = bl ++ marks 0 bl.length 70) = true := by simp
  rw [hkb, HBL.out.2] at Q7
  clear o5 b5 ofl obl Q6 hkb
  go_wp2_with fail
  refine Q7.out.mono ?_
  rintro e w6 ⟨rfl, b6⟩
  have B6 := hide (Below.step O5.out.2 b6)
  have B56 := hide b6
  clear Q7 b6
  have Q8 := hide (same_any _ _ L2 L2 w6 (O4.out.2.2.below B6.out).by_ (O4.out.1.below B6.out).by_)
  have hss : decide (L2 = L2) = true := by simp
  rw [hss] at Q8
  clear hss
  go_wp2_with fail
  refine Q8.out.mono ?_
  rintro e w7 ⟨rfl, b7⟩
  have B7 := hide (Below.step B6.out b7)
  have B57 := hide (Below.step B56.out b7)
  clear Q8 b7
  have h37 := Below.step O3.out.2 (Below.step O4.out.2.1 B7.out)
  have hap := AB.apt_later O3.out.1 O4.out.1 (Nat.le_refl _)
  have Q9 := hide (AB.apart2 w2.heap.size h37.size (O4.out.2.2.below B7.out) (AB.own_base (O4.out.1.below B7.out) O3.out.2.size) hap (by omega) (by omega))
  have H37 := hide h37
  clear hap h37
  go_wp2_with fail
  refine Q9.out.mono ?_
  rintro e w8 ⟨rfl, b8, ho8⟩
  have hv8 := ho8 _ _ _ _ _ _ (by decide) (by decide) (O5.out.1.below B57.out)
  have HF := hide (And.intro (row_mono hv8 (Below.step O2.out.2.2.2 (Below.step O3.out.2 O4.out.2.1)).size) ((Below.step O2.out.2.2.2 H37.out).trans (b8.mono O2.out.2.2.2.size)))
  clear Q9 b8 ho8 hv8
  go_wp2
  go_ret3
  exact ⟨v5, er, _, L2, rfl, HF.out.1, HF.out.2, HCD.out.1⟩

set_option maxRecDepth 100000 in
set_option maxHeartbeats 8000000 in
theorem msolve_c (x : Nat) (ve : Value) (y : Nat → UInt8) (h : Mtx w x n n M) (hk : Fk w) (hn : 1 ≤ n ∧ n ≤ 256) (hv : Ny w .u32 ve ((List.range n).map fun i => (y i).toNat)) :
    Calls Tryz.prog 15 #[.agg #[.pointer (some ⟨x, 0, none⟩), .pointer none], ve] w fun e w' => ∃ (u : Value) (er : Int) (b : Bool) (L : List UInt8), e = .returned (.tuple #[u, .int .i64 er, .bool b]) ∧ OwnN w' w.heap.size 22 .u32 u (L.map UInt8.toNat) ∧ Below w.heap.size w w' ∧ (F8.rank n M = n ∧ er = 0 ∧ L = (List.range n).map (F8.sol n M y) ∨ F8.rank n M ≠ n ∧ er = 71 ∧ L = []) := by
  have b0 := (Below.refl w.heap.size w).alloc (Nat.le_refl _) (.cells #[.pointer (some ⟨x, 0, none⟩), .pointer none] 32)
  have n0 := Blk.new w 32 #[.pointer (some ⟨x, 0, none⟩), .pointer none]
  generalize hW0 : w.alloc (.cells #[.pointer (some ⟨x, 0, none⟩), .pointer none] 32) = W0 at b0 n0
  have Q1 := hide (bytes_any _ _ W0 (hv.below b0) (by simp; omega))
  rw [show ((List.range n).map fun i => (y i).toNat).map UInt8.ofNat = (List.range n).map y by simp] at Q1
  have HH := hide (And.intro h (And.intro hk hn))
  have HB0 := hide (And.intro b0 n0)
  have d0 : W0.cell? ⟨w.heap.size, 0, none⟩ = some (.pointer (some ⟨x, 0, none⟩)) := by rw [n0.cell]; rfl
  have d1 : W0.cell? ⟨w.heap.size, 1, none⟩ = some (.pointer none) := by rw [n0.cell]; rfl
  clear h hk hn hv b0 n0
  go_enter Tryz.func15, Tryz.ntmps15
  go_wp2_with fail
  refine Q1.out.mono ?_
  rintro e w1 ⟨vb, rfl, o1, b1⟩
  obtain ⟨A1, c1, rfl, _⟩ := o1.by_.form
  obtain ⟨bl, hbl, hlen⟩ : ∃ bl : List UInt8, bl = (List.range n).map y ∧ bl.length = n := ⟨_, rfl, by simp⟩
  rw [← hbl] at o1 ⊢
  have HBL := hide (And.intro hbl hlen)
  have by1 := o1.by_
  rw [hlen] at by1 ⊢
  have Q2 := hide (lent_any _ bl w1 by1 (by have := HH.out.2.2; omega))
  have O1 := hide (And.intro o1 b1)
  clear Q1 o1 by1 hbl hlen d0 d1
  go_wp2_with fail
  refine Q2.out.mono ?_
  rintro e w2 ⟨v, rfl, o2, b2⟩
  obtain ⟨g, cap, rfl, hg, hglt⟩ := o2.form (by simp)
  have hby := o2.front
  have hs : Sl w2 1 (.slice (some ⟨g, 0, none⟩) n cap) n (rcells en y n) := by
    have h5 : Sl w2 1 (.slice (some ⟨g, 0, none⟩) bl.length cap) bl.length (bcells bl) := hby
    rw [HBL.out.2, HBL.out.1, bcells_rcells] at h5
    exact h5
  have k1 : n ≤ cap := by obtain ⟨A', c', hv, hc', _⟩ := hs.form; injection hv; omega
  have k2 : (n : Int) ≤ (cap : Int) := by omega
  have k3 : (0 : Int) ≤ (n : Int) := by omega
  have hbw : Below w.heap.size w w2 := Below.step (Below.step HB0.out.1 O1.out.2) b2
  have Q3 : Hid (∀ V W, Below w2.heap.size w2 V → Below V.heap.size V W → Calls Tryz.prog 46 #[.pointer (some ⟨x, 0, none⟩), .slice (some ⟨g, 0, none⟩) n cap] W fun e w' => ∃ (u : Value) (er : Int) (L : List UInt8), e = .returned (.tuple #[u, .int .i64 er]) ∧ Own w' V.heap.size 5 u L ∧ Below V.heap.size V w' ∧ ((F8.rank n M = n ∧ er = 0 ∧ L = (List.range n).map (F8.sol n M y) ∨ F8.rank n M ≠ n ∧ er = 71 ∧ L = []) ∧ L.length ≤ 256)) := hide (fun V W hV hVW => by
    have hW := Below.step hV hVW
    refine (solve_c ((HH.out.1.below hbw).below hW) HH.out.2.1 HH.out.2.2 _ y (hs.below hW)).mono ?_
    rintro e w' ⟨hb, ⟨hr, u, rfl, ho⟩ | ⟨hr, rfl⟩⟩
    · rw [← bcells_rcells] at ho
      exact ⟨u, 0, _, rfl, own_of _ (row_mono ho hVW.size), Below.step hVW hb, .inl ⟨hr, rfl, rfl⟩, by have := HH.out.2.2; simp; omega⟩
    · exact ⟨_, 71, [], rfl, Own.nil _ _ _, Below.step hVW hb, .inr ⟨hr, rfl, rfl⟩, by simp⟩)
  have HS : Hid (∀ W, Below w2.heap.size w2 W → W.cell? ⟨w.heap.size, 0, none⟩ = some (.pointer (some ⟨x, 0, none⟩)) ∧ W.cell? ⟨w.heap.size, 1, none⟩ = some (.pointer none)) := fun W hb => ⟨by rw [(((HB0.out.2.below' O1.out.2).below' b2).below' hb).cell]; rfl, by rw [(((HB0.out.2.below' O1.out.2).below' b2).below' hb).cell]; rfl⟩
  obtain ⟨e0, e1⟩ := HS.out w2 (Below.refl _ _)
  have O2 := hide (And.intro o2 (And.intro b2 (And.intro hglt hbw)))
  generalize hNN : (bl ++ marks 0 bl.length 70).length = NN at *
  clear Q2 b2 o2 hby hs hg hglt hbw
  go_wp2_with fail
  go_region_held3 (fun w' => w'.cell? ⟨w.heap.size, 0, none⟩ = some (.pointer (some ⟨x, 0, none⟩)) ∧ w'.cell? ⟨w.heap.size, 1, none⟩ = some (.pointer none)) (first | go_keep | exact HS.out _ (by assumption) | exact HS.out _ (Below.drew (by assumption)) | exact HS.out _ (Below.drew (Below.refl _ _)))
    (first | (go_at_call 46; (with_reducible refine (Q3.out w2 _ (Below.refl _ _) ?bb).mono ?_); (case bb => (repeat (first | with_reducible exact Below.refl _ _ | with_reducible assumption | with_reducible refine Below.drew ?_))); rintro e w3 ⟨u, er, L, rfl, ho3, hb3, hcd⟩; have HCD := hide hcd; clear hcd))
  obtain ⟨f0, f1⟩ := HS.out w3 hb3
  have HS3 : Hid (∀ W, Below w3.heap.size w3 W → W.cell? ⟨w.heap.size, 0, none⟩ = some (.pointer (some ⟨x, 0, none⟩)) ∧ W.cell? ⟨w.heap.size, 1, none⟩ = some (.pointer none)) := fun W hb => HS.out _ (Below.step hb3 hb)
  have O3 := hide (And.intro ho3 hb3)
  clear ho3 hb3 e0 e1
  go_wp2_with fail
  go_region_held3 (fun w' => w'.cell? ⟨w.heap.size, 0, none⟩ = some (.pointer (some ⟨x, 0, none⟩)) ∧ w'.cell? ⟨w.heap.size, 1, none⟩ = some (.pointer none)) (first | go_keep | exact HS3.out _ (by assumption) | exact HS3.out _ (Below.drew (by assumption)) | exact HS3.out _ (Below.drew (Below.refl _ _)))
    (first | (go_at_call 46; (with_reducible refine (Q3.out w3 _ O3.out.2 ?bb).mono ?_); (case bb => (repeat (first | with_reducible exact Below.refl _ _ | with_reducible assumption | with_reducible refine Below.drew ?_))); rintro e w4 ⟨u2, er2, L2, rfl, ho4, hb4, hcd⟩; have HCD2 := hide hcd; clear hcd))
  have hLL : L2 = L := by
    rcases HCD.out.1 with ⟨h1, _, h3⟩ | ⟨h1, _, h3⟩ <;> rcases HCD2.out.1 with ⟨h4, _, h6⟩ | ⟨h4, _, h6⟩
    · rw [h3, h6]
    · exact absurd h1 h4
    · exact absurd h4 h1
    · rw [h3, h6]
  subst hLL
  have ho3 := Own.below O3.out.1 hb4
  obtain ⟨A5, c5, rfl, _⟩ := ho3.by_.form
  obtain ⟨A6, c6, rfl, _⟩ := ho4.by_.form
  have O4 := hide (And.intro ho4 (And.intro hb4 ho3))
  have hlen2 := HCD.out.2
  have Q6 := hide (words_any _ L2 w4 ho3.by_ (by omega))
  clear ho3 ho4 hb4 HCD2 f0 f1 Q3
  go_wp2_with fail
  refine Q6.out.mono ?_
  rintro e w5 ⟨v5, rfl, o5, b5⟩
  have O5 := hide (And.intro o5 b5)
  have ofl := O2.out.1.below (Below.step O3.out.2 (Below.step O4.out.2.1 b5))
  have obl := O1.out.1.below (Below.step O2.out.2.1 (Below.step O3.out.2 (Below.step O4.out.2.1 b5)))
  have Q7 := hide (kept_any _ _ _ bl w5 ofl.by_ obl.by_ (by have := HH.out.2.2; have := HBL.out.2; omega))
  have hkb : decide (bl ++ marks 0 bl.length 70 = bl ++ marks 0 bl.length 70) = true := by simp
  rw [hkb, HBL.out.2] at Q7
  clear o5 b5 ofl obl Q6 hkb
  go_wp2_with fail
  refine Q7.out.mono ?_
  rintro e w6 ⟨rfl, b6⟩
  have B6 := hide (Below.step O5.out.2 b6)
  have B56 := hide b6
  clear Q7 b6
  have Q8 := hide (same_any _ _ L2 L2 w6 (O4.out.2.2.below B6.out).by_ (O4.out.1.below B6.out).by_)
  have hss : decide (L2 = L2) = true := by simp
  rw [hss] at Q8
  clear hss
  go_wp2_with fail
  refine Q8.out.mono ?_
  rintro e w7 ⟨rfl, b7⟩
  have B7 := hide (Below.step B6.out b7)
  have B57 := hide (Below.step B56.out b7)
  clear Q8 b7
  have h37 := Below.step O3.out.2 (Below.step O4.out.2.1 B7.out)
  have hap := AB.apt_later O3.out.1 O4.out.1 (Nat.le_refl _)
  have Q9 := hide (AB.apart2 w2.heap.size h37.size (O4.out.2.2.below B7.out) (AB.own_base (O4.out.1.below B7.out) O3.out.2.size) hap (by omega) (by omega))
  have H37 := hide h37
  clear hap h37
  go_wp2_with fail
  refine Q9.out.mono ?_
  rintro e w8 ⟨rfl, b8, ho8⟩
  have hv8 := ho8 _ _ _ _ _ _ (by decide) (by decide) (O5.out.1.below B57.out)
  have HF := hide (And.intro (row_mono hv8 (Below.step O2.out.2.2.2 (Below.step O3.out.2 O4.out.2.1)).size) ((Below.step O2.out.2.2.2 H37.out).trans (b8.mono O2.out.2.2.2.size)))
  clear Q9 b8 ho8 hv8
  go_wp2
  go_ret3
  exact ⟨v5, er, _, L2, rfl, HF.out.1, HF.out.2, HCD.out.1⟩
end
end Go.Proofs.YtoaaplngdomdcaaGreat.MB
