/- Matrices of bytes: Identity, and what Inverse hands to others. -/
import Derived.Test.YtoaaplngdomdcaaMbH
import Derived.Test.YtoaaplngdomdcaaMxP
namespace Go.Proofs.Ytoaaplngdomdcaa.MB
open Go.RowKit
section

variable {w : World} {base g n m : Nat} {M : Nat → Nat → UInt8}

theorem mx_low {w : World} {base g G : Nat} {L : List (List UInt8)} {u : Value} (h : Mx w base g L) (hG : G < base) : Mx (w.setCell ⟨G, 0, none⟩ u) base g L := by
  have low : ∀ {e : TypeId} {v : Value} {n : Nat} {xs : List Value}, w.ownsRow base e 1 v n xs → (w.setCell ⟨G, 0, none⟩ u).ownsRow base e 1 v n xs := fun {e v n xs} ho => ho.kept (store_grown w G 0 u) (by
    rcases hb : v.ownBlock with _ | b
    · exact .inl rfl
    · refine .inr fun e => ?_
      have := (ho.lt b hb).1
      injection e with e
      omega)
  obtain ⟨h0, v, h1, xs, h2, h3⟩ := h
  refine ⟨h0, v, h1.far (show g ≠ G by omega) _, xs, low h2, fun i l hl => ?_⟩
  obtain ⟨x, hx, ho⟩ := h3 i l hl
  exact ⟨x, hx, low ho⟩
/-- What lays a matrix, with what stands when an older block is written. -/
theorem laid_s (rows cols : Nat) (K : FuncId) (cap : Array Value) (M : Nat → Nat → UInt8) (w : World) (hr : rows ≤ 256) (hc : cols ≤ 256)
    (hent : ∀ (args : Array Value) (w : World), (callFunc K args).run Try.prog w = .ok (.enter K args) w)
    (hcl : ∀ (i j : Nat) (w' : World), i < rows → j < cols → Below w.heap.size w w' → Calls Try.prog K (#[.int .i64 (i : Int), .int .i64 (j : Int)] ++ cap) w' fun e w'' => e = .returned (.int .u8 ((UInt8.toNat (M i j) : Nat) : Int)) ∧ Below w'.heap.size w' w'') :
    Calls Try.prog 117 #[gfF, .int .i64 (rows : Int), .int .i64 (cols : Int), .func (.func K) #[] cap] w fun e w' => ∃ g, e = .returned (.pointer (some ⟨g, 0, none⟩)) ∧ Mtx w' g rows cols M ∧ Below w.heap.size w w' ∧ ∀ G u, G < w.heap.size → Mtx (w'.setCell ⟨G, 0, none⟩ u) g rows cols M := by
  refine (laid_any rows cols K cap M w hr hc hent hcl).mono ?_
  rintro e w' ⟨g, rfl, hmx, hb⟩
  exact ⟨g, rfl, mt_of hmx, hb, fun G u hG => mt_of (mx_low hmx hG)⟩
theorem dims_c (r c : Nat) (w : World) (hr : 1 ≤ r ∧ r ≤ 256) (hc : 1 ≤ c ∧ c ≤ 256) :
    Calls Try.prog 80 #[.int .i64 (r : Int), .int .i64 (c : Int)] w fun e w' => e = .returned (.bool true) ∧ w = w' := by
  have i1 : (r : Int) ≥ 1 := by omega
  have i2 : (r : Int) ≤ 256 := by omega
  have i3 : (c : Int) ≥ 1 := by omega
  have i4 : (c : Int) ≤ 256 := by omega
  go_enter Try.func80, Try.ntmps80
  go_wp2
  go_ret
  exact ⟨rfl, rfl⟩
set_option maxRecDepth 100000 in
set_option maxHeartbeats 1600000 in
theorem identc_c (i j b : Nat) (w : World) (hk : Fk w) (hi : i ≤ 256) (hj : j ≤ 256) (c1 : w.cell? ⟨b, 0, none⟩ = some gfF) :
    Calls Try.prog 131 #[.int .i64 (i : Int), .int .i64 (j : Int), .pointer (some ⟨b, 0, none⟩)] w fun e w' => e = .returned (.int .u8 ((UInt8.toNat (F8.ident i j) : Nat) : Int)) ∧ Below w.heap.size w w' := by
  have m1 := meth_one
  have m2 := meth_zero
  have Q1 := hide (fone_c w hk)
  have Q2 := hide (fzero_c w hk)
  clear hk
  unfold Fd.ident
  by_cases h : i = j
  · subst h
    rw [if_pos rfl]
    go_enter Try.func131, Try.ntmps131
    go_wp2_with fail
    refine Q1.out.mono ?_
    rintro e w' ⟨rfl, rfl⟩
    go_wp2
    go_ret
    exact ⟨rfl, by first | exact Below.refl _ _ | exact (Below.refl _ _).alloc (Nat.le_refl _) _⟩
  · rw [if_neg h]
    have i1 : ¬ (i : Int) = (j : Int) := by omega
    clear h
    go_enter Try.func131, Try.ntmps131
    go_wp2_with fail
    refine Q2.out.mono ?_
    rintro e w' ⟨rfl, rfl⟩
    go_wp2
    go_ret
    exact ⟨rfl, by first | exact Below.refl _ _ | exact (Below.refl _ _).alloc (Nat.le_refl _) _⟩
set_option maxRecDepth 100000 in
set_option maxHeartbeats 1600000 in
theorem ident_c (n : Nat) (w : World) (hk : Fk w) (hn : 1 ≤ n ∧ n ≤ 256) :
    Calls Try.prog 76 #[gfF, .int .i64 (n : Int)] w fun e w' =>
      ∃ x, e = .returned (.tuple #[.pointer (some ⟨x, 0, none⟩), .int .i64 0]) ∧ Mtx w' x n n F8.ident ∧ Below w.heap.size w w' ∧ ∀ G u, G < w.heap.size → Mtx (w'.setCell ⟨G, 0, none⟩ u) x n n F8.ident := by
  have q1 := fun w => dims_c n n w hn hn
  have HM := hide hk
  have HN := hide hn
  clear hk hn
  go_enter Try.func76, Try.ntmps76
  go_wp2_with fail
  refine (q1 _).mono ?_
  rintro e w' ⟨rfl, rfl⟩
  go_wp2_with fail
  have n1 := Blk.new w 167 #[gfF]
  have n4 := (Below.refl w.heap.size w).alloc (Nat.le_refl _) (.cells #[gfF] 167)
  generalize w.alloc (.cells #[gfF] 167) = W at *
  refine (laid_s n n 131 #[.pointer (some ⟨w.heap.size, 0, none⟩)] F8.ident W HN.out.2 HN.out.2
    (enters_of Try.func131 (by kernel_rfl) rfl) ?_).mono ?_
  · intro i j w' hi hj hb
    have hn := HN.out
    refine identc_c i j w.heap.size w' ((HM.out.below n4).below hb) (by omega) (by omega) ?_
    rw [(n1.below' hb).cell]; rfl
  · rintro e w' ⟨x, rfl, hmx, hb, hlw⟩
    have H4 := hide (And.intro n4 (And.intro hmx (And.intro hb hlw)))
    clear n1 n4 hmx hb hlw q1
    go_wp2
    go_ret2
    exact ⟨x, rfl, H4.out.2.1, H4.out.1.trans (H4.out.2.2.1.mono H4.out.1.size), fun G u hG => H4.out.2.2.2 G u (Nat.lt_of_lt_of_le hG H4.out.1.size)⟩

/-- A row of the identity, as Inverse lays it behind. -/
theorem inv1_c (x b i : Nat) (h : Mtx w x n m M) (hi : i < n) (c1 : w.cell? ⟨b, 0, none⟩ = some (.pointer (some ⟨x, 0, none⟩))) :
    Calls Try.prog 138 #[.int .i64 (i : Int), .pointer (some ⟨b, 0, none⟩)] w fun e w' => ∃ v, e = .returned v ∧ Sl w' 1 v m (rcells en (M i) m) ∧ Below w.heap.size w w' := by
  obtain ⟨_, hblk, hrd⟩ := h
  obtain ⟨A, c, rfl, hnc, hcm, hcell⟩ := hrd.sl
  have h1 : w.cell? ⟨x, 1, none⟩ = some (.slice A n c) := by rw [hblk.cell]; rfl
  obtain ⟨b2, o, B, d, rfl, hbl, hcx, hsl⟩ := hcell i hi
  have i1 : (i : Int) < (n : Int) := by omega
  have i2 : (0 : Int) ≤ (i : Int) := by omega
  have HS := hide hsl
  clear hcell hblk hrd hsl
  go_enter Try.func138, Try.ntmps138
  go_wp2
  go_ret
  exact ⟨_, rfl, HS.out, Below.refl _ _⟩
set_option maxHeartbeats 1600000 in
/-- An element of what was reckoned, as Inverse lays it out. -/
theorem inv2_c (b1 b2 i j k cap : Nat) (hg : Gr w base g n m M) (hi : i < n) (hj : k + j < m) (hm : m ≤ 4096) (hcap : n ≤ cap) (c1 : w.cell? ⟨b1, 0, none⟩ = some (.slice (some ⟨g, 0, none⟩) n cap)) (c2 : w.cell? ⟨b2, 0, none⟩ = some (.int .i64 (k : Int))) :
    Calls Try.prog 140 #[.int .i64 (i : Int), .int .i64 (j : Int), .pointer (some ⟨b1, 0, none⟩), .pointer (some ⟨b2, 0, none⟩)] w fun e w' => e = .returned (.int .u8 ((UInt8.toNat (M i (k + j)) : Nat) : Int)) ∧ Below w.heap.size w w' := by
  obtain ⟨b, cb, hb1, hb2, hb3, hb4, hb5, hb6, hb7⟩ := hg.at_ (by decide) hi
  obtain ⟨hv1, _, _⟩ := hb7 (k + j) hj
  have hv2 : w.cell? ⟨b, k + j, none⟩ = some (.int .u8 ((UInt8.toNat (M i (k + j)) : Nat) : Int)) := hv1
  generalize M i (k + j) = x at *
  obtain ⟨s, hs⟩ : ∃ s, s = k + j := ⟨_, rfl⟩
  rw [← hs] at hv2 hj
  have hw : IntKind.i64.wrap ((k : Int) + (j : Int)) = (s : Int) := by
    rw [show (k : Int) + (j : Int) = (s : Int) by omega]
    exact IntWalk.i64_in _ (by omega)
  have i1 : (i : Int) < (n : Int) := by omega
  have i2 : (0 : Int) ≤ (i : Int) := by omega
  have i3 : (s : Int) < (m : Int) := by omega
  have i4 : (0 : Int) ≤ (s : Int) := by omega
  clear hs hb2 hb3 hb4 hb5 hb6 hb7 hv1 hg
  go_enter Try.func140, Try.ntmps140
  go_wp2
  go_quiet (fail)
  go_wp2
  go_ret
  exact ⟨rfl, by first | exact Below.refl _ _ | exact below_drewN (Below.refl _ _) _⟩
end
end Go.Proofs.Ytoaaplngdomdcaa.MB
