/- Matrices of bytes: rows with more behind them. -/
import Derived.Test.YtoaaplngdomdcaaMbD
namespace Go.Proofs.Ytoaaplngdomdcaa.MB
open Go.RowKit
section

variable {w : World} {g n m : Nat} {M : Nat → Nat → UInt8}

abbrev Gr (w : World) (base g n m : Nat) (M : Nat → Nat → UInt8) : Prop := Grid 38 5 en w base g n m M
abbrev GrO (w : World) (base : Nat) (v : Value) (n m : Nat) (M : Nat → Nat → UInt8) : Prop := GridO 38 5 en w base v n m M
theorem rcells_one (r : Nat → UInt8) (e : Nat) : ∀ x ∈ rcells en r e, x.oneCell' = true := fun x hx => by
  obtain ⟨_, _, rfl⟩ := List.mem_map.1 hx
  rfl

set_option maxRecDepth 100000 in
set_option maxHeartbeats 4000000 in
theorem beside_c (h : Mtx w g n m M) (hn : n ≤ 256) (hm : 0 < m ∧ m ≤ 1024) (e : Nat) (he : e ≤ 1024) (N : Nat → Nat → UInt8) (K : FuncId) (cap : Array Value)
    (hent : ∀ (args : Array Value) (w : World), (callFunc K args).run Try.prog w = .ok (.enter K args) w)
    (hcl : ∀ (i : Nat) (w' : World), i < n → Below w.heap.size w w' → Calls Try.prog K (#[.int .i64 (i : Int)] ++ cap) w' fun x w'' => ∃ v, x = .returned v ∧ Sl w'' 1 v e (rcells en (N i) e) ∧ Below w'.heap.size w' w'') :
    Calls Try.prog 137 #[.pointer (some ⟨g, 0, none⟩), .func (.func K) #[] cap] w fun x w' => ∃ v, x = .returned v ∧ GrO w' w.heap.size v n (m + e) (Fd.beside m M N) ∧ Below w.heap.size w w' := by
  obtain ⟨_, hblk, hrd⟩ := h
  obtain ⟨A, c, rfl, hnc, hcm, hcell⟩ := hrd.sl
  have h1 : w.cell? ⟨g, 1, none⟩ = some (.slice A n c) := by rw [hblk.cell]; rfl
  have HC := hide hcell
  have HCL := hide hcl
  have HN := hide (And.intro hn (And.intro hm he))
  clear hcell hcl hblk hrd hnc hcm hm he
  go_enter Try.func137, Try.ntmps137
  go_wp2_with fail
  go_loopw [5, 6, 7, 13] (fun u5 _ _ u13 wr => ∃ k : Nat, k ≤ n ∧ u13 = .int .i64 (k : Int) ∧ GrO wr w.heap.size u5 k (m + e) (Fd.beside m M N) ∧ Below w.heap.size w wr) (fun _ _ _ u13 _ => n - (intOf u13).toNat)
  case atStart => exact ⟨0, by omega, rfl, GridO.nil _ _ _ _ _ _ _, Below.refl _ _⟩
  case round =>
    obtain ⟨k, hk, rfl, hg, hbel⟩ := hrel
    have HG := hide hg
    clear hg
    by_cases hlt : k < n
    · have i1 : (k : Int) < (n : Int) := by omega
      have i2 : (0 : Int) ≤ (k : Int) := by omega
      obtain ⟨b, o, B, d, rfl, hbl, hcx, hsl⟩ := HC.out k hlt
      have hcx2 := (hbel.cell (p := ⟨b, o + k, none⟩) hbl).trans hcx
      have q := HCL.out k wr hlt hbel
      have hE := hent #[.int .i64 (k : Int)]
      have HSL := hide hsl
      clear hsl hcx
      go_wp2_with fail
      refine q.mono ?_
      rintro x w2 ⟨v, rfl, hs2, hb2⟩
      obtain ⟨A2, c2, rfl, -, -, -⟩ := hs2.form
      have hbel2 := hbel.trans (hb2.mono hbel.size)
      have n3 := Blk.new w2 38 #[.slice B m d, .slice A2 e c2]
      have b3 := (Below.refl w2.heap.size w2).alloc (Nat.le_refl _) (.cells #[.slice B m d, .slice A2 e c2] 38)
      have s1 := (HSL.out.below hbel2).below b3
      have s2 := hs2.below b3
      have H2 := hide (And.intro hbel2 (And.intro b3 hb2))
      clear q hE hs2 hb2 hbel2 b3
      go_wp2_with fail
      generalize hW3 : w2.alloc (.cells #[.slice B m d, .slice A2 e c2] 38) = W3 at *
      have q4 := concat_c w2.heap.size m e (.slice B m d) (.slice A2 e c2) _ _ W3 (by rw [n3.cell]; rfl) (by rw [n3.cell]; rfl) n3.lt s1 s2 (by have := HN.out; omega) (by have := HN.out; omega) (rcells_one _ _) (rcells_one _ _)
      clear hW3
      refine q4.mono ?_
      rintro x w4 ⟨r, rfl, ho4, hb4⟩
      obtain ⟨b4, cap4, cur, rfl, hbb, hblk4, hmc, hcm, hcur⟩ := own_blk ho4 (by have := HN.out; omega)
      have hbel4 := (H2.out.1.trans (H2.out.2.1.mono H2.out.1.size)).trans (hb4.mono (Nat.le_trans H2.out.1.size H2.out.2.1.size))
      have hbw := (H2.out.2.2.trans (H2.out.2.1.mono H2.out.2.2.size)).trans (hb4.mono (Nat.le_trans H2.out.2.2.size H2.out.2.1.size))
      have hle : wr.heap.size ≤ b4 := Nat.le_trans (Nat.le_trans H2.out.2.2.size H2.out.2.1.size) hbb
      obtain ⟨xs, hxs, hnext⟩ := GridO.form (w := w4) HG.out (by decide) hbw
      have HX := hide (hnext b4 cap4 cur)
      have HY := hide (show wr.heap.size ≤ b4 ∧ w.heap.size ≤ b4 ∧ Blk w4 b4 5 cur ∧ m + e ≤ cap4 ∧ cap4 ≤ maxLen ∧ ∀ j, j < m + e → cur[j]? = some (en (Fd.beside m M N k j)) from
        ⟨hle, Nat.le_trans hbel.size hle, hblk4, hmc, hcm, fun j hj => by rw [hcur j hj, rcells_beside hj]; rfl⟩)
      have HXS := hide hxs
      have HB4 := hide hbel4
      have hk2 : k + 1 ≤ 257 := by omega
      clear q4 s1 s2 n3 ho4 hb4 hblk4 hcur hbb hmc hcm hnext hxs hbw hle H2 hbel4 HG
      go_wp2_with (at_builtin; go_loud (refine wpList_push1 elemO HXS.out HB4.out HB4.out.size (by unfold maxLen; omega) (by omega) (.slice (some ⟨b4, 0, none⟩) (m + e) cap4) rfl rfl _ _ rfl rfl rfl ?_); intro v5 w5 ho5 hb5 _ hg5 _; have HG5 := hide (HX.out v5 w5 HY.out.1 HY.out.2.1 HY.out.2.2.1 HY.out.2.2.2.1 HY.out.2.2.2.2.1 HY.out.2.2.2.2.2 ho5 hg5); clear ho5 hg5)
      go_roundw
      case rel => exact ⟨k + 1, by omega, by go_num, HG5.out, hb5⟩
      case measure => simp [intOf]; omega
    · have hkn : k = n := by omega
      subst hkn
      go_wp2
      go_ret
      exact ⟨_, rfl, HG.out, hbel⟩
end
end Go.Proofs.Ytoaaplngdomdcaa.MB
