import Derived.Test.YtdohebhbiokljaaGreatDoorJ2
import Derived.Test.YtdohebhbiokljaaGreatDoorJ1
import Derived.Laws.CopyOwn
import Derived.Deep.RegionLaw
import Derived.Laws.ResultCell
import Derived.Deep.RegionHeld3
import Derived.Laws.StructEq
set_option linter.all false
namespace Go.Proofs.YtdohebhbiokljaaGreatDoor
open Go.RowKit
set_option maxHeartbeats 400000 in
theorem cat_join (v : Value) (L : List (Value × List UInt8)) (w : World) (h : Lsts w v L) (ht : total L ≤ 1099511627776) :
  Calls Tryz.prog 39 #[v] w fun e w' => ∃ v', e = .returned v' ∧ Own w' w.heap.size 5 v' (cat L) ∧ Below w.heap.size w w' := by
 obtain ⟨A, c, rfl, -, -, -⟩ := h.1.form
 have H := hide h
 clear h
 go_enter Tryz.func39, Tryz.ntmps39
 go_wp2_with fail
 refine (concat_any _ L w H.out ht).mono ?_
 rintro e w1 ⟨v1, rfl, o1, b1⟩
 go_wp2
 go_ret
 exact ⟨_, rfl, o1, b1⟩
theorem lsts_two {w : World} {g : Nat} {va vb : Value} {a b : List UInt8} (t : TypeId) (hg : g = w.heap.size) (ha : By w va a) (hb : By w vb b) : Lsts (w.alloc (.cells #[va, vb] t)) (.slice (some ⟨g, 0, none⟩) 2 2) [(va, a), (vb, b)] := by
 subst hg
 have hbel := (Below.refl w.heap.size w).alloc (Nat.le_refl _) (.cells #[va, vb] t)
 refine ⟨⟨rfl, _, _, rfl, Nat.le_refl _, by unfold maxLen; simp, fun _ => ⟨_, _, rfl, by simp, fun j hj => ?_⟩⟩, fun x hx => ?_⟩
 ·rw [(Blk.new w t #[va, vb]).cell]
  have : j = 0 ∨ j = 1 := by simp at hj; omega
  rcases this with rfl | rfl <;> rfl
 ·simp at hx
  rcases hx with rfl | rfl
  ·exact ha.below hbel
  ·exact hb.below hbel
theorem grown_of_below {w w' : World} (h : Below w.heap.size w w') (r : Option Nat) : w.grownBy w' r := ⟨h.os, h.tape, h.output, h.size, fun k hk _ => h.block k hk⟩
theorem range_at {w : World} {b o n c : Nat} {l : List UInt8} (h : By w (.slice (some ⟨b, o, none⟩) n c) l) (hp : 0 < l.length) : ∀ j v, (bcells l)[j]? = some v → w.cell? ((⟨b, o, none⟩ : Addr).add j) = some v := by
 obtain ⟨b2, o2, he, -, hr⟩ := range_by h hp
 injection he with he
 injection he with e1 e2
 subst e1 e2
 intro j v hv
 rw [Go.Addr.add_mid]
 exact hr j v hv
theorem range_grown {w w' : World} {b o : Nat} {cs : List Value} {r : Option Nat} (h : w.rangeAt b o cs) (hg : w.grownBy w' r) (hb : b < w.heap.size) (hne : some b ≠ r) : w'.rangeAt b o cs := fun j v hj => by
 rw [World.cell?_of_block (hg.block b hb hne)]
 exact h j v hj
theorem grown_eight {w w' : World} {X : Nat} (h : w.grownBy w' (some X)) (b0 b1 b2 b3 b4 b5 b6 b7 : Value) : w.grownBy ((((((((w'.setCell ⟨X, 0, none⟩ b0).setCell ⟨X, 1, none⟩ b1).setCell ⟨X, 2, none⟩ b2).setCell ⟨X, 3, none⟩ b3).setCell ⟨X, 4, none⟩ b4).setCell ⟨X, 5, none⟩ b5).setCell ⟨X, 6, none⟩ b6).setCell ⟨X, 7, none⟩ b7) (some X) :=
 (((((((h.trans_ (store_grown _ _ _ _)).trans_ (store_grown _ _ _ _)).trans_ (store_grown _ _ _ _)).trans_ (store_grown _ _ _ _)).trans_ (store_grown _ _ _ _)).trans_ (store_grown _ _ _ _)).trans_ (store_grown _ _ _ _)).trans_ (store_grown _ _ _ _)
set_option maxRecDepth 100000 in
set_option maxHeartbeats 4000000 in
theorem hsum_any (N n : Nat) (h : H8) (u : Value) (r : List UInt8) (w : World) (hN : Blk w N 181 (hcs h u (n : Int))) (hu : By w u r) (hr : r.length ≤ 64) (hn : n ≤ 1099511627776) (h64 : (r ++ padL n).length % 64 = 0) :
  Calls Tryz.prog 117 #[.pointer (some ⟨N, 0, none⟩)] w fun e w' => e = .returned (.agg (bcells (digL (mixN h (r ++ padL n) ((r ++ padL n).length / 64)))).toArray) ∧ Below w.heap.size w w' := by
 obtain ⟨y0, y1, y2, y3, y4, y5, y6, y7⟩ := h
 obtain ⟨Au, cu, rfl, hcu, hmu, -⟩ := hu.form
 obtain ⟨ru, hru⟩ : ∃ ru, ru = r.length := ⟨_, rfl⟩
 rw [← hru] at hu hN hcu
 have g0 : w.cell? ⟨N, 0, none⟩ = some (.bool true) := (hN.cell 0).trans rfl
 have g1 : w.cell? ⟨N, 1, none⟩ = some (.int .u32 (y0.toNat : Int)) := (hN.cell 1).trans rfl
 have g2 : w.cell? ⟨N, 2, none⟩ = some (.int .u32 (y1.toNat : Int)) := (hN.cell 2).trans rfl
 have g3 : w.cell? ⟨N, 3, none⟩ = some (.int .u32 (y2.toNat : Int)) := (hN.cell 3).trans rfl
 have g4 : w.cell? ⟨N, 4, none⟩ = some (.int .u32 (y3.toNat : Int)) := (hN.cell 4).trans rfl
 have g5 : w.cell? ⟨N, 5, none⟩ = some (.int .u32 (y4.toNat : Int)) := (hN.cell 5).trans rfl
 have g6 : w.cell? ⟨N, 6, none⟩ = some (.int .u32 (y5.toNat : Int)) := (hN.cell 6).trans rfl
 have g7 : w.cell? ⟨N, 7, none⟩ = some (.int .u32 (y6.toNat : Int)) := (hN.cell 7).trans rfl
 have g8 : w.cell? ⟨N, 8, none⟩ = some (.int .u32 (y7.toNat : Int)) := (hN.cell 8).trans rfl
 have g9 : w.cell? ⟨N, 9, none⟩ = some (.slice Au ru cu) := (hN.cell 9).trans rfl
 have ga : w.cell? ⟨N, 10, none⟩ = some (.int .i64 (n : Int)) := (hN.cell 10).trans rfl
 have H0 := hide (And.intro hN (And.intro hu (And.intro hru hr)))
 have HNN := hide (And.intro hn h64)
 clear hN hu hru hr h64
 go_enter Tryz.func117, Tryz.ntmps117
 go_wp2_with fail
 obtain ⟨Z, hZ⟩ : ∃ Z : Array Value, Z = #[.int .u8 0, .int .u8 0, .int .u8 0, .int .u8 0, .int .u8 0, .int .u8 0, .int .u8 0, .int .u8 0, .int .u8 0, .int .u8 0, .int .u8 0, .int .u8 0, .int .u8 0, .int .u8 0, .int .u8 0, .int .u8 0, .int .u8 0, .int .u8 0, .int .u8 0, .int .u8 0, .int .u8 0, .int .u8 0, .int .u8 0, .int .u8 0, .int .u8 0, .int .u8 0, .int .u8 0, .int .u8 0, .int .u8 0, .int .u8 0, .int .u8 0, .int .u8 0] := ⟨_, rfl⟩
 rw [← hZ]
 obtain ⟨W0, hW0⟩ : ∃ W0, W0 = (w.alloc (.cells Z 23)).alloc (.cells Z 23) := ⟨_, rfl⟩
 rw [← hW0]
 have hbel : Below w.heap.size w W0 := by rw [hW0]; exact ((Below.refl _ w).alloc (Nat.le_refl _) _).alloc (by simp) _
 have HW := hide (show Below w.heap.size w W0 ∧ Blk W0 w.heap.size 23 Z ∧ Blk W0 (w.heap.size + 1) 23 Z ∧ Blk W0 N 181 (hcs ⟨y0, y1, y2, y3, y4, y5, y6, y7⟩ (.slice Au ru cu) (n : Int)) ∧ By W0 (.slice Au ru cu) r from
  ⟨hbel, by rw [hW0]; exact (Blk.new _ _ _).alloc _, by rw [hW0]; have := Blk.new (w.alloc (.cells Z 23)) 23 Z; simpa using this, H0.out.1.below' hbel, H0.out.2.1.below hbel⟩)
 have HZ := hide (show Z = (bcells (List.replicate 32 0)).toArray ∧ Z.size = 32 by rw [hZ]; exact ⟨rfl, rfl⟩)
 clear hZ hW0 hbel g0 g1 g2 g3 g4 g5 g6 g7 g8 g9 ga
 have ka : W0.cell? ⟨N, 10, none⟩ = some (.int .i64 (n : Int)) := (HW.out.2.2.2.1.cell 10).trans rfl
 refine (hok_any N W0 ((HW.out.2.2.2.1.cell 0).trans rfl)).mono ?_
 rintro e w1 ⟨rfl, rfl⟩
 go_wp2_with (go_at_call 127; refine (pad_any n _ hn).mono ?_; rintro e w2 ⟨vp, rfl, op, bp⟩; go_loud (obtain ⟨Ap, np, cp, rfl⟩ : ∃ A n c, vp = .slice A n c := (by obtain ⟨A, c, h, -⟩ := op.by_.form; exact ⟨A, _, c, h⟩); have H2 := hide (And.intro (HW.out.1.trans (bp.mono HW.out.1.size)) (And.intro (HW.out.2.1.below' bp) (And.intro (HW.out.2.2.1.below' bp) (And.intro (HW.out.2.2.2.1.below' bp) (And.intro (HW.out.2.2.2.2.below bp) op.by_))))); clear op bp; have q1 : w2.cell? ⟨N, 1, none⟩ = some (.int .u32 (y0.toNat : Int)) := (H2.out.2.2.2.1.cell 1).trans rfl; have q2 : w2.cell? ⟨N, 2, none⟩ = some (.int .u32 (y1.toNat : Int)) := (H2.out.2.2.2.1.cell 2).trans rfl; have q3 : w2.cell? ⟨N, 3, none⟩ = some (.int .u32 (y2.toNat : Int)) := (H2.out.2.2.2.1.cell 3).trans rfl; have q4 : w2.cell? ⟨N, 4, none⟩ = some (.int .u32 (y3.toNat : Int)) := (H2.out.2.2.2.1.cell 4).trans rfl; have q5 : w2.cell? ⟨N, 5, none⟩ = some (.int .u32 (y4.toNat : Int)) := (H2.out.2.2.2.1.cell 5).trans rfl; have q6 : w2.cell? ⟨N, 6, none⟩ = some (.int .u32 (y5.toNat : Int)) := (H2.out.2.2.2.1.cell 6).trans rfl; have q7 : w2.cell? ⟨N, 7, none⟩ = some (.int .u32 (y6.toNat : Int)) := (H2.out.2.2.2.1.cell 7).trans rfl; have q8 : w2.cell? ⟨N, 8, none⟩ = some (.int .u32 (y7.toNat : Int)) := (H2.out.2.2.2.1.cell 8).trans rfl; have q9 : ∀ o, (w2.alloc o).cell? ⟨N, 9, none⟩ = some (.slice Au ru cu) := fun o => ((H2.out.2.2.2.1.alloc o).cell 9).trans rfl))
 have ht := show total [(Value.slice Au ru cu, r), (Value.slice Ap np cp, padL n)] ≤ 1099511627776 by
  have := noughts_le n
  have := H0.out.2.2.2
  simp [total, padL_length]
  omega
 have hbx : ∀ o, Below w2.heap.size w2 (w2.alloc o) := fun o => (Below.refl _ w2).alloc (Nat.le_refl _) o
 have HJ := hide (fun o => cat_join (.slice (some ⟨w2.heap.size + 1, 0, none⟩) 2 2) [(.slice Au ru cu, r), (.slice Ap np cp, padL n)] ((w2.alloc o).alloc (.cells #[.slice Au ru cu, .slice Ap np cp] 34)) (lsts_two 34 (by simp) (H2.out.2.2.2.2.1.below (hbx o)) (H2.out.2.2.2.2.2.below (hbx o))) ht)
 clear ht hbx
 with_reducible refine (HJ.out _).mono ?_
 rintro e w3 ⟨vt, rfl, ot, bt⟩
 obtain ⟨X, hX⟩ : ∃ X, X = w2.heap.size := ⟨_, rfl⟩
 obtain ⟨T, hT⟩ : ∃ T, T = r ++ padL n := ⟨_, rfl⟩
 have ot' : Own w3 (X + 2) 5 vt T := by
  have h1 : cat [(Value.slice Au ru cu, r), (Value.slice Ap np cp, padL n)] = T := by rw [hT]; simp [cat]
  rw [h1] at ot
  simpa [hX] using ot
 have b3 : Below X w2 w3 := by
  have h1 : ∀ o, Below X w2 (w2.alloc o) := fun o => (Below.refl _ w2).alloc (by omega) o
  refine Below.trans ((h1 _).alloc (by simp; omega) _) (bt.mono (by simp; omega))
 have hXb : Blk w3 X 179 (mixN ⟨y0, y1, y2, y3, y4, y5, y6, y7⟩ T 0).cells := by
  have h1 := ((Blk.new w2 179 _).alloc _).below' bt
  rw [← hX] at h1
  exact h1
 have hXd : w.heap.size + 1 < X := by rw [hX]; exact H2.out.2.2.1.lt
 have hTm : T.length % 64 = 0 := by rw [hT]; exact HNN.out.2
 have H3 := hide (show Below w.heap.size w w3 ∧ Blk w3 w.heap.size 23 Z ∧ Blk w3 (w.heap.size + 1) 23 Z ∧ X < w3.heap.size ∧ w.heap.size + 1 < X from ⟨H2.out.1.trans (b3.mono (by omega)), H2.out.2.1.below b3 (by omega), H2.out.2.2.1.below b3 hXd, hXb.lt, hXd⟩)
 obtain ⟨At, nt, ct, rfl⟩ : ∃ A n c, vt = .slice A n c := by
  obtain ⟨A, c, h, -⟩ := ot'.by_.form
  exact ⟨A, _, c, h⟩
 obtain ⟨m, hm⟩ : ∃ m, m = T.length / 64 := ⟨_, rfl⟩
 have HT := hide (And.intro hT (And.intro hTm hm))
 have HI := hide (show By w3 (.slice At nt ct) (T.drop (64 * 0)) ∧ (∀ b o k c, Value.slice At nt ct = .slice (some ⟨b, o, none⟩) k c → b ≠ X) ∧ Blk w3 X 179 (mixN ⟨y0, y1, y2, y3, y4, y5, y6, y7⟩ T 0).cells ∧ w3.grownBy w3 (some X) from ⟨by simpa using ot'.by_, fun b o k c e => by
  injection e with e1 e2 e3
  have h1 := World.ownsRow.lt ot' b (by rw [e1]; rfl)
  omega, hXb, World.grownBy.refl _ _⟩)
 rw [← hX]
 clear hX hT ot ot' b3 hXb hXd hTm hm bt HJ H2 q1 q2 q3 q4 q5 q6 q7 q8 q9 ka
 go_wp2
 go_loopw [7] (fun u7 wr => ∃ q : Nat, q ≤ m ∧ By w3 u7 (T.drop (64 * q)) ∧ (∀ b o k c, u7 = .slice (some ⟨b, o, none⟩) k c → b ≠ X) ∧ Blk wr X 179 (mixN ⟨y0, y1, y2, y3, y4, y5, y6, y7⟩ T q).cells ∧ w3.grownBy wr (some X)) (fun u7 _ => lenV u7)
 case atStart => exact ⟨0, by omega, HI.out⟩
 case round =>
  clear HI
  obtain ⟨q, hq, hv, hbx, h1, h2⟩ := hrel
  have H := hide (And.intro h1 h2)
  clear h1 h2
  obtain ⟨I, hI⟩ : ∃ I, I = 64 * q := ⟨_, rfl⟩
  rw [← hI] at hv
  obtain ⟨h, hh⟩ : ∃ h, h = mixN ⟨y0, y1, y2, y3, y4, y5, y6, y7⟩ T q := ⟨_, rfl⟩
  rw [← hh] at H
  obtain ⟨M, hM⟩ : ∃ M, M = T.drop I := ⟨_, rfl⟩
  rw [← hM] at hv
  have hR : M.length = T.length - I := by rw [hM, List.length_drop]
  have hTl : T.length = 64 * m := by have h1 := HT.out.2.1; have h2 := HT.out.2.2; omega
  have HIQ := hide (And.intro hI (And.intro hh hM))
  by_cases hlt : q < m
  ·obtain ⟨x0, x1, x2, x3, x4, x5, x6, x7⟩ := h
   obtain ⟨A1, c1, rfl, hc1, hm1, -⟩ := hv.form
   obtain ⟨b, o, rfl, hbl, hr⟩ := range_by hv (by omega)
   have hbX : b ≠ X := hbx _ _ _ _ rfl
   obtain ⟨R, hRR⟩ : ∃ R, R = M.length := ⟨_, rfl⟩
   rw [← hRR] at hv hc1 ⊢
   have e0 : (0 : Int) < (R : Int) := by omega
   have e1 : (64 : Int) ≤ (R : Int) := by omega
   have e2 : (R : Int) ≤ (c1 : Int) := by omega
   have hs2a : ∀ W : World, (Instr.arrayAt 98 (.slice (some ⟨b, o, none⟩) R c1)).run Tryz.prog W = .ok (.pointer (some ⟨b, o, none⟩)) W := fun W => run_arrayAt W 98 5 64 _ R c1 Tryz.underlying98 (by omega)
   obtain ⟨bl, hbb⟩ : ∃ bl, bl = M.take 64 := ⟨_, rfl⟩
   have hbl64 : bl.length = 64 := by rw [hbb, List.length_take]; omega
   obtain ⟨cs, hcd⟩ : ∃ cs, cs = bcells bl := ⟨_, rfl⟩
   have hrw : wr.drew.rangeAt b o cs := by rw [hcd, hbb]; exact range_take (range_grown (w' := wr) hr H.out.2 hbl (fun e => hbX (by injection e))) 64
   have hcl : cs.length = 64 := by rw [hcd, bcells_length, hbl64]
   have QM := hide (fun w => mix_eight x0 x1 x2 x3 x4 x5 x6 x7 bl cs.toArray w hbl64 (by rw [hcd]))
   have hci : (Tryz.prog.info? 98).map (·.size) = some cs.length := by rw [hcl]; kernel_rfl
   have HR := hide (And.intro hrw hci)
   have HY := hide (show wr.drew.rangeAt X 0 [.int .u32 (x0.toNat : Int), .int .u32 (x1.toNat : Int), .int .u32 (x2.toNat : Int), .int .u32 (x3.toNat : Int), .int .u32 (x4.toNat : Int), .int .u32 (x5.toNat : Int), .int .u32 (x6.toNat : Int), .int .u32 (x7.toNat : Int)] ∧ (Tryz.prog.info? 179).map (·.size) = some ([.int .u32 (x0.toNat : Int), .int .u32 (x1.toNat : Int), .int .u32 (x2.toNat : Int), .int .u32 (x3.toNat : Int), .int .u32 (x4.toNat : Int), .int .u32 (x5.toNat : Int), .int .u32 (x6.toNat : Int), .int .u32 (x7.toNat : Int)] : List Value).length from ⟨fun j v hj => by
    have hj8 : j < 8 := by simpa using (List.getElem?_eq_some_iff.1 hj).1
    rw [show wr.drew.cell? ⟨X, 0 + j, none⟩ = wr.cell? ⟨X, 0 + j, none⟩ from rfl, H.out.1.cell, ← hj]
    obtain rfl | rfl | rfl | rfl | rfl | rfl | rfl | rfl : j = 0 ∨ j = 1 ∨ j = 2 ∨ j = 3 ∨ j = 4 ∨ j = 5 ∨ j = 6 ∨ j = 7 := by omega
    all_goals rfl, by kernel_rfl⟩)
   have HB := hide (And.intro hv (And.intro hbb (And.intro hRR (And.intro hc1 (And.intro hm1 hbX)))))
   have HK := hide (show ∀ w' : World, Below wr.drew.heap.size wr.drew w' → Hid (Blk w' X 179 (H8.cells ⟨x0, x1, x2, x3, x4, x5, x6, x7⟩) ∧ w3.grownBy w' (some X)) ∧ w'.cell? ⟨X, 0, none⟩ = some (.int .u32 (x0.toNat : Int)) ∧ w'.cell? ⟨X, 1, none⟩ = some (.int .u32 (x1.toNat : Int)) ∧ w'.cell? ⟨X, 2, none⟩ = some (.int .u32 (x2.toNat : Int)) ∧ w'.cell? ⟨X, 3, none⟩ = some (.int .u32 (x3.toNat : Int)) ∧ w'.cell? ⟨X, 4, none⟩ = some (.int .u32 (x4.toNat : Int)) ∧ w'.cell? ⟨X, 5, none⟩ = some (.int .u32 (x5.toNat : Int)) ∧ w'.cell? ⟨X, 6, none⟩ = some (.int .u32 (x6.toNat : Int)) ∧ w'.cell? ⟨X, 7, none⟩ = some (.int .u32 (x7.toNat : Int)) ∧ w'.frozen? ⟨X, 0, none⟩ = false ∧ w'.frozen? ⟨X, 1, none⟩ = false ∧ w'.frozen? ⟨X, 2, none⟩ = false ∧ w'.frozen? ⟨X, 3, none⟩ = false ∧ w'.frozen? ⟨X, 4, none⟩ = false ∧ w'.frozen? ⟨X, 5, none⟩ = false ∧ w'.frozen? ⟨X, 6, none⟩ = false ∧ w'.frozen? ⟨X, 7, none⟩ = false from fun w' hw' => by
    have hk := H.out.1.drew.below' hw'
    refine ⟨hide ⟨hk, H.out.2.trans_ (grown_of_below (w := wr) ⟨hw'.os, hw'.tape, hw'.output, hw'.size, hw'.block⟩ _)⟩, (hk.cell 0).trans rfl, (hk.cell 1).trans rfl, (hk.cell 2).trans rfl, (hk.cell 3).trans rfl, (hk.cell 4).trans rfl, (hk.cell 5).trans rfl, (hk.cell 6).trans rfl, (hk.cell 7).trans rfl, hk.frozen 0, hk.frozen 1, hk.frozen 2, hk.frozen 3, hk.frozen 4, hk.frozen 5, hk.frozen 6, hk.frozen 7⟩)
   clear hv hr hR hTl hbb hbl64 hI hh hM hRR hc1 hm1 hrw hcd hci hcl hbX
   go_wp2
   refine wp_region_any (by kernel_rfl) ?_
   change wpAny _ _ _ _ _ _ _ (World.drew _)
   refine wpAny_take (i := 1) (v := ?v1) rfl (by kernel_rfl) (by kernel_rfl) (by kernel_rfl) (fun _ _ _ h => h) (Or.inl ⟨by rfl, ?hy1⟩) ?rest1
   case hy1 => (intro w; go_simp; try with_reducible rfl)
   refine wpAny_take (i := 2) (v := ?v2) rfl (by kernel_rfl) (by kernel_rfl) (by kernel_rfl) (fun _ _ _ h => h) (Or.inl ⟨by rfl, ?hy2⟩) ?rest2
   case hy2 => (intro w; go_simp; try with_reducible rfl)
   simp only [Act.put, List.setIfInBounds_toArray, List.set_cons_zero, List.set_cons_succ]
   refine wpAny_pair 0 3 36 39 (.agg (List.toArray [.int .u32 (x0.toNat : Int), .int .u32 (x1.toNat : Int), .int .u32 (x2.toNat : Int), .int .u32 (x3.toNat : Int), .int .u32 (x4.toNat : Int), .int .u32 (x5.toNat : Int), .int .u32 (x6.toNat : Int), .int .u32 (x7.toNat : Int)])) (.agg cs.toArray) (by kernel_rfl) (by kernel_rfl) (by kernel_rfl) rfl rfl rfl rfl rfl rfl (by decide) ?yi ?yi2 ?yj ?yj2 ?go
   case yi => exact exec_load_mid 179 (.tmp 6) (by kernel_rfl) X 0 (by kernel_rfl) _ _ HY.out.1 Tryz.underlying179 rfl HY.out.2
   case yi2 => exact exec_load_mid 179 (.tmp 6) (by kernel_rfl) X 0 (by kernel_rfl) _ _ HY.out.1 Tryz.underlying179 rfl HY.out.2
   case yj => exact exec_load_mid 98 (.tmp 38) (by kernel_rfl) b o (by kernel_rfl) cs _ HR.out.1 Tryz.underlying98 rfl HR.out.2
   case yj2 => exact exec_load_mid 98 (.tmp 38) (by kernel_rfl) b o (by kernel_rfl) cs _ HR.out.1 Tryz.underlying98 rfl HR.out.2
   case go =>
    simp only [Act.put, List.setIfInBounds_toArray, List.set_cons_zero, List.set_cons_succ]
    refine wpAny_ready (rs := [4]) (by kernel_rfl) (by simp) ?_
    refine AllReady.cons rfl (fun K hK => ?_) ?_
    rotate_left
    exact AllReady.nil
    go_simp
    refine (QM.out _).mono ?_
    rintro e w' ⟨z0, z1, z2, z3, z4, z5, z6, z7, hz, rfl, hbb⟩
    obtain ⟨HB', p0, p1, p2, p3, p4, p5, p6, p7, f0, f1, f2, f3, f4, f5, f6, f7⟩ := HK.out _ hbb
    refine hK _ _ ?_
    clear hK K
    try simp only [Act.put, List.setIfInBounds_toArray, List.set_cons_zero, List.set_cons_succ]
    refine wpAny_ready (rs := [5]) (by kernel_rfl) (by simp) ?_
    refine AllReady.cons rfl (fun K hK => ?_) ?_
    rotate_left
    exact AllReady.nil
    go_simp
    refine hK _ _ ?_
    clear hK K
    refine wpAny_done (by kernel_rfl) ?_ _
    clear p0 p1 p2 p3 p4 p5 p6 p7 f0 f1 f2 f3 f4 f5 f6 f7
    go_wp2
    go_roundw
    case rel =>
     refine ⟨q + 1, hlt, ?_, ?_, ?_, grown_eight HB'.out.2 _ _ _ _ _ _ _ _⟩
     ·have h2 := by_from HB.out.1 HB.out.2.2.1 (by have := e1; omega) HB.out.2.2.2.1 HB.out.2.2.2.2.1
      rw [HIQ.out.2.2, HIQ.out.1, List.drop_drop] at h2
      rw [show 64 * (q + 1) = 64 * q + 64 by omega]
      exact h2
     ·intro b' o' k' c' e
      have hbX := HB.out.2.2.2.2.2
      by_cases h64 : c1 = 64
      ·simp only [if_pos h64, Value.slice.injEq, Option.some.injEq, Addr.mk.injEq] at e
       omega
      ·simp only [if_neg h64, Value.slice.injEq, Option.some.injEq, Addr.mk.injEq] at e
       omega
     ·rw [mixN_succ, ← HIQ.out.2.1, ← HIQ.out.1, ← HIQ.out.2.2, ← HB.out.2.1, hz]
      exact blk_eight HB'.out.1 _ _ _ _ _ _ _ _
    case measure => simp [lenV]; omega
  ·have hqm : q = m := by omega
   subst hqm
   obtain ⟨A1, c1, rfl, -, -, -⟩ := hv.form
   rw [show M.length = 0 by omega]
   obtain ⟨x0, x1, x2, x3, x4, x5, x6, x7⟩ := h
   have g0 : wr.cell? ⟨X, 0, none⟩ = some (.int .u32 (x0.toNat : Int)) := (H.out.1.cell 0).trans rfl
   have g1 : wr.cell? ⟨X, 1, none⟩ = some (.int .u32 (x1.toNat : Int)) := (H.out.1.cell 1).trans rfl
   have g2 : wr.cell? ⟨X, 2, none⟩ = some (.int .u32 (x2.toNat : Int)) := (H.out.1.cell 2).trans rfl
   have g3 : wr.cell? ⟨X, 3, none⟩ = some (.int .u32 (x3.toNat : Int)) := (H.out.1.cell 3).trans rfl
   have g4 : wr.cell? ⟨X, 4, none⟩ = some (.int .u32 (x4.toNat : Int)) := (H.out.1.cell 4).trans rfl
   have g5 : wr.cell? ⟨X, 5, none⟩ = some (.int .u32 (x5.toNat : Int)) := (H.out.1.cell 5).trans rfl
   have g6 : wr.cell? ⟨X, 6, none⟩ = some (.int .u32 (x6.toNat : Int)) := (H.out.1.cell 6).trans rfl
   have g7 : wr.cell? ⟨X, 7, none⟩ = some (.int .u32 (x7.toNat : Int)) := (H.out.1.cell 7).trans rfl
   clear hv hbx hR hTl hI hh hM hq hlt
   have HD := hide (show Blk wr w.heap.size 23 Z ∧ Blk wr (w.heap.size + 1) 23 Z ∧ Below w.heap.size w wr by
    have h5 := H3.out.2.2.2.2
    exact ⟨H3.out.2.1.grown H.out.2 (by simp; omega), H3.out.2.2.1.grown H.out.2 (by simp; omega), H3.out.1.grown H.out.2 H3.out.1.size fun k hk => by injection hk with hk; omega⟩)
   have HE := hide (show (⟨x0, x1, x2, x3, x4, x5, x6, x7⟩ : H8) = mixN ⟨y0, y1, y2, y3, y4, y5, y6, y7⟩ (r ++ padL n) ((r ++ padL n).length / 64) by
    rw [HIQ.out.2.1, HT.out.2.2, HT.out.1])
   have HZ1 := hide (show Z.all (·.oneCell') = true by rw [HZ.out.1]; simp [bcells, Value.oneCell'])
   by_cases hz : x0 = 0 ∧ x1 = 0 ∧ x2 = 0 ∧ x3 = 0 ∧ x4 = 0 ∧ x5 = 0 ∧ x6 = 0 ∧ x7 = 0
   ·have hcmp : ∀ w, (Op.equalIn 10000 179 (.agg #[.int .u32 (x0.toNat : Int), .int .u32 (x1.toNat : Int), .int .u32 (x2.toNat : Int), .int .u32 (x3.toNat : Int), .int .u32 (x4.toNat : Int), .int .u32 (x5.toNat : Int), .int .u32 (x6.toNat : Int), .int .u32 (x7.toNat : Int)]) (.agg #[.int .u32 0, .int .u32 0, .int .u32 0, .int .u32 0, .int .u32 0, .int .u32 0, .int .u32 0, .int .u32 0])).run Tryz.prog w = .ok true w := fun w => by
     rw [words_eq]
     obtain ⟨rfl, rfl, rfl, rfl, rfl, rfl, rfl, rfl⟩ := hz
     rfl
    have HZZ := hide (show digL ⟨x0, x1, x2, x3, x4, x5, x6, x7⟩ = List.replicate 32 0 by
     obtain ⟨rfl, rfl, rfl, rfl, rfl, rfl, rfl, rfl⟩ := hz
     exact digL_zero)
    clear hz
    go_wp2_with first
     | ((with_reducible change wpList _ _ _ (⟨some 46, _, _, _, _, _⟩ :: _) _ _); refine wpList_load_row (o := ⟨some 46, .load _ _, _, _, _, _⟩) rfl 23 _ rfl (w.heap.size + 1) (by kernel_rfl) 23 Z (0, 0) _ HD.out.2.1 Tryz.underlying23 rfl (by rw [HZ.out.2]; kernel_rfl) ?_)
     | ((with_reducible change wpList _ _ _ (⟨none, .store _ (.tmp 2) _, _, _, _, _⟩ :: _) _ _); refine wpList_store_row (o := ⟨none, .store _ (.tmp 2) _, _, _, _, _⟩) HD.out.1 Z rfl HZ1.out rfl 23 _ _ rfl (by rw [HZ.out.2]; kernel_rfl) (by kernel_rfl) (by kernel_rfl) ?_; intro w7 hb7 hg7)
    refine bodyPost_ret (results_cell_row rfl _ _ w.heap.size 23 Z (0, 0) _ rfl hb7 Tryz.underlying23 rfl (by rw [HZ.out.2]; kernel_rfl)) rfl ⟨?_, HD.out.2.2.grown hg7 HD.out.2.2.size fun k hk => by injection hk with hk; omega⟩
    rw [← HE.out, HZZ.out, HZ.out.1]
   ·have hcmp : ∀ w, (Op.equalIn 10000 179 (.agg #[.int .u32 (x0.toNat : Int), .int .u32 (x1.toNat : Int), .int .u32 (x2.toNat : Int), .int .u32 (x3.toNat : Int), .int .u32 (x4.toNat : Int), .int .u32 (x5.toNat : Int), .int .u32 (x6.toNat : Int), .int .u32 (x7.toNat : Int)]) (.agg #[.int .u32 0, .int .u32 0, .int .u32 0, .int .u32 0, .int .u32 0, .int .u32 0, .int .u32 0, .int .u32 0])).run Tryz.prog w = .ok false w := fun w => by
     rw [words_eq]
     congr 1
     rw [Bool.eq_false_iff]
     intro h
     apply hz
     simp only [Bool.and_eq_true, beq_iff_eq] at h
     have hx : ∀ x : UInt32, (x.toNat : Int) = 0 → x = 0 := fun x hx => UInt32.toNat_inj.1 (by rw [show (0 : UInt32).toNat = 0 from rfl]; omega)
     exact ⟨hx _ h.1.1.1.1.1.1.1, hx _ h.1.1.1.1.1.1.2, hx _ h.1.1.1.1.1.2, hx _ h.1.1.1.1.2, hx _ h.1.1.1.2, hx _ h.1.1.2, hx _ h.1.2, hx _ h.2⟩
    clear hz
    go_wp2
    obtain ⟨h, hh⟩ : ∃ h : H8, h = ⟨x0, x1, x2, x3, x4, x5, x6, x7⟩ := ⟨_, rfl⟩
    have HH := hide hh
    have HD2 := hide (show Blk wr (w.heap.size + 1) 23 (fillN (digL h) 32 (4 * 0)) by rw [Nat.mul_zero, fillN_zero, ← HZ.out.1]; exact HD.out.2.1)
    clear hh g0 g1 g2 g3 g4 g5 g6 g7
    go_loopw [48] (fun u48 w9 => ∃ i : Nat, i ≤ 8 ∧ u48 = .int .i64 (i : Int) ∧ Blk w9 (w.heap.size + 1) 23 (fillN (digL h) 32 (4 * i)) ∧ Below (w.heap.size + 1) wr w9) (fun u48 _ => 8 - (intOf u48).toNat)
    case atStart => exact ⟨0, by omega, rfl, HD2.out, Below.refl _ _⟩
    case round =>
     clear HD2
     obtain ⟨i, hi, rfl, h1, h2⟩ := hrel
     have HL := hide (And.intro h1 h2)
     clear h1 h2
     by_cases hlt : i < 8
     ·obtain ⟨y, hy⟩ : ∃ y, y = h.at i := ⟨_, rfl⟩
      have hgi : (#[.int .u32 (x0.toNat : Int), .int .u32 (x1.toNat : Int), .int .u32 (x2.toNat : Int), .int .u32 (x3.toNat : Int), .int .u32 (x4.toNat : Int), .int .u32 (x5.toNat : Int), .int .u32 (x6.toNat : Int), .int .u32 (x7.toNat : Int)] : Array Value)[i]? = some (.int .u32 (y.toNat : Int)) := by
       have := cells_get h hlt
       rw [← hy, HH.out] at this
       exact this
      obtain ⟨j, hj⟩ : ∃ j, j = 4 * i := ⟨_, rfl⟩
      have e1 : 4 * (i : Int) = (j : Int) := by omega
      have e2 : (j : Int) ≤ 32 := by omega
      have e3 : (0 : Int) ≤ (j : Int) := by omega
      have e4 : (i : Int) < 8 := by omega
      have e5 : ¬ 32 - j = 0 := by omega
      have HW9 := hide (fill_word h i hlt)
      rw [← hy, ← hj] at HW9
      have HJ := hide (And.intro hj hlt)
      have hix : ∀ W : World, (Instr.index 179 (.agg #[.int .u32 (x0.toNat : Int), .int .u32 (x1.toNat : Int), .int .u32 (x2.toNat : Int), .int .u32 (x3.toNat : Int), .int .u32 (x4.toNat : Int), .int .u32 (x5.toNat : Int), .int .u32 (x6.toNat : Int), .int .u32 (x7.toNat : Int)]) (.int .i64 (i : Int))).run Tryz.prog W = .ok (.int .u32 (y.toNat : Int)) W := fun W => word_index _ _ _ _ _ _ _ _ i _ hlt hgi W
      rw [← hj] at HL
      have hj28 : j ≤ 28 := by omega
      have HK := hide (fun w' (hw' : Below wr.drew.heap.size wr.drew w') => And.intro (HL.out.1.drew.below' hw') (HL.out.2.drew.trans (hw'.mono (Nat.le_of_lt HL.out.1.lt))))
      have QB := hide (fun w => big32_any y.toNat w (UInt32.toNat_lt y))
      have hsz1 : (Tryz.prog.info? 5).map (·.size) = some 1 := by kernel_rfl
      have HSZ := hide (And.intro hsz1 hj28)
      have hsl := fun W : World => dig_slice (w.heap.size + 1) j hj28 W
      have hw4 : IntKind.i64.wrap (j : Int) = (j : Int) := by simp [IntKind.wrap, IntKind.bits, IntKind.signed]; omega
      clear hj hy hgi hsz1 hj28
      go_wp2
      have HF := hide (show (fillN (digL h) 32 j).toList.length = 32 by rw [Array.length_toList, fillN_size _ _ _ (by omega) (by rw [digL_length]; omega)])
      have HONE := hide (show ∀ v ∈ bcells (bigL y.toNat 4), v.oneCell' = true from fun v hv => by
       obtain ⟨z, _, rfl⟩ := List.mem_map.1 hv
       rfl)
      go_region_law (first
       | ((refine step_copy_splice rfl (.tmp 54) (.tmp 56) 34 34 rfl 5 elem8.ht HSZ.out.1 (some ⟨w.heap.size + 1, j, none⟩) (some ⟨wr.drew.heap.size, 0, none⟩) (32 - j) (32 - j) 4 4 (by kernel_rfl) (by kernel_rfl) (w.heap.size + 1) j (fillN (digL h) 32 j).toList 23 HC.out.1.1 (bcells (bigL y.toNat 4)) (by rw [bcells_length, bigL_length]; exact (Nat.min_eq_left (by have := HSZ.out.2; omega)).symm) (fun _ => ⟨rfl, _, rfl, range_at HC.out.2 (by simp)⟩) (by rw [HF.out]; have := HSZ.out.2; simp; omega) HONE.out (w.heap.size + 1) _ HC.out.1.2 (Nat.le_refl _) ?_); intro w5 hg5 hb5)
       | (go_simp; refine (QB.out _).mono ?_; rintro e w' ⟨bb, rfl, ob⟩; have HC := hide (And.intro (HK.out _ bb) ob.by_)))
      go_wp2
      go_roundw
      case rel =>
       have hs : splice (fillN (digL h) 32 j).toList j (bcells (bigL y.toNat 4)) = (fillN (digL h) 32 (4 * (i + 1))).toList := by
        unfold splice
        rw [bcells_length, bigL_length]
        exact HW9.out
       refine ⟨i + 1, HJ.out.2, by go_num, ?_, hb5⟩
       have h5 := hg5.out
       rw [hs] at h5
       exact h5
      case measure => simp [intOf]; omega
     ·have hi8 : i = 8 := by omega
      subst hi8
      obtain ⟨F, hF⟩ : ∃ F, F = (bcells (digL h)).toArray := ⟨_, rfl⟩
      have HF := hide (show Blk wr (w.heap.size + 1) 23 F ∧ F.size = 32 ∧ F.all (·.oneCell') = true by
       refine ⟨?_, by rw [hF]; simp, by rw [hF]; simp [bcells, Value.oneCell']⟩
       have := HL.out.1
       rw [show 4 * 8 = 32 from rfl, fillN_full, List.take_of_length_le (by simp)] at this
       rw [hF]
       exact this)
      have HFF := hide hF
      have HD3 := hide (And.intro (HD.out.1.below HL.out.2 (by omega)) (HD.out.2.2.trans (HL.out.2.mono (by omega))))
      clear hF HL
      rw [show ((8 : Nat) : Int) = 8 from rfl]
      go_wp2_with first
       | ((with_reducible change wpList _ _ _ (⟨some 59, _, _, _, _, _⟩ :: _) _ _); refine wpList_load_row (o := ⟨some 59, .load _ _, _, _, _, _⟩) rfl 23 _ rfl (w.heap.size + 1) rfl 23 F (0, 0) _ HF.out.1 Tryz.underlying23 rfl (by rw [HF.out.2.1]; kernel_rfl) ?_)
       | ((with_reducible change wpList _ _ _ (⟨none, .store _ (.tmp 2) _, _, _, _, _⟩ :: _) _ _); refine wpList_store_row (o := ⟨none, .store _ (.tmp 2) _, _, _, _, _⟩) HD3.out.1 F (by rw [HF.out.2.1, HZ.out.2]) HF.out.2.2 rfl 23 _ _ rfl (by rw [HF.out.2.1]; kernel_rfl) rfl rfl ?_; intro w7 hb7 hg7)
      refine bodyPost_ret (results_cell_row rfl _ _ w.heap.size 23 F (0, 0) _ rfl hb7 Tryz.underlying23 rfl (by rw [HF.out.2.1]; kernel_rfl)) rfl ⟨by rw [HFF.out, HH.out, HE.out], HD3.out.2.grown hg7 HD3.out.2.size fun k hk => by injection hk with hk; omega⟩
end Go.Proofs.YtdohebhbiokljaaGreatDoor
namespace Go.Proofs.YtdohebhbiokljaaGreatDoor
open Go.RowKit
def cutW (w : World) (N : Nat) : World := { w with heap := w.heap.extract 0 N }
theorem cutW_size (w : World) (N : Nat) (h : N ≤ w.heap.size) : (cutW w N).heap.size = N := by simp [cutW]; omega
theorem cutW_block (w : World) (N : Nat) (h : N ≤ w.heap.size) (k : Nat) (hk : k < N) : (cutW w N).heap[k]? = w.heap[k]? := by
 simp only [cutW, Array.getElem?_extract]
 rw [if_pos (by omega), Nat.zero_add]
theorem cutW_below (w : World) (N : Nat) (h : N ≤ w.heap.size) : Below N (cutW w N) w := ⟨rfl, rfl, rfl, by rw [cutW_size w N h]; exact h, fun k hk => (cutW_block w N h k hk).symm⟩
theorem below_cutW {w w1 : World} (hb : Below w.heap.size w w1) (N : Nat) (h : N ≤ w1.heap.size) (hN : w.heap.size ≤ N) : Below w.heap.size w (cutW w1 N) := ⟨hb.os, hb.tape, hb.output, by rw [cutW_size w1 N h]; exact hN, fun k hk => (cutW_block w1 N h k (by omega)).trans (hb.block k hk)⟩
set_option maxRecDepth 100000 in
set_option maxHeartbeats 4000000 in
theorem sum_any (g : Nat) (A : Option Addr) (c : Nat) (l : List UInt8) (w : World) (hc : w.cell? ⟨g, 0, none⟩ = some (.slice A l.length c)) (hg : g < w.heap.size) (hv : By w (.slice A l.length c) l) (hl : l.length ≤ 1099511627776) :
  Calls Tryz.prog 100 #[.slice (some ⟨g, 0, none⟩) 1 1] w fun e w' => e = .returned (.agg (bcells (shaL l)).toArray) ∧ Below w.heap.size w w' := by
 obtain ⟨n, hn⟩ : ∃ n, n = l.length := ⟨_, rfl⟩
 rw [← hn] at hc hv hl
 have HV := hide (And.intro hv (And.intro hn hl))
 clear hv hn hl
 go_enter Tryz.func100, Tryz.ntmps100
 go_wp2_with fail
 refine (new_any _).mono ?_
 rintro e w1 ⟨N, rfl, hN, b1, hN0⟩
 obtain ⟨Z, hZ⟩ : ∃ Z : Array Value, Z = (bcells (List.replicate 32 0)).toArray := ⟨_, rfl⟩
 have hD : Blk w1 w.heap.size 23 Z := by rw [hZ]; exact Blk.below' (Blk.new w 23 _) b1
 have hbel : Below w.heap.size w w1 := ((Below.refl _ w).alloc (Nat.le_refl _) _).trans (b1.mono (by simp))
 have H1 := hide (show Blk w1 N 181 (hcs sha0 (.slice none 0 0) 0) ∧ Blk w1 w.heap.size 23 Z ∧ Below w.heap.size w w1 ∧ w.heap.size + 1 ≤ N ∧ Z.size = 32 from ⟨hN, hD, hbel, by simpa using hN0, by rw [hZ]; rfl⟩)
 have hc1 : w1.cell? ⟨g, 0, none⟩ = some (.slice A n c) := (hbel.cell (p := ⟨g, 0, none⟩) hg).trans hc
 clear hN b1 hN0 hD hbel hZ hc
 obtain ⟨W0, hW0⟩ : ∃ W0, W0 = cutW w1 N := ⟨_, rfl⟩
 have hNl := H1.out.1.lt
 have HC := hide (show Below w.heap.size w W0 ∧ Below N W0 w1 ∧ W0.heap.size = N from by
  rw [hW0]
  exact ⟨below_cutW H1.out.2.2.1 N (by omega) (by have := H1.out.2.2.2.1; omega), cutW_below w1 N (by omega), cutW_size w1 N (by omega)⟩)
 have HD0 := hide (show W0.heap[w.heap.size]? = w1.heap[w.heap.size]? from by rw [hW0]; exact cutW_block w1 N (by omega) _ (by have := H1.out.2.2.2.1; omega))
 clear hW0 hNl
 have QW := hide (hwrite_any N (.slice A n c) l W0 w1 (HV.out.1.below HC.out.1) HC.out.2.1 (by rw [HC.out.2.2]; exact Nat.le_refl _) H1.out.1 (by have := HV.out.2.2; have := HV.out.2.1; omega))
 go_wp2
 go_loopw [9] (fun u9 wr => (u9 = .int .i64 0 ∧ w1 = wr) ∨ (u9 = .int .i64 1 ∧ Below N W0 wr ∧ ∃ u, Blk wr N 181 (hcs (mixN sha0 l (l.length / 64)) u (l.length : Int)) ∧ By wr u (l.drop (64 * (l.length / 64))))) (fun u9 _ => 1 - (intOf u9).toNat)
 case atStart => exact .inl ⟨rfl, rfl⟩
 case round =>
  rcases hrel with ⟨rfl, rfl⟩ | ⟨rfl, h1, u, h2, h3⟩
  ·go_wp2_with (go_at_call 116; refine QW.out.mono ?_; rintro e w2 ⟨rfl, b2, u2, k2, y2⟩)
   go_roundw
   case rel => exact .inr ⟨rfl, b2, u2, k2, y2⟩
   case measure => simp [intOf]
  ·have hwh := padL_whole l.length
   have hll : (l.drop (64 * (l.length / 64)) ++ padL l.length).length % 64 = 0 := by
    rw [List.length_append, List.length_drop]
    omega
   have QS := hide (hsum_any N l.length (mixN sha0 l (l.length / 64)) u (l.drop (64 * (l.length / 64))) wr h2 h3 (by rw [List.length_drop]; omega) (by have := HV.out.2.2; have := HV.out.2.1; omega) hll)
   have HB := hide (show Below w.heap.size w wr ∧ Blk wr w.heap.size 23 Z from ⟨HC.out.1.trans (h1.mono (by have := H1.out.2.2.2.1; omega)), (h1.block _ (by have := H1.out.2.2.2.1; omega)).trans (HD0.out.trans H1.out.2.1)⟩)
   obtain ⟨F, hF⟩ : ∃ F, F = (bcells (digL (mixN (mixN sha0 l (l.length / 64)) (l.drop (64 * (l.length / 64)) ++ padL l.length) ((l.drop (64 * (l.length / 64)) ++ padL l.length).length / 64)))).toArray := ⟨_, rfl⟩
   rw [← hF] at QS
   have HF := hide (show F.size = 32 ∧ F.all (·.oneCell') = true ∧ F = (bcells (shaL l)).toArray from ⟨by rw [hF]; simp, by rw [hF]; simp [bcells, Value.oneCell'], by rw [hF, ← shaH_split]; rfl⟩)
   clear hF hll hwh h1 h2 h3
   go_wp2_with first
    | (go_at_call 117; refine QS.out.mono ?_; rintro e w2 ⟨rfl, b2⟩; go_loud (have H2 := hide (And.intro (HB.out.1.trans (b2.mono HB.out.1.size)) (HB.out.2.below' b2)); clear b2))
    | ((with_reducible change wpList _ _ _ (⟨none, .store _ (.tmp 2) _, _, _, _, _⟩ :: _) _ _); refine wpList_store_row (o := ⟨none, .store _ (.tmp 2) _, _, _, _, _⟩) H2.out.2 F (by rw [HF.out.1]; exact H1.out.2.2.2.2.symm) HF.out.2.1 rfl 23 _ _ rfl (by rw [HF.out.1]; kernel_rfl) rfl rfl ?_; intro w7 hb7 hg7)
   refine bodyPost_ret (results_cell_row rfl _ _ w.heap.size 23 F (0, 0) _ rfl hb7 Tryz.underlying23 rfl (by rw [HF.out.1]; kernel_rfl)) rfl ⟨by rw [HF.out.2.2], H2.out.1.grown hg7 H2.out.1.size fun k hk => by injection hk with hk; omega⟩
end Go.Proofs.YtdohebhbiokljaaGreatDoor
namespace Go.Proofs.YtdohebhbiokljaaGreatDoor
open Go.RowKit
theorem quiet_first_same {P : Program} {f : FuncId} {args : Array Value} {w : World} {a : Nat} {v : Value}
  (h : Calls P f args (w.drewN a) fun e w' => e = .returned v ∧ w' = w.drewN a) :
  Calls P f args (w.drewN a) fun e w'' => e = .returned v ∧ ∃ n, w'' = w.drewN n :=
 h.mono fun _ _ ⟨h1, h2⟩ => ⟨h1, a, h2⟩
theorem Blk.cast {w : World} {g : Nat} {t : TypeId} {cs cs' : Array Value} (h : Blk w g t cs) (e : cs = cs') : Blk w g t cs' := e ▸ h
set_option maxRecDepth 100000 in
set_option maxHeartbeats 4000000 in
theorem rmix_any (s : H8) (b : List UInt8) (w : World) (hb : b.length = 64) :
  Calls Tryz.prog 56 #[.agg s.cells, .agg (bcells b).toArray] w fun e w' => e = .returned (.agg (mixH s b).cells) ∧ Below w.heap.size w w' := by
 obtain ⟨B, hB⟩ : ∃ B, B = (bcells b).toArray := ⟨_, rfl⟩
 have hsz : B.size = 64 := by rw [hB]; simp [hb]
 have Q1 := hide (fun w => rwords_any b w hb)
 rw [← hB] at Q1 ⊢
 have HB := hide hB
 clear hB
 have HS := hide (And.intro (fw_size (wdh b) (show 64 ≤ 64 by omega)) (And.intro zeros_size (And.intro (fw_one (wdh b)) (And.intro (fw_size kc (show 64 ≤ 64 by omega)) (fw_one kc)))))
 have hsc : s.cells = #[.int .u32 (s.a.toNat : Int), .int .u32 (s.b.toNat : Int), .int .u32 (s.c.toNat : Int), .int .u32 (s.d.toNat : Int), .int .u32 (s.e.toNat : Int), .int .u32 (s.f.toNat : Int), .int .u32 (s.g.toNat : Int), .int .u32 (s.h.toNat : Int)] := rfl
 have HSC := hide hsc
 have HONE := hide s.one
 have hz : ((List.replicate 64 (Value.int .u32 0)).toArray) = fw 0 (wdh b) := (fw_zero _).symm
 have n0 := ((Blk.new w 96 s.cells).alloc (.cells B 98)).alloc (.cells #[.int .u32 0, .int .u32 0, .int .u32 0, .int .u32 0, .int .u32 0, .int .u32 0, .int .u32 0, .int .u32 0] 96)
 have n1 := (Blk.new (w.alloc (.cells s.cells 96)) 98 B).alloc (.cells #[.int .u32 0, .int .u32 0, .int .u32 0, .int .u32 0, .int .u32 0, .int .u32 0, .int .u32 0, .int .u32 0] 96)
 have n2 := Blk.new ((w.alloc (.cells s.cells 96)).alloc (.cells B 98)) 96 #[.int .u32 0, .int .u32 0, .int .u32 0, .int .u32 0, .int .u32 0, .int .u32 0, .int .u32 0, .int .u32 0]
 have nb : Below w.heap.size w (((w.alloc (.cells s.cells 96)).alloc (.cells B 98)).alloc (.cells #[.int .u32 0, .int .u32 0, .int .u32 0, .int .u32 0, .int .u32 0, .int .u32 0, .int .u32 0, .int .u32 0] 96)) := (((Below.refl _ w).alloc (Nat.le_refl _) _).alloc (by simp) _).alloc (by simp; omega) _
 simp only [World.size_alloc] at n1 n2
 have H0 := hide (And.intro n0 (And.intro n1 (And.intro n2 nb)))
 clear n0 n1 n2 nb hsc hz
 go_enter Tryz.func56, Tryz.ntmps56
 go_wp2_with (refine wpList_load_row (o := ⟨some 14, .load _ _, _, _, _, _⟩) rfl 98 _ rfl (w.heap.size + 1) rfl 98 B (0, 0) _ H0.out.2.1 Tryz.underlying98 rfl (by rw [hsz]; kernel_rfl) ?_)
 refine (Q1.out _).mono ?_
 rintro e w1 ⟨rfl, b1⟩
 have H1 := hide (And.intro (H0.out.1.below' b1) (And.intro (H0.out.2.2.1.below' b1) (H0.out.2.2.2.trans (b1.mono H0.out.2.2.2.size))))
 clear b1 H0
 go_wp2_with (refine wpList_store_row (o := ⟨none, .store _ (.tmp 5) _, _, _, _, _⟩) (Blk.new w1 129 (List.replicate 64 (Value.int .u32 0)).toArray) (fw 64 (wdh b)) (by rw [HS.out.1, HS.out.2.1]) HS.out.2.2.1 rfl 129 _ _ rfl (by rw [HS.out.1]; kernel_rfl) rfl rfl ?_; intro w2 hb2 hg2)
 have H2 := hide (show Blk w2 w.heap.size 96 s.cells ∧ Blk w2 (w.heap.size + 1 + 1) 96 #[.int .u32 0, .int .u32 0, .int .u32 0, .int .u32 0, .int .u32 0, .int .u32 0, .int .u32 0, .int .u32 0] ∧ Blk w2 w1.heap.size 129 (fw 64 (wdh b)) ∧ Below w.heap.size w w2 by
  have l1 := H1.out.2.1.lt
  exact ⟨(H1.out.1.alloc _).grown hg2 (by simp; omega), (H1.out.2.1.alloc _).grown hg2 (by simp; omega), hb2, (H1.out.2.2.alloc (by omega) _).grown hg2 (by simp; omega) fun k hk => by injection hk with hk; omega⟩)
 clear hb2 hg2
 go_wp2_with fail
 refine (rconstants_any w2).mono ?_
 rintro e w3 ⟨rfl, b3⟩
 have H3 := hide (And.intro (H2.out.1.below' b3) (And.intro (H2.out.2.1.below' b3) (And.intro (H2.out.2.2.1.below' b3) (H2.out.2.2.2.trans (b3.mono H2.out.2.2.2.size)))))
 have hlt12 := hide (show w.heap.size + 2 < w1.heap.size ∧ w1.heap.size < w2.heap.size ∧ w2.heap.size ≤ w3.heap.size by
  have l1 := H1.out.2.1.lt
  exact ⟨by omega, H2.out.2.2.1.lt, b3.size⟩)
 clear b3 H2 H1
 go_wp2_with first
  | ((with_reducible change wpList _ _ _ (⟨none, .store _ (.tmp 6) _, _, _, _, _⟩ :: _) _ _); refine wpList_store_row (o := ⟨none, .store _ (.tmp 6) _, _, _, _, _⟩) (Blk.new w3 129 (List.replicate 64 (Value.int .u32 0)).toArray) (fw 64 kc) (by rw [HS.out.2.2.2.1, HS.out.2.1]) HS.out.2.2.2.2 rfl 129 _ _ rfl (by rw [HS.out.2.2.2.1]; kernel_rfl) rfl rfl ?_; intro w4 hb4 hg4; have H4 := hide (And.intro hb4 (And.intro hg4 ((H3.out.1.alloc _).grown hg4 (by have := hlt12.out; simp; omega)))); clear hb4 hg4)
  | ((with_reducible change wpList _ _ _ (⟨some 17, _, _, _, _, _⟩ :: _) _ _); refine wpList_load_row (o := ⟨some 17, .load _ _, _, _, _, _⟩) rfl 96 _ rfl w.heap.size rfl 96 s.cells (0, 0) _ H4.out.2.2 Tryz.underlying96 rfl (by kernel_rfl) ?_)
  | ((with_reducible change wpList _ _ _ (⟨none, .store _ (.tmp 7) _, _, _, _, _⟩ :: _) _ _); refine wpList_store_row (o := ⟨none, .store _ (.tmp 7) _, _, _, _, _⟩) (Blk.new w4 96 #[.int .u32 0, .int .u32 0, .int .u32 0, .int .u32 0, .int .u32 0, .int .u32 0, .int .u32 0, .int .u32 0]) s.cells rfl HONE.out rfl 96 _ _ rfl (by rw [HSC.out]; kernel_rfl) rfl rfl ?_; intro w5 hb5 hg5; have H6 := hide (And.intro hb5 hg5); clear hb5 hg5)
 have l12 := hlt12.out
 have l5 : w3.heap.size < w4.heap.size := H4.out.1.lt
 have hgg := H4.out.2.1
 have HI := hide (show Blk w5 w.heap.size 96 s.cells ∧ Blk w5 (w.heap.size + 1 + 1) 96 #[.int .u32 0, .int .u32 0, .int .u32 0, .int .u32 0, .int .u32 0, .int .u32 0, .int .u32 0, .int .u32 0] ∧ Blk w5 w1.heap.size 129 (fw 64 (wdh b)) ∧ Blk w5 w3.heap.size 129 (fw 64 kc) ∧ Blk w5 w4.heap.size 96 (rds s b 0).cells ∧ Below w.heap.size w w5 by
  exact ⟨(H4.out.2.2.alloc _).grown H6.out.2 (by simp; omega), ((((H3.out.2.1.alloc _).grown hgg (by simp; omega)).alloc _).grown H6.out.2 (by simp; omega)), ((((H3.out.2.2.1.alloc _).grown hgg (by simp; omega)).alloc _).grown H6.out.2 (by simp; omega)), (H4.out.1.alloc _).grown H6.out.2 (by simp; omega), H6.out.1,
   (((H3.out.2.2.2.alloc (by omega) _).grown hgg (by simp; omega) fun k hk => by injection hk with hk; omega).alloc (by omega) _).grown H6.out.2 (by simp; omega) fun k hk => by injection hk with hk; omega⟩)
 obtain ⟨N2, hN2⟩ : ∃ n, n = w1.heap.size := ⟨_, rfl⟩
 obtain ⟨N3, hN3⟩ : ∃ n, n = w3.heap.size := ⟨_, rfl⟩
 obtain ⟨N4, hN4⟩ : ∃ n, n = w4.heap.size := ⟨_, rfl⟩
 rw [← hN2, ← hN3, ← hN4] at HI ⊢
 have HLT := hide (show w.heap.size + 2 < N2 ∧ N2 < N3 ∧ N3 < N4 by omega)
 clear hN2 hN3 hN4 l12 l5 hgg H6 H4 H3 hlt12
 go_loopw [8, 9, 10, 11, 12] (fun u8 _ _ _ _ wr => ∃ i : Nat, i ≤ 64 ∧ u8 = .int .i64 (i : Int) ∧ Blk wr w.heap.size 96 s.cells ∧ Blk wr (w.heap.size + 1 + 1) 96 #[.int .u32 0, .int .u32 0, .int .u32 0, .int .u32 0, .int .u32 0, .int .u32 0, .int .u32 0, .int .u32 0] ∧ Blk wr N2 129 (fw 64 (wdh b)) ∧ Blk wr N3 129 (fw 64 kc) ∧ Blk wr N4 96 (rds s b i).cells ∧ Below w.heap.size w wr) (fun i _ _ _ _ _ => 64 - (intOf i).toNat)
 case atStart => exact ⟨0, by omega, rfl, HI.out⟩
 case round =>
  clear HI
  obtain ⟨i, hi, rfl, h1, h2, h3, h4, h5, h6⟩ := hrel
  have H := hide (And.intro h1 (And.intro h2 (And.intro h3 (And.intro h4 (And.intro h5 h6)))))
  clear h1 h2 h3 h4 h5 h6
  by_cases hlt : i < 64
  ·obtain ⟨⟨y0, y1, y2, y3, y4, y5, y6, y7⟩, hy⟩ : ∃ y, y = rds s b i := ⟨_, rfl⟩
   have HY := hide hy
   clear hy
   obtain ⟨a, ha⟩ : ∃ a, a = kc i := ⟨_, rfl⟩
   obtain ⟨c, hc⟩ : ∃ c, c = wdh b i := ⟨_, rfl⟩
   have g0 : wr.cell? ⟨N4, 0, none⟩ = some (.int .u32 (y0.toNat : Int)) := by rw [H.out.2.2.2.2.1.cell, ← HY.out]; rfl
   have g1 : wr.cell? ⟨N4, 1, none⟩ = some (.int .u32 (y1.toNat : Int)) := by rw [H.out.2.2.2.2.1.cell, ← HY.out]; rfl
   have g2 : wr.cell? ⟨N4, 2, none⟩ = some (.int .u32 (y2.toNat : Int)) := by rw [H.out.2.2.2.2.1.cell, ← HY.out]; rfl
   have g3 : wr.cell? ⟨N4, 3, none⟩ = some (.int .u32 (y3.toNat : Int)) := by rw [H.out.2.2.2.2.1.cell, ← HY.out]; rfl
   have g4 : wr.cell? ⟨N4, 4, none⟩ = some (.int .u32 (y4.toNat : Int)) := by rw [H.out.2.2.2.2.1.cell, ← HY.out]; rfl
   have g5 : wr.cell? ⟨N4, 5, none⟩ = some (.int .u32 (y5.toNat : Int)) := by rw [H.out.2.2.2.2.1.cell, ← HY.out]; rfl
   have g6 : wr.cell? ⟨N4, 6, none⟩ = some (.int .u32 (y6.toNat : Int)) := by rw [H.out.2.2.2.2.1.cell, ← HY.out]; rfl
   have g7 : wr.cell? ⟨N4, 7, none⟩ = some (.int .u32 (y7.toNat : Int)) := by rw [H.out.2.2.2.2.1.cell, ← HY.out]; rfl
   have s0 := H.out.2.2.2.2.1.frozen 0
   have s1 := H.out.2.2.2.2.1.frozen 1
   have s2 := H.out.2.2.2.2.1.frozen 2
   have s3 := H.out.2.2.2.2.1.frozen 3
   have s4 := H.out.2.2.2.2.1.frozen 4
   have s5 := H.out.2.2.2.2.1.frozen 5
   have s6 := H.out.2.2.2.2.1.frozen 6
   have s7 := H.out.2.2.2.2.1.frozen 7
   have ga : wr.cell? ⟨N3, i, none⟩ = some (.int .u32 (a.toNat : Int)) := by rw [H.out.2.2.2.1.cell, fw_get _ (by omega), ha]
   have gc : wr.cell? ⟨N2, i, none⟩ = some (.int .u32 (c.toNat : Int)) := by rw [H.out.2.2.1.cell, fw_get _ (by omega), hc]
   obtain ⟨R, hR⟩ : ∃ R, R = rkh := ⟨_, rfl⟩
   obtain ⟨X, hX⟩ : ∃ X, X = xo := ⟨_, rfl⟩
   obtain ⟨AN, hA⟩ : ∃ A, A = an := ⟨_, rfl⟩
   obtain ⟨D, hD⟩ : ∃ D, D = ad := ⟨_, rfl⟩
   obtain ⟨NT, hN⟩ : ∃ N, N = nt := ⟨_, rfl⟩
   have x1 : ∀ a b : UInt32, bits .xor .u32 (a.toNat : Int) (b.toNat : Int) = ((X a b).toNat : Int) := by rw [hX]; exact w_xor
   have x2 : ∀ a b : UInt32, bits .and .u32 (a.toNat : Int) (b.toNat : Int) = ((AN a b).toNat : Int) := by rw [hA]; exact w_and
   have x3 : ∀ a b : UInt32, IntKind.u32.wrap ((a.toNat : Int) + (b.toNat : Int)) = ((D a b).toNat : Int) := by rw [hD]; exact w_add
   have x4 : ∀ a b : UInt32, ((a.toNat : Int) + (b.toNat : Int)) % 4294967296 = ((D a b).toNat : Int) := by rw [hD]; exact w_add'
   have x5 : ∀ a : UInt32, bits .xor .u32 IntKind.u32.max (a.toNat : Int) = ((NT a).toNat : Int) := by rw [hN]; exact w_not'
   have x6 : ∀ a : UInt32, bits .xor .u32 4294967295 (a.toNat : Int) = ((NT a).toNat : Int) := x5
   have QR := hide (show ∀ (x : UInt32) (k : Int) (w : World), (1 ≤ k ∧ k ≤ 31) → Calls Tryz.prog 85 #[.int .u32 (x.toNat : Int), .int .u64 k] w fun e w' => e = .returned (.int .u32 ((R x k).toNat : Int)) ∧ w' = w by rw [hR]; exact turn_k)
   have HEQ := hide (And.intro ha (And.intro hc (And.intro hR (And.intro hX (And.intro hA (And.intro hD hN))))))
   clear ha hc hR hX hA hD hN
   have bi : (i : Int) < 64 := by omega
   have pi : (0 : Int) ≤ (i : Int) := by omega
   go_wp2
   go_quiet ((go_at_call 85; with_reducible exact quiet_first_same (QR.out _ _ _ (by omega))))
   go_wp2
   go_quiet ((go_at_call 85; with_reducible exact quiet_add_same (QR.out _ _ _ (by omega))))
   go_wp2
   go_roundw
   case rel =>
    have n0 := HLT.out
    have n1 : w.heap.size ≠ N4 := by omega
    have n2 : w.heap.size + 1 + 1 ≠ N4 := by omega
    have n3 : N2 ≠ N4 := by omega
    have n4 : N3 ≠ N4 := by omega
    have n5 : w.heap.size ≤ N4 := by omega
    have hk : Blk wr N4 96 (H8.cells ⟨y0, y1, y2, y3, y4, y5, y6, y7⟩) := by rw [HY.out]; exact H.out.2.2.2.2.1
    refine ⟨i + 1, by omega, by go_num, blk_eight_far (H.out.1.drewN _) n1 _ _ _ _ _ _ _ _, blk_eight_far (H.out.2.1.drewN _) n2 _ _ _ _ _ _ _ _, blk_eight_far (H.out.2.2.1.drewN _) n3 _ _ _ _ _ _ _ _, blk_eight_far (H.out.2.2.2.1.drewN _) n4 _ _ _ _ _ _ _ _, Blk.cast (blk_eight (hk.drewN _) _ _ _ _ _ _ _ _) ?_, below_eight (below_drewN H.out.2.2.2.2.2 _) n5 _ _ _ _ _ _ _ _⟩
    rw [rds_succ, ← HY.out]
    obtain ⟨ha, hc, hR, hX, hA, hD, hN⟩ := HEQ.out
    rw [← ha, ← hc, hR, hX, hA, hD, hN]
    simp only [H8.cells, rnd, ru, rv, S1, S0, chf, mjf, ← ad_assoc]
    rfl
   case measure => simp [intOf]; omega
  ·have hi64 : i = 64 := by omega
   subst hi64
   obtain ⟨x, hx⟩ : ∃ x, x = rds s b 64 := ⟨_, rfl⟩
   rw [← hx] at H
   have HX := hide hx
   clear hx hi hlt
   rw [show ((64 : Nat) : Int) = 64 from rfl]
   go_wp2
   go_loopw [13] (fun u13 wr => ∃ i : Nat, i ≤ 8 ∧ u13 = .int .i64 (i : Int) ∧ Blk wr w.heap.size 96 (partH s x i) ∧ Blk wr (w.heap.size + 1 + 1) 96 #[.int .u32 0, .int .u32 0, .int .u32 0, .int .u32 0, .int .u32 0, .int .u32 0, .int .u32 0, .int .u32 0] ∧ Blk wr N4 96 x.cells ∧ Below w.heap.size w wr) (fun i _ => 8 - (intOf i).toNat)
   case atStart => exact ⟨0, by omega, rfl, by rw [part_zero]; exact H.out.1, H.out.2.1, H.out.2.2.2.2.1, H.out.2.2.2.2.2⟩
   case round =>
    clear H
    obtain ⟨i, hi, rfl, h1, h2, h3, h4⟩ := hrel
    have H := hide (And.intro h1 (And.intro h2 (And.intro h3 h4)))
    clear h1 h2 h3 h4
    by_cases hlt : i < 8
    ·obtain ⟨a, ha⟩ : ∃ a, a = s.at i := ⟨_, rfl⟩
     obtain ⟨c, hc⟩ : ∃ c, c = x.at i := ⟨_, rfl⟩
     have ga : wr.cell? ⟨w.heap.size, i, none⟩ = some (.int .u32 (a.toNat : Int)) := by rw [H.out.1.cell, partH_get _ _ hlt, ha]
     have gs := H.out.1.frozen i
     have gc : wr.cell? ⟨N4, i, none⟩ = some (.int .u32 (c.toNat : Int)) := by rw [H.out.2.2.1.cell, cells_get _ hlt, hc]
     obtain ⟨D, hD⟩ : ∃ D, D = ad := ⟨_, rfl⟩
     have x3 : ∀ a b : UInt32, IntKind.u32.wrap ((a.toNat : Int) + (b.toNat : Int)) = ((D a b).toNat : Int) := by rw [hD]; exact w_add
     have x4 : ∀ a b : UInt32, ((a.toNat : Int) + (b.toNat : Int)) % 4294967296 = ((D a b).toNat : Int) := by rw [hD]; exact w_add'
     have HAC := hide (And.intro ha (And.intro hc hD))
     clear ha hc hD
     have bi : (i : Int) < 8 := by omega
     have pi : (0 : Int) ≤ (i : Int) := by omega
     go_wp2
     go_region
     go_wp2
     go_roundw
     case rel =>
      have n0 := HLT.out
      refine ⟨i + 1, by omega, by go_num, ?_, H.out.2.1.drew.far (by simp; omega) _, H.out.2.2.1.drew.far (by simp; omega) _, H.out.2.2.2.drew.setCell (by simp) _⟩
      rw [← part_set s x hlt, ← HAC.out.1, ← HAC.out.2.1, ← HAC.out.2.2]
      exact H.out.1.drew.set_ i _
     case measure => simp [intOf]; omega
    ·have hi8 : i = 8 := by omega
     subst hi8
     have HP := hide (And.intro (part_size s x 8) (show (partH s x 8).all (·.oneCell') = true by rw [part_full]; exact H8.one _))
     go_wp2_with (first
      | ((with_reducible change wpList _ _ _ (⟨some 113, _, _, _, _, _⟩ :: _) _ _); refine wpList_load_row (o := ⟨some 113, .load _ _, _, _, _, _⟩) rfl 96 _ rfl w.heap.size rfl 96 (partH s x 8) (0, 0) _ H.out.1 Tryz.underlying96 rfl (by rw [HP.out.1]; kernel_rfl) ?_)
      | (refine wpList_store_row (o := ⟨none, .store _ _ _, _, _, _, _⟩) H.out.2.1 (partH s x 8) (by rw [HP.out.1]; rfl) HP.out.2 rfl 96 _ _ rfl (by rw [HP.out.1]; kernel_rfl) rfl rfl ?_; intro w6 hb6 hg6))
     refine bodyPost_ret (results_cell_row rfl _ _ (w.heap.size + 1 + 1) 96 (partH s x 8) (0, 0) _ rfl hb6 Tryz.underlying96 rfl (by rw [HP.out.1]; kernel_rfl)) rfl ⟨?_, H.out.2.2.2.grown hg6 H.out.2.2.2.size fun k hk => by injection hk with hk; omega⟩
     rw [part_full, HX.out]
     rfl
end Go.Proofs.YtdohebhbiokljaaGreatDoor
namespace Go.Proofs.YtdohebhbiokljaaGreatDoor
open Go.RowKit
set_option maxHeartbeats 1000000 in
theorem rinitial_any (w : World) : Calls Tryz.prog 55 #[] w fun e w' => e = .returned (.agg sha0.cells) ∧ Below w.heap.size w w' := by
 go_enter Tryz.func55, Tryz.ntmps55
 go_wp2
 refine bodyPost_ret (results_cell_row rfl _ _ w.heap.size 96 sha0.cells (0, 0) _ rfl (Blk.new _ _ _) Tryz.underlying96 rfl (by kernel_rfl)) rfl ⟨rfl, (Below.refl _ w).alloc (Nat.le_refl _) _⟩
theorem own_neh {o : Option Nat} {g : Nat} (h : o = none ∨ o ≠ some g) : some g ≠ o := by
 rcases h with h | h
 ·rw [h]; simp
 ·exact fun e => h e.symm
set_option maxRecDepth 100000 in
set_option maxHeartbeats 4000000 in
theorem rsum_any (v : Value) (l : List UInt8) (w : World) (hv : By w v l) (hl : l.length ≤ 1099511627776) :
  Calls Tryz.prog 33 #[v] w fun e w' => e = .returned (.agg (bcells (shaL l)).toArray) ∧ Below w.heap.size w w' := by
 obtain ⟨A, c, rfl, hc, hm, -⟩ := hv.form
 have HV := hide hv
 have HL := hide hl
 clear hv
 unfold maxLen at hm
 obtain ⟨n, hn⟩ : ∃ n, n = l.length := ⟨_, rfl⟩
 rw [← hn] at hc hl HV ⊢
 have HN := hide hn
 clear hn
 obtain ⟨S, hS⟩ : ∃ S, S = sha0.cells := ⟨_, rfl⟩
 have Q1 := hide (fun w => rinitial_any w)
 rw [← hS] at Q1
 have HSS := hide (show S.size = 8 ∧ S.all (·.oneCell') = true by rw [hS]; exact ⟨rfl, H8.one _⟩)
 have HS := hide hS
 clear hS
 go_enter Tryz.func33, Tryz.ntmps33
 go_wp2_with first
  | (at_builtin; go_loud (refine wpList_pushV (l := []) elem8 (Own.nil _ w.heap.size _) ((Below.refl w.heap.size w).alloc (Nat.le_refl _) _) (by simp) (HV.out.below ((Below.refl _ w).alloc (Nat.le_refl _) _)) (by simp; have := HL.out; omega) rfl _ _ rfl rfl rfl ?_); intro v1 w1 o1 b1 g1 _; go_loud (have H1 := hide (And.intro o1 (And.intro b1 ((Blk.new w 23 _).grown g1 (by simp [Value.ownBlock])))); clear o1 b1 g1))
  | (go_at_call 54; refine (rpad_any n _ hl).mono ?_; rintro e w2 ⟨vp, rfl, op, bp⟩; go_loud (have H2 := hide (And.intro (H1.out.1.below bp) (And.intro (H1.out.2.1.trans (bp.mono H1.out.2.1.size)) (And.intro (H1.out.2.2.below' bp) op.by_))); clear op bp H1))
  | (at_builtin; go_loud (refine wpList_pushV elem8 H2.out.1 H2.out.2.1 H2.out.2.1.size H2.out.2.2.2 (by simp [padL_length]; have := HL.out; have := noughts_le n; omega) rfl _ _ rfl rfl rfl ?_); intro v3 w3 o3 b3 g3 _; go_loud (obtain ⟨M, hM⟩ : ∃ M, M = l ++ padL n := ⟨_, rfl⟩; have o3' : Own w3 w.heap.size 5 v3 M := (by rw [hM]; exact o3); clear o3; have H3 := hide (And.intro o3'.by_ (And.intro b3 (H2.out.2.2.1.grown g3 (own_neh (own_blk_ne H2.out.1 H2.out.2.2.1 (by decide)))))); clear o3' b3 g3 H2; obtain ⟨A3, c3, rfl, hc3, hm3, -⟩ := H3.out.1.form; obtain ⟨L, hL⟩ : ∃ L, L = M.length := ⟨_, rfl⟩; rw [← hL] at H3 hc3 ⊢; have HM0 := hide (And.intro hM hL); clear hM hL))
  | (go_at_call 55; refine (Q1.out _).mono ?_; rintro e w4 ⟨rfl, b4⟩; go_loud (have H4 := hide (And.intro (H3.out.1.below b4) (And.intro (H3.out.2.1.trans (b4.mono H3.out.2.1.size)) (H3.out.2.2.below' b4))); clear b4 H3))
  | (refine wpList_store_row (o := ⟨none, .store _ (.tmp 6) _, _, _, _, _⟩) (Blk.new w4 96 _) S (by rw [HSS.out.1]; rfl) HSS.out.2 rfl 96 _ _ rfl (by rw [HSS.out.1]; kernel_rfl) rfl rfl ?_; intro w5 hb5 hg5; have H5 := hide (And.intro hb5 hg5); clear hb5 hg5)
 obtain ⟨hM, hL⟩ := HM0.out
 obtain ⟨m, hmm⟩ : ∃ m, m = L / 64 := ⟨_, rfl⟩
 have hL64 : L = 64 * m ∧ L ≤ 2000000000000 := by
  have h1 := padL_whole l.length
  have h2 := HL.out
  have h3 := HN.out
  have h4 := noughts_le l.length
  rw [hmm, hL, hM, List.length_append, h3, padL_length] at *
  omega
 obtain ⟨N, hN⟩ : ∃ N, N = w4.heap.size := ⟨_, rfl⟩
 obtain ⟨Z, hZ⟩ : ∃ Z, Z = (bcells (List.replicate 32 0)).toArray := ⟨_, rfl⟩
 have HLT := hide (show w.heap.size < N by rw [hN]; exact H4.out.2.2.lt)
 have HI := hide (show Blk w5 N 96 (mixN sha0 M 0).cells ∧ Below N w4 w5 by
  rw [hN]
  have hbw : Below w4.heap.size w4 w5 := ((Below.refl _ w4).alloc (Nat.le_refl _) _).grown H5.out.2 (by simp) fun k hk => by injection hk with hk; omega
  refine ⟨?_, hbw⟩
  have := H5.out.1
  rw [HS.out] at this
  exact this)
 have HZ := hide (And.intro (show Z.size = 32 by rw [hZ]; rfl) (show Blk w4 w.heap.size 23 Z by rw [hZ]; exact H4.out.2.2))
 have H4' := H4.out
 clear H4
 have H4 := hide (show By w4 (.slice A3 L c3) M ∧ Below w.heap.size w w4 ∧ N = w4.heap.size from ⟨H4'.1, H4'.2.1, hN⟩)
 rw [← hN]
 have HM := hide (And.intro hM (And.intro hL hmm))
 have HL64 := hide hL64
 have iL : (L : Int) ≤ 2000000000000 := by omega
 clear hM hL hmm hN hZ H5 H4' HM0 hL64
 go_wp2
 go_loopw [7, 8, 9] (fun u7 _ _ wr => ∃ q : Nat, q ≤ m ∧ u7 = .int .i64 ((64 * q : Nat) : Int) ∧ Blk wr N 96 (mixN sha0 M q).cells ∧ Below N w4 wr) (fun u7 _ _ _ => L + 64 - (intOf u7).toNat)
 case atStart => exact ⟨0, by omega, rfl, HI.out⟩
 case round =>
  clear HI
  obtain ⟨q, hq, rfl, h1, h2⟩ := hrel
  have H := hide (And.intro h1 h2)
  clear h1 h2
  obtain ⟨I, hI⟩ : ∃ I, I = 64 * q := ⟨_, rfl⟩
  rw [← hI]
  obtain ⟨h, hh⟩ : ∃ h, h = mixN sha0 M q := ⟨_, rfl⟩
  rw [← hh] at H
  have iI : (I : Int) ≤ (L : Int) := by have := HL64.out; omega
  by_cases hlt : q < m
  ·have i1 : (I : Int) + 64 ≤ (L : Int) := by have := HL64.out; omega
   obtain ⟨N8, hN8⟩ : ∃ N8, N8 = wr.heap.size := ⟨_, rfl⟩
   have HNN := hide (show N < N8 by rw [hN8]; exact H.out.1.lt)
   have HB := hide (show Blk (wr.alloc (.cells (List.replicate 64 (Value.int .u8 0)).toArray 98)) N8 98 (fillN (M.drop I) 64 0) ∧ Blk (wr.alloc (.cells (List.replicate 64 (Value.int .u8 0)).toArray 98)) N 96 h.cells ∧ Below N w4 (wr.alloc (.cells (List.replicate 64 (Value.int .u8 0)).toArray 98)) by
    have n1 := HNN.out
    rw [hN8] at n1 ⊢
    rw [fillN_zero]
    exact ⟨by simpa [bcells] using Blk.new wr 98 _, H.out.1.alloc _, H.out.2.alloc (by omega) _⟩)
   have HH := hide (And.intro hh (And.intro hI hlt))
   clear hh hI hlt
   go_wp2
   rw [← hN8]
   clear hN8 H
   go_loopw [9] (fun u9 wr => ∃ k : Nat, k ≤ 64 ∧ u9 = .int .i64 (k : Int) ∧ Blk wr N8 98 (fillN (M.drop I) 64 k) ∧ Blk wr N 96 h.cells ∧ Below N w4 wr) (fun u9 _ => 64 - (intOf u9).toNat)
   case atStart => exact ⟨0, by omega, rfl, HB.out⟩
   case round =>
    clear HB
    obtain ⟨k, hk, rfl, h1, h2, h3⟩ := hrel
    have H := hide (And.intro h1 (And.intro h2 h3))
    clear h1 h2 h3
    by_cases hlt : k < 64
    ·obtain ⟨p, hp⟩ : ∃ p, p = I + k := ⟨_, rfl⟩
     have hpl : p < M.length := by rw [← HM.out.2.1]; omega
     obtain ⟨x, hx⟩ : ∃ x, M[p]? = some x := ⟨_, List.getElem?_eq_getElem hpl⟩
     have hpd : (M.drop I)[k]? = some x := by rw [List.getElem?_drop, ← hp]; exact hx
     have hset := fillN_set (M.drop I) 64 k x hlt hpd
     have hby := H4.out.1.below (H4.out.2.2 ▸ H.out.2.2)
     obtain ⟨_, _, hAA, _, _, hcell⟩ := hby.form
     injection hAA with hAA _ _
     subst hAA
     obtain ⟨b, o, rfl, hbl, hcc⟩ := hcell p x hx
     have e1 : (I : Int) + (k : Int) = (p : Int) := by omega
     have e2 : (p : Int) < (L : Int) := by rw [HM.out.2.1]; omega
     have e3 : (0 : Int) ≤ (p : Int) := by omega
     have e4 : (k : Int) < 64 := by omega
     have gs := H.out.1.frozen k
     obtain ⟨z, hz⟩ : ∃ z, wr.cell? ⟨N8, k, none⟩ = some z := ⟨_, (H.out.1.cell k).trans (Array.getElem?_eq_getElem (by rw [fillN_size _ _ _ hk (by rw [List.length_drop]; omega)]; omega))⟩
     have HSET := hide hset
     clear hset hpd hx hpl hcell hp hby
     go_wp2
     go_roundw
     case rel =>
      have n1 := HNN.out
      refine ⟨k + 1, by omega, by go_num, ?_, H.out.2.1.far (by simp; omega) _, H.out.2.2.setCell (by simp; omega) _⟩
      rw [← HSET.out]
      exact H.out.1.set_ k _
     case measure => simp [intOf]; omega
    ·have hk64 : k = 64 := by omega
     subst hk64
     obtain ⟨b, hb⟩ : ∃ b, b = (M.drop I).take 64 := ⟨_, rfl⟩
     have hbl : b.length = 64 := by rw [hb, List.length_take, List.length_drop, ← HM.out.2.1]; omega
     obtain ⟨B, hB⟩ : ∃ B, B = (bcells b).toArray := ⟨_, rfl⟩
     have HBB := hide (show Blk wr N8 98 B by rw [hB, hb, ← fillN_full]; exact H.out.1)
     have hBs : B.size = 64 := by rw [hB]; simp [hbl]
     obtain ⟨y, hy⟩ : ∃ y, y = mixH h b := ⟨_, rfl⟩
     have Q := hide (fun w => rmix_any h b w hbl)
     rw [← hB, ← hy] at Q
     have HHB := hide (And.intro hb (And.intro hBs hy))
     clear hb hB hBs hy
     rw [show ((64 : Nat) : Int) = 64 from rfl]
     go_wp2_with first
      | ((with_reducible change wpList _ _ _ (⟨some 44, _, _, _, _, _⟩ :: _) _ _); refine wpList_load_row (o := ⟨some 44, .load _ _, _, _, _, _⟩) rfl 96 _ rfl N rfl 96 h.cells (0, 0) _ H.out.2.1 Tryz.underlying96 rfl (by kernel_rfl) ?_)
      | ((with_reducible change wpList _ _ _ (⟨some 45, _, _, _, _, _⟩ :: _) _ _); refine wpList_load_row (o := ⟨some 45, .load _ _, _, _, _, _⟩) rfl 98 _ rfl N8 rfl 98 B (0, 0) _ HBB.out Tryz.underlying98 rfl (by rw [HHB.out.2.1]; kernel_rfl) ?_)
      | (go_at_call 56; refine (Q.out _).mono ?_; rintro e w6 ⟨rfl, b6⟩; go_loud (have H6 := hide (And.intro (H.out.2.1.below' b6) (H.out.2.2.trans (b6.mono (Nat.le_of_lt H.out.2.1.lt)))); clear b6))
      | (refine wpList_store_row (o := ⟨none, .store _ (.tmp 6) _, _, _, _, _⟩) H6.out.1 y.cells rfl (H8.one _) rfl 96 _ _ rfl (by kernel_rfl) rfl rfl ?_; intro w7 hb7 hg7; have H7 := hide (And.intro hb7 hg7); clear hb7 hg7)
     go_roundw
     case rel =>
      have hL64 := HL64.out
      refine ⟨q + 1, HH.out.2.2, ?_, ?_, H6.out.2.grown H7.out.2 (Nat.le_of_lt H6.out.1.lt) fun k hk => by injection hk with hk; omega⟩
      ·have := HH.out.2.1
       show Value.int .i64 _ = Value.int .i64 _
       congr 1
       omega
      ·rw [mixN_succ, ← HH.out.1, ← HH.out.2.1, ← HHB.out.1, ← HHB.out.2.2]
       exact H7.out.1
     case measure => have hL64 := HL64.out; simp [intOf]; omega
  ·have hqm : q = m := by omega
   have i1 : ¬ (I : Int) + 64 ≤ (L : Int) := by have := HL64.out; omega
   have HH := hide (show h = shaH l by
    rw [hh, hqm, HM.out.2.2, HM.out.2.1, HM.out.1, HN.out, List.length_append]; rfl)
   clear hh hI hqm
   obtain ⟨N8, hN8⟩ : ∃ N8, N8 = wr.heap.size := ⟨_, rfl⟩
   have HNN := hide (show N < N8 by rw [hN8]; exact H.out.1.lt)
   go_wp2
   rw [← hN8]
   go_loopw [11] (fun u11 wr => ∃ i : Nat, i ≤ 32 ∧ u11 = .int .i64 (i : Int) ∧ Blk wr N8 23 (fillN (digL h) 32 i) ∧ Blk wr N 96 h.cells ∧ Below N w4 wr) (fun u11 _ => 32 - (intOf u11).toNat)
   case atStart =>
    have n1 := HNN.out
    refine ⟨0, by omega, rfl, ?_, H.out.1.alloc _, H.out.2.alloc (by omega) _⟩
    rw [fillN_zero, hN8]
    exact Blk.new _ _ _
   case round =>
    clear H hN8
    obtain ⟨i, hi, rfl, h1, h2, h3⟩ := hrel
    have H := hide (And.intro h1 (And.intro h2 h3))
    clear h1 h2 h3
    by_cases hlt : i < 32
    ·obtain ⟨j, hj⟩ : ∃ j, j = i / 4 := ⟨_, rfl⟩
     obtain ⟨s, hs⟩ : ∃ s, s = 24 - 8 * (i % 4) := ⟨_, rfl⟩
     obtain ⟨y, hy⟩ : ∃ y, y = h.at j := ⟨_, rfl⟩
     have hd := digL_get h i hlt
     rw [← hj, ← hs, ← hy] at hd
     have hset := fillN_set (digL h) 32 i _ (by omega) hd
     have hv : ((y.toNat : Nat) : Int) / 2 ^ s % 256 = ((UInt8.ofNat (y.toNat / 2 ^ s)).toNat : Int) := by rw [u8_of]; simp
     rw [← hv] at hset
     have HSET := hide hset
     have e1 : (i : Int) / 4 = (j : Int) := by omega
     have e2 : 24 - 8 * ((i : Int) % 4) = (s : Int) := by omega
     have e3 : (j : Int) < 8 := by omega
     have e4 : (i : Int) < 32 := by omega
     have e5 : (s : Int) ≤ 24 := by omega
     have gc : wr.cell? ⟨N, j, none⟩ = some (.int .u32 (y.toNat : Int)) := by rw [H.out.2.1.cell, cells_get _ (by omega), hy]
     have gs := H.out.1.frozen i
     obtain ⟨z, hz⟩ : ∃ z, wr.cell? ⟨N8, i, none⟩ = some z := ⟨_, (H.out.1.cell i).trans (Array.getElem?_eq_getElem (by rw [fillN_size _ _ _ hi (by simp; omega)]; omega))⟩
     clear hset hd hv hy hj hs
     go_wp2
     go_roundw
     case rel =>
      have n1 := HNN.out
      refine ⟨i + 1, by omega, by go_num, ?_, H.out.2.1.far (by simp; omega) _, H.out.2.2.setCell (by simp; omega) _⟩
      rw [← HSET.out]
      exact H.out.1.set_ i _
     case measure => simp [intOf]; omega
    ·have hi32 : i = 32 := by omega
     subst hi32
     obtain ⟨F, hF⟩ : ∃ F, F = (bcells (digL h)).toArray := ⟨_, rfl⟩
     have HF := hide (show Blk wr N8 23 F ∧ F.size = 32 ∧ F.all (·.oneCell') = true by
      refine ⟨?_, by rw [hF]; simp, by rw [hF]; simp [bcells, Value.oneCell']⟩
      have := H.out.1
      rw [fillN_full, List.take_of_length_le (by simp)] at this
      rw [hF]
      exact this)
     have HFF := hide hF
     have HD := hide (show Blk wr w.heap.size 23 Z from HZ.out.2.below H.out.2.2 HLT.out)
     clear hF
     rw [show ((32 : Nat) : Int) = 32 from rfl]
     go_wp2_with first
      | ((with_reducible change wpList _ _ _ (⟨some 64, _, _, _, _, _⟩ :: _) _ _); refine wpList_load_row (o := ⟨some 64, .load _ _, _, _, _, _⟩) rfl 23 _ rfl N8 rfl 23 F (0, 0) _ HF.out.1 Tryz.underlying23 rfl (by rw [HF.out.2.1]; kernel_rfl) ?_)
      | (refine wpList_store_row (o := ⟨none, .store _ (.tmp 2) _, _, _, _, _⟩) HD.out F (by rw [HF.out.2.1, HZ.out.1]) HF.out.2.2 rfl 23 _ _ rfl (by rw [HF.out.2.1]; kernel_rfl) rfl rfl ?_; intro w7 hb7 hg7)
     have n1 := HLT.out
     refine bodyPost_ret (results_cell_row rfl _ _ w.heap.size 23 F (0, 0) _ rfl hb7 Tryz.underlying23 rfl (by rw [HF.out.2.1]; kernel_rfl)) rfl ⟨by rw [HFF.out, HH.out]; rfl, ?_⟩
     have hbw := H4.out.2.1.trans (H.out.2.2.mono (by omega))
     exact hbw.grown hg7 hbw.size fun k hk => by injection hk with hk; omega
end Go.Proofs.YtdohebhbiokljaaGreatDoor
namespace Go.Proofs.YtdohebhbiokljaaGreatDoor
open Go.RowKit
def tagD (t : Nat) (l : List UInt8) : List UInt8 := shaL (framedL [lst (tagB t), l])
@[simp] theorem tagD_length (t : Nat) (l : List UInt8) : (tagD t l).length = 32 := shaL_length _
theorem tagM_len (t : Nat) (l : List UInt8) (ht : okT t l.length) (hl : l.length ≤ 1099511627000) : (framedL [lst (tagB t), l]).length ≤ 1099511627776 := by
 have htl : (tagB t).size ≤ 20 := tag_len (okT_in ht)
 rw [framedL_length]
 simp [lst_len]
 omega
theorem dig_cells (l : List UInt8) (h : l.length = 32) : (bcells l).toArray.size = 32 ∧ (bcells l).toArray.all (·.oneCell') = true := ⟨by simp [h], by simp [bcells, Value.oneCell']⟩
set_option maxRecDepth 10000 in
set_option maxHeartbeats 4000000 in
theorem rdigest_one (t : Nat) (l : List UInt8) (ht : okT t l.length) (b o c : Nat) (Ap : Option Addr) (cp : Nat) (w : World) (hb : b < w.heap.size) (hc : w.cell? ⟨b, o, none⟩ = some (.slice Ap l.length cp)) (hv : By w (.slice Ap l.length cp) l) (hl : l.length ≤ 1099511627000) :
  Calls Tryz.prog 30 #[.int .u8 (t : Int), .slice (some ⟨b, o, none⟩) 1 c] w fun e w' => e = .returned (.agg (bcells (tagD t l)).toArray) ∧ Below w.heap.size w w' := by
 have QB := hide (fun W (hW : Below w.heap.size w W) => rbytes_one t l ht b o c Ap cp W (Nat.lt_of_lt_of_le hb hW.size) ((hW.cell (p := ⟨b, o, none⟩) hb).trans hc) (hv.below hW) hl)
 obtain ⟨M, hM⟩ : ∃ M, M = framedL [lst (tagB t), l] := ⟨_, rfl⟩
 have hml := tagM_len t l ht hl
 rw [← hM] at QB hml
 obtain ⟨F, hF⟩ : ∃ F, F = (bcells (shaL M)).toArray := ⟨_, rfl⟩
 have HF := hide (show F.size = 32 ∧ F.all (·.oneCell') = true ∧ F = (bcells (tagD t l)).toArray from by
  rw [hF]
  exact ⟨(dig_cells _ (by simp)).1, (dig_cells _ (by simp)).2, by rw [hM]; rfl⟩)
 have QS := hide (fun v W (h : By W v M) => rsum_any v M W h hml)
 rw [← hF] at QS
 clear hF hM hml hb hc hv hl
 go_enter Tryz.func30, Tryz.ntmps30
 go_wp2_with fail
 refine (QB.out _ ((Below.refl _ w).alloc (Nat.le_refl _) _)).mono ?_
 rintro e w1 ⟨v1, rfl, o1, b1⟩
 obtain ⟨Z, hZ⟩ : ∃ Z : Array Value, Z = (bcells (List.replicate 32 0)).toArray := ⟨_, rfl⟩
 have H1 := hide (show Blk w1 w.heap.size 23 Z ∧ Below w.heap.size w w1 ∧ Z.size = 32 ∧ By w1 v1 M from ⟨by rw [hZ]; exact Blk.below' (Blk.new w 23 _) b1, ((Below.refl _ w).alloc (Nat.le_refl _) _).trans (b1.mono (by simp)), by rw [hZ]; rfl, o1.by_⟩)
 clear hZ o1 b1
 go_wp2_with first
  | (go_at_call 33; refine (QS.out _ _ H1.out.2.2.2).mono ?_; rintro e w2 ⟨rfl, b2⟩; go_loud (have H2 := hide (And.intro (H1.out.2.1.trans (b2.mono H1.out.2.1.size)) (H1.out.1.below' b2)); clear b2))
  | ((with_reducible change wpList _ _ _ (⟨none, .store _ (.tmp 4) _, _, _, _, _⟩ :: _) _ _); refine wpList_store_row (o := ⟨none, .store _ (.tmp 4) _, _, _, _, _⟩) H2.out.2 F (by rw [HF.out.1, H1.out.2.2.1]) HF.out.2.1 rfl 23 _ _ rfl (by rw [HF.out.1]; kernel_rfl) rfl rfl ?_; intro w7 hb7 hg7)
 refine bodyPost_ret (results_cell_row rfl _ _ w.heap.size 23 F (0, 0) _ rfl hb7 Tryz.underlying23 rfl (by rw [HF.out.1]; kernel_rfl)) rfl ⟨by rw [HF.out.2.2], H2.out.1.grown hg7 H2.out.1.size fun k hk => by injection hk with hk; omega⟩
theorem two_new (w : World) (zs : Array Value) (t u : TypeId) (v : Value) : Below w.heap.size w ((w.alloc (.cells zs t)).alloc (.cells #[v] u)) ∧ Blk ((w.alloc (.cells zs t)).alloc (.cells #[v] u)) (w.heap.size + 1) u #[v] ∧ Blk ((w.alloc (.cells zs t)).alloc (.cells #[v] u)) w.heap.size t zs := by
 refine ⟨((Below.refl _ w).alloc (Nat.le_refl _) _).alloc (by simp) _, ?_, (Blk.new _ _ _).alloc _⟩
 have := Blk.new (w.alloc (.cells zs t)) u #[v]
 simpa using this
set_option maxRecDepth 10000 in
set_option maxHeartbeats 4000000 in
theorem rueb_any (A : Option Addr) (c : Nat) (l : List UInt8) (w : World) (hv : By w (.slice A l.length c) l) (hl : l.length ≤ 1099511627000) :
  Calls Tryz.prog 8 #[.slice A l.length c] w fun e w' => e = .returned (.agg (bcells (tagD 8 l)).toArray) ∧ Below w.heap.size w w' := by
 obtain ⟨F, hF⟩ : ∃ F, F = (bcells (tagD 8 l)).toArray := ⟨_, rfl⟩
 have HF := hide (show F.size = 32 ∧ F.all (·.oneCell') = true from by rw [hF]; exact dig_cells _ (by simp))
 have QD := hide (fun b o c' W (hb : b < W.heap.size) (hc : W.cell? ⟨b, o, none⟩ = some (.slice A l.length c)) (hW : Below w.heap.size w W) => rdigest_one 8 l (.inl (.inr (.inr rfl))) b o c' A c W hb hc (hv.below hW) hl)
 rw [← hF, show ((8 : Nat) : Int) = 8 from rfl] at QD
 rw [← hF]
 obtain ⟨n, hn⟩ : ∃ n, n = l.length := ⟨_, rfl⟩
 rw [← hn] at QD ⊢
 clear hF hn hv hl
 go_enter Tryz.func8, Tryz.ntmps8
 go_wp2_with fail
 have HN := hide (fun zs => two_new w zs 23 34 (.slice A n c))
 with_reducible refine (QD.out (w.heap.size + 1) 0 1 _ (HN.out _).2.1.lt (((HN.out _).2.1.cell 0).trans rfl) (HN.out _).1).mono ?_
 rintro e w1 ⟨rfl, b1⟩
 obtain ⟨Z, hZ⟩ : ∃ Z : Array Value, Z = (bcells (List.replicate 32 0)).toArray := ⟨_, rfl⟩
 have H1 := hide (show Blk w1 w.heap.size 23 Z ∧ Below w.heap.size w w1 ∧ Z.size = 32 from ⟨by rw [hZ]; exact (HN.out _).2.2.below' b1, (HN.out _).1.trans (b1.mono (HN.out _).1.size), by rw [hZ]; rfl⟩)
 clear hZ b1 HN
 go_wp2_with (refine wpList_store_row (o := ⟨none, .store _ (.tmp 2) _, _, _, _, _⟩) H1.out.1 F (by rw [HF.out.1, H1.out.2.2]) HF.out.2 rfl 23 _ _ rfl (by rw [HF.out.1]; kernel_rfl) rfl rfl ?_; intro w7 hb7 hg7)
 refine bodyPost_ret (results_cell_row rfl _ _ w.heap.size 23 F (0, 0) _ rfl hb7 Tryz.underlying23 rfl (by rw [HF.out.1]; kernel_rfl)) rfl ⟨rfl, H1.out.2.1.grown hg7 H1.out.2.1.size fun k hk => by injection hk with hk; omega⟩
set_option maxRecDepth 10000 in
set_option maxHeartbeats 4000000 in
theorem digest_one (t : Nat) (l : List UInt8) (ht : okT t l.length) (b o c : Nat) (Ap : Option Addr) (cp : Nat) (w : World) (hb : b < w.heap.size) (h1c : 1 ≤ c ∧ c ≤ maxLen) (hc : w.cell? ⟨b, o, none⟩ = some (.slice Ap l.length cp)) (hv : By w (.slice Ap l.length cp) l) (hl : l.length ≤ 1099511627000) :
  Calls Tryz.prog 80 #[.int .u8 (t : Int), .slice (some ⟨b, o, none⟩) 1 c] w fun e w' => e = .returned (.tuple #[.agg (bcells (tagD t l)).toArray, .int .i64 0]) ∧ Below w.heap.size w w' := by
 have QB := hide (fun W (hW : Below w.heap.size w W) => bytes_one t l ht b o c Ap cp W (Nat.lt_of_lt_of_le hb hW.size) h1c ((hW.cell (p := ⟨b, o, none⟩) hb).trans hc) (hv.below hW) hl)
 obtain ⟨M, hM⟩ : ∃ M, M = framedL [lst (tagB t), l] := ⟨_, rfl⟩
 have hml := tagM_len t l ht hl
 rw [← hM] at QB hml
 obtain ⟨F, hF⟩ : ∃ F, F = (bcells (shaL M)).toArray := ⟨_, rfl⟩
 have HF := hide (show F.size = 32 ∧ F.all (·.oneCell') = true ∧ F = (bcells (tagD t l)).toArray from by
  rw [hF]
  exact ⟨(dig_cells _ (by simp)).1, (dig_cells _ (by simp)).2, by rw [hM]; rfl⟩)
 have QS := hide (fun g A c W h1 h2 h3 => sum_any g A c M W h1 h2 h3 hml)
 rw [← hF] at QS
 obtain ⟨m, hm⟩ : ∃ m, m = M.length := ⟨_, rfl⟩
 rw [← hm] at QS
 have HM := hide hm
 clear hF hM hml hb hc hv hl hm
 go_enter Tryz.func80, Tryz.ntmps80
 go_wp2_with fail
 refine (QB.out _ ((Below.refl _ w).alloc (Nat.le_refl _) _)).mono ?_
 rintro e w1 ⟨v1, rfl, o1, b1⟩
 obtain ⟨A1, c1, rfl, -, -, -⟩ := o1.by_.form
 obtain ⟨Z, hZ⟩ : ∃ Z : Array Value, Z = (bcells (List.replicate 32 0)).toArray := ⟨_, rfl⟩
 rw [← HM.out] at o1 ⊢
 have H1 := hide (show Blk w1 w.heap.size 23 Z ∧ Below w.heap.size w w1 ∧ Z.size = 32 ∧ By w1 (.slice A1 m c1) M from ⟨by rw [hZ]; exact Blk.below' (Blk.new w 23 _) b1, ((Below.refl _ w).alloc (Nat.le_refl _) _).trans (b1.mono (by simp)), by rw [hZ]; rfl, o1.by_⟩)
 clear hZ o1 b1
 go_wp2_with fail
 have k1 := Blk.new w1 34 #[.slice A1 m c1]
 have ha := (Below.refl w1.heap.size w1).alloc (Nat.le_refl _) (.cells #[.slice A1 m c1] 34)
 have QS2 := hide (QS.out w1.heap.size A1 c1 _ ((k1.cell 0).trans rfl) k1.lt (H1.out.2.2.2.below ha))
 have HA := hide ha
 clear k1 ha
 with_reducible refine QS2.out.mono ?_
 rintro e w2 ⟨rfl, b2⟩
 have b3 := HA.out.trans (b2.mono HA.out.size)
 have H2 := hide (And.intro (H1.out.2.1.trans (b3.mono H1.out.2.1.size)) (H1.out.1.below' b3))
 clear b2 b3 QS2
 go_wp2_with (refine wpList_store_row (o := ⟨none, .store _ (.tmp 4) _, _, _, _, _⟩) H2.out.2 F (by rw [HF.out.1, H1.out.2.2.1]) HF.out.2.1 rfl 23 _ _ rfl (by rw [HF.out.1]; kernel_rfl) rfl rfl ?_; intro w7 hb7 hg7)
 refine bodyPost_ret (v := .tuple #[.agg F, .int .i64 0]) ?_ rfl ⟨by rw [HF.out.2.2], H2.out.1.grown hg7 H2.out.1.size fun k hk => by injection hk with hk; omega⟩
 rw [results_cell_tmp rfl]
 have hlv := run_loadVar_row w7 w.heap.size 23 23 F (0, 0) _ hb7 Tryz.underlying23 rfl (by rw [HF.out.1]; kernel_rfl)
 simp [asAddr, hlv, Result.andThen]
set_option maxRecDepth 10000 in
set_option maxHeartbeats 4000000 in
theorem made_one (t : Nat) (l : List UInt8) (ht : okT t l.length) (b o c : Nat) (Ap : Option Addr) (cp : Nat) (w : World) (hb : b < w.heap.size) (h1c : 1 ≤ c ∧ c ≤ maxLen) (hc : w.cell? ⟨b, o, none⟩ = some (.slice Ap l.length cp)) (hv : By w (.slice Ap l.length cp) l) (hl : l.length ≤ 1099511627000) :
  Calls Tryz.prog 46 #[.int .u8 (t : Int), .slice (some ⟨b, o, none⟩) 1 c] w fun e w' => e = .returned (.agg (bcells (tagD t l)).toArray) ∧ Below w.heap.size w w' := by
 have QB := hide (fun W (hW : Below w.heap.size w W) => digest_one t l ht b o c Ap cp W (Nat.lt_of_lt_of_le hb hW.size) h1c ((hW.cell (p := ⟨b, o, none⟩) hb).trans hc) (hv.below hW) hl)
 obtain ⟨F, hF⟩ : ∃ F, F = (bcells (tagD t l)).toArray := ⟨_, rfl⟩
 have HF := hide (show F.size = 32 ∧ F.all (·.oneCell') = true from by rw [hF]; exact dig_cells _ (by simp))
 rw [← hF] at QB ⊢
 clear hF hb hc hv hl
 go_enter Tryz.func46, Tryz.ntmps46
 go_wp2_with fail
 refine (QB.out _ ((Below.refl _ w).alloc (Nat.le_refl _) _)).mono ?_
 rintro e w1 ⟨rfl, b1⟩
 obtain ⟨Z, hZ⟩ : ∃ Z : Array Value, Z = (bcells (List.replicate 32 0)).toArray := ⟨_, rfl⟩
 have H1 := hide (show Blk w1 w.heap.size 23 Z ∧ Below w.heap.size w w1 ∧ Z.size = 32 ∧ Blk (w1.alloc (.cells Z 23)) w1.heap.size 23 Z from ⟨by rw [hZ]; exact Blk.below' (Blk.new w 23 _) b1, ((Below.refl _ w).alloc (Nat.le_refl _) _).trans (b1.mono (by simp)), by rw [hZ]; rfl, Blk.new _ _ _⟩)
 have HZ := hide hZ
 clear hZ b1
 go_wp2_with first
  | ((with_reducible change wpList _ _ _ (⟨none, .store _ (.tmp 5) _, _, _, _, _⟩ :: _) _ _); refine wpList_store_row (o := ⟨none, .store _ (.tmp 5) _, _, _, _, _⟩) (g := w1.heap.size) (t := 23) (Blk.new w1 _ _) F (by rw [HF.out.1]; rfl) HF.out.2 rfl 23 _ _ rfl (by rw [HF.out.1]; kernel_rfl) rfl rfl ?_; intro w7 hb7 hg7; have H7 := hide (And.intro hb7 hg7); clear hb7 hg7)
  | ((with_reducible change wpList _ _ _ (⟨some 13, _, _, _, _, _⟩ :: _) _ _); refine wpList_load_row (o := ⟨some 13, .load _ _, _, _, _, _⟩) rfl 23 _ rfl w1.heap.size rfl 23 F (0, 0) _ H7.out.1 Tryz.underlying23 rfl (by rw [HF.out.1]; kernel_rfl) ?_)
  | ((with_reducible change wpList _ _ _ (⟨none, .store _ (.tmp 4) _, _, _, _, _⟩ :: _) _ _); refine wpList_store_row (o := ⟨none, .store _ (.tmp 4) _, _, _, _, _⟩) (((H1.out.1.alloc _).grown H7.out.2 (by have := H1.out.1.lt; simp; omega))) F (by rw [HF.out.1, H1.out.2.2.1]) HF.out.2 rfl 23 _ _ rfl (by rw [HF.out.1]; kernel_rfl) rfl rfl ?_; intro w8 hb8 hg8)
 have hl1 := H1.out.1.lt
 have h7 := (H1.out.2.1.alloc (by omega) (.cells Z 23))
 refine bodyPost_ret (results_cell_row rfl _ _ w.heap.size 23 F (0, 0) _ rfl hb8 Tryz.underlying23 rfl (by rw [HF.out.1]; kernel_rfl)) rfl ⟨rfl, ?_⟩
 have h8 : Below w.heap.size w _ := ((H1.out.2.1.alloc (by omega) _).grown H7.out.2 (by simp; omega) fun k hk => by injection hk with hk; omega)
 exact h8.grown hg8 h8.size fun k hk => by injection hk with hk; omega
end Go.Proofs.YtdohebhbiokljaaGreatDoor
namespace Go.Proofs.YtdohebhbiokljaaGreatDoor
open Go.RowKit
def tag2 (t : Nat) (x y : List UInt8) : List UInt8 := framedL [lst (tagB t), x, y]
def nodeD (x y : List UInt8) : List UInt8 := shaL (tag2 6 x y)
@[simp] theorem nodeD_length (x y : List UInt8) : (nodeD x y).length = 32 := shaL_length _
theorem tag2_len (x y : List UInt8) (hx : x.length = 32) (hy : y.length = 32) : (tag2 6 x y).length ≤ 1099511627776 := by
 unfold tag2
 rw [framedL_length]
 have : (tagB 6).size ≤ 20 := tag_len (by omega)
 simp [lst_len, hx, hy]
 omega
set_option maxHeartbeats 2000000 in
theorem bounds_node (w : World) : Calls Tryz.prog 121 #[.int .u8 6] w fun e w' => ∃ g p q, e = .returned (.slice (some ⟨g, 0, none⟩) 2 2) ∧ Below w.heap.size w w' ∧ Blk w' g 175 #[.func (.func 153) #[] #[.pointer (some ⟨p, 0, none⟩)], .func (.func 153) #[] #[.pointer (some ⟨q, 0, none⟩)]] ∧ w'.cell? ⟨p, 0, none⟩ = some (.int .i64 32) ∧ w'.cell? ⟨q, 0, none⟩ = some (.int .i64 32) := by
 go_enter Tryz.func121, Tryz.ntmps121
 go_wp2_with fail
 refine (just_any _ w).mono ?_
 rintro e w1 ⟨p, rfl, b1, hp⟩
 have HP := hide hp
 have HB := hide b1
 clear hp b1
 go_wp2_with fail
 refine (just_any _ w1).mono ?_
 rintro e w2 ⟨q, rfl, b2, hq⟩
 have HQ := hide hq
 have HP2 := hide (HP.out.below' b2)
 have HB2 := hide (HB.out.trans (b2.mono HB.out.size))
 clear hq b2
 go_wp2
 go_ret
 exact ⟨_, p, q, rfl, HB2.out.alloc HB2.out.size _, Blk.new _ _ _, ((HP2.out.alloc _).cell 0).trans rfl, ((HQ.out.alloc _).cell 0).trans rfl⟩
set_option maxHeartbeats 2000000 in
theorem fit_node (b o c : Nat) (Ap Aq : Option Addr) (cp cq : Nat) (w : World) (hb : b < w.heap.size) (hc : w.cell? ⟨b, o, none⟩ = some (.slice Ap 32 cp)) (hd : w.cell? ⟨b, o + 1, none⟩ = some (.slice Aq 32 cq)) : Calls Tryz.prog 112 #[.int .u8 6, .slice (some ⟨b, o, none⟩) 2 c] w fun e w' => e = .returned (.bool true) ∧ Below w.heap.size w w' := by
 have Q := hide (fun w => bounds_node w)
 go_enter Tryz.func112, Tryz.ntmps112
 go_wp2_with fail
 refine (Q.out _).mono ?_
 rintro e w1 ⟨g, p, q, rfl, b1, hg, hp, hq⟩
 have hc1 : w1.cell? ⟨b, o, none⟩ = some (.slice Ap 32 cp) := (b1.cell (p := ⟨b, o, none⟩) hb).trans hc
 have hd1 : w1.cell? ⟨b, o + 1, none⟩ = some (.slice Aq 32 cq) := (b1.cell (p := ⟨b, o + 1, none⟩) hb).trans hd
 have hc2 : w1.cell? ⟨g, 0, none⟩ = some (.func (.func 153) #[] #[.pointer (some ⟨p, 0, none⟩)]) := (hg.cell 0).trans rfl
 have hc3 : w1.cell? ⟨g, 1, none⟩ = some (.func (.func 153) #[] #[.pointer (some ⟨q, 0, none⟩)]) := (hg.cell 1).trans rfl
 have HB := hide b1
 have QA := hide (just1_any p 32 32 w1 hp)
 have QB := hide (just1_any q 32 32 w1 hq)
 clear b1 hg hc hd hp hq
 go_wp2
 go_loopw [17] (fun u17 wr => (u17 = .int .i64 0 ∨ u17 = .int .i64 1 ∨ u17 = .int .i64 2) ∧ w1 = wr) (fun u17 _ => 2 - (intOf u17).toNat)
 case atStart => exact ⟨.inl rfl, rfl⟩
 case round =>
  obtain ⟨rfl | rfl | rfl, rfl⟩ := hrel
  ·go_wp2_with (go_at_call 153; refine QA.out.mono ?_; rintro e w2 ⟨rfl, rfl⟩; rw [show ((32 : Int) == (32 : Int)) = true from by simp])
   go_roundw
   case rel => exact ⟨.inr (.inl rfl), trivial⟩
   case measure => simp [intOf]
  ·go_wp2_with (go_at_call 153; refine QB.out.mono ?_; rintro e w2 ⟨rfl, rfl⟩; rw [show ((32 : Int) == (32 : Int)) = true from by simp])
   go_roundw
   case rel => exact ⟨.inr (.inr rfl), trivial⟩
   case measure => simp [intOf]
  ·go_wp2
   go_ret
   exact ⟨rfl, HB.out⟩
set_option maxHeartbeats 4000000 in
theorem rfits_node (b o c : Nat) (Ap Aq : Option Addr) (cp cq : Nat) (w : World) (hc : w.cell? ⟨b, o, none⟩ = some (.slice Ap 32 cp)) (hd : w.cell? ⟨b, o + 1, none⟩ = some (.slice Aq 32 cq)) : Calls Tryz.prog 58 #[.int .u8 6, .slice (some ⟨b, o, none⟩) 2 c] w fun e w' => e = .returned (.bool true) ∧ w = w' := by
 go_enter Tryz.func58, Tryz.ntmps58
 go_wp2
 go_ret
 exact ⟨rfl, rfl⟩
set_option maxRecDepth 10000 in
set_option maxHeartbeats 4000000 in
theorem rbytes_node (x y : List UInt8) (hx : x.length = 32) (hy : y.length = 32) (b o c : Nat) (Ap Aq : Option Addr) (cp cq : Nat) (w : World) (hb : b < w.heap.size) (hc : w.cell? ⟨b, o, none⟩ = some (.slice Ap 32 cp)) (hd : w.cell? ⟨b, o + 1, none⟩ = some (.slice Aq 32 cq)) (hv : By w (.slice Ap 32 cp) x) (hu : By w (.slice Aq 32 cq) y) :
  Calls Tryz.prog 34 #[.int .u8 6, .slice (some ⟨b, o, none⟩) 2 c] w fun e w' => ∃ v', e = .returned (.tuple #[v', .int .i64 0]) ∧ Own w' w.heap.size 5 v' (tag2 6 x y) ∧ Below w.heap.size w w' := by
 have hne : (tagB 6).toList.isEmpty = false := tag_ne (by omega)
 have htl : (tagB 6).size ≤ 20 := tag_len (by omega)
 have QW := hide (fun w => (rword_any 6 (by omega) w : Calls Tryz.prog 57 #[.int .u8 6] w _))
 have QF := hide (rfits_node b o c Ap Aq cp cq w hc hd)
 obtain ⟨s, hs⟩ : ∃ s, s = tagB 6 := ⟨_, rfl⟩
 unfold tag2
 rw [← hs] at QW hne htl ⊢
 obtain ⟨g, cc, w2, hr, hby, b2, -, -, -, -⟩ := run_bytes_str 9 34 5 s w Tryz.underlying9 Tryz.underlying34 Tryz.underlying5 (by unfold maxLen; omega)
 have HB := hide (And.intro hby (And.intro b2 (And.intro (And.intro hc hd) (And.intro hb htl))))
 have Q1 := hide (rframe_any _ (lst s) w2 hby (by rw [lst_len]; omega))
 have Q2 := hide (fun (W : World) (hW : Below w.heap.size w W) => rframe_any _ x W (hv.below hW) (by omega))
 have Q3 := hide (fun (W : World) (hW : Below w.heap.size w W) => rframe_any _ y W (hu.below hW) (by omega))
 have HXY := hide (And.intro hx hy)
 clear hs hby b2 hv hu hc hd hb htl hx hy
 go_enter Tryz.func34, Tryz.ntmps34
 go_wp2_with first
  | (go_at_call 57; refine (QW.out _).mono ?_; rintro e w5 ⟨rfl, rfl⟩)
  | (go_at_call 58; refine QF.out.mono ?_; rintro e w5 ⟨rfl, rfl⟩)
  | (go_at_call 59; refine Q1.out.mono ?_; rintro e w3 ⟨v3, rfl, o3, b3⟩)
 have HI := hide (show Own w3 w.heap.size 5 v3 (frameL (lst s)) ∧ Below w.heap.size w w3 from ⟨own_lower o3 HB.out.2.1.size, HB.out.2.1.trans (b3.mono HB.out.2.1.size)⟩)
 clear o3 b3 Q1 QW QF
 go_loopw [6, 7] (fun u6 u7 wr => ((u7 = .int .i64 0 ∧ Own wr w.heap.size 5 u6 (frameL (lst s))) ∨ (u7 = .int .i64 1 ∧ Own wr w.heap.size 5 u6 (frameL (lst s) ++ frameL x)) ∨ (u7 = .int .i64 2 ∧ Own wr w.heap.size 5 u6 (frameL (lst s) ++ frameL x ++ frameL y))) ∧ Below w.heap.size w wr) (fun _ u7 _ => 2 - (intOf u7).toNat)
 case atStart => exact ⟨.inl ⟨rfl, HI.out.1⟩, HI.out.2⟩
 case round =>
  clear HI
  obtain ⟨⟨rfl, ho⟩ | ⟨rfl, ho⟩ | ⟨rfl, ho⟩, hbel⟩ := hrel
  ·have HO := hide ho
   have hcx : wr.cell? ⟨b, o, none⟩ = some (.slice Ap 32 cp) := (hbel.cell (p := ⟨b, o, none⟩) HB.out.2.2.2.1).trans HB.out.2.2.1.1
   clear ho
   go_wp2_with first
    | (go_at_call 59; refine (Q2.out _ hbel).mono ?_; rintro e w4 ⟨v4, rfl, o4, b4⟩; go_loud (have H4 := hide (And.intro (HO.out.below b4) (And.intro (hbel.trans (b4.mono hbel.size)) o4.by_)); clear o4 b4))
    | (at_builtin; go_loud (refine wpList_pushV elem8 H4.out.1 H4.out.2.1 H4.out.2.1.size H4.out.2.2 (by have := HXY.out.1; have := HB.out.2.2.2.2; rw [frameL_length, frameL_length, lst_len]; omega) rfl _ _ rfl rfl (by obtain ⟨A9, c9, h9, -⟩ := H4.out.2.2.form; exact rfl) ?_); intro v5 w6 o5 b5 _ _)
   go_roundw
   case rel => exact ⟨.inr (.inl ⟨rfl, o5⟩), b5⟩
   case measure => simp [intOf]
  ·have HO := hide ho
   have hcx : wr.cell? ⟨b, o + 1, none⟩ = some (.slice Aq 32 cq) := (hbel.cell (p := ⟨b, o + 1, none⟩) HB.out.2.2.2.1).trans HB.out.2.2.1.2
   clear ho
   go_wp2_with first
    | (go_at_call 59; refine (Q3.out _ hbel).mono ?_; rintro e w4 ⟨v4, rfl, o4, b4⟩; go_loud (have H4 := hide (And.intro (HO.out.below b4) (And.intro (hbel.trans (b4.mono hbel.size)) o4.by_)); clear o4 b4))
    | (at_builtin; go_loud (refine wpList_pushV elem8 H4.out.1 H4.out.2.1 H4.out.2.1.size H4.out.2.2 (by have := HXY.out; have := HB.out.2.2.2.2; rw [List.length_append, frameL_length, frameL_length, frameL_length, lst_len]; omega) rfl _ _ rfl rfl (by obtain ⟨A9, c9, h9, -⟩ := H4.out.2.2.form; exact rfl) ?_); intro v5 w6 o5 b5 _ _)
   go_roundw
   case rel => exact ⟨.inr (.inr ⟨rfl, o5⟩), b5⟩
   case measure => simp [intOf]
  ·go_wp2
   go_ret2
   refine ⟨_, rfl, ?_, hbel⟩
   have h9 : framedL [lst s, x, y] = frameL (lst s) ++ frameL x ++ frameL y := by simp [framedL]
   rw [h9]
   exact ho
end Go.Proofs.YtdohebhbiokljaaGreatDoor
namespace Go.Proofs.YtdohebhbiokljaaGreatDoor
open Go.RowKit
set_option maxRecDepth 100000 in
set_option maxHeartbeats 2000000 in
theorem concatR_three (g : Nat) (gc : Nat) (u v x y z : Value) (w : World) (h0 : w.cell? ⟨g, 0, none⟩ = some u) (h1 : w.cell? ⟨g, 1, none⟩ = some v) (hg : g < w.heap.size) (hu : Sl w 1 u 1 [x]) (hv : Sl w 1 v 2 [y, z]) (hx : x.oneCell' = true) (hy : y.oneCell' = true) (hz : z.oneCell' = true) :
  Calls Tryz.prog 114 #[.slice (some ⟨g, 0, none⟩) 2 2] w fun e w' => ∃ r, e = .returned r ∧ Sl w' 1 r 3 [x, y, z] ∧ Below w.heap.size w w' := by
 obtain ⟨Au, cu, rfl, -, -, -⟩ := hu.form
 obtain ⟨Av, cv, rfl, -, -, -⟩ := hv.form
 have HG := hide (growR_any 3)
 have HU := hide (And.intro hu (And.intro hv (And.intro hx (And.intro hy hz))))
 clear hu hv hx hy hz
 go_enter Tryz.func114, Tryz.ntmps114
 go_wp2
 go_loopw [3, 11] (fun u3 u11 wr => ((u11 = .int .i64 0 ∧ u3 = .int .i64 0) ∨ (u11 = .int .i64 1 ∧ u3 = .int .i64 1) ∨ (u11 = .int .i64 2 ∧ u3 = .int .i64 3)) ∧ w = wr) (fun _ i _ => 2 - (intOf i).toNat)
 case atStart => exact ⟨.inl ⟨rfl, rfl⟩, rfl⟩
 case round =>
  obtain ⟨⟨rfl, rfl⟩ | ⟨rfl, rfl⟩ | ⟨rfl, rfl⟩, rfl⟩ := hrel
  ·go_wp2
   go_roundw
   case rel => simp
   case measure => simp [intOf]
  ·go_wp2
   go_roundw
   case rel => simp
   case measure => simp [intOf]
  ·have HG2 := hide (show Calls Tryz.prog 123 #[.slice none 0 0, .int .i64 3] w _ from HG.out w (by omega))
   go_wp2_with (go_at_call 123; refine HG2.out.mono ?_; rintro e w1 ⟨v0, rfl, o1, b1⟩)
   have HI := hide (And.intro o1 b1)
   clear o1 b1
   go_loopw [6, 27] (fun u6 u27 wr => ((u27 = .int .i64 0 ∧ wr.ownsRow w.heap.size 34 1 u6 0 []) ∨ (u27 = .int .i64 1 ∧ wr.ownsRow w.heap.size 34 1 u6 1 [x]) ∨ (u27 = .int .i64 2 ∧ wr.ownsRow w.heap.size 34 1 u6 3 [x, y, z])) ∧ Below w.heap.size w wr) (fun _ i _ => 2 - (intOf i).toNat)
   case atStart => exact ⟨.inl ⟨rfl, HI.out.1⟩, HI.out.2⟩
   case round =>
    clear HI
    obtain ⟨⟨rfl, ho⟩ | ⟨rfl, ho⟩ | ⟨rfl, ho⟩, hb⟩ := hrel
    ·have HO := hide ho
     have c0 : wr.cell? ⟨g, 0, none⟩ = some (.slice Au 1 cu) := (hb.cell (p := ⟨g, 0, none⟩) hg).trans h0
     clear ho
     go_wp2_with (at_builtin; go_loud (refine wpList_pushG elemR HO.out hb hb.size (HU.out.1.below hb) (by unfold maxLen; omega) (by omega) (by intro q hq; simp at hq; rw [hq]; exact HU.out.2.2.1) rfl _ _ rfl rfl rfl ?_); intro v2 w2 o2 b2)
     go_roundw
     case rel => exact ⟨.inr (.inl ⟨rfl, by simpa using o2⟩), b2⟩
     case measure => simp [intOf]
    ·have HO := hide ho
     have c0 : wr.cell? ⟨g, 1, none⟩ = some (.slice Av 2 cv) := (hb.cell (p := ⟨g, 1, none⟩) hg).trans h1
     clear ho
     go_wp2_with (at_builtin; go_loud (refine wpList_pushG elemR HO.out hb hb.size (HU.out.2.1.below hb) (by unfold maxLen; omega) (by omega) (by intro q hq; simp at hq; rcases hq with h | h <;> rw [h] <;> first | exact HU.out.2.2.2.1 | exact HU.out.2.2.2.2) rfl _ _ rfl rfl rfl ?_); intro v2 w2 o2 b2)
     go_roundw
     case rel => exact ⟨.inr (.inr ⟨rfl, by simpa using o2⟩), b2⟩
     case measure => simp [intOf]
    ·go_wp2
     go_ret
     exact ⟨_, rfl, Sl.of_own ho, hb⟩
theorem sl_two {w : World} {b o c : Nat} {x y : Value} (hb : b < w.heap.size) (hc : w.cell? ⟨b, o, none⟩ = some x) (hd : w.cell? ⟨b, o + 1, none⟩ = some y) (h1 : 2 ≤ c) (h2 : c ≤ maxLen) : Sl w 1 (.slice (some ⟨b, o, none⟩) 2 c) 2 [x, y] :=
 ⟨rfl, _, _, rfl, h1, h2, fun _ => ⟨b, o, rfl, hb, fun j hj => by
  rcases (by omega : j = 0 ∨ j = 1) with rfl | rfl
  ·simpa using hc
  ·simpa using hd⟩⟩
set_option maxRecDepth 10000 in
set_option maxHeartbeats 4000000 in
theorem bytes_node (x y : List UInt8) (hx : x.length = 32) (hy : y.length = 32) (b o c : Nat) (Ap Aq : Option Addr) (cp cq : Nat) (w : World) (hb : b < w.heap.size) (h1c : 2 ≤ c ∧ c ≤ maxLen) (hc : w.cell? ⟨b, o, none⟩ = some (.slice Ap 32 cp)) (hd : w.cell? ⟨b, o + 1, none⟩ = some (.slice Aq 32 cq)) (hv : By w (.slice Ap 32 cp) x) (hu : By w (.slice Aq 32 cq) y) :
  Calls Tryz.prog 99 #[.int .u8 6, .slice (some ⟨b, o, none⟩) 2 c] w fun e w' => ∃ v', e = .returned (.tuple #[v', .int .i64 0]) ∧ Own w' w.heap.size 5 v' (tag2 6 x y) ∧ Below w.heap.size w w' := by
 have hne : (tagB 6).toList.isEmpty = false := tag_ne (by omega)
 have htl : (tagB 6).size ≤ 20 := tag_len (by omega)
 have QW := hide (fun w => (word_any 6 (by omega) w : Calls Tryz.prog 111 #[.int .u8 6] w _))
 obtain ⟨s, hs⟩ : ∃ s, s = tagB 6 := ⟨_, rfl⟩
 unfold tag2
 rw [← hs] at QW hne htl ⊢
 have QF := hide (fit_node b o c Ap Aq cp cq w hb hc hd)
 have HB := hide (And.intro (And.intro hv hu) (And.intro (And.intro hx hy) (And.intro (And.intro hc hd) (And.intro hb (And.intro htl h1c)))))
 clear hs hv hu hc hd hb htl h1c hx hy
 go_enter Tryz.func99, Tryz.ntmps99
 go_wp2_with first
  | (go_at_call 111; refine (QW.out _).mono ?_; rintro e w5 ⟨rfl, rfl⟩)
  | (go_at_call 112; refine QF.out.mono ?_; rintro e w1 ⟨rfl, b1⟩; go_loud (obtain ⟨g, cc, w2, hr, hby, b2, -, -, hcc, hcm⟩ := run_bytes_str 9 34 5 s w1 Tryz.underlying9 Tryz.underlying34 Tryz.underlying5 (by have := HB.out.2.2.2.2.1; unfold maxLen; omega); have H2 := hide (And.intro hby (And.intro (b1.trans (b2.mono b1.size)) (And.intro hcc hcm))); clear b1 b2 hby hcc hcm))
 have ha : Below w2.heap.size w2 (w2.alloc (.cells #[.slice (some ⟨g, 0, none⟩) s.size cc] 34)) := (Below.refl _ w2).alloc (Nat.le_refl _) _
 have hab : Below w2.heap.size w2 ((w2.alloc (.cells #[.slice (some ⟨g, 0, none⟩) s.size cc] 34)).alloc (.cells #[.slice (some ⟨w2.heap.size, 0, none⟩) 1 1, .slice (some ⟨b, o, none⟩) 2 c] 29)) := ha.alloc (by simp) _
 have k1 := Blk.new (w2.alloc (.cells #[.slice (some ⟨g, 0, none⟩) s.size cc] 34)) 29 #[.slice (some ⟨w2.heap.size, 0, none⟩) 1 1, .slice (some ⟨b, o, none⟩) 2 c]
 have k2 := (Blk.new w2 34 #[.slice (some ⟨g, 0, none⟩) s.size cc]).alloc (.cells #[.slice (some ⟨w2.heap.size, 0, none⟩) 1 1, .slice (some ⟨b, o, none⟩) 2 c] 29)
 rw [World.size_alloc] at k1
 have hbw : b < w2.heap.size := Nat.lt_of_lt_of_le HB.out.2.2.2.1 H2.out.2.1.size
 have hcw : w2.cell? ⟨b, o, none⟩ = some (.slice Ap 32 cp) := (H2.out.2.1.cell (p := ⟨b, o, none⟩) HB.out.2.2.2.1).trans HB.out.2.2.1.1
 have hdw : w2.cell? ⟨b, o + 1, none⟩ = some (.slice Aq 32 cq) := (H2.out.2.1.cell (p := ⟨b, o + 1, none⟩) HB.out.2.2.2.1).trans HB.out.2.2.1.2
 have QC := hide (concatR_three (w2.heap.size + 1) 2 _ _ (.slice (some ⟨g, 0, none⟩) s.size cc) (.slice Ap 32 cp) (.slice Aq 32 cq) _ ((k1.cell 0).trans rfl) ((k1.cell 1).trans rfl) k1.lt (sl_one k2.lt ((k2.cell 0).trans rfl) (Nat.le_refl _) (by unfold maxLen; omega)) (sl_two (Nat.lt_of_lt_of_le hbw hab.size) ((hab.cell (p := ⟨b, o, none⟩) hbw).trans hcw) ((hab.cell (p := ⟨b, o + 1, none⟩) hbw).trans hdw) HB.out.2.2.2.2.2.1 HB.out.2.2.2.2.2.2) rfl rfl rfl)
 have HAB := hide hab
 clear ha hab k1 k2 hbw hcw hdw
 with_reducible refine QC.out.mono ?_
 rintro e w3 ⟨r, rfl, hr3, b3⟩
 obtain ⟨Ar, cr, rfl, -, -, -⟩ := hr3.form
 have hb23 : Below w2.heap.size w2 w3 := HAB.out.trans (b3.mono HAB.out.size)
 have QR := hide (framed_any (.slice Ar 3 cr) [(.slice (some ⟨g, 0, none⟩) s.size cc, lst s), (.slice Ap 32 cp, x), (.slice Aq 32 cq, y)] w3 ⟨hr3, fun q hq => by
  simp only [List.mem_cons, List.mem_nil_iff, or_false] at hq
  rcases hq with rfl | rfl | rfl
  ·exact H2.out.1.below hb23
  ·exact (HB.out.1.1.below H2.out.2.1).below hb23
  ·exact (HB.out.1.2.below H2.out.2.1).below hb23⟩ (by have := HB.out.2.2.2.2.1; have h1 := HB.out.2.1.1; have h2 := HB.out.2.1.2; simp [total, lst_len, h1, h2]; omega) (by simp))
 have HX := hide (H2.out.2.1.trans (hb23.mono H2.out.2.1.size))
 clear hb23 hr3 b3 QC HAB
 go_wp2_with (go_at_call 113; refine QR.out.mono ?_; rintro e w4 ⟨v4, rfl, o4, b4⟩)
 go_ret2
 refine ⟨_, rfl, own_lower o4 HX.out.size, HX.out.trans (b4.mono HX.out.size)⟩
set_option maxRecDepth 10000 in
set_option maxHeartbeats 4000000 in
theorem digest_node (x y : List UInt8) (hx : x.length = 32) (hy : y.length = 32) (b o c : Nat) (Ap Aq : Option Addr) (cp cq : Nat) (w : World) (hb : b < w.heap.size) (h1c : 2 ≤ c ∧ c ≤ maxLen) (hc : w.cell? ⟨b, o, none⟩ = some (.slice Ap 32 cp)) (hd : w.cell? ⟨b, o + 1, none⟩ = some (.slice Aq 32 cq)) (hv : By w (.slice Ap 32 cp) x) (hu : By w (.slice Aq 32 cq) y) :
  Calls Tryz.prog 80 #[.int .u8 6, .slice (some ⟨b, o, none⟩) 2 c] w fun e w' => e = .returned (.tuple #[.agg (bcells (nodeD x y)).toArray, .int .i64 0]) ∧ Below w.heap.size w w' := by
 have QB := hide (fun W (hW : Below w.heap.size w W) => bytes_node x y hx hy b o c Ap Aq cp cq W (Nat.lt_of_lt_of_le hb hW.size) h1c ((hW.cell (p := ⟨b, o, none⟩) hb).trans hc) ((hW.cell (p := ⟨b, o + 1, none⟩) hb).trans hd) (hv.below hW) (hu.below hW))
 obtain ⟨M, hM⟩ : ∃ M, M = tag2 6 x y := ⟨_, rfl⟩
 have hml := tag2_len x y hx hy
 rw [← hM] at QB hml
 obtain ⟨F, hF⟩ : ∃ F, F = (bcells (shaL M)).toArray := ⟨_, rfl⟩
 have HF := hide (show F.size = 32 ∧ F.all (·.oneCell') = true ∧ F = (bcells (nodeD x y)).toArray from by
  rw [hF]
  exact ⟨(dig_cells _ (by simp)).1, (dig_cells _ (by simp)).2, by rw [hM]; rfl⟩)
 have QS := hide (fun g A c W h1 h2 h3 => sum_any g A c M W h1 h2 h3 hml)
 rw [← hF] at QS
 obtain ⟨m, hm⟩ : ∃ m, m = M.length := ⟨_, rfl⟩
 rw [← hm] at QS
 have HM := hide hm
 clear hF hM hml hb hc hd hv hu hm hx hy
 go_enter Tryz.func80, Tryz.ntmps80
 go_wp2_with fail
 refine (QB.out _ ((Below.refl _ w).alloc (Nat.le_refl _) _)).mono ?_
 rintro e w1 ⟨v1, rfl, o1, b1⟩
 obtain ⟨A1, c1, rfl, -, -, -⟩ := o1.by_.form
 obtain ⟨Z, hZ⟩ : ∃ Z : Array Value, Z = (bcells (List.replicate 32 0)).toArray := ⟨_, rfl⟩
 rw [← HM.out] at o1 ⊢
 have H1 := hide (show Blk w1 w.heap.size 23 Z ∧ Below w.heap.size w w1 ∧ Z.size = 32 ∧ By w1 (.slice A1 m c1) M from ⟨by rw [hZ]; exact Blk.below' (Blk.new w 23 _) b1, ((Below.refl _ w).alloc (Nat.le_refl _) _).trans (b1.mono (by simp)), by rw [hZ]; rfl, o1.by_⟩)
 clear hZ o1 b1
 go_wp2_with fail
 have k1 := Blk.new w1 34 #[.slice A1 m c1]
 have ha := (Below.refl w1.heap.size w1).alloc (Nat.le_refl _) (.cells #[.slice A1 m c1] 34)
 have QS2 := hide (QS.out w1.heap.size A1 c1 _ ((k1.cell 0).trans rfl) k1.lt (H1.out.2.2.2.below ha))
 have HA := hide ha
 clear k1 ha
 with_reducible refine QS2.out.mono ?_
 rintro e w2 ⟨rfl, b2⟩
 have b3 := HA.out.trans (b2.mono HA.out.size)
 have H2 := hide (And.intro (H1.out.2.1.trans (b3.mono H1.out.2.1.size)) (H1.out.1.below' b3))
 clear b2 b3 QS2
 go_wp2_with (refine wpList_store_row (o := ⟨none, .store _ (.tmp 4) _, _, _, _, _⟩) H2.out.2 F (by rw [HF.out.1, H1.out.2.2.1]) HF.out.2.1 rfl 23 _ _ rfl (by rw [HF.out.1]; kernel_rfl) rfl rfl ?_; intro w7 hb7 hg7)
 refine bodyPost_ret (v := .tuple #[.agg F, .int .i64 0]) ?_ rfl ⟨by rw [HF.out.2.2], H2.out.1.grown hg7 H2.out.1.size fun k hk => by injection hk with hk; omega⟩
 rw [results_cell_tmp rfl]
 have hlv := run_loadVar_row w7 w.heap.size 23 23 F (0, 0) _ hb7 Tryz.underlying23 rfl (by rw [HF.out.1]; kernel_rfl)
 simp [asAddr, hlv, Result.andThen]
set_option maxRecDepth 10000 in
set_option maxHeartbeats 4000000 in
theorem made_node (x y : List UInt8) (hx : x.length = 32) (hy : y.length = 32) (b o c : Nat) (Ap Aq : Option Addr) (cp cq : Nat) (w : World) (hb : b < w.heap.size) (h1c : 2 ≤ c ∧ c ≤ maxLen) (hc : w.cell? ⟨b, o, none⟩ = some (.slice Ap 32 cp)) (hd : w.cell? ⟨b, o + 1, none⟩ = some (.slice Aq 32 cq)) (hv : By w (.slice Ap 32 cp) x) (hu : By w (.slice Aq 32 cq) y) :
  Calls Tryz.prog 46 #[.int .u8 6, .slice (some ⟨b, o, none⟩) 2 c] w fun e w' => e = .returned (.agg (bcells (nodeD x y)).toArray) ∧ Below w.heap.size w w' := by
 have QB := hide (fun W (hW : Below w.heap.size w W) => digest_node x y hx hy b o c Ap Aq cp cq W (Nat.lt_of_lt_of_le hb hW.size) h1c ((hW.cell (p := ⟨b, o, none⟩) hb).trans hc) ((hW.cell (p := ⟨b, o + 1, none⟩) hb).trans hd) (hv.below hW) (hu.below hW))
 obtain ⟨F, hF⟩ : ∃ F, F = (bcells (nodeD x y)).toArray := ⟨_, rfl⟩
 have HF := hide (show F.size = 32 ∧ F.all (·.oneCell') = true from by rw [hF]; exact dig_cells _ (by simp))
 rw [← hF] at QB ⊢
 clear hF hb hc hd hv hu hx hy
 go_enter Tryz.func46, Tryz.ntmps46
 go_wp2_with fail
 refine (QB.out _ ((Below.refl _ w).alloc (Nat.le_refl _) _)).mono ?_
 rintro e w1 ⟨rfl, b1⟩
 obtain ⟨Z, hZ⟩ : ∃ Z : Array Value, Z = (bcells (List.replicate 32 0)).toArray := ⟨_, rfl⟩
 have H1 := hide (show Blk w1 w.heap.size 23 Z ∧ Below w.heap.size w w1 ∧ Z.size = 32 ∧ Blk (w1.alloc (.cells Z 23)) w1.heap.size 23 Z from ⟨by rw [hZ]; exact Blk.below' (Blk.new w 23 _) b1, ((Below.refl _ w).alloc (Nat.le_refl _) _).trans (b1.mono (by simp)), by rw [hZ]; rfl, Blk.new _ _ _⟩)
 have HZ := hide hZ
 clear hZ b1
 go_wp2_with first
  | ((with_reducible change wpList _ _ _ (⟨none, .store _ (.tmp 5) _, _, _, _, _⟩ :: _) _ _); refine wpList_store_row (o := ⟨none, .store _ (.tmp 5) _, _, _, _, _⟩) (g := w1.heap.size) (t := 23) (Blk.new w1 _ _) F (by rw [HF.out.1]; rfl) HF.out.2 rfl 23 _ _ rfl (by rw [HF.out.1]; kernel_rfl) rfl rfl ?_; intro w7 hb7 hg7; have H7 := hide (And.intro hb7 hg7); clear hb7 hg7)
  | ((with_reducible change wpList _ _ _ (⟨some 13, _, _, _, _, _⟩ :: _) _ _); refine wpList_load_row (o := ⟨some 13, .load _ _, _, _, _, _⟩) rfl 23 _ rfl w1.heap.size rfl 23 F (0, 0) _ H7.out.1 Tryz.underlying23 rfl (by rw [HF.out.1]; kernel_rfl) ?_)
  | ((with_reducible change wpList _ _ _ (⟨none, .store _ (.tmp 4) _, _, _, _, _⟩ :: _) _ _); refine wpList_store_row (o := ⟨none, .store _ (.tmp 4) _, _, _, _, _⟩) (((H1.out.1.alloc _).grown H7.out.2 (by have := H1.out.1.lt; simp; omega))) F (by rw [HF.out.1, H1.out.2.2.1]) HF.out.2 rfl 23 _ _ rfl (by rw [HF.out.1]; kernel_rfl) rfl rfl ?_; intro w8 hb8 hg8)
 have hl1 := H1.out.1.lt
 have h7 := (H1.out.2.1.alloc (by omega) (.cells Z 23))
 refine bodyPost_ret (results_cell_row rfl _ _ w.heap.size 23 F (0, 0) _ rfl hb8 Tryz.underlying23 rfl (by rw [HF.out.1]; kernel_rfl)) rfl ⟨rfl, ?_⟩
 have h8 : Below w.heap.size w _ := ((H1.out.2.1.alloc (by omega) _).grown H7.out.2 (by simp; omega) fun k hk => by injection hk with hk; omega)
 exact h8.grown hg8 h8.size fun k hk => by injection hk with hk; omega
end Go.Proofs.YtdohebhbiokljaaGreatDoor
namespace Go.Proofs.YtdohebhbiokljaaGreatDoor.Exs
open Go.RowKit
section
variable {P : Program} {o : Oper} {a : Act} {w : World}
theorem ex_loadB (ty : TypeId) (x : Operand) (ho : o.op = .load ty x) (g : Nat) (hx : a.eval x = .pointer (some ⟨g, 0, none⟩)) (t : TypeId) (cs : Array Value) (d : TypeDesc) (hg : Blk w g t cs)
  (hu : P.underlying ty = some d) (hd : (match d with | .struct _ | .array _ _ => true | _ => false) = true) (hi : (P.info? ty).map (·.size) = some cs.size) : (execOp a.eval o).run P w = .ok (.value (.agg cs)) w := by
 unfold execOp
 simp only [ho, hx, Instr.loadAt, Instr.sureAddr, Sem.run_bind, Sem.run_pure, Result.andThen_ok, run_loadVar_row w g t ty cs (0, 0) d hg hu hd hi]
theorem ex_loadI (ty : TypeId) (x : Operand) (ho : o.op = .load ty x) (p : Addr) (hx : a.eval x = .pointer (some p)) (v : Value) (k : IntKind) (hc : w.cell? p = some v) (hu : P.underlying ty = some (.int k)) : (execOp a.eval o).run P w = .ok (.value v) w := by
 unfold execOp
 simp only [ho, hx, Instr.loadAt, Instr.sureAddr, Sem.run_bind, Sem.run_pure, Result.andThen_ok]
 simp [loadVar, isAgg, underlying, hu, hc, Result.andThen]
theorem ex_buildV (t : TypeId) (ps : Array (Nat × Operand)) (ho : o.op = .build t ps) (vs : Array (Nat × Value)) (hv : ps.map (fun x => (x.1, a.eval x.2)) = vs) (v : Value) (hr : (Instr.build t vs).run P w = .ok v w) : (execOp a.eval o).run P w = .ok (.value v) w := by
 subst hv
 unfold execOp
 simp only [ho, Sem.run_bind, Sem.run_pure, hr, Result.andThen_ok]
theorem wp_store_blk {op : Oper} {K : Act → World → Prop} {Q : Exit → Act → World → Prop} {g : Nat} {t : TypeId} {old : Array Value} (hb : Blk w g t old) (cells : Array Value) (hs : cells.size = old.size) (h1 : cells.all (·.oneCell') = true)
  (ty : TypeId) (x y : Operand) (ho : op.op = .store ty x y) (hi : (P.info? ty).map (·.size) = some cells.size) (hx : a.eval x = .pointer (some ⟨g, 0, none⟩)) (hy : a.eval y = .agg cells)
  (h : ∀ w', Blk w' g t cells → w.grownBy w' (some g) → K (a.put op.dst undef) w') : op.wp P a w K Q := by
 refine wp_store_mid ty x y ho g 0 cells hx hy (fun j hj => ⟨?_, ?_⟩) hi h1 (h _ ?_ (stores_grown g _ _ _))
 ·rw [Nat.zero_add, hb.cell]; simp; omega
 ·rw [Nat.zero_add]; exact hb.frozen j
 ·have := blk_setCells cells.toList w 0 old hb (by simp; omega)
  simp only [List.take_zero, List.nil_append, Nat.zero_add, Array.length_toList] at this
  rw [List.drop_of_length_le (by simp; omega), List.append_nil] at this
  simpa using this
theorem wpList_ex {ops : Array Oper} {rest : List Oper} {Q : Exit → Act → World → Prop} (hgd : o.guard = none) {v : Value} (hr : (execOp a.eval o).run P w = .ok (.value v) w) (h : wpList P ops Q rest (a.put o.dst v) w) : wpList P ops Q (o :: rest) a w := by
 refine wpList_plain hgd fun K hK => ?_
 unfold Oper.wp
 rw [hr]
 exact hK _ _ h
theorem ex_loadR (ty : TypeId) (x : Operand) (ho : o.op = .load ty x) (b k : Nat) (hx : a.eval x = .pointer (some ⟨b, k, none⟩)) (F : Array Value) (d : TypeDesc) (hc : w.rangeAt b k F.toList)
  (hu : P.underlying ty = some d) (hd : d.isRow = true) (hi : (P.info? ty).map (·.size) = some F.size) : (execOp a.eval o).run P w = .ok (.value (.agg F)) w := by
 unfold execOp
 simp only [ho, hx, Sem.run_bind, Sem.run_pure, Result.andThen_ok, run_loadAt_mid w b k ty F.toList d hc hu hd (by simpa using hi)]
theorem ex_binA (op : BinOp) (t : TypeId) (x y : Operand) (ho : o.op = .binOp op t x y t) (hop : op = .eql ∨ op = .neq) (xs ys : Array Value) (hx : a.eval x = .agg xs) (hy : a.eval y = .agg ys) (hm : P.eqGuardType P.depth t = false) (r : Bool) (hr : (binOp op t (.agg xs) (.agg ys)).run P w = .ok (.bool r) w) : (execOp a.eval o).run P w = .ok (.value (.bool r)) w := by
 unfold execOp
 rcases hop with rfl | rfl
 ·simp only [ho, hx, hy, Sem.run_bind, Sem.run_pure, run_eqGuard_agg w _ _ _ _ _ _ hm, Result.andThen_ok, hr]
 ·simp only [ho, hx, hy, Sem.run_bind, Sem.run_pure, run_eqGuard_agg w _ _ _ _ _ _ hm, Result.andThen_ok, hr]
theorem wpList_exW {ops : Array Oper} {rest : List Oper} {Q : Exit → Act → World → Prop} (hw : Region.wanted o (yielded ops a.tmps) = true) {v : Value} (hr : (execOp a.eval o).run P w = .ok (.value v) w) (h : wpList P ops Q rest (a.put o.dst v) w) : wpList P ops Q (o :: rest) a w :=
 wpList_step fun K hK => by
  rw [if_pos hw]
  unfold Oper.wp
  rw [hr]
  exact hK _ _ h
end
end Go.Proofs.YtdohebhbiokljaaGreatDoor.Exs
