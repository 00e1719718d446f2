/- Joined texts: ShaF. -/
import Derived.Test.YtcpceaflnnkhnaaGreatDoorJ21
import Derived.Test.YtcpceaflnnkhnaaGreatDoorJ22

/- The program's Mix. -/
namespace Go.Proofs.YtcpceaflnnkhnaaGreatDoor
open Go.RowKit

/-- The rounds, the first t of them. -/
def rds (s : H8) (b : List UInt8) : Nat → H8
  | 0 => s
  | t + 1 => rnd (rds s b t) (ad (kc t) (wdh b t))
theorem rds_succ (s : H8) (b : List UInt8) (t : Nat) : rds s b (t + 1) = rnd (rds s b t) (ad (kc t) (wdh b t)) := rfl
def H8.add (s t : H8) : H8 := ⟨ad s.a t.a, ad s.b t.b, ad s.c t.c, ad s.d t.d, ad s.e t.e, ad s.f t.f, ad s.g t.g, ad s.h t.h⟩
theorem H8.one (s : H8) : s.cells.all (·.oneCell') = true := by simp [H8.cells, Value.oneCell']
/-- A block taken in. -/
def mixH (s : H8) (b : List UInt8) : H8 := s.add (rds s b 64)

theorem blk_eight {w : World} {g : Nat} {t : TypeId} {a0 a1 a2 a3 a4 a5 a6 a7 : Value} (h : Blk w g t #[a0, a1, a2, a3, a4, a5, a6, a7]) (b0 b1 b2 b3 b4 b5 b6 b7 : Value) :
    Blk ((((((((w.setCell ⟨g, 0, none⟩ b0).setCell ⟨g, 1, none⟩ b1).setCell ⟨g, 2, none⟩ b2).setCell ⟨g, 3, none⟩ b3).setCell ⟨g, 4, none⟩ b4).setCell ⟨g, 5, none⟩ b5).setCell ⟨g, 6, none⟩ b6).setCell ⟨g, 7, none⟩ b7) g t #[b0, b1, b2, b3, b4, b5, b6, b7] := by
  have := (((((((h.set_ 0 b0).set_ 1 b1).set_ 2 b2).set_ 3 b3).set_ 4 b4).set_ 5 b5).set_ 6 b6).set_ 7 b7
  simpa using this
theorem blk_eight_far {w : World} {g n : Nat} {t : TypeId} {cs : Array Value} (h : Blk w g t cs) (hn : g ≠ n) (b0 b1 b2 b3 b4 b5 b6 b7 : Value) :
    Blk ((((((((w.setCell ⟨n, 0, none⟩ b0).setCell ⟨n, 1, none⟩ b1).setCell ⟨n, 2, none⟩ b2).setCell ⟨n, 3, none⟩ b3).setCell ⟨n, 4, none⟩ b4).setCell ⟨n, 5, none⟩ b5).setCell ⟨n, 6, none⟩ b6).setCell ⟨n, 7, none⟩ b7) g t cs :=
  (((((((h.far hn _).far hn _).far hn _).far hn _).far hn _).far hn _).far hn _).far hn _
theorem below_eight {w0 w : World} {B n : Nat} (h : Below B w0 w) (hn : B ≤ n) (b0 b1 b2 b3 b4 b5 b6 b7 : Value) :
    Below B w0 ((((((((w.setCell ⟨n, 0, none⟩ b0).setCell ⟨n, 1, none⟩ b1).setCell ⟨n, 2, none⟩ b2).setCell ⟨n, 3, none⟩ b3).setCell ⟨n, 4, none⟩ b4).setCell ⟨n, 5, none⟩ b5).setCell ⟨n, 6, none⟩ b6).setCell ⟨n, 7, none⟩ b7) :=
  (((((((h.setCell hn _).setCell hn _).setCell hn _).setCell hn _).setCell hn _).setCell hn _).setCell hn _).setCell hn _
theorem round_eight (y0 y1 y2 y3 y4 y5 y6 y7 k : UInt32) (w : World) : Calls Tryz.prog 163 #[.agg #[.int .u32 (y0.toNat : Int), .int .u32 (y1.toNat : Int), .int .u32 (y2.toNat : Int), .int .u32 (y3.toNat : Int), .int .u32 (y4.toNat : Int), .int .u32 (y5.toNat : Int), .int .u32 (y6.toNat : Int), .int .u32 (y7.toNat : Int)], .int .u32 (k.toNat : Int)] w fun e w' => ∃ z0 z1 z2 z3 z4 z5 z6 z7, rnd ⟨y0, y1, y2, y3, y4, y5, y6, y7⟩ k = ⟨z0, z1, z2, z3, z4, z5, z6, z7⟩ ∧ e = .returned (.agg #[.int .u32 (z0.toNat : Int), .int .u32 (z1.toNat : Int), .int .u32 (z2.toNat : Int), .int .u32 (z3.toNat : Int), .int .u32 (z4.toNat : Int), .int .u32 (z5.toNat : Int), .int .u32 (z6.toNat : Int), .int .u32 (z7.toNat : Int)]) ∧ Below w.heap.size w w' :=
  (round_any ⟨y0, y1, y2, y3, y4, y5, y6, y7⟩ k w).mono fun _ _ h => ⟨_, _, _, _, _, _, _, _, rfl, h.1, h.2⟩
set_option maxRecDepth 100000 in
set_option maxHeartbeats 4000000 in
theorem mix_any (s : H8) (b : List UInt8) (w : World) (hb : b.length = 64) :
    Calls Tryz.prog 141 #[.agg s.cells, .agg (bcells b).toArray] w fun e w' => e = .returned (.agg (mixH s b).cells) ∧ Below w.heap.size w w' := by
  obtain ⟨B, hB⟩ : ∃ B, B = (bcells b).toArray := ⟨_, rfl⟩
  have hsz : B.size = 64 := by rw [hB]; simp [hb]
  have Q1 := hide (fun w => schedule_any b w hb)
  rw [← hB] at Q1 ⊢
  have HB := hide hB
  clear hB
  have HS := hide (And.intro (fw_size (wdh b) (show 64 ≤ 64 by omega)) (And.intro zeros_size (And.intro (fw_one (wdh b)) (And.intro (fw_size kc (show 64 ≤ 64 by omega)) (fw_one kc)))))
  have hsc : s.cells = #[.int .u32 (s.a.toNat : Int), .int .u32 (s.b.toNat : Int), .int .u32 (s.c.toNat : Int), .int .u32 (s.d.toNat : Int), .int .u32 (s.e.toNat : Int), .int .u32 (s.f.toNat : Int), .int .u32 (s.g.toNat : Int), .int .u32 (s.h.toNat : Int)] := rfl
  have HSC := hide hsc
  have HONE := hide s.one
  have hz : ((List.replicate 64 (Value.int .u32 0)).toArray) = fw 0 (wdh b) := (fw_zero _).symm
  have HZ := hide (fun (W : World) => And.intro (show Blk ((W.alloc (.cells (List.replicate 64 (Value.int .u32 0)).toArray 202)).alloc (.cells (List.replicate 64 (Value.int .u32 0)).toArray 202)) W.heap.size 202 (List.replicate 64 (Value.int .u32 0)).toArray from (Blk.new W _ _).alloc _) (show Blk ((W.alloc (.cells (List.replicate 64 (Value.int .u32 0)).toArray 202)).alloc (.cells (List.replicate 64 (Value.int .u32 0)).toArray 202)) (W.heap.size + 1) 202 (List.replicate 64 (Value.int .u32 0)).toArray from blk_newk _ _ _ _ (by simp)))
  have n0 := ((Blk.new w 188 s.cells).alloc (.cells B 190)).alloc (.cells #[.int .u32 0, .int .u32 0, .int .u32 0, .int .u32 0, .int .u32 0, .int .u32 0, .int .u32 0, .int .u32 0] 188)
  have n1 := (Blk.new (w.alloc (.cells s.cells 188)) 190 B).alloc (.cells #[.int .u32 0, .int .u32 0, .int .u32 0, .int .u32 0, .int .u32 0, .int .u32 0, .int .u32 0, .int .u32 0] 188)
  have n2 := Blk.new ((w.alloc (.cells s.cells 188)).alloc (.cells B 190)) 188 #[.int .u32 0, .int .u32 0, .int .u32 0, .int .u32 0, .int .u32 0, .int .u32 0, .int .u32 0, .int .u32 0]
  have nb : Below w.heap.size w (((w.alloc (.cells s.cells 188)).alloc (.cells B 190)).alloc (.cells #[.int .u32 0, .int .u32 0, .int .u32 0, .int .u32 0, .int .u32 0, .int .u32 0, .int .u32 0, .int .u32 0] 188)) := (((Below.refl _ w).alloc (Nat.le_refl _) _).alloc (by simp) _).alloc (by simp; omega) _
  simp only [World.size_alloc] at n1 n2
  have H0 := hide (And.intro n0 (And.intro n1 (And.intro n2 nb)))
  clear n0 n1 n2 nb hsc hz
  go_enter Tryz.func141, Tryz.ntmps141
  go_wp2_with (refine wpList_load_row (o := ⟨some 10, .load _ _, _, _, _, _⟩) rfl 190 _ rfl (w.heap.size + 1) rfl 190 B (0, 0) _ H0.out.2.1 Tryz.underlying190 rfl (by rw [hsz]; kernel_rfl) ?_)
  refine (Q1.out _).mono ?_
  rintro e w1 ⟨rfl, b1⟩
  have H1 := hide (And.intro (H0.out.1.below' b1) (And.intro (H0.out.2.2.1.below' b1) (H0.out.2.2.2.trans (b1.mono H0.out.2.2.2.size))))
  clear b1 H0
  go_wp2_with fail
  refine (constants_any w1).mono ?_
  rintro e w2 ⟨rfl, b2⟩
  have H2 := hide (And.intro (H1.out.1.below' b2) (And.intro (H1.out.2.1.below' b2) (H1.out.2.2.trans (b2.mono H1.out.2.2.size))))
  clear b2 H1
  go_wp2_with first
    | ((with_reducible change wpList _ _ _ (⟨none, .store _ (.tmp 5) _, _, _, _, _⟩ :: _) _ _); refine wpList_store_row (o := ⟨none, .store _ (.tmp 5) _, _, _, _, _⟩) (HZ.out w2).1 (fw 64 (wdh b)) (by rw [HS.out.1, HS.out.2.1]) HS.out.2.2.1 rfl 202 _ _ rfl (by rw [HS.out.1]; kernel_rfl) rfl rfl ?_; intro w3 hb3 hg3; have H3 := hide (And.intro hb3 hg3); clear hb3 hg3)
    | ((with_reducible change wpList _ _ _ (⟨none, .store _ (.tmp 6) _, _, _, _, _⟩ :: _) _ _); refine wpList_store_row (o := ⟨none, .store _ (.tmp 6) _, _, _, _, _⟩) ((HZ.out w2).2.grown H3.out.2 (by simp)) (fw 64 kc) (by rw [HS.out.2.2.2.1, HS.out.2.1]) HS.out.2.2.2.2 rfl 202 _ _ rfl (by rw [HS.out.2.2.2.1]; kernel_rfl) rfl rfl ?_; intro w4 hb4 hg4; have H4 := hide (And.intro hb4 hg4); have hlt := H2.out.1.lt; have H5 := hide (And.intro ((((H2.out.1.alloc _).alloc _).grown H3.out.2 (by simp; omega)).grown H4.out.2 (by simp; omega)) (And.intro ((((H2.out.2.1.alloc _).alloc _).grown H3.out.2 (by have := H2.out.2.1.lt; simp; omega)).grown H4.out.2 (by have := H2.out.2.1.lt; simp; omega)) (And.intro (H3.out.1.grown H4.out.2 (by simp)) hb4))); clear hb4 hg4)
    | ((with_reducible change wpList _ _ _ (⟨some 13, _, _, _, _, _⟩ :: _) _ _); refine wpList_load_row (o := ⟨some 13, .load _ _, _, _, _, _⟩) rfl 188 _ rfl w.heap.size rfl 188 s.cells (0, 0) _ H5.out.1 Tryz.underlying188 rfl (by kernel_rfl) ?_)
    | ((with_reducible change wpList _ _ _ (⟨none, .store _ (.tmp 7) _, _, _, _, _⟩ :: _) _ _); refine wpList_store_row (o := ⟨none, .store _ (.tmp 7) _, _, _, _, _⟩) (Blk.new w4 188 #[.int .u32 0, .int .u32 0, .int .u32 0, .int .u32 0, .int .u32 0, .int .u32 0, .int .u32 0, .int .u32 0]) s.cells rfl HONE.out rfl 188 _ _ rfl (by rw [HSC.out]; kernel_rfl) rfl rfl ?_; intro w5 hb5 hg5; have H6 := hide (And.intro hb5 hg5); clear hb5 hg5)
  have hBEL : Below w.heap.size w w5 := by
    have l2 := H2.out.2.1.lt
    have h2 := H2.out.2.2
    have l3 := H3.out.1.lt
    have l4 := H4.out.1.lt
    have h3 := (((h2.alloc (by omega) _).alloc (by simp; omega) _).grown H3.out.2 (by simp; omega) fun k hk => by injection hk with hk; omega)
    have h4 := h3.grown H4.out.2 (by omega) fun k hk => by injection hk with hk; omega
    exact (h4.alloc (by omega) _).grown H6.out.2 (by simp; omega) fun k hk => by injection hk with hk; omega
  obtain ⟨N4, hN4⟩ : ∃ n, n = w4.heap.size := ⟨_, rfl⟩
  obtain ⟨N2, hN2⟩ : ∃ n, n = w2.heap.size := ⟨_, rfl⟩
  have HLT := hide (show w.heap.size + 2 < N2 ∧ N2 + 1 < N4 by
    have l2 := H2.out.2.1.lt
    have l4 := H4.out.1.lt
    omega)
  have HI := hide (show Blk w5 w.heap.size 188 s.cells ∧ Blk w5 (w.heap.size + 1 + 1) 188 #[.int .u32 0, .int .u32 0, .int .u32 0, .int .u32 0, .int .u32 0, .int .u32 0, .int .u32 0, .int .u32 0] ∧ Blk w5 N2 202 (fw 64 (wdh b)) ∧ Blk w5 (N2 + 1) 202 (fw 64 kc) ∧ Blk w5 N4 188 (rds s b 0).cells ∧ Below w.heap.size w w5 by
    have l2 := H2.out.2.1.lt
    have l4 := H4.out.1.lt
    rw [hN4, hN2]
    exact ⟨(H5.out.1.alloc _).grown H6.out.2 (by simp; omega), (H5.out.2.1.alloc _).grown H6.out.2 (by simp; omega), (H5.out.2.2.1.alloc _).grown H6.out.2 (by simp; omega), (H5.out.2.2.2.alloc _).grown H6.out.2 (by simp; omega), H6.out.1, hBEL⟩)
  rw [← hN4, ← hN2]
  have HNN := hide (And.intro hN4 hN2)
  clear hN4 hN2 hBEL H6 hlt H5 H4 H3 H2 HZ
  go_loopw [14, 8, 15, 16, 17, 18, 19, 20, 21, 22, 23, 24, 25, 26] (fun u14 _ _ _ _ _ _ _ _ _ _ _ _ _ wr => ∃ i : Nat, i ≤ 64 ∧ u14 = .int .i64 (i : Int) ∧ Blk wr w.heap.size 188 s.cells ∧ Blk wr (w.heap.size + 1 + 1) 188 #[.int .u32 0, .int .u32 0, .int .u32 0, .int .u32 0, .int .u32 0, .int .u32 0, .int .u32 0, .int .u32 0] ∧ Blk wr N2 202 (fw 64 (wdh b)) ∧ Blk wr (N2 + 1) 202 (fw 64 kc) ∧ Blk wr N4 188 (rds s b i).cells ∧ Below w.heap.size w wr) (fun i _ _ _ _ _ _ _ _ _ _ _ _ _ _ => 64 - (intOf i).toNat)
  case atStart => exact ⟨0, by omega, rfl, HI.out⟩
  case round =>
    clear HI
    obtain ⟨i, hi, rfl, h1, h2, h3, h4, h5, h6⟩ := hrel
    have H := hide (And.intro h1 (And.intro h2 (And.intro h3 (And.intro h4 (And.intro h5 h6)))))
    clear h1 h2 h3 h4 h5 h6
    by_cases hlt : i < 64
    · obtain ⟨⟨y0, y1, y2, y3, y4, y5, y6, y7⟩, hy⟩ : ∃ y, y = rds s b i := ⟨_, rfl⟩
      have HY := hide hy
      clear hy
      obtain ⟨a, ha⟩ : ∃ a, a = kc i := ⟨_, rfl⟩
      obtain ⟨c, hc⟩ : ∃ c, c = wdh b i := ⟨_, rfl⟩
      have g0 : wr.cell? ⟨N4, 0, none⟩ = some (.int .u32 (y0.toNat : Int)) := by rw [H.out.2.2.2.2.1.cell, ← HY.out]; rfl
      have s0 : wr.frozen? ⟨N4, 0, none⟩ = false := H.out.2.2.2.2.1.frozen 0
      have g1 : wr.cell? ⟨N4, 1, none⟩ = some (.int .u32 (y1.toNat : Int)) := by rw [H.out.2.2.2.2.1.cell, ← HY.out]; rfl
      have s1 : wr.frozen? ⟨N4, 1, none⟩ = false := H.out.2.2.2.2.1.frozen 1
      have g2 : wr.cell? ⟨N4, 2, none⟩ = some (.int .u32 (y2.toNat : Int)) := by rw [H.out.2.2.2.2.1.cell, ← HY.out]; rfl
      have s2 : wr.frozen? ⟨N4, 2, none⟩ = false := H.out.2.2.2.2.1.frozen 2
      have g3 : wr.cell? ⟨N4, 3, none⟩ = some (.int .u32 (y3.toNat : Int)) := by rw [H.out.2.2.2.2.1.cell, ← HY.out]; rfl
      have s3 : wr.frozen? ⟨N4, 3, none⟩ = false := H.out.2.2.2.2.1.frozen 3
      have g4 : wr.cell? ⟨N4, 4, none⟩ = some (.int .u32 (y4.toNat : Int)) := by rw [H.out.2.2.2.2.1.cell, ← HY.out]; rfl
      have s4 : wr.frozen? ⟨N4, 4, none⟩ = false := H.out.2.2.2.2.1.frozen 4
      have g5 : wr.cell? ⟨N4, 5, none⟩ = some (.int .u32 (y5.toNat : Int)) := by rw [H.out.2.2.2.2.1.cell, ← HY.out]; rfl
      have s5 : wr.frozen? ⟨N4, 5, none⟩ = false := H.out.2.2.2.2.1.frozen 5
      have g6 : wr.cell? ⟨N4, 6, none⟩ = some (.int .u32 (y6.toNat : Int)) := by rw [H.out.2.2.2.2.1.cell, ← HY.out]; rfl
      have s6 : wr.frozen? ⟨N4, 6, none⟩ = false := H.out.2.2.2.2.1.frozen 6
      have g7 : wr.cell? ⟨N4, 7, none⟩ = some (.int .u32 (y7.toNat : Int)) := by rw [H.out.2.2.2.2.1.cell, ← HY.out]; rfl
      have s7 : wr.frozen? ⟨N4, 7, none⟩ = false := H.out.2.2.2.2.1.frozen 7
      have ga : wr.cell? ⟨N2 + 1, i, none⟩ = some (.int .u32 (a.toNat : Int)) := by rw [H.out.2.2.2.1.cell, fw_get _ (by omega), ha]
      have gc : wr.cell? ⟨N2, i, none⟩ = some (.int .u32 (c.toNat : Int)) := by rw [H.out.2.2.1.cell, fw_get _ (by omega), hc]
      obtain ⟨D, hD⟩ : ∃ D, D = ad := ⟨_, rfl⟩
      have x3 : ∀ a b : UInt32, IntKind.u32.wrap ((a.toNat : Int) + (b.toNat : Int)) = ((D a b).toNat : Int) := by rw [hD]; exact w_add
      have x4 : ∀ a b : UInt32, ((a.toNat : Int) + (b.toNat : Int)) % 4294967296 = ((D a b).toNat : Int) := by rw [hD]; exact w_add'
      have QR := hide @round_eight
      have HAC := hide (And.intro ha (And.intro hc hD))
      clear ha hc hD
      have HK := hide (show ∀ w' : World, Below wr.drew.heap.size wr.drew w' → Hid (Blk w' N4 188 (H8.cells ⟨y0, y1, y2, y3, y4, y5, y6, y7⟩) ∧ Below wr.drew.heap.size wr.drew w') ∧ w'.cell? ⟨N4, 0, none⟩ = some (.int .u32 (y0.toNat : Int)) ∧ w'.cell? ⟨N4, 1, none⟩ = some (.int .u32 (y1.toNat : Int)) ∧ w'.cell? ⟨N4, 2, none⟩ = some (.int .u32 (y2.toNat : Int)) ∧ w'.cell? ⟨N4, 3, none⟩ = some (.int .u32 (y3.toNat : Int)) ∧ w'.cell? ⟨N4, 4, none⟩ = some (.int .u32 (y4.toNat : Int)) ∧ w'.cell? ⟨N4, 5, none⟩ = some (.int .u32 (y5.toNat : Int)) ∧ w'.cell? ⟨N4, 6, none⟩ = some (.int .u32 (y6.toNat : Int)) ∧ w'.cell? ⟨N4, 7, none⟩ = some (.int .u32 (y7.toNat : Int)) ∧ w'.frozen? ⟨N4, 0, none⟩ = false ∧ w'.frozen? ⟨N4, 1, none⟩ = false ∧ w'.frozen? ⟨N4, 2, none⟩ = false ∧ w'.frozen? ⟨N4, 3, none⟩ = false ∧ w'.frozen? ⟨N4, 4, none⟩ = false ∧ w'.frozen? ⟨N4, 5, none⟩ = false ∧ w'.frozen? ⟨N4, 6, none⟩ = false ∧ w'.frozen? ⟨N4, 7, none⟩ = false from fun w' hw' => by
        have hk : Blk w' N4 188 (H8.cells ⟨y0, y1, y2, y3, y4, y5, y6, y7⟩) := by rw [HY.out]; exact H.out.2.2.2.2.1.drew.below' hw'
        exact ⟨hide ⟨hk, hw'⟩, (hk.cell 0).trans rfl, (hk.cell 1).trans rfl, (hk.cell 2).trans rfl, (hk.cell 3).trans rfl, (hk.cell 4).trans rfl, (hk.cell 5).trans rfl, (hk.cell 6).trans rfl, (hk.cell 7).trans rfl, hk.frozen 0, hk.frozen 1, hk.frozen 2, hk.frozen 3, hk.frozen 4, hk.frozen 5, hk.frozen 6, hk.frozen 7⟩)
      have bi : (i : Int) < 64 := by omega
      have pi : (0 : Int) ≤ (i : Int) := by omega
      go_wp2
      go_region_with (go_at_call 163; refine (QR.out y0 y1 y2 y3 y4 y5 y6 y7 _ _).mono ?_; rintro e w' ⟨z0, z1, z2, z3, z4, z5, z6, z7, hz, rfl, hbb⟩; go_loud (obtain ⟨HB', q0, q1, q2, q3, q4, q5, q6, q7, p0, p1, p2, p3, p4, p5, p6, p7⟩ := HK.out _ hbb))
      all_goals
        go_wp2
        go_roundw
        case rel =>
          have n0 := HLT.out
          have n1 : w.heap.size ≠ N4 := by omega
          have n2 : w.heap.size + 1 + 1 ≠ N4 := by omega
          have n3 : N2 ≠ N4 := by omega
          have n4 : N2 + 1 ≠ N4 := by omega
          have n5 : w.heap.size ≤ N4 := by omega
          have hE : (rds s b (i + 1)).cells = H8.cells ⟨z0, z1, z2, z3, z4, z5, z6, z7⟩ := by
            have e1 : rds s b (i + 1) = rnd (rds s b i) (ad (kc i) (wdh b i)) := rds_succ s b i
            rw [e1, ← hz, ← HY.out, HAC.out.1, HAC.out.2.1, HAC.out.2.2]
          refine ⟨i + 1, by omega, by go_num, blk_eight_far (H.out.1.drew.below' HB'.out.2) n1 _ _ _ _ _ _ _ _ , blk_eight_far (H.out.2.1.drew.below' HB'.out.2) n2 _ _ _ _ _ _ _ _ , blk_eight_far (H.out.2.2.1.drew.below' HB'.out.2) n3 _ _ _ _ _ _ _ _ , blk_eight_far (H.out.2.2.2.1.drew.below' HB'.out.2) n4 _ _ _ _ _ _ _ _ , ?_, below_eight (H.out.2.2.2.2.2.drew.trans (HB'.out.2.mono H.out.2.2.2.2.2.drew.size)) n5 _ _ _ _ _ _ _ _ ⟩
          rw [hE]
          exact blk_eight HB'.out.1 _ _ _ _ _ _ _ _
        case measure => simp [intOf]; omega
    · have hi64 : i = 64 := by omega
      subst hi64
      obtain ⟨x, hx⟩ : ∃ x, x = rds s b 64 := ⟨_, rfl⟩
      rw [← hx] at H
      have HX := hide hx
      clear hx hi hlt
      rw [show ((64 : Nat) : Int) = 64 from rfl]
      go_wp2
      go_loopw [27, 9, 28, 29, 30, 31, 32, 33, 34, 35, 36, 37, 38] (fun u27 _ _ _ _ _ _ _ _ _ _ _ _ wr => ∃ i : Nat, i ≤ 8 ∧ u27 = .int .i64 (i : Int) ∧ Blk wr w.heap.size 188 (partH s x i) ∧ Blk wr (w.heap.size + 1 + 1) 188 #[.int .u32 0, .int .u32 0, .int .u32 0, .int .u32 0, .int .u32 0, .int .u32 0, .int .u32 0, .int .u32 0] ∧ Blk wr N4 188 x.cells ∧ Below w.heap.size w wr) (fun i _ _ _ _ _ _ _ _ _ _ _ _ _ => 8 - (intOf i).toNat)
      case atStart => exact ⟨0, by omega, rfl, by rw [part_zero]; exact H.out.1, H.out.2.1, H.out.2.2.2.2.1, H.out.2.2.2.2.2⟩
      case round =>
        clear H
        obtain ⟨i, hi, rfl, h1, h2, h3, h4⟩ := hrel
        have H := hide (And.intro h1 (And.intro h2 (And.intro h3 h4)))
        clear h1 h2 h3 h4
        by_cases hlt : i < 8
        · obtain ⟨a, ha⟩ : ∃ a, a = s.at i := ⟨_, rfl⟩
          obtain ⟨c, hc⟩ : ∃ c, c = x.at i := ⟨_, rfl⟩
          have ga : wr.cell? ⟨w.heap.size, i, none⟩ = some (.int .u32 (a.toNat : Int)) := by rw [H.out.1.cell, partH_get _ _ hlt, ha]
          have gs := H.out.1.frozen i
          have gc : wr.cell? ⟨N4, i, none⟩ = some (.int .u32 (c.toNat : Int)) := by rw [H.out.2.2.1.cell, cells_get _ hlt, hc]
          obtain ⟨D, hD⟩ : ∃ D, D = ad := ⟨_, rfl⟩
          have x3 : ∀ a b : UInt32, IntKind.u32.wrap ((a.toNat : Int) + (b.toNat : Int)) = ((D a b).toNat : Int) := by rw [hD]; exact w_add
          have x4 : ∀ a b : UInt32, ((a.toNat : Int) + (b.toNat : Int)) % 4294967296 = ((D a b).toNat : Int) := by rw [hD]; exact w_add'
          have HAC := hide (And.intro ha (And.intro hc hD))
          clear ha hc hD
          have bi : (i : Int) < 8 := by omega
          have pi : (0 : Int) ≤ (i : Int) := by omega
          go_wp2
          go_region
          go_wp2
          go_roundw
          case rel =>
            have n0 := HLT.out
            refine ⟨i + 1, by omega, by go_num, ?_, H.out.2.1.drew.far (by simp; omega) _, H.out.2.2.1.drew.far (by simp; omega) _, H.out.2.2.2.drew.setCell (by simp) _⟩
            rw [← part_set s x hlt, ← HAC.out.1, ← HAC.out.2.1, ← HAC.out.2.2]
            exact H.out.1.drew.set_ i _
          case measure => simp [intOf]; omega
        · have hi8 : i = 8 := by omega
          subst hi8
          have HP := hide (And.intro (part_size s x 8) (show (partH s x 8).all (·.oneCell') = true by rw [part_full]; exact H8.one _))
          go_wp2_with (first
            | ((with_reducible change wpList _ _ _ (⟨some 39, _, _, _, _, _⟩ :: _) _ _); refine wpList_load_row (o := ⟨some 39, .load _ _, _, _, _, _⟩) rfl 188 _ rfl w.heap.size rfl 188 (partH s x 8) (0, 0) _ H.out.1 Tryz.underlying188 rfl (by rw [HP.out.1]; kernel_rfl) ?_)
            | (refine wpList_store_row (o := ⟨none, .store _ _ _, _, _, _, _⟩) H.out.2.1 (partH s x 8) (by rw [HP.out.1]; rfl) HP.out.2 rfl 188 _ _ rfl (by rw [HP.out.1]; kernel_rfl) rfl rfl ?_; intro w6 hb6 hg6))
          refine bodyPost_ret (results_cell_row rfl _ _ (w.heap.size + 1 + 1) 188 (partH s x 8) (0, 0) _ rfl hb6 Tryz.underlying188 rfl (by rw [HP.out.1]; kernel_rfl)) rfl ⟨?_, H.out.2.2.2.grown hg6 H.out.2.2.2.size fun k hk => by injection hk with hk; omega⟩
          rw [part_full, HX.out]
          rfl
end Go.Proofs.YtcpceaflnnkhnaaGreatDoor
