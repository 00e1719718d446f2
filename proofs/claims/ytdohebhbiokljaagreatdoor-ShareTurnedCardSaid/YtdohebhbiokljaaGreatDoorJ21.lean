import Derived.Test.YtdohebhbiokljaaGreatDoorJ20
set_option linter.all false
namespace Go.Proofs.YtdohebhbiokljaaGreatDoor
open Go.RowKit
def ZS : Array Value := shC 0 US.zero (.slice none 0 0) (.slice none 0 0) (.slice none 0 0) (.slice none 0 0)
theorem ZS_zero : Tryz.zeroCells31 = ZS := by kernel_rfl
theorem ZS_size : ZS.size = 73 := by kernel_rfl
theorem ZS_one : ZS.all (·.oneCell') = true := by kernel_rfl
theorem ZS_build (W : World) : (Instr.build 31 #[]).run Tryz.prog W = .ok (.agg ZS) W := by kernel_rfl
theorem shC_size {num : Int} {u : US} {a b c d : Value} (hu : u.wf) : (shC num u a b c d).size = 73 := by
 have := frC_size (num := num) (a := a) (b := b) (c := c) hu
 unfold shC
 simp [this]
theorem shC_one {num : Int} {u : US} (hu : u.wf) {a b c d : Value} (ha : a.oneCell' = true) (hb : b.oneCell' = true) (hc : c.oneCell' = true) (hd : d.oneCell' = true) : (shC num u a b c d).all (·.oneCell') = true := by
 have h1 := frC_one (num := num) hu ha hb hc
 unfold shC
 rw [Array.all_eq_true_iff_forall_mem] at h1 ⊢
 intro x hx
 simp only [List.mem_toArray, List.mem_append, List.mem_singleton] at hx
 rcases hx with hx | rfl
 ·exact h1 x (by simpa using hx)
 ·exact hd
theorem shC_set {num : Int} {u : US} (hu : u.wf) {a b c d d' : Value} : (shC num u a b c d).setIfInBounds 72 d' = shC num u a b c d' := by
 have := frC_size (num := num) (a := a) (b := b) (c := c) hu
 unfold shC
 rw [List.setIfInBounds_toArray, List.set_append_right _ _ (by simp [this]), show 72 - (frC num u a b c).toList.length = 0 by simp [this]]
 rfl
def bldS (F : Array Value) : Array Value := (F.toList ++ [Value.slice none 0 0]).toArray
theorem build_law (F : Array Value) (h : F.size = 72) (W : World) : (Instr.build 31 #[(0, .agg F)]).run Tryz.prog W = .ok (.agg (bldS F)) W := by
 unfold bldS
 obtain ⟨L, rfl⟩ : ∃ L : List Value, F = L.toArray := ⟨F.toList, Array.toArray_toList.symm⟩
 have hl : L.length = 72 := by simpa using h
 obtain ⟨l0, l9, rfl, h0, h0'⟩ : ∃ a b : List Value, L = a ++ b ∧ a.length = 68 ∧ b.length = 4 := ⟨L.take 68, L.drop 68, (List.take_append_drop 68 L).symm, by simp; omega, by simp; omega⟩
 obtain ⟨l1, l2, l3, l4, l5, rfl, h1, h2, h3, h4, h5⟩ := list68 h0
 obtain ⟨a0, a1, a2, a3, a4, a5, a6, a7, a8, a9, a10, a11, a12, a13, a14, a15, rfl⟩ := list16 h1
 obtain ⟨b0, b1, b2, b3, b4, b5, b6, b7, b8, b9, b10, b11, b12, b13, b14, b15, rfl⟩ := list16 h2
 obtain ⟨c0, c1, c2, c3, c4, c5, c6, c7, c8, c9, c10, c11, c12, c13, c14, c15, rfl⟩ := list16 h3
 obtain ⟨d0, d1, d2, d3, d4, d5, d6, d7, d8, d9, d10, d11, d12, d13, d14, d15, rfl⟩ := list16 h4
 obtain ⟨e0, e1, e2, e3, rfl⟩ := list4 h5
 obtain ⟨f0, f1, f2, f3, rfl⟩ := list4 h0'
 clear h hl h0 h0' h1 h2 h3 h4 h5
 show (Instr.build 31 _).run Tryz.prog W = _
 kernel_rfl
theorem cutD_snoc : ∀ (ns : List Nat) (n : Nat) (l : List UInt8), cutD (ns ++ [n]) l = cutD ns l ++ [(l.drop ns.sum).take n]
 | [], n, l => by simp [cutD]
 | m :: ns, n, l => by simp only [List.cons_append, cutD, cutD_snoc ns, List.drop_drop, List.sum_cons]
theorem cutD_length : ∀ (ns : List Nat) (l : List UInt8), (cutD ns l).length = ns.length
 | [], _ => rfl
 | n :: ns, l => by simp [cutD, cutD_length ns]
theorem lens_take (u : US) {j : Nat} (h : j < SG u) : (lens u).take (j + 1) = (lens u).take j ++ [lensAt u j] := by
 rw [List.take_add_one, lens_at u j h]
 rfl
theorem sum_take_le (l : List Nat) (j : Nat) : (l.take j).sum ≤ l.sum := by
 have := congrArg List.sum (List.take_append_drop j l)
 rw [List.sum_append] at this
 omega
theorem OwnL.lsts {w : World} {base : Nat} {e E : TypeId} {v : Value} {L : List (List UInt8)} (h : OwnL w base e E v L) : ∃ LD : List (Value × List UInt8), Lsts w v LD ∧ LD.map (·.2) = L := by
 obtain ⟨xs, h1, h2⟩ := h
 have hl : xs.length = L.length := by have := h1.1; omega
 have hz : (xs.zip L).length = L.length := by simp [hl]
 refine ⟨xs.zip L, ⟨?_, fun x hx => ?_⟩, List.map_snd_zip (by omega)⟩
 ·rw [hz, List.map_fst_zip (by omega)]
  exact Sl.of_own h1
 ·obtain ⟨i, hi⟩ := List.mem_iff_getElem?.1 hx
  obtain ⟨ha, hb⟩ := List.getElem?_zip_eq_some.1 hi
  obtain ⟨y, hy, ho⟩ := h2 i x.2 hb
  rw [ha] at hy
  injection hy with hy
  rw [hy]
  exact ho.by_
theorem elemS8 : Elem1 Tryz.prog 29 34 (.slice none 0 0) 24 := ⟨Tryz.underlying29, by kernel_rfl, rfl⟩
def OpenSPost (l : List UInt8) (w : World) (e : Ending) (w' : World) : Prop := Below w.heap.size w w' ∧
 ((∃ at_, openS l = (none, at_) ∧ e = .returned (.tuple #[.agg ZS, .int .i64 (at_ : Int), .int .i64 140])) ∨
  (∃ s v, openS l = (some s, 0) ∧ e = .returned (.tuple #[v, .int .i64 0, .int .i64 0]) ∧ ShV w' v s))
attribute [local go_sem ↓ high] sl_law
set_option maxRecDepth 100000 in
set_option maxHeartbeats 8000000 in
theorem open_any (v : Value) (l : List UInt8) (w : World) (h : By w v l) (ht : Tab w) (he : Err w) :
  Calls Tryz.prog 17 #[v] w (OpenSPost l w) := by
 obtain ⟨A, c, rfl, hlc, hcm, hca⟩ := h.form
 have n2 := Blk.new w 31 ZS
 have b2 := (Below.refl w.heap.size w).alloc (Nat.le_refl _) (.cells ZS 31)
 have Q1 : Hid (Calls Tryz.prog 40 #[.slice A l.length c, .int .i64 5] (w.alloc (.cells ZS 31)) (OpenPost 5 l (w.alloc (.cells ZS 31)))) := hide (opened_any _ l 5 (.inr rfl) _ (h.below b2) (ht.below b2) (he.below b2))
 have HBY := hide (h.below b2)
 have hz := ZS_zero
 have hzb := ZS_build
 have hzF := ZF_zero
 obtain ⟨zs, hzs, hzs1, hzs2⟩ : ∃ Z, Z = ZS ∧ Z.size = 73 ∧ Z.all (·.oneCell') = true := ⟨_, rfl, ZS_size, ZS_one⟩
 obtain ⟨zf, hzf, hzf1⟩ : ∃ Z, Z = ZF ∧ Z.size = 72 := ⟨_, rfl, ZF_size⟩
 rw [← hzs] at n2 b2 Q1 hz hzb HBY
 rw [← hzf] at hzF
 have HZ := hide (And.intro hzs1 (And.intro hzs2 (And.intro hzs hzf1)))
 have HBK := hide (fun W (hW : Below (w.alloc (.cells zs 31)).heap.size (w.alloc (.cells zs 31)) W) => n2.below' hW)
 have HB := hide b2
 have HLE := hide (show w.heap.size < (w.alloc (.cells zs 31)).heap.size from by simp)
 generalize hW0 : w.alloc (.cells zs 31) = W0 at *
 clear hzs hzf hzs1 hzs2 hzf1 n2 b2 ht he h
 go_enter Tryz.func17, Tryz.ntmps17
 go_wp2_with fail
 refine Q1.out.mono ?_
 rintro e w1 ⟨b1, ⟨at_, hop, rfl⟩ | ⟨f, va, vb, vc, hop, rfl, d1, d2, d3⟩⟩
 ·obtain ⟨FC, hFC, hF1, hF2⟩ : ∃ C, C = ZF ∧ C.size = 72 ∧ C.all (·.oneCell') = true := ⟨_, rfl, ZF_size, ZF_one⟩
  obtain ⟨PL, hPL, hP1, hP2⟩ : ∃ C, C = ZP ∧ C.size = 6 ∧ C.all (·.oneCell') = true := ⟨_, rfl, rfl, ZP_one⟩
  rw [← hFC, ← hPL]
  have HF := hide (And.intro hF1 (And.intro hF2 (And.intro hP1 hP2)))
  have HB1 := hide b1
  have HOP := hide hop
  clear hFC hF1 hF2 hPL hP1 hP2 b1 hop Q1 hzb
  have hzb := ZS_build
  rw [← HZ.out.2.2.1] at hzb
  go_wp2_with (first
   | ((with_reducible change wpList _ _ _ (⟨none, .store _ (.tmp 5) _, _, _, _, _⟩ :: _) _ _); go_loud (refine wpList_store_row (o := ⟨none, .store _ (.tmp 5) _, _, _, _, _⟩) ((Blk.new w1 28 zf).alloc _) (FC) (by rw [HF.out.1, HZ.out.2.2.2]) (HF.out.2.1) rfl 28 _ _ rfl (by rw [HF.out.1]; kernel_rfl) rfl rfl ?_; intro w2 hb2 hg2; have p6 := (Blk.new (w1.alloc (.cells zf 28)) 76 #[.int .i64 0, .int .i64 0, .int .i64 0, .int .i64 0, .int .i64 0, .int .i64 0]).grown hg2 (by simp); simp only [World.size_alloc] at p6; have H2 := hide (And.intro hb2 (And.intro p6 ((((Below.refl w1.heap.size w1).alloc (Nat.le_refl _) (.cells zf 28)).alloc (by simp) _).grown hg2 (by simp; omega) (fun k hk => by cases hk; exact Nat.le_refl _)))); clear hb2 hg2 p6))
   | ((with_reducible change wpList _ _ _ (⟨none, .store _ (.tmp 6) _, _, _, _, _⟩ :: _) _ _); go_loud (refine wpList_store_row (o := ⟨none, .store _ (.tmp 6) _, _, _, _, _⟩) (H2.out.2.1) (PL) (by rw [HF.out.2.2.1]; rfl) (HF.out.2.2.2) rfl 76 _ _ rfl (by rw [HF.out.2.2.1]; kernel_rfl) rfl rfl ?_; intro w3 hb3 hg3; have H3 := hide (H2.out.2.2.grown hg3 H2.out.2.2.size (fun k hk => by injection hk with hk; omega)); clear hb3 hg3))
   | ((with_reducible change wpList _ _ _ (⟨none, .store _ (.tmp 2) _, _, _, _, _⟩ :: _) _ _); go_loud (refine wpList_store_row (o := ⟨none, .store _ (.tmp 2) _, _, _, _, _⟩) (HBK.out _ (Below.step HB1.out H3.out)) (zs) (rfl) (HZ.out.2.1) rfl 31 _ _ rfl (by rw [HZ.out.1]; kernel_rfl) rfl rfl ?_; intro w4 hb4 hg4; have H4 := hide (And.intro hb4 hg4); clear hb4 hg4)))
  have hb := Below.step HB.out (Below.step HB1.out H3.out)
  have hbel := hb.grown H4.out.2 hb.size (fun k hk => by injection hk with hk; omega)
  refine bodyPost_ret (results_three (x := .int .i64 (at_ : Int)) (y := .int .i64 140) rfl _ _ w.heap.size 31 zs (0, 0) _ rfl H4.out.1 Tryz.underlying31 rfl (by rw [HZ.out.1]; kernel_rfl) rfl rfl) rfl ⟨hbel, .inl ⟨at_, ?_, ?_⟩⟩
  ·unfold openS
   rw [HOP.out]
  ·rw [HZ.out.2.2.1]
 have hop2 := (openF_ok hop).1
 obtain ⟨_, huw, hum⟩ := readU_one hop2.ueb
 obtain ⟨A1, k1, rfl, _, _, _⟩ := d1.ds.1.form
 obtain ⟨A2, k2, rfl, _, _, _⟩ := d2.ds.1.form
 obtain ⟨A3, k3, rfl, _, _, _⟩ := d3.ds.1.form
 obtain ⟨num, u, ch, bs, sg⟩ := f
 simp only at hop hop2 huw hum d1 d2 d3 ⊢
 have hbd := u_bounds hum
 have hlen : l.length = pl u (w4 l 16 - 36) 4 + (lens u).sum := by rw [lens_sum hbd.1]; exact hop2.len
 obtain ⟨a4, ha4⟩ : ∃ a, a = pl u (w4 l 16 - 36) 4 := ⟨_, rfl⟩
 have h0 : 0 < l.length := by have := hop2.long; omega
 obtain ⟨g, go, rfl, -, -⟩ := hca 0 _ (List.getElem?_eq_getElem h0)
 obtain ⟨FC, hFC, hF1, hF2⟩ : ∃ C, C = frC num u (.slice A1 ch.length k1) (.slice A2 bs.length k2) (.slice A3 sg.length k3) ∧ C.size = 72 ∧ C.all (·.oneCell') = true := ⟨_, rfl, frC_size huw, frC_one huw rfl rfl rfl⟩
 obtain ⟨PL, hPL, hP1, hP2⟩ : ∃ C, C = plA u (w4 l 16 - 36) ∧ C.size = 6 ∧ C.all (·.oneCell') = true := ⟨_, rfl, rfl, plA_one _ _⟩
 obtain ⟨UC, hUC, hU1⟩ : ∃ C, C = u.cells ∧ C.size = 68 := ⟨_, rfl, US.size_ huw⟩
 obtain ⟨SH, hSH, hS1, hS2, hS4⟩ : ∃ S, S = shU u ∧ S.size = 8 ∧ S.all (·.oneCell') = true ∧ S[4]? = some (.int .i64 ((SG u : Nat) : Int)) := ⟨_, rfl, rfl, by simp [shU, Value.oneCell'], rfl⟩
 have QS : Hid (∀ W, Calls Tryz.prog 37 #[.agg UC] W fun e w' => Below W.heap.size W w' ∧ e = .returned (.tuple #[.agg SH, .int .i64 0])) := hide fun W => by have := shapeOf_ok u hum W; rw [← hUC, ← hSH] at this; exact this
 have QB : Hid (∀ j, j < SG u → ∀ W, Calls Tryz.prog 38 #[.agg SH, .int .i64 (j : Int)] W fun e w' => Below W.heap.size W w' ∧ e = .returned (.tuple #[.int .i64 ((lensAt u j : Nat) : Int), .int .i64 0])) := hide fun j hj W => by rw [hSH]; exact bsU u hum j hj W
 have HC0 : ∀ vd, (shC num u (.slice A1 ch.length k1) (.slice A2 bs.length k2) (.slice A3 sg.length k3) vd)[72]? = some vd := fun vd => by
  have h := (Blk.share huw (Blk.new w1 0 (shC num u (.slice A1 ch.length k1) (.slice A2 bs.length k2) (.slice A3 sg.length k3) vd))).2.2
  rw [(Blk.new w1 0 _).cell] at h
  exact h
 obtain ⟨SC, hSC⟩ : ∃ S : Value → Array Value, S = fun vd => shC num u (.slice A1 ch.length k1) (.slice A2 bs.length k2) (.slice A3 sg.length k3) vd := ⟨_, rfl⟩
 have HSC := hide (show (∀ vd, (SC vd).size = 73) ∧ (∀ vd : Value, vd.oneCell' = true → (SC vd).all (·.oneCell') = true) ∧ (∀ vd, (SC vd)[72]? = some vd) ∧ (∀ vd vd', (SC vd).setIfInBounds 72 vd' = SC vd') ∧ (∀ vd, SC vd = shC num u (.slice A1 ch.length k1) (.slice A2 bs.length k2) (.slice A3 sg.length k3) vd) from by
  subst hSC
  exact ⟨fun _ => shC_size huw, fun _ h => shC_one huw rfl rfl rfl h, HC0, fun _ _ => shC_set huw, fun _ => rfl⟩)
 have HFR : Hid (∀ (W : World) (g : Nat), Blk W g 28 FC → W.rangeAt g 1 UC.toList) := hide fun W g hb => by rw [hUC]; rw [hFC] at hb; exact (hb.front huw).2.1
 have HPL : Hid (PL[4]? = some (.int .i64 ((a4 : Nat) : Int))) := hide (by rw [hPL, ha4]; rfl)
 have HBL := hide (show bldS FC = SC (.slice none 0 0) from by rw [hFC, hSC]; rfl)
 rw [← hFC, ← hPL]
 have hF1k := hF1
 have HF := hide (And.intro hF1 (And.intro hF2 (And.intro hP1 hP2)))
 have HU := hide (And.intro hU1 (And.intro hS1 (And.intro hS2 hS4)))
 have HL := hide (And.intro (show l.length = a4 + (lens u).sum from by rw [hlen, ha4]) hbd)
 have HD := hide (And.intro d1 (And.intro d2 d3))
 have HO := hide (And.intro hop ha4)
 have HB1 := hide b1
 generalize hch : ch.length = nc at *
 generalize hbs' : bs.length = nb at *
 generalize hsg : sg.length = ns at *
 clear hF1 hF2 hP1 hP2 hU1 hS1 hS2 hS4 hlen hbd d1 d2 d3 hop ha4 b1 hop2 Q1 HC0 hSC hFC hPL hUC hSH h0 hca hzb hch hbs' hsg
 go_wp2_with (first
  | ((with_reducible change wpList _ _ _ (⟨none, .store _ (.tmp 5) _, _, _, _, _⟩ :: _) _ _); go_loud (refine wpList_store_row (o := ⟨none, .store _ (.tmp 5) _, _, _, _, _⟩) ((Blk.new w1 28 zf).alloc _) (FC) (by rw [HF.out.1, HZ.out.2.2.2]) (HF.out.2.1) rfl 28 _ _ rfl (by rw [HF.out.1]; kernel_rfl) rfl rfl ?_; intro w2 hb2 hg2; have p6 := (Blk.new (w1.alloc (.cells zf 28)) 76 #[.int .i64 0, .int .i64 0, .int .i64 0, .int .i64 0, .int .i64 0, .int .i64 0]).grown hg2 (by simp); simp only [World.size_alloc] at p6; have H2 := hide (And.intro hb2 (And.intro p6 ((((Below.refl w1.heap.size w1).alloc (Nat.le_refl _) (.cells zf 28)).alloc (by simp) _).grown hg2 (by simp; omega) (fun k hk => by cases hk; exact Nat.le_refl _)))); clear hb2 hg2 p6))
  | ((with_reducible change wpList _ _ _ (⟨none, .store _ (.tmp 6) _, _, _, _, _⟩ :: _) _ _); go_loud (refine wpList_store_row (o := ⟨none, .store _ (.tmp 6) _, _, _, _, _⟩) (H2.out.2.1) (PL) (by rw [HF.out.2.2.1]; rfl) (HF.out.2.2.2) rfl 76 _ _ rfl (by rw [HF.out.2.2.1]; kernel_rfl) rfl rfl ?_; intro w3 hb3 hg3; have H3 := hide (And.intro (H2.out.1.grown hg3 (by intro e; injection e with e; omega)) (And.intro hb3 (H2.out.2.2.grown hg3 H2.out.2.2.size (fun k hk => by injection hk with hk; omega)))); clear hb3 hg3))
  | ((with_reducible change wpList _ _ _ (⟨some 30, _, _, _, _, _⟩ :: _) _ _); go_loud (refine wpList_load_midF (by rfl) 25 _ rfl w1.heap.size 1 rfl UC _ (HFR.out w3 _ H3.out.1) Tryz.underlying25 rfl (by rw [HU.out.1]; kernel_rfl) ?_)))
 have hb13 := H3.out.2.2
 replace H3 := hide (And.intro H3.out.1 (And.intro H3.out.2.1 (Below.step HB1.out hb13)))
 replace HD := hide (And.intro (HD.out.1.below hb13) (And.intro (HD.out.2.1.below hb13) (HD.out.2.2.below hb13)))
 have HG5 := hide HB1.out.size
 clear hb13 HB1
 generalize w1.heap.size = g5 at *
 refine (QS.out _).mono ?_
 rintro e x4 ⟨b4, rfl⟩
 have H4 := hide (And.intro (H3.out.1.below' b4) (And.intro (H3.out.2.1.below' b4) (Below.step H3.out.2.2 b4)))
 replace HD := hide (And.intro (HD.out.1.below b4) (And.intro (HD.out.2.1.below b4) (HD.out.2.2.below b4)))
 clear b4 QS H3
 go_wp2_with (first
  | ((with_reducible change wpList _ _ _ (⟨none, .store _ (.tmp 9) _, _, _, _, _⟩ :: _) _ _); go_loud (refine wpList_store_row (o := ⟨none, .store _ (.tmp 9) _, _, _, _, _⟩) (Blk.new x4 _ _) (SH) (HU.out.2.1.trans (by kernel_rfl)) (HU.out.2.2.1) rfl 54 _ _ rfl (by rw [HU.out.2.1]; kernel_rfl) rfl rfl ?_; intro y5 hb hg; have b : Below x4.heap.size x4 y5 := ((Below.refl _ x4).alloc (Nat.le_refl _) _).grown hg (by simp) (fun k hk => by cases hk; exact Nat.le_refl _); have H5 := hide (And.intro hb (And.intro (H4.out.1.below' b) (And.intro (H4.out.2.1.below' b) (Below.step H4.out.2.2 b)))); replace HD := hide (And.intro (HD.out.1.below b) (And.intro (HD.out.2.1.below b) (HD.out.2.2.below b))); clear hb hg b))
  | ((with_reducible change wpList _ _ _ (⟨some 34, _, _, _, _, _⟩ :: _) _ _); refine wpList_load_row (o := ⟨some 34, .load _ _, _, _, _, _⟩) rfl 28 _ rfl g5 rfl 28 FC (0, 0) _ H5.out.2.1 Tryz.underlying28 rfl (by rw [HF.out.1]; kernel_rfl) ?_; go_loud (refine wpList_ex (o := ⟨some 35, .build _ _, _, _, _, _⟩) rfl (ex_buildV 31 #[(0, .tmp 34)] rfl #[(0, .agg FC)] (by kernel_rfl) _ (build_law FC hF1k _)) ?_))
  | ((with_reducible change wpList _ _ _ (⟨none, .store _ (.tmp 11) _, _, _, _, _⟩ :: _) _ _); go_loud (refine wpList_store_row (o := ⟨none, .store _ (.tmp 11) _, _, _, _, _⟩) (Blk.new y5 _ _) (bldS FC) (by rw [HBL.out, HSC.out.1, HZ.out.1]) (by rw [HBL.out]; exact HSC.out.2.1 _ rfl) rfl 31 _ _ rfl (by rw [HBL.out, HSC.out.1]; kernel_rfl) rfl rfl ?_; intro y6 hb6 hg6; rw [HBL.out] at hb6; have b : Below y5.heap.size y5 y6 := ((Below.refl _ y5).alloc (Nat.le_refl _) _).grown hg6 (by simp) (fun k hk => by cases hk; exact Nat.le_refl _); have H6 := hide (And.intro hb6 (And.intro b (And.intro (H5.out.1.below' b) (H5.out.2.2.1.below' b)))); clear hb6 hg6 b)))
 have hc4 : y6.cell? ⟨g5 + 1, 4, none⟩ = some (.int .i64 (a4 : Int)) := by rw [H6.out.2.2.2.cell]; exact HPL.out
 generalize hx9 : x4.heap.size = g9 at *
 generalize hD : y5.heap.size = D at *
 have HL5 := hide (show ∀ W, (Below y5.heap.size y5 W ↔ Below D y5 W) from fun W => by rw [← hD])
 have HLE5 := hide (show D = y5.heap.size from by rw [← hD])
 clear hD
 have HSM := hide (fun j (h : j < SG u) => lens_take u h)
 have HSL := hide (fun j => sum_take_le (lens u) j)
 go_wp2_with fail
 go_quiet (fail)
 go_wp2
 go_loopw [12, 13] (fun u12 u13 wr => ∃ (j : Nat) (vd : Value), j ≤ SG u ∧ u12 = .int .i64 (j : Int) ∧ u13 = .int .i64 ((a4 + ((lens u).take j).sum : Nat) : Int) ∧ Blk wr D 31 (SC vd) ∧ OwnL wr D 5 34 vd (cutD ((lens u).take j) (l.drop a4)) ∧ Below D y5 wr) (fun u12 _ _ => SG u - (intOf u12).toNat)
 case atStart => exact ⟨0, .slice none 0 0, by omega, rfl, by simp, Blk.drewN H6.out.1 _, OwnL.nil _ _ _ _, below_drewN H6.out.2.1 _⟩
 case round =>
  obtain ⟨j, vd, hj, rfl, rfl, hbk, hol, hbel⟩ := hrel
  have hbel5 : Below y5.heap.size y5 wr := (HL5.out wr).2 hbel
  have hb9 := H5.out.1.below' hbel5
  have hx4 : wr.cell? ⟨g9, 4, none⟩ = some (.int .i64 ((SG u : Nat) : Int)) := by rw [hb9.cell]; exact HU.out.2.2.2
  have HWR := hide (And.intro hbk (And.intro hol (And.intro hbel (And.intro hb9 hbel5))))
  clear hbk hol hbel hbel5 hb9
  by_cases hlt : j < SG u
  ·have j1 : (j : Int) < ((SG u : Nat) : Int) := by omega
   have q8 := QB.out j hlt wr
   have Q8 := hide q8
   clear q8
   go_wp2_with (first
    | ((with_reducible change wpList _ _ _ (⟨some 45, _, _, _, _, _⟩ :: _) _ _); refine wpList_load_row (o := ⟨some 45, .load _ _, _, _, _, _⟩) rfl 54 _ rfl g9 rfl 54 SH (0, 0) _ HWR.out.2.2.2.1 Tryz.underlying54 rfl (by rw [HU.out.2.1]; kernel_rfl) ?_))
   refine Q8.out.mono ?_
   rintro e w7 ⟨b7, rfl⟩
   have hs2 := HSL.out (j + 1)
   rw [HSM.out j hlt, List.sum_append, List.sum_singleton] at hs2
   have hs3 := HL.out.1
   have hs4 : lensAt u j ≤ 65536 := by have := HL.out.2; unfold lensAt; split <;> omega
   have HSJ := hide (show cutD ((lens u).take (j + 1)) (l.drop a4) = cutD ((lens u).take j) (l.drop a4) ++ [sub l (a4 + ((lens u).take j).sum) (a4 + ((lens u).take j).sum + lensAt u j)] ∧ ((lens u).take (j + 1)).sum = ((lens u).take j).sum + lensAt u j ∧ ((lens u).take j).length = j from by
    rw [HSM.out j hlt, cutD_snoc, List.drop_drop, List.sum_append, List.sum_singleton]
    refine ⟨?_, rfl, ?_⟩
    ·unfold sub
     rw [Nat.add_sub_cancel_left]
    ·rw [List.length_take, lens_length]
     omega)
   generalize hQ : ((lens u).take j).sum = ps at *
   generalize hN : lensAt u j = n at *
   generalize hLd : cutD ((lens u).take j) (l.drop a4) = Ld at *
   have hLdl : Ld.length = j := by rw [← hLd, cutD_length]; exact HSJ.out.2.2
   have HLd := hide hLdl
   have hsg := HL.out.2.2.1
   clear hQ hN hLd hLdl
   obtain ⟨q, hq⟩ : ∃ q, q = a4 + ps := ⟨_, rfl⟩
   have hqn : q + n ≤ l.length := by omega
   have hlm : l.length ≤ 9223372036854775807 := by unfold maxLen at hcm; omega
   have HQ := hide (And.intro hq (And.intro hqn (And.intro hs4 hsg)))
   have HB7 := hide (Below.step HWR.out.2.2.2.2 b7)
   have HBR := hide b7
   have i0 : (0 : Int) ≤ (q : Int) := by omega
   obtain ⟨m, hm⟩ : ∃ m, m = q + n := ⟨_, rfl⟩
   have i1 : (q : Int) ≤ (m : Int) := by omega
   have i2 : (m : Int) ≤ (c : Int) := by omega
   have i3 : IntKind.i64.wrap ((q : Int) + (n : Int)) = (m : Int) := by rw [IntWalk.i64_in _ (by omega)]; omega
   rw [show ((a4 : Int) + (ps : Int)) = (q : Int) from by omega]
   have hv7 := HBY.out.below (Below.step H5.out.2.2.2 HB7.out)
   have hsl := sl_by hv7 q m (by omega) (by omega)
   have HSB := hide hsl
   have HM := hide hm
   clear hm
   obtain ⟨Av, cv, rfl, _, _, _⟩ := (show ∃ A k, vd = .slice A j k ∧ True ∧ True ∧ True from by
    obtain ⟨xs, h1, _⟩ := HWR.out.2.1
    obtain ⟨A, k, h2, _⟩ := (Sl.of_own h1).form
    rw [HLd.out] at h2
    exact ⟨A, k, h2, trivial, trivial, trivial⟩)
   have HS := hide (show ∀ W, Below w7.heap.size w7 W → W.cell? ⟨D, 72, none⟩ = some (.slice Av j cv) from fun W hW => by
    rw [((HWR.out.1.below' b7).below' hW).cell]
    exact HSC.out.2.2.1 _)
   clear hv7 hsl b7 j1 hx4 hc4 hs2 hs3 hs4 hsg hq
   go_wp2_with fail
   refine region_last_at (S := fun w' => w'.cell? ⟨D, 72, none⟩ = some (.slice Av j cv)) 12 rfl rfl (by kernel_rfl) (by kernel_rfl) (by kernel_rfl) (by kernel_rfl) (HS.out _ (Below.refl _ _).drew) (fun hHeld => ?_)
   simp only [List.take_succ_cons, List.take_zero]
   refine wpAnyH_take (i := 0) (v := ?_) rfl (by kernel_rfl) (by kernel_rfl) (by kernel_rfl) (fun _ _ _ h => h) (Or.inl ⟨by rfl, ?_⟩) (by assumption) ?_
   rotate_left
   ·(intro w9 hSw; (try dsimp only at hSw); go_simp; try with_reducible rfl)
   try simp only [Act.put, List.setIfInBounds_toArray, List.set_cons_zero, List.set_cons_succ, List.getElem_toArray, List.getElem_cons_succ, List.getElem_cons_zero]
   refine wpAnyH_take (i := 1) (v := ?_) rfl (by kernel_rfl) (by kernel_rfl) (by kernel_rfl) (fun _ _ _ h => h) (Or.inl ⟨by rfl, ?_⟩) (by assumption) ?_
   rotate_left
   ·(intro w9 hSw; (try dsimp only at hSw); go_simp; try with_reducible rfl)
   try simp only [Act.put, List.setIfInBounds_toArray, List.set_cons_zero, List.set_cons_succ, List.getElem_toArray, List.getElem_cons_succ, List.getElem_cons_zero]
   refine wpAnyH_take (i := 2) (v := ?_) rfl (by kernel_rfl) (by kernel_rfl) (by kernel_rfl) (fun _ _ _ h => h) (Or.inl ⟨by rfl, ?_⟩) (by assumption) ?_
   rotate_left
   ·(intro w9 hSw; (try dsimp only at hSw); go_simp; try with_reducible rfl)
   try simp only [Act.put, List.setIfInBounds_toArray, List.set_cons_zero, List.set_cons_succ, List.getElem_toArray, List.getElem_cons_succ, List.getElem_cons_zero]
   refine wpAnyH_take (i := 3) (v := ?_) rfl (by kernel_rfl) (by kernel_rfl) (by kernel_rfl) (fun _ _ _ h => h) (Or.inl ⟨by rfl, ?_⟩) (by assumption) ?_
   rotate_left
   ·(intro w9 hSw; (try dsimp only at hSw); go_simp; try with_reducible rfl)
   try simp only [Act.put, List.setIfInBounds_toArray, List.set_cons_zero, List.set_cons_succ, List.getElem_toArray, List.getElem_cons_succ, List.getElem_cons_zero]
   refine wpAnyH_take (i := 4) (v := ?_) rfl (by kernel_rfl) (by kernel_rfl) (by kernel_rfl) (fun _ _ _ h => h) (Or.inl ⟨by rfl, ?_⟩) (by assumption) ?_
   rotate_left
   ·(intro w9 hSw; (try dsimp only at hSw); go_simp; try with_reducible rfl)
   try simp only [Act.put, List.setIfInBounds_toArray, List.set_cons_zero, List.set_cons_succ, List.getElem_toArray, List.getElem_cons_succ, List.getElem_cons_zero]
   refine wpAnyH_take (i := 5) (v := ?_) rfl (by kernel_rfl) (by kernel_rfl) (by kernel_rfl) (fun _ _ _ h => h) (Or.inl ⟨by rfl, ?_⟩) (by assumption) ?_
   rotate_left
   ·(intro w9 hSw; (try dsimp only at hSw); go_simp; try with_reducible rfl)
   try simp only [Act.put, List.setIfInBounds_toArray, List.set_cons_zero, List.set_cons_succ, List.getElem_toArray, List.getElem_cons_succ, List.getElem_cons_zero]
   refine wpAnyH_take (i := 6) (v := ?_) rfl (by kernel_rfl) (by kernel_rfl) (by kernel_rfl) (fun _ _ _ h => h) (Or.inl ⟨by rfl, ?_⟩) (by assumption) ?_
   rotate_left
   ·(intro w9 hSw; (try dsimp only at hSw); go_simp; try with_reducible rfl)
   try simp only [Act.put, List.setIfInBounds_toArray, List.set_cons_zero, List.set_cons_succ, List.getElem_toArray, List.getElem_cons_succ, List.getElem_cons_zero]
   refine wpAnyH_take (i := 7) (v := ?_) rfl (by kernel_rfl) (by kernel_rfl) (by kernel_rfl) (fun _ _ _ h => h) (Or.inl ⟨by rfl, ?_⟩) (by assumption) ?_
   rotate_left
   ·(intro w9 hSw; (try dsimp only at hSw); go_simp; try with_reducible rfl)
   try simp only [Act.put, List.setIfInBounds_toArray, List.set_cons_zero, List.set_cons_succ, List.getElem_toArray, List.getElem_cons_succ, List.getElem_cons_zero]
   refine wpAnyH_ready (rs := [8]) (by kernel_rfl) (by simp) ?_
   refine AllReadyH.cons rfl (fun K hK => ?_) AllReadyH.nil
   go_simp
   refine (clone_any g _ _ _ _ w7.drew HSB.out (by rw [sub_length (by have := HM.out; have := HQ.out; omega)]; have := HM.out; have := HQ.out; omega)).mono ?_
   rintro e w8 ⟨v8, rfl, o8, b8⟩
   obtain ⟨A8, c8, rfl, _, _, _⟩ := o8.by_.form
   have B8 := hide (show Below w7.heap.size w7 w8 from Below.step (Below.refl _ w7).drew b8)
   have O8 := hide o8
   clear b8 o8
   refine hK.out _ _ (HS.out _ B8.out) (fun hHeld => ?_)
   clear hK K
   try simp only [Act.put, List.setIfInBounds_toArray, List.set_cons_zero, List.set_cons_succ, List.getElem_toArray, List.getElem_cons_succ, List.getElem_cons_zero]
   refine wpAnyH_ready (rs := [9]) (by kernel_rfl) (by simp) ?_
   refine AllReadyH.cons rfl (fun K hK => ?_) AllReadyH.nil
   go_simp
   refine hK.out _ _ (HS.out _ (B8.out.alloc B8.out.size _)) (fun hHeld => ?_)
   clear hK K
   try simp only [Act.put, List.setIfInBounds_toArray, List.set_cons_zero, List.set_cons_succ, List.getElem_toArray, List.getElem_cons_succ, List.getElem_cons_zero]
   refine wpAnyH_ready (rs := [10]) (by kernel_rfl) (by simp) ?_
   refine AllReadyH.cons rfl (fun K hK => ?_) AllReadyH.nil
   obtain ⟨xs, own, hxs⟩ := HWR.out.2.1
   have h58 := Below.step HBR.out B8.out
   have hb7 := Below.step HWR.out.2.2.2.2 h58
   have h58a := h58.alloc h58.size (.cells #[.slice A8 (sub l q m).length c8] 34)
   have own8 := own_below' own h58a
   have hu8 := ((O8.out.mono_ (by have := HB7.out.size; rw [HLE5.out]; exact this)).alloc (.cells #[.slice A8 (sub l q m).length c8] 34) : Own _ D _ _ _)
   have hk8 : Blk (w8.alloc (.cells #[.slice A8 (sub l q m).length c8] 34)) D 31 (SC (.slice Av j cv)) := HWR.out.1.below' h58a
   have hne := own_blk_ne own8 hk8 (by decide)
   have hj5 : j + 1 ≤ 512 := by have := HQ.out.2.2.2; omega
   refine step_push1 elemS8 (HLd.out ▸ own8) (((HL5.out w8).1 hb7).alloc (by rw [HLE5.out]; exact hb7.size) _) (by rw [HLE5.out]; have := hb7.size; simp; omega) (by unfold maxLen; omega) (by omega) rfl (Blk.new w8 34 _) rfl _ _ rfl rfl rfl ?_
   intro v10 w10 o10 b10 g10
   replace g10 : (w8.alloc (.cells #[.slice A8 (sub l q m).length c8] 34)).grownBy w10 (Value.slice Av j cv).ownBlock := g10
   replace o10 : w10.ownsRow D 34 1 v10 (j + 1) (xs ++ [.slice A8 (sub l q m).length c8]) := o10
   obtain ⟨A10, k10, hv10, _, _, _⟩ := (Sl.of_own o10).form
   obtain ⟨n10, hn10⟩ : ∃ n10, n10 = j + 1 := ⟨_, rfl⟩
   rw [← hn10] at hv10
   subst hv10
   clear hn10
   have hk10 := hk8.grown g10 (by
    rcases hne with h | h
    ·rw [h]; simp
    ·exact fun e => h e.symm)
   have hpu := OwnL.pushed (by decide) own8 (fun i x hx => by
    obtain ⟨y, h1, h2⟩ := hxs i x hx
    exact ⟨y, h1, h2.below h58a⟩) hu8 (by rw [HLd.out]; exact o10) g10
   have hkp := hpu.kept hk10 (by decide) (by decide) (store_grown w10 D 72 (.slice A10 n10 k10))
   have hset := hk10.set_ 72 (.slice A10 n10 k10)
   rw [HSC.out.2.2.2.1] at hset
   have H10 := hide (And.intro hset (And.intro hkp (show Below D y5 (w10.setCell ⟨D, 72, none⟩ (.slice A10 n10 k10)) from Below.setCell b10 (Nat.le_refl D) _)))
   have HC10 : w10.cell? ⟨D, 72, none⟩ = some (.slice Av j cv) := by rw [hk10.cell]; exact HSC.out.2.2.1 _
   have HFZ := hide (show w10.frozen? ⟨D, 72, none⟩ = false from hk10.frozen 72)
   clear own hxs h58 hb7 h58a own8 hu8 hk8 hne o10 b10 g10 hk10 hpu hkp hset
   have HC11 := hide HC10
   clear HC10
   refine hK.out _ _ (HC11.out) (fun hHeld => ?_)
   clear hK K
   try simp only [Act.put, List.setIfInBounds_toArray, List.set_cons_zero, List.set_cons_succ, List.getElem_toArray, List.getElem_cons_succ, List.getElem_cons_zero]
   refine wpAnyH_take (i := 11) (v := ?_) rfl (by kernel_rfl) (by kernel_rfl) (by kernel_rfl) (fun _ _ _ h => h) (Or.inl ⟨by rfl, ?_⟩) (by assumption) ?_
   rotate_left
   ·(intro w9 hSw; (try dsimp only at hSw); go_simp; try with_reducible rfl)
   try simp only [Act.put, List.setIfInBounds_toArray, List.set_cons_zero, List.set_cons_succ, List.getElem_toArray, List.getElem_cons_succ, List.getElem_cons_zero]
   refine wpAnyH_done (by kernel_rfl) ?_ _
   refine Behind.run ?_
   have s1 := HC11.out
   have s2 := HFZ.out
   try simp only [List.getElem_toArray, List.getElem_cons_succ, List.getElem_cons_zero]
   go_simp
   go_wp2
   go_roundw
   case rel =>
    have hq := HQ.out.1
    have hm := HM.out
    refine ⟨j + 1, .slice A10 n10 k10, by omega, by go_num, ?_, H10.out.1, ?_, H10.out.2.2⟩
    ·rw [HSJ.out.2.1]
     have : (m : Int) = ((a4 + (ps + n) : Nat) : Int) := by omega
     first | exact congrArg (Value.int .i64) this | (rw [this]; go_num)
    ·rw [HSJ.out.1, ← hq, ← hm]
     exact H10.out.2.1
   case measure => simp [intOf]; omega
  ·have hjS : j = SG u := by omega
   subst hjS
   have HALL := hide (show (lens u).take (SG u) = lens u from List.take_of_length_le (by rw [lens_length]; omega))
   have hol := HWR.out.2.1
   rw [HALL.out] at hol
   have HOL := hide hol
   have hvd : vd.oneCell' = true := by
    obtain ⟨xs, h1, _⟩ := hol
    obtain ⟨A, k, h2, _⟩ := (Sl.of_own h1).form
    rw [h2]
    rfl
   have HVD := hide hvd
   have HBW := hide (Below.step H5.out.2.2.2 HWR.out.2.2.2.2)
   clear hol hvd
   go_wp2_with (first
    | ((with_reducible change wpList _ _ _ (⟨some 65, _, _, _, _, _⟩ :: _) _ _); refine wpList_load_row (o := ⟨some 65, .load _ _, _, _, _, _⟩) rfl 31 _ rfl D rfl 31 (SC vd) (0, 0) _ HWR.out.1 Tryz.underlying31 rfl (by rw [HSC.out.1]; kernel_rfl) ?_)
    | ((with_reducible change wpList _ _ _ (⟨none, .store _ (.tmp 2) _, _, _, _, _⟩ :: _) _ _); go_loud (refine wpList_store_row (o := ⟨none, .store _ (.tmp 2) _, _, _, _, _⟩) (HBK.out _ HBW.out) (SC vd) (by rw [HSC.out.1, HZ.out.1]) (HSC.out.2.1 _ HVD.out) rfl 31 _ _ rfl (by rw [HSC.out.1]; kernel_rfl) rfl rfl ?_; intro w9 hb9 hg9; have H9 := hide (And.intro hb9 hg9); clear hb9 hg9)))
   have hb := Below.step HB.out HBW.out
   have hbel := hb.grown H9.out.2 hb.size (fun k hk => by injection hk with hk; omega)
   refine bodyPost_ret (results_three (x := .int .i64 0) (y := .int .i64 0) rfl _ _ w.heap.size 31 (SC vd) (0, 0) _ rfl H9.out.1 Tryz.underlying31 rfl (by rw [HSC.out.1]; kernel_rfl) rfl rfl) rfl ⟨hbel, .inr ⟨⟨⟨num, u, ch, bs, sg⟩, cutD (lens u) (l.drop a4)⟩, _, ?_, rfl, ?_⟩⟩
   ·unfold openS
    rw [HO.out.1, HO.out.2]
   ·obtain ⟨LD, hl1, hl2⟩ := (HOL.out.kept (HBK.out _ HBW.out) (by decide) (by decide) H9.out.2).lsts
    rw [HSC.out.2.2.2.2]
    exact ⟨_, _, _, vd, LD, rfl, ((HD.out.1.below HWR.out.2.2.2.2).keep H9.out.2 HLE.out).ds, ((HD.out.2.1.below HWR.out.2.2.2.2).keep H9.out.2 HLE.out).ds, ((HD.out.2.2.below HWR.out.2.2.2.2).keep H9.out.2 HLE.out).ds, hl1, hl2⟩
end Go.Proofs.YtdohebhbiokljaaGreatDoor
