import Derived.Test.YtdohebhbiokljaaGreatDoorJ12
import Derived.Test.YtdohebhbiokljaaGreatDoorJ15
import Derived.Test.YtdohebhbiokljaaGreatDoorJ13
import Derived.Test.YtdohebhbiokljaaGreatDoorJ7
import Derived.Test.YtdohebhbiokljaaGreatDoorJ16
import Derived.Test.YtdohebhbiokljaaGreatDoorJ17
set_option linter.all false
namespace Go.Proofs.YtdohebhbiokljaaGreatDoor
open Go.RowKit Exs
theorem NC.of {x y : List UInt8} (h : decide (x ≠ y ∧ shaL x = shaL y) = false) : NC x y := fun e => Classical.byContradiction fun hn => of_decide_eq_false h ⟨hn, e⟩
set_option maxRecDepth 100000 in
set_option maxHeartbeats 8000000 in
theorem law_shareone (s s' : SS) (v v' : Value) (w : World) (hv : ShV w v s) (hw : s.f.wf) (hi : s.f.u.in64) (hv' : ShV w v' s') (hw' : s'.f.wf) (hi' : s'.f.u.in64) (ht : Tab w) :
  Calls Tryz.prog 3 #[v, v'] w fun e w' => e = .returned (.bool true) ∧ Below w.heap.size w w' := by
 obtain ⟨f, data⟩ := s
 obtain ⟨f', data'⟩ := s'
 have hv0 := hv
 have hv0' := hv'
 obtain ⟨va, vb, vc, vd, LD, rfl, d1, d2, d3, d4, hLD⟩ := hv
 obtain ⟨xa, xb, xc, xd, LE, rfl, e1, e2, e3, e4, hLE⟩ := hv'
 simp only at *
 obtain ⟨Ad, ca, rfl, hln, -, -⟩ := d4.1.form
 obtain ⟨Ae, cb, rfl, hlm, -, -⟩ := e4.1.form
 obtain ⟨n, hn⟩ : ∃ n, n = LD.length := ⟨_, rfl⟩
 obtain ⟨m, hm⟩ : ∃ n, n = LE.length := ⟨_, rfl⟩
 rw [← hn] at hv0 d4 ⊢
 rw [← hm] at hv0' e4 ⊢
 have hsh := fun W g t (h : Blk W g t (shC f.num f.u va vb vc (.slice Ad n ca))) => Blk.share2 hw.1 h
 have hsh' := fun W g t (h : Blk W g t (shC f'.num f'.u xa xb xc (.slice Ae m cb))) => Blk.share2 hw'.1 h
 obtain ⟨F1, hF1⟩ : ∃ F, F = frC f.num f.u va vb vc := ⟨_, rfl⟩
 obtain ⟨F2, hF2⟩ : ∃ F, F = frC f'.num f'.u xa xb xc := ⟨_, rfl⟩
 obtain ⟨S1, hS1, z1⟩ : ∃ S, S = shC f.num f.u va vb vc (.slice Ad n ca) ∧ S.size = 73 := ⟨_, rfl, by
  have := frC_size (num := f.num) (a := va) (b := vb) (c := vc) hw.1
  unfold shC
  simp [this]⟩
 obtain ⟨S2, hS2, z2⟩ : ∃ S, S = shC f'.num f'.u xa xb xc (.slice Ae m cb) ∧ S.size = 73 := ⟨_, rfl, by
  have := frC_size (num := f'.num) (a := xa) (b := xb) (c := xc) hw'.1
  unfold shC
  simp [this]⟩
 have z3 : F1.size = 72 := by rw [hF1]; exact frC_size hw.1
 have z4 : F2.size = 72 := by rw [hF2]; exact frC_size hw'.1
 have z5 : f.u.cells.size = 68 := US.size_ hw.1
 have z6 : f'.u.cells.size = 68 := US.size_ hw'.1
 have hrw1 := fun w hm => rwrite_ok f.u hw.1 hm w
 have hrw2 := fun w hm => rwrite_ok f'.u hw'.1 hm w
 obtain ⟨U1, hU1⟩ : ∃ U, U = f.u.cells := ⟨_, rfl⟩
 obtain ⟨U2, hU2⟩ : ∃ U, U = f'.u.cells := ⟨_, rfl⟩
 obtain ⟨na, hna⟩ : ∃ x, x = f.num := ⟨_, rfl⟩
 obtain ⟨nb, hnb⟩ : ∃ x, x = f'.num := ⟨_, rfl⟩
 rw [← hS1] at hv0 ⊢
 rw [← hS2] at hv0' ⊢
 rw [← hU1] at z5 hrw1
 rw [← hU2] at z6 hrw2
 simp only [← hS1, ← hF1, ← hU1] at hsh
 simp only [← hS2, ← hF2, ← hU2] at hsh'
 have HRW1 := hide hrw1
 have HRW2 := hide hrw2
 have HZ := hide (And.intro z1 (And.intro z2 (And.intro z3 (And.intro z4 (And.intro z5 z6)))))
 have b0 := ((Below.refl w.heap.size w).alloc (Nat.le_refl _) (.cells S1 31)).alloc (by simp) (.cells S2 31)
 have n0 := (Blk.new w 31 S1).alloc (.cells S2 31)
 have n9 := Blk.new (w.alloc (.cells S1 31)) 31 S2
 simp only [World.size_alloc] at n9
 have HQ := hide (And.intro (hv0.below b0) (And.intro (hv0'.below b0) (ht.below b0)))
 have HD := hide (And.intro (d1.below b0) (And.intro (d2.below b0) (And.intro (d3.below b0) (And.intro (d4.below b0) (And.intro (e1.below b0) (And.intro (e2.below b0) (And.intro (e3.below b0) (e4.below b0))))))))
 have HB0 := hide b0
 generalize hW0 : (w.alloc (.cells S1 31)).alloc (.cells S2 31) = W0 at *
 have HR := hide (fun W (hW : Below W0.heap.size W0 W) => And.intro (hsh W _ _ (n0.below' hW)) (hsh' W _ _ (n9.below' hW)))
 rw [← hna, ← hnb] at HR
 have HI := hide (fun W (hW : Below W0.heap.size W0 W) => And.intro (HQ.out.1.below hW) (And.intro (HQ.out.2.1.below hW) (HQ.out.2.2.below hW)))
 have HIN := hide (And.intro hw (And.intro hi (And.intro hw' (And.intro hi' (And.intro hLD (And.intro hLE (And.intro hn (And.intro hm (And.intro hna (And.intro hnb (And.intro hF1 hF2)))))))))))
 clear hv0 hv0' d1 d2 d3 d4 e1 e2 e3 e4 hLD hLE hln hlm hn hm hsh hsh' hF1 hF2 hS1 hS2 z1 z2 z3 z4 z5 z6 hrw1 hrw2 hU1 hU2 hna hnb b0 n0 n9 hw hi hw' hi' ht HQ
 go_enter Tryz.func3, Tryz.ntmps3
 go_wp2_with fail
 refine (lives_any W0 (HI.out W0 (Below.refl _ _)).2.2).mono ?_
 rintro e w1 ⟨b1, rfl⟩
 have B1 := hide b1
 clear b1
 go_wp2_with (first
  | ((with_reducible change wpList _ _ _ (⟨some 12, _, _, _, _, _⟩ :: _) _ _); go_loud (refine wpList_load_midF (by rfl) 31 _ rfl (w.heap.size) 0 rfl S1 _ ((HR.out w1 B1.out).1.1) Tryz.underlying31 rfl (by rw [HZ.out.1]; kernel_rfl) ?_)))
 refine (sound_any ⟨f, data⟩ (.agg S1) w1 HIN.out.1 HIN.out.2.1 (HI.out w1 B1.out).1 (HI.out w1 B1.out).2.2).mono ?_
 rintro e w2 ⟨b2, r, rfl, hr⟩
 have B2 := hide (Below.step B1.out b2)
 clear b2
 cases r with
 | false =>
  clear hr
  go_wp2
  go_ret
  exact ⟨rfl, Below.step HB0.out B2.out⟩
 | true =>
 have HSA := hide (hr rfl)
 clear hr
 go_wp2_with (first
  | ((with_reducible change wpList _ _ _ (⟨some 16, _, _, _, _, _⟩ :: _) _ _); go_loud (refine wpList_load_midF (by rfl) 31 _ rfl (w.heap.size + 1) 0 rfl S2 _ ((HR.out w2 B2.out).2.1) Tryz.underlying31 rfl (by rw [HZ.out.2.1]; kernel_rfl) ?_)))
 refine (sound_any ⟨f', data'⟩ (.agg S2) w2 HIN.out.2.2.1 HIN.out.2.2.2.1 (HI.out w2 B2.out).2.1 (HI.out w2 B2.out).2.2).mono ?_
 rintro e w3 ⟨b3, r, rfl, hr⟩
 have B3 := hide (Below.step B2.out b3)
 clear b3
 cases r with
 | false =>
  clear hr
  go_wp2
  go_ret
  exact ⟨rfl, Below.step HB0.out B3.out⟩
 | true =>
 have HSB := hide (hr rfl)
 clear hr
 have m1 : f.u.may := HSA.out.ok.1.1
 have m2 : f'.u.may := HSB.out.ok.1.1
 have hl1 := writeU_len2 HIN.out.1.1 m1
 have hl2 := writeU_len2 HIN.out.2.2.1.1 m2
 have Q4 := hide (fun W => HRW1.out W m1)
 have Q5 := hide (fun W => HRW2.out W m2)
 clear m1 m2 HRW1 HRW2
 go_wp2_with (first
  | ((with_reducible change wpList _ _ _ (⟨some 23, _, _, _, _, _⟩ :: _) _ _); go_loud (refine wpList_load_midF (by rfl) 25 _ rfl (w.heap.size) 1 rfl U1 _ ((HR.out w3 B3.out).1.2.2.1) Tryz.underlying25 rfl (by rw [HZ.out.2.2.2.2.1]; kernel_rfl) ?_)))
 refine (Q4.out w3).mono ?_
 rintro e w4 ⟨b4, A4, c4, rfl, o4⟩
 have B4 := hide (Below.step B3.out b4)
 have O4 := hide o4.by_
 clear b4 o4
 go_wp2_with (first
  | ((with_reducible change wpList _ _ _ (⟨some 30, _, _, _, _, _⟩ :: _) _ _); go_loud (refine wpList_load_midF (by rfl) 25 _ rfl (w.heap.size + 1) 1 rfl U2 _ ((HR.out w4 B4.out).2.2.2.1) Tryz.underlying25 rfl (by rw [HZ.out.2.2.2.2.2]; kernel_rfl) ?_)))
 refine (Q5.out w4).mono ?_
 rintro e w5 ⟨b5, A5, c5, rfl, o5⟩
 have B5 := hide (Below.step B4.out b5)
 have O45 := hide (O4.out.below b5)
 have O5 := hide o5.by_
 clear b5 o5 O4 Q4 Q5
 obtain ⟨tu, htu⟩ : ∃ t, t = writeU f.u := ⟨_, rfl⟩
 obtain ⟨tv, htv⟩ : ∃ t, t = writeU f'.u := ⟨_, rfl⟩
 rw [← htu] at hl1 O45 ⊢
 rw [← htv] at hl2 O5 ⊢
 obtain ⟨lu, hlu⟩ : ∃ n, n = tu.length := ⟨_, rfl⟩
 obtain ⟨lv, hlv⟩ : ∃ n, n = tv.length := ⟨_, rfl⟩
 have HT := hide (And.intro htu (And.intro htv (And.intro hl1 (And.intro hl2 (And.intro hlu hlv)))))
 have ru1 := fun W (hW : Below w5.heap.size w5 W) => rueb_any A4 c4 tu W (O45.out.below hW) (by omega)
 have ru2 := fun W (hW : Below w5.heap.size w5 W) => rueb_any A5 c5 tv W (O5.out.below hW) (by omega)
 obtain ⟨G1, hG1⟩ : ∃ G, G = (bcells (tagD 8 tu)).toArray := ⟨_, rfl⟩
 obtain ⟨G2, hG2⟩ : ∃ G, G = (bcells (tagD 8 tv)).toArray := ⟨_, rfl⟩
 rw [← hG1] at ru1
 rw [← hG2] at ru2
 rw [← hlu] at ru1 O45 ⊢
 rw [← hlv] at ru2 O5 ⊢
 have RU1 := hide ru1
 have RU2 := hide ru2
 have hNE : ∀ W, (binOp .neq 23 (.agg G1) (.agg G2)).run Tryz.prog W = .ok (.bool (decide (tagD 8 tu ≠ tagD 8 tv))) W := fun W => by rw [hG1, hG2]; exact digNeq _ _ (tagD_length _ _) (tagD_length _ _) W
 have HNE := hide hNE
 clear htu htv hl1 hl2 hlu hlv ru1 ru2 hG1 hG2 hNE
 by_cases hnum : na = nb
 case neg =>
  have c0 := (HR.out w5 B5.out).1.2.2.2.1
  have c0' := (HR.out w5 B5.out).2.2.2.2.1
  have i1 : (na != nb) = true := by simp; exact hnum
  have i2 : decide (na = nb) = false := decide_eq_false hnum
  go_wp2
  go_ret
  exact ⟨rfl, Below.step HB0.out B5.out⟩
 case pos =>
 subst hnum
 have c0 := (HR.out w5 B5.out).1.2.2.2.1
 have c0' := (HR.out w5 B5.out).2.2.2.2.1
 go_wp2_with fail
 clear c0 c0'
 refine (RU1.out w5 (Below.refl _ _)).mono ?_
 rintro e w6 ⟨rfl, b6⟩
 have B56 := hide b6
 clear b6
 go_wp2_with fail
 refine (RU2.out w6 B56.out).mono ?_
 rintro e w7 ⟨rfl, b7⟩
 have B57 := hide (Below.step B56.out b7)
 have B7 := hide (Below.step B5.out B57.out)
 clear b7 RU1 RU2
 by_cases hdig : tagD 8 tu = tagD 8 tv
 case neg =>
  rw [show decide (tagD 8 tu ≠ tagD 8 tv) = true from decide_eq_true hdig] at HNE
  clear hdig
  go_wp2_with (first
   | ((with_reducible change wpList _ _ _ (⟨some 46, _, _, _, _, _⟩ :: _) _ _); go_loud (refine wpList_exW (by rfl) (ex_binA .neq 23 (.tmp 43) (.tmp 45) rfl (.inr rfl) G1 G2 rfl rfl (by kernel_rfl) true (HNE.out w7)) ?_)))
  go_ret
  exact ⟨rfl, Below.step HB0.out B7.out⟩
 case pos =>
 rw [show decide (tagD 8 tu ≠ tagD 8 tv) = false from decide_eq_false (fun h => h hdig)] at HNE
 have HDG := hide hdig
 clear hdig
 go_wp2_with (first
  | ((with_reducible change wpList _ _ _ (⟨some 46, _, _, _, _, _⟩ :: _) _ _); go_loud (refine wpList_exW (by rfl) (ex_binA .neq 23 (.tmp 43) (.tmp 45) rfl (.inr rfl) G1 G2 rfl rfl (by kernel_rfl) false (HNE.out w7)) ?_))
  | ((with_reducible change wpList _ _ _ (⟨some 49, _, _, _, _, _⟩ :: _) _ _); go_loud (refine wpList_load_midF (by rfl) 31 _ rfl (w.heap.size) 0 rfl S1 _ ((HR.out w7 B7.out).1.1) Tryz.underlying31 rfl (by rw [HZ.out.1]; kernel_rfl) ?_))
  | ((with_reducible change wpList _ _ _ (⟨some 50, _, _, _, _, _⟩ :: _) _ _); go_loud (refine wpList_load_midF (by rfl) 31 _ rfl (w.heap.size + 1) 0 rfl S2 _ ((HR.out w7 B7.out).2.1) Tryz.underlying31 rfl (by rw [HZ.out.2.1]; kernel_rfl) ?_)))
 refine (ssame_all ⟨f, data⟩ ⟨f', data'⟩ (.agg S1) (.agg S2) w7 HIN.out.1 HIN.out.2.2.1 (HI.out w7 B7.out).1 (HI.out w7 B7.out).2.1).mono ?_
 rintro e w8 ⟨rfl, b8⟩
 have B58 := hide (Below.step B57.out b8)
 have B8 := hide (Below.step B7.out b8)
 clear b8 HNE
 generalize hsm : decide ((f.num = f'.num ∧ f.u = f'.u ∧ f.ch = f'.ch ∧ f.bs = f'.bs ∧ f.sg = f'.sg) ∧ data = data') = sm
 cases sm with
 | true =>
  clear hsm
  go_wp2
  go_ret
  exact ⟨rfl, Below.step HB0.out B8.out⟩
 | false =>
 have HNS := hide (of_decide_eq_false hsm)
 clear hsm
 obtain ⟨ta, hta⟩ : ∃ t, t = tag1 8 tu := ⟨_, rfl⟩
 obtain ⟨tb, htb⟩ : ∃ t, t = tag1 8 tv := ⟨_, rfl⟩
 have hlu := And.intro HT.out.2.2.2.2.1 (show tu.length ≤ 1099511627000 from by have := HT.out.2.2.1; omega)
 have hlv := And.intro HT.out.2.2.2.2.2 (show tv.length ≤ 1099511627000 from by have := HT.out.2.2.2.1; omega)
 have o1 := O45.out.below B58.out
 have o2 := O5.out.below B58.out
 have LA := hide (show ∀ W, Below w8.heap.size w8 W → ∀ X, Blk W X 34 #[.slice A4 lu c4] → Calls Tryz.prog 11 #[.int .u8 8, .slice (some ⟨X, 0, none⟩) 1 1] W fun e w' => ∃ v', e = .returned v' ∧ By w' v' ta ∧ Below W.heap.size W w' from fun W hW X hX => by
  have h := list1_any 8 tu (.inl (.inr (.inr rfl))) X 0 1 A4 c4 W hX.lt (by rw [← hlu.1]; exact (hX.cell 0).trans rfl) (by rw [← hlu.1]; exact o1.below hW) hlu.2
  rw [show ((8 : Nat) : Int) = 8 from rfl, ← hta] at h
  refine h.mono ?_
  rintro e w' ⟨v', he, ho, hb⟩
  exact ⟨v', he, ho.by_, hb⟩)
 have LB := hide (show ∀ W, Below w8.heap.size w8 W → ∀ X, Blk W X 34 #[.slice A5 lv c5] → Calls Tryz.prog 11 #[.int .u8 8, .slice (some ⟨X, 0, none⟩) 1 1] W fun e w' => ∃ v', e = .returned v' ∧ By w' v' tb ∧ Below W.heap.size W w' from fun W hW X hX => by
  have h := list1_any 8 tv (.inl (.inr (.inr rfl))) X 0 1 A5 c5 W hX.lt (by rw [← hlv.1]; exact (hX.cell 0).trans rfl) (by rw [← hlv.1]; exact o2.below hW) hlv.2
  rw [show ((8 : Nat) : Int) = 8 from rfl, ← htb] at h
  refine h.mono ?_
  rintro e w' ⟨v', he, ho, hb⟩
  exact ⟨v', he, ho.by_, hb⟩)
 have hla : ta.length ≤ 1099511627776 := by rw [hta]; exact tag1_len 8 (tag_len (by omega)) _ hlu.2
 have hlb : tb.length ≤ 1099511627776 := by rw [htb]; exact tag1_len 8 (tag_len (by omega)) _ hlv.2
 have LC := hide (fun W u v (i1 : By W u ta) (i2 : By W v tb) => clash_any u v ta tb W i1 i2 hla hlb)
 have HTA := hide (And.intro hta htb)
 clear hta htb hlu hlv o1 o2 hla hlb O45 O5
 go_wp2_with fail
 refine (LA.out _ ((Below.refl _ w8).alloc (Nat.le_refl _) _) _ (Blk.new _ _ _)).mono ?_
 rintro e w9 ⟨v9, rfl, o9, b9⟩
 have B89 := hide (Below.step ((Below.refl _ w8).alloc (Nat.le_refl _) _) b9)
 have O9 := hide o9
 clear o9 b9 LA
 go_wp2_with fail
 refine (LB.out _ (B89.out.alloc B89.out.size _) _ (Blk.new _ _ _)).mono ?_
 rintro e w10 ⟨v10, rfl, o10, b10⟩
 have B810 := hide (Below.step (B89.out.alloc B89.out.size _) b10)
 have O9b := hide ((O9.out.alloc _).below b10)
 have O10 := hide o10
 clear o10 b10 LB
 go_wp2_with fail
 refine (LC.out _ _ _ O9b.out O10.out).mono ?_
 rintro e w11 ⟨rfl, b11⟩
 have B11 := hide (Below.step B8.out (Below.step B810.out b11))
 clear b11 O9b O9 O10 B89 B810 LC
 generalize hrc : decide (ta ≠ tb ∧ shaL ta = shaL tb) = rc
 cases rc with
 | true =>
  clear hrc
  go_wp2
  go_ret
  exact ⟨rfl, Below.step HB0.out B11.out⟩
 | false =>
 have HN1 := hide (NC.of hrc)
 clear hrc
 obtain ⟨k, hk⟩ : ∃ k : Nat, f.num = (k : Int) := ⟨f.num.toNat, by have := HSA.out.ok.1.2.1; simp only at this; omega⟩
 have hk9 : k ≤ 100000 := by
  have h1 := HSA.out.ok.1.2.2.1
  have h2 := u_bounds HSA.out.ok.1.1
  simp only at h1 h2
  omega
 have hlen := HSA.out.ok.1.2.2.2
 have hlen' := HSB.out.ok.1.2.2.2
 have hub := u_bounds HSA.out.ok.1.1
 have hub' := u_bounds HSB.out.ok.1.1
 simp only at hlen hlen' hub hub'
 have QCL := hide (show ∀ W, Below W0.heap.size W0 W → Calls Tryz.prog 12 #[.agg F1, .agg F2] W fun e w' => Below W.heap.size W w' ∧ ∃ r, e = .returned (.bool r) ∧ (r = false → ∀ x y, f.bs[0]? = some x → f'.bs[0]? = some y → NC (tag1 5 x) (tag1 5 y) ∧ NCs k (tagD 5 x) (tagD 5 y) f.ch f'.ch) from fun W hW => by
  rw [HIN.out.2.2.2.2.2.2.2.2.2.2.1, HIN.out.2.2.2.2.2.2.2.2.2.2.2]
  exact lclimbs_any f f' k hk hk9 va vb vc xa xb xc W HIN.out.1.1 HIN.out.2.2.1.1 (HD.out.1.below hW) (HD.out.2.1.below hW) (HD.out.2.2.2.2.1.below hW) (HD.out.2.2.2.2.2.1.below hW) (by omega) (by omega) (by omega) (by omega))
 have QN1 := hide (fun W (hW : Below W0.heap.size W0 W) => lnodes_any vb xb f.bs f'.bs W (HD.out.2.1.below hW) (HD.out.2.2.2.2.2.1.below hW) (by omega) (by omega))
 have QN2 := hide (fun W (hW : Below W0.heap.size W0 W) => lnodes_any vc xc f.sg f'.sg W (HD.out.2.2.1.below hW) (HD.out.2.2.2.2.2.2.1.below hW) (by omega) (by omega))
 have HK := hide hk
 clear hk hk9 hlen hlen' hub hub'
 go_wp2_with (first
  | ((with_reducible change wpList _ _ _ (⟨some 62, _, _, _, _, _⟩ :: _) _ _); go_loud (refine wpList_load_midF (by rfl) 28 _ rfl (w.heap.size) 0 rfl F1 _ ((HR.out w11 B11.out).1.2.1) Tryz.underlying28 rfl (by rw [HZ.out.2.2.1]; kernel_rfl) ?_))
  | ((with_reducible change wpList _ _ _ (⟨some 64, _, _, _, _, _⟩ :: _) _ _); go_loud (refine wpList_load_midF (by rfl) 28 _ rfl (w.heap.size + 1) 0 rfl F2 _ ((HR.out w11 B11.out).2.2.1) Tryz.underlying28 rfl (by rw [HZ.out.2.2.2.1]; kernel_rfl) ?_)))
 refine (QCL.out w11 B11.out).mono ?_
 rintro e w12 ⟨b12, r, rfl, hr⟩
 have B12 := hide (Below.step B11.out b12)
 clear b12 QCL
 cases r with
 | true =>
  clear hr
  go_wp2
  go_ret
  exact ⟨rfl, Below.step HB0.out B12.out⟩
 | false =>
 have HN2 := hide (hr rfl)
 clear hr
 have c1 := (HR.out w12 B12.out).1.2.2.2.2.1
 have c2 := (HR.out w12 B12.out).2.2.2.2.2.1
 go_wp2_with fail
 clear c1 c2
 refine (QN1.out w12 B12.out).mono ?_
 rintro e w13 ⟨b13, r, rfl, hr⟩
 have B13 := hide (Below.step B12.out b13)
 clear b13 QN1
 cases r with
 | true =>
  clear hr
  go_wp2
  go_ret
  exact ⟨rfl, Below.step HB0.out B13.out⟩
 | false =>
 have HN4 := hide (hr rfl)
 clear hr
 have c1 := (HR.out w13 B13.out).1.2.2.2.2.2.1
 have c2 := (HR.out w13 B13.out).2.2.2.2.2.2.1
 go_wp2_with fail
 clear c1 c2
 refine (QN2.out w13 B13.out).mono ?_
 rintro e w14 ⟨b14, r, rfl, hr⟩
 have B14 := hide (Below.step B13.out b14)
 clear b14 QN2
 cases r with
 | true =>
  clear hr
  go_wp2
  go_ret
  exact ⟨rfl, Below.step HB0.out B14.out⟩
 | false =>
 have HN5 := hide (hr rfl)
 clear hr
 go_wp2_with fail
 go_loopw [9] (fun u9 wr => ∃ i : Nat, i ≤ 100000 ∧ u9 = .int .i64 (i : Int) ∧ (∀ j, j < i → ∀ x y, data[j]? = some x → data'[j]? = some y → NC (tag1 3 x) (tag1 3 y)) ∧ Below W0.heap.size W0 wr) (fun u9 _ => 200000 - (intOf u9).toNat)
 case atStart => exact ⟨0, by omega, rfl, fun j hj => by omega, B14.out⟩
 case round =>
  obtain ⟨i, hi, rfl, hgood, hbel⟩ := hrel
  have HBB := hide hbel
  have HG9 := hide hgood
  clear hgood
  have hn9 : n ≤ 512 := by
   have h1 := okS_data HSA.out.ok
   have h2 := u_bounds HSA.out.ok.1.1
   have h3 := congrArg List.length HIN.out.2.2.2.2.1
   rw [List.length_map, ← HIN.out.2.2.2.2.2.2.1] at h3
   simp only at h1 h2
   omega
  by_cases hlt : i < n ∧ i < m
  ·obtain ⟨x, hx⟩ : ∃ x, LD[i]? = some x := ⟨_, List.getElem?_eq_getElem (by have := HIN.out.2.2.2.2.2.2.1; omega)⟩
   obtain ⟨y, hy⟩ : ∃ x, LE[i]? = some x := ⟨_, List.getElem?_eq_getElem (by have := HIN.out.2.2.2.2.2.2.2.1; omega)⟩
   obtain ⟨ba, oa, XC, xc', rfl, hcx, hbx⟩ := (HD.out.2.2.2.1.below hbel).at_ hx
   obtain ⟨bb, ob, YC, yc', rfl, hcy, hby⟩ := (HD.out.2.2.2.2.2.2.2.below hbel).at_ hy
   obtain ⟨xs, hxs⟩ : ∃ z, z = x.2 := ⟨_, rfl⟩
   obtain ⟨ys, hys⟩ : ∃ z, z = y.2 := ⟨_, rfl⟩
   rw [← hxs] at hcx hbx
   rw [← hys] at hcy hby
   have hdx : data[i]? = some xs := by rw [← HIN.out.2.2.2.2.1, List.getElem?_map, hx, hxs]; rfl
   have hdy : data'[i]? = some ys := by rw [← HIN.out.2.2.2.2.2.1, List.getElem?_map, hy, hys]; rfl
   have hlx := okS_len HSA.out.ok hdx
   have hly := okS_len HSB.out.ok hdy
   have HDK := hide (And.intro hdx hdy)
   obtain ⟨xl, hxl⟩ : ∃ z, z = xs.length := ⟨_, rfl⟩
   obtain ⟨yl, hyl⟩ : ∃ z, z = ys.length := ⟨_, rfl⟩
   rw [← hxl] at hcx hbx
   rw [← hyl] at hcy hby
   have wx := World.block_lt_of_cell? _ _ hcx
   have wy := World.block_lt_of_cell? _ _ hcy
   have HCC := hide (show ∀ W, Below wr.heap.size wr W → W.cell? ⟨ba, oa + i, none⟩ = some (.slice XC xl xc') ∧ W.cell? ⟨bb, ob + i, none⟩ = some (.slice YC yl yc') from fun W hW => ⟨(hW.cell (p := ⟨ba, oa + i, none⟩) wx).trans hcx, (hW.cell (p := ⟨bb, ob + i, none⟩) wy).trans hcy⟩)
   obtain ⟨ta3, hta3⟩ : ∃ t, t = tag1 3 xs := ⟨_, rfl⟩
   obtain ⟨tb3, htb3⟩ : ∃ t, t = tag1 3 ys := ⟨_, rfl⟩
   have hlx2 := And.intro hxl (show xs.length ≤ 1099511627000 from by omega)
   have hly2 := And.intro hyl (show ys.length ≤ 1099511627000 from by omega)
   have LA := hide (show ∀ W, Below wr.heap.size wr W → ∀ X, Blk W X 34 #[.slice XC xl xc'] → Calls Tryz.prog 11 #[.int .u8 3, .slice (some ⟨X, 0, none⟩) 1 1] W fun e w' => ∃ v', e = .returned v' ∧ By w' v' ta3 ∧ Below W.heap.size W w' from fun W hW X hX => by
    have h := list1_any 3 xs (.inl (.inl rfl)) X 0 1 XC xc' W hX.lt (by rw [← hlx2.1]; exact (hX.cell 0).trans rfl) (by rw [← hlx2.1]; exact hbx.below hW) hlx2.2
    rw [show ((3 : Nat) : Int) = 3 from rfl, ← hta3] at h
    refine h.mono ?_
    rintro e w' ⟨v', he, ho, hb⟩
    exact ⟨v', he, ho.by_, hb⟩)
   have LB := hide (show ∀ W, Below wr.heap.size wr W → ∀ X, Blk W X 34 #[.slice YC yl yc'] → Calls Tryz.prog 11 #[.int .u8 3, .slice (some ⟨X, 0, none⟩) 1 1] W fun e w' => ∃ v', e = .returned v' ∧ By w' v' tb3 ∧ Below W.heap.size W w' from fun W hW X hX => by
    have h := list1_any 3 ys (.inl (.inl rfl)) X 0 1 YC yc' W hX.lt (by rw [← hly2.1]; exact (hX.cell 0).trans rfl) (by rw [← hly2.1]; exact hby.below hW) hly2.2
    rw [show ((3 : Nat) : Int) = 3 from rfl, ← htb3] at h
    refine h.mono ?_
    rintro e w' ⟨v', he, ho, hb⟩
    exact ⟨v', he, ho.by_, hb⟩)
   have hla : ta3.length ≤ 1099511627776 := by rw [hta3]; exact tag1_len 3 (tag_len (by omega)) _ hlx2.2
   have hlb : tb3.length ≤ 1099511627776 := by rw [htb3]; exact tag1_len 3 (tag_len (by omega)) _ hly2.2
   obtain ⟨rc, hrc⟩ : ∃ r, r = decide (ta3 ≠ tb3 ∧ shaL ta3 = shaL tb3) := ⟨_, rfl⟩
   have LC : Hid (∀ W u v, By W u ta3 → By W v tb3 → Calls Tryz.prog 10 #[u, v] W fun e w' => e = .returned (.bool rc) ∧ Below W.heap.size W w') := hide fun W u v h1 h2 => by rw [hrc]; exact clash_any u v ta3 tb3 W h1 h2 hla hlb
   have HRC := hide hrc
   have HT3 := hide (And.intro hta3 htb3)
   have a1 : (i : Int) < (n : Int) := by omega
   have a2 : (i : Int) < (m : Int) := by omega
   have a3 : (0 : Int) ≤ (i : Int) := by omega
   have hi9 : i < 100000 := by omega
   have c1 := (HR.out wr hbel).1.2.2.2.2.2.2
   have c2 := (HR.out wr hbel).2.2.2.2.2.2.2
   clear hrc hx hy hcx hbx hcy hby hxs hys hdx hdy hlx hly hxl hyl wx wy hta3 htb3 hlx2 hly2 hla hlb hbel
   go_wp2_with fail
   refine wp_region_noPanic ?_
   refine wp_region_held_drew (S := fun W => Below wr.heap.size wr W) (by kernel_rfl) (Below.refl _ _).drew (fun hHeld => ?_)
   refine wpAnyH_take (i := 0) (v := ?_) rfl (by kernel_rfl) (by kernel_rfl) (by kernel_rfl) (fun _ _ _ h => h) (Or.inl ⟨by rfl, ?_⟩) (by assumption) ?_
   rotate_left
   ·(intro w9 hSw; go_simp; try with_reducible rfl)
   try simp only [Act.put, List.setIfInBounds_toArray, List.set_cons_zero, List.set_cons_succ, List.getElem_toArray, List.getElem_cons_succ, List.getElem_cons_zero]
   refine wpAnyH_take (i := 1) (v := .slice (some ⟨ba, oa, none⟩) n ca) rfl (by kernel_rfl) (by kernel_rfl) (by kernel_rfl) (fun _ _ _ h => h) (Or.inl ⟨by rfl, ?_⟩) (by assumption) ?_
   ·(intro W hW; exact ex_loadC 29 (.tmp 99) (by kernel_rfl) ⟨w.heap.size, 72, none⟩ (by kernel_rfl) _ _ ((HR.out W (Below.step HBB.out hW)).1.2.2.2.2.2.2) Tryz.underlying29 rfl)
   try simp only [Act.put, List.setIfInBounds_toArray, List.set_cons_zero, List.set_cons_succ, List.getElem_toArray, List.getElem_cons_succ, List.getElem_cons_zero]
   refine wpAnyH_take (i := 2) (v := ?_) rfl (by kernel_rfl) (by kernel_rfl) (by kernel_rfl) (fun _ _ _ h => h) (Or.inl ⟨by rfl, ?_⟩) (by assumption) ?_
   rotate_left
   ·(intro w9 hSw; go_simp; try with_reducible rfl)
   try simp only [Act.put, List.setIfInBounds_toArray, List.set_cons_zero, List.set_cons_succ, List.getElem_toArray, List.getElem_cons_succ, List.getElem_cons_zero]
   refine wpAnyH_take (i := 3) (v := ?_) rfl (by kernel_rfl) (by kernel_rfl) (by kernel_rfl) (fun _ _ _ h => h) (Or.inl ⟨by rfl, ?_⟩) (by assumption) ?_
   rotate_left
   ·(intro w9 hSw; go_simp; try with_reducible rfl)
   try simp only [Act.put, List.setIfInBounds_toArray, List.set_cons_zero, List.set_cons_succ, List.getElem_toArray, List.getElem_cons_succ, List.getElem_cons_zero]
   refine wpAnyH_take (i := 4) (v := .slice XC xl xc') rfl (by kernel_rfl) (by kernel_rfl) (by kernel_rfl) (fun _ _ _ h => h) (Or.inl ⟨by rfl, ?_⟩) (by assumption) ?_
   ·(intro W hW; exact ex_loadC 34 (.tmp 102) (by kernel_rfl) ⟨ba, oa + i, none⟩ (by kernel_rfl) _ _ ((HCC.out W hW).1) Tryz.underlying34 rfl)
   try simp only [Act.put, List.setIfInBounds_toArray, List.set_cons_zero, List.set_cons_succ, List.getElem_toArray, List.getElem_cons_succ, List.getElem_cons_zero]
   refine wpAnyH_take (i := 7) (v := ?_) rfl (by kernel_rfl) (by kernel_rfl) (by kernel_rfl) (fun _ _ _ h => h) (Or.inl ⟨by rfl, ?_⟩) (by assumption) ?_
   rotate_left
   ·(intro w9 hSw; go_simp; try with_reducible rfl)
   try simp only [Act.put, List.setIfInBounds_toArray, List.set_cons_zero, List.set_cons_succ, List.getElem_toArray, List.getElem_cons_succ, List.getElem_cons_zero]
   refine wpAnyH_take (i := 8) (v := .slice (some ⟨bb, ob, none⟩) m cb) rfl (by kernel_rfl) (by kernel_rfl) (by kernel_rfl) (fun _ _ _ h => h) (Or.inl ⟨by rfl, ?_⟩) (by assumption) ?_
   ·(intro W hW; exact ex_loadC 29 (.tmp 106) (by kernel_rfl) ⟨w.heap.size + 1, 72, none⟩ (by kernel_rfl) _ _ ((HR.out W (Below.step HBB.out hW)).2.2.2.2.2.2.2) Tryz.underlying29 rfl)
   try simp only [Act.put, List.setIfInBounds_toArray, List.set_cons_zero, List.set_cons_succ, List.getElem_toArray, List.getElem_cons_succ, List.getElem_cons_zero]
   refine wpAnyH_take (i := 9) (v := ?_) rfl (by kernel_rfl) (by kernel_rfl) (by kernel_rfl) (fun _ _ _ h => h) (Or.inl ⟨by rfl, ?_⟩) (by assumption) ?_
   rotate_left
   ·(intro w9 hSw; go_simp; try with_reducible rfl)
   try simp only [Act.put, List.setIfInBounds_toArray, List.set_cons_zero, List.set_cons_succ, List.getElem_toArray, List.getElem_cons_succ, List.getElem_cons_zero]
   refine wpAnyH_take (i := 10) (v := ?_) rfl (by kernel_rfl) (by kernel_rfl) (by kernel_rfl) (fun _ _ _ h => h) (Or.inl ⟨by rfl, ?_⟩) (by assumption) ?_
   rotate_left
   ·(intro w9 hSw; go_simp; try with_reducible rfl)
   try simp only [Act.put, List.setIfInBounds_toArray, List.set_cons_zero, List.set_cons_succ, List.getElem_toArray, List.getElem_cons_succ, List.getElem_cons_zero]
   refine wpAnyH_take (i := 11) (v := .slice YC yl yc') rfl (by kernel_rfl) (by kernel_rfl) (by kernel_rfl) (fun _ _ _ h => h) (Or.inl ⟨by rfl, ?_⟩) (by assumption) ?_
   ·(intro W hW; exact ex_loadC 34 (.tmp 109) (by kernel_rfl) ⟨bb, ob + i, none⟩ (by kernel_rfl) _ _ ((HCC.out W hW).2) Tryz.underlying34 rfl)
   try simp only [Act.put, List.setIfInBounds_toArray, List.set_cons_zero, List.set_cons_succ, List.getElem_toArray, List.getElem_cons_succ, List.getElem_cons_zero]
   refine wpAnyH_ready (rs := [5, 12]) (by kernel_rfl) (by simp) ?_
   refine AllReadyH.cons rfl (fun K hK => ?_) (AllReadyH.cons rfl (fun K hK => ?_) AllReadyH.nil)
   ·skip
    go_simp
    have k21 := (Blk.new wr 34 #[.slice XC xl xc']).drew
    have b21 := ((Below.refl _ wr).alloc (Nat.le_refl _) (.cells #[.slice XC xl xc'] 34)).drew
    obtain ⟨x21, hx21⟩ : ∃ W, W = (wr.alloc (.cells #[.slice XC xl xc'] 34)).drew := ⟨_, rfl⟩
    rw [← hx21] at k21 b21 ⊢
    have K21 := hide k21
    have B21 := hide b21
    clear hx21 k21 b21
    refine hK.out _ _ (B21.out) (fun hHeld => ?_)
    clear hK K
    try simp only [Act.put, List.setIfInBounds_toArray, List.set_cons_zero, List.set_cons_succ, List.getElem_toArray, List.getElem_cons_succ, List.getElem_cons_zero]
    refine wpAnyH_ready (rs := [6, 12]) (by kernel_rfl) (by simp) ?_
    refine AllReadyH.cons rfl (fun K hK => ?_) (AllReadyH.cons rfl (fun K hK => ?_) AllReadyH.nil)
    ·skip
     go_simp
     refine (LA.out x21 B21.out (wr.heap.size) K21.out).mono ?_
     rintro e x22 ⟨v22, rfl, o22, b22⟩
     have O22 := hide o22
     have B22 := hide (Below.step B21.out b22)
     clear o22 b22
     refine hK.out _ _ (B22.out) (fun hHeld => ?_)
     clear hK K
     try simp only [Act.put, List.setIfInBounds_toArray, List.set_cons_zero, List.set_cons_succ, List.getElem_toArray, List.getElem_cons_succ, List.getElem_cons_zero]
     refine wpAnyH_ready (rs := [12]) (by kernel_rfl) (by simp) ?_
     refine AllReadyH.cons rfl (fun K hK => ?_) AllReadyH.nil
     go_simp
     have k23 := Blk.new x22 34 #[.slice YC yl yc']
     have b23 := B22.out.alloc B22.out.size (.cells #[.slice YC yl yc'] 34)
     obtain ⟨x23, hx23⟩ : ∃ W, W = x22.alloc (.cells #[.slice YC yl yc'] 34) := ⟨_, rfl⟩
     rw [← hx23] at k23 b23 ⊢
     have K23 := hide k23
     have B23 := hide b23
     have V23 := hide (show By x23 v22 _ from by rw [hx23]; exact O22.out.alloc (.cells #[.slice YC yl yc'] 34))
     clear hx23 k23 b23
     refine hK.out _ _ (B23.out) (fun hHeld => ?_)
     clear hK K
     try simp only [Act.put, List.setIfInBounds_toArray, List.set_cons_zero, List.set_cons_succ, List.getElem_toArray, List.getElem_cons_succ, List.getElem_cons_zero]
     refine wpAnyH_ready (rs := [13]) (by kernel_rfl) (by simp) ?_
     refine AllReadyH.cons rfl (fun K hK => ?_) AllReadyH.nil
     go_simp
     refine (LB.out x23 B23.out (x22.heap.size) K23.out).mono ?_
     rintro e x24 ⟨v24, rfl, o24, b24⟩
     have O24 := hide o24
     have B24 := hide (Below.step B23.out b24)
     have V24 := hide (V23.out.below b24)
     clear o24 b24
     refine hK.out _ _ (B24.out) (fun hHeld => ?_)
     clear hK K
     try simp only [Act.put, List.setIfInBounds_toArray, List.set_cons_zero, List.set_cons_succ, List.getElem_toArray, List.getElem_cons_succ, List.getElem_cons_zero]
     refine wpAnyH_ready (rs := [14]) (by kernel_rfl) (by simp) ?_
     refine AllReadyH.cons rfl (fun K hK => ?_) AllReadyH.nil
     go_simp
     refine (LC.out x24 v22 v24 V24.out O24.out).mono ?_
     rintro e x25 ⟨rfl, b25⟩
     have HE := hide (Below.step B24.out b25)
     clear b25
     refine hK.out _ _ (HE.out) (fun hHeld => ?_)
     clear hK K
     try simp only [Act.put, List.setIfInBounds_toArray, List.set_cons_zero, List.set_cons_succ, List.getElem_toArray, List.getElem_cons_succ, List.getElem_cons_zero]
     refine wpAnyH_done (by kernel_rfl) ?_ _
     refine noPanic_norm ?_
     cases rc with
     | true =>
      go_wp2
      go_ret
      exact ⟨rfl, Below.step HB0.out (Below.step HBB.out HE.out)⟩
     | false =>
      have HNX := hide (NC.of HRC.out.symm)
      go_wp2_with fail
      go_roundw
      case rel => exact ⟨i + 1, by omega, by go_num, fun j hj x y h1 h2 => (by
       by_cases hj2 : j < i
       ·exact HG9.out j hj2 x y h1 h2
       ·obtain rfl : j = i := by omega
        rw [HDK.out.1] at h1
        rw [HDK.out.2] at h2
        injection h1 with h1
        injection h2 with h2
        subst h1 h2
        rw [← HT3.out.1, ← HT3.out.2]
        exact HNX.out), Below.step HBB.out HE.out⟩
      case measure => simp [intOf]; omega
    ·skip
     go_simp
     have k26 := Blk.new x21 34 #[.slice YC yl yc']
     have b26 := B21.out.alloc B21.out.size (.cells #[.slice YC yl yc'] 34)
     have m26 := K21.out.alloc (.cells #[.slice YC yl yc'] 34)
     obtain ⟨x26, hx26⟩ : ∃ W, W = x21.alloc (.cells #[.slice YC yl yc'] 34) := ⟨_, rfl⟩
     rw [← hx26] at k26 b26 m26 ⊢
     have K26 := hide k26
     have B26 := hide b26
     have M26 := hide m26
     clear hx26 k26 b26 m26
     refine hK.out _ _ (B26.out) (fun hHeld => ?_)
     clear hK K
     try simp only [Act.put, List.setIfInBounds_toArray, List.set_cons_zero, List.set_cons_succ, List.getElem_toArray, List.getElem_cons_succ, List.getElem_cons_zero]
     refine wpAnyH_ready (rs := [6]) (by kernel_rfl) (by simp) ?_
     refine AllReadyH.cons rfl (fun K hK => ?_) AllReadyH.nil
     go_simp
     refine (LA.out x26 B26.out (wr.heap.size) M26.out).mono ?_
     rintro e x27 ⟨v27, rfl, o27, b27⟩
     have O27 := hide o27
     have B27 := hide (Below.step B26.out b27)
     have M27 := hide (K26.out.below' b27)
     clear o27 b27
     refine hK.out _ _ (B27.out) (fun hHeld => ?_)
     clear hK K
     try simp only [Act.put, List.setIfInBounds_toArray, List.set_cons_zero, List.set_cons_succ, List.getElem_toArray, List.getElem_cons_succ, List.getElem_cons_zero]
     refine wpAnyH_ready (rs := [13]) (by kernel_rfl) (by simp) ?_
     refine AllReadyH.cons rfl (fun K hK => ?_) AllReadyH.nil
     go_simp
     refine (LB.out x27 B27.out (x21.heap.size) M27.out).mono ?_
     rintro e x28 ⟨v28, rfl, o28, b28⟩
     have O28 := hide o28
     have B28 := hide (Below.step B27.out b28)
     have V28 := hide (O27.out.below b28)
     clear o28 b28
     refine hK.out _ _ (B28.out) (fun hHeld => ?_)
     clear hK K
     try simp only [Act.put, List.setIfInBounds_toArray, List.set_cons_zero, List.set_cons_succ, List.getElem_toArray, List.getElem_cons_succ, List.getElem_cons_zero]
     refine wpAnyH_ready (rs := [14]) (by kernel_rfl) (by simp) ?_
     refine AllReadyH.cons rfl (fun K hK => ?_) AllReadyH.nil
     go_simp
     refine (LC.out x28 v27 v28 V28.out O28.out).mono ?_
     rintro e x29 ⟨rfl, b29⟩
     have HE := hide (Below.step B28.out b29)
     clear b29
     refine hK.out _ _ (HE.out) (fun hHeld => ?_)
     clear hK K
     try simp only [Act.put, List.setIfInBounds_toArray, List.set_cons_zero, List.set_cons_succ, List.getElem_toArray, List.getElem_cons_succ, List.getElem_cons_zero]
     refine wpAnyH_done (by kernel_rfl) ?_ _
     refine noPanic_norm ?_
     cases rc with
     | true =>
      go_wp2
      go_ret
      exact ⟨rfl, Below.step HB0.out (Below.step HBB.out HE.out)⟩
     | false =>
      have HNX := hide (NC.of HRC.out.symm)
      go_wp2_with fail
      go_roundw
      case rel => exact ⟨i + 1, by omega, by go_num, fun j hj x y h1 h2 => (by
       by_cases hj2 : j < i
       ·exact HG9.out j hj2 x y h1 h2
       ·obtain rfl : j = i := by omega
        rw [HDK.out.1] at h1
        rw [HDK.out.2] at h2
        injection h1 with h1
        injection h2 with h2
        subst h1 h2
        rw [← HT3.out.1, ← HT3.out.2]
        exact HNX.out), Below.step HBB.out HE.out⟩
      case measure => simp [intOf]; omega
   ·skip
    go_simp
    have k30 := (Blk.new wr 34 #[.slice YC yl yc']).drew
    have b30 := ((Below.refl _ wr).alloc (Nat.le_refl _) (.cells #[.slice YC yl yc'] 34)).drew
    obtain ⟨x30, hx30⟩ : ∃ W, W = (wr.alloc (.cells #[.slice YC yl yc'] 34)).drew := ⟨_, rfl⟩
    rw [← hx30] at k30 b30 ⊢
    have K30 := hide k30
    have B30 := hide b30
    clear hx30 k30 b30
    refine hK.out _ _ (B30.out) (fun hHeld => ?_)
    clear hK K
    try simp only [Act.put, List.setIfInBounds_toArray, List.set_cons_zero, List.set_cons_succ, List.getElem_toArray, List.getElem_cons_succ, List.getElem_cons_zero]
    refine wpAnyH_ready (rs := [5]) (by kernel_rfl) (by simp) ?_
    refine AllReadyH.cons rfl (fun K hK => ?_) AllReadyH.nil
    go_simp
    have k31 := Blk.new x30 34 #[.slice XC xl xc']
    have b31 := B30.out.alloc B30.out.size (.cells #[.slice XC xl xc'] 34)
    have m31 := K30.out.alloc (.cells #[.slice XC xl xc'] 34)
    obtain ⟨x31, hx31⟩ : ∃ W, W = x30.alloc (.cells #[.slice XC xl xc'] 34) := ⟨_, rfl⟩
    rw [← hx31] at k31 b31 m31 ⊢
    have K31 := hide k31
    have B31 := hide b31
    have M31 := hide m31
    clear hx31 k31 b31 m31
    refine hK.out _ _ (B31.out) (fun hHeld => ?_)
    clear hK K
    try simp only [Act.put, List.setIfInBounds_toArray, List.set_cons_zero, List.set_cons_succ, List.getElem_toArray, List.getElem_cons_succ, List.getElem_cons_zero]
    refine wpAnyH_ready (rs := [6]) (by kernel_rfl) (by simp) ?_
    refine AllReadyH.cons rfl (fun K hK => ?_) AllReadyH.nil
    go_simp
    refine (LA.out x31 B31.out (x30.heap.size) K31.out).mono ?_
    rintro e x32 ⟨v32, rfl, o32, b32⟩
    have O32 := hide o32
    have B32 := hide (Below.step B31.out b32)
    have M32 := hide (M31.out.below' b32)
    clear o32 b32
    refine hK.out _ _ (B32.out) (fun hHeld => ?_)
    clear hK K
    try simp only [Act.put, List.setIfInBounds_toArray, List.set_cons_zero, List.set_cons_succ, List.getElem_toArray, List.getElem_cons_succ, List.getElem_cons_zero]
    refine wpAnyH_ready (rs := [13]) (by kernel_rfl) (by simp) ?_
    refine AllReadyH.cons rfl (fun K hK => ?_) AllReadyH.nil
    go_simp
    refine (LB.out x32 B32.out (wr.heap.size) M32.out).mono ?_
    rintro e x33 ⟨v33, rfl, o33, b33⟩
    have O33 := hide o33
    have B33 := hide (Below.step B32.out b33)
    have V33 := hide (O32.out.below b33)
    clear o33 b33
    refine hK.out _ _ (B33.out) (fun hHeld => ?_)
    clear hK K
    try simp only [Act.put, List.setIfInBounds_toArray, List.set_cons_zero, List.set_cons_succ, List.getElem_toArray, List.getElem_cons_succ, List.getElem_cons_zero]
    refine wpAnyH_ready (rs := [14]) (by kernel_rfl) (by simp) ?_
    refine AllReadyH.cons rfl (fun K hK => ?_) AllReadyH.nil
    go_simp
    refine (LC.out x33 v32 v33 V33.out O33.out).mono ?_
    rintro e x34 ⟨rfl, b34⟩
    have HE := hide (Below.step B33.out b34)
    clear b34
    refine hK.out _ _ (HE.out) (fun hHeld => ?_)
    clear hK K
    try simp only [Act.put, List.setIfInBounds_toArray, List.set_cons_zero, List.set_cons_succ, List.getElem_toArray, List.getElem_cons_succ, List.getElem_cons_zero]
    refine wpAnyH_done (by kernel_rfl) ?_ _
    refine noPanic_norm ?_
    cases rc with
    | true =>
     go_wp2
     go_ret
     exact ⟨rfl, Below.step HB0.out (Below.step HBB.out HE.out)⟩
    | false =>
     have HNX := hide (NC.of HRC.out.symm)
     go_wp2_with fail
     go_roundw
     case rel => exact ⟨i + 1, by omega, by go_num, fun j hj x y h1 h2 => (by
      by_cases hj2 : j < i
      ·exact HG9.out j hj2 x y h1 h2
      ·obtain rfl : j = i := by omega
       rw [HDK.out.1] at h1
       rw [HDK.out.2] at h2
       injection h1 with h1
       injection h2 with h2
       subst h1 h2
       rw [← HT3.out.1, ← HT3.out.2]
       exact HNX.out), Below.step HBB.out HE.out⟩
     case measure => simp [intOf]; omega
  ·have hsnd : ∀ (j : Nat) (x y : List UInt8), data[j]? = some x → data'[j]? = some y → NC (tag1 3 x) (tag1 3 y) := fun j x y hx hy => HG9.out j (by
    have h1 := (List.getElem?_eq_some_iff.1 hx).1
    have h2 := (List.getElem?_eq_some_iff.1 hy).1
    have h3 := congrArg List.length HIN.out.2.2.2.2.1
    have h4 := congrArg List.length HIN.out.2.2.2.2.2.1
    rw [List.length_map, ← HIN.out.2.2.2.2.2.2.1] at h3
    rw [List.length_map, ← HIN.out.2.2.2.2.2.2.2.1] at h4
    omega) x y hx hy
   obtain ⟨j1, j2, j3, j4, j5, j6⟩ := HT.out
   have hone := share_one HSA.out HSB.out (show f.num = f'.num from by rw [← HIN.out.2.2.2.2.2.2.2.2.1, ← HIN.out.2.2.2.2.2.2.2.2.2.1]) (show tagD 8 (writeU f.u) = tagD 8 (writeU f'.u) from by rw [← j1, ← j2]; exact HDG.out) (show NC (tag1 8 (writeU f.u)) (tag1 8 (writeU f'.u)) from by rw [← j1, ← j2, ← HTA.out.1, ← HTA.out.2]; exact HN1.out) (fun x y h1 h2 => by
    have := HN2.out x y h1 h2
    rw [show (SS.mk f data).f.num.toNat = k from by show f.num.toNat = k; have := HK.out; omega]
    exact this) HN4.out HN5.out hsnd
   injection hone with h1 h2
   exact absurd ⟨⟨by rw [h1], by rw [h1], by rw [h1], by rw [h1], by rw [h1]⟩, h2⟩ HNS.out
end Go.Proofs.YtdohebhbiokljaaGreatDoor
