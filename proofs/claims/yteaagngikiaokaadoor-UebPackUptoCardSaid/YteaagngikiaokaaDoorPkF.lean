/- The law UebPack. -/
import Derived.Test.YteaagngikiaokaaDoorPkE
namespace Go.Proofs.YteaagngikiaokaaDoor
open Go.RowKit

theorem packOf_len {rs : List Rw} {l : List UInt8} {er : Int} (h : PackOf rs l er) : l.length ≤ 67108864 := by
  rcases h with ⟨hm, rfl, _⟩ | ⟨_, rfl, _⟩
  · have h64 : rs.length ≤ 64 := by
      rcases Nat.lt_or_ge 64 rs.length with h | h
      · obtain ⟨r, _, h2, _⟩ := rowB_some (hm 64 h)
        omega
      · exact h
    refine encs_len rs 64 h64 fun y hy => ?_
    obtain ⟨i, hi, rfl⟩ := List.getElem_of_mem hy
    obtain ⟨r, hr, _, _, h3, h4⟩ := rowB_some (hm i hi)
    rw [List.getElem?_eq_getElem hi] at hr
    cases hr
    exact ⟨h3, h4⟩
  · simp
theorem Own.keepHi {w w' : World} {base hi : Nat} {e : TypeId} {v : Value} {l : List UInt8} (h : Own w base e v l) (hk : ∀ g, hi ≤ g → g < w.heap.size → w'.heap[g]? = w.heap[g]?) (hb : hi ≤ base) : Own w' base e v l :=
  h.same fun g hg => hk g (Nat.le_trans hb (World.ownsRow.lt h g hg).1) (World.ownsRow.lt h g hg).2

set_option maxRecDepth 100000 in
set_option maxHeartbeats 8000000 in
theorem law_pack (v1 v2 : Value) (L M : List RowV) (w : World) (h1 : Rws w v1 L) (h2 : Rws w v2 M) (hn1 : L.length ≤ 1048576) (hn2 : M.length ≤ 1048576) (hl1 : ∀ x ∈ L, x.2.2.length ≤ 1048576) (hl2 : ∀ x ∈ M, x.2.2.length ≤ 1048576) (ht : Tab w) :
    Calls Tryd.prog 3 #[v1, v2] w fun e w' => e = .returned (.bool true) ∧ Below w.heap.size w w' := by
  obtain ⟨l, er, hp⟩ := packOf_ex (rws L)
  obtain ⟨m, es, hq⟩ := packOf_ex (rws M)
  have H1 := hide h1
  have H2 := hide h2
  have HT := hide ht
  have HP := hide hp
  have HQ := hide hq
  have HN1 := hide (And.intro hn1 hl1)
  have HN2 := hide (And.intro hn2 hl2)
  have HLL := hide (And.intro (packOf_len hp) (packOf_len hq))
  obtain ⟨A1, c1, rfl, -⟩ := h1.form
  obtain ⟨A2, c2, rfl, -⟩ := h2.form
  clear h1 h2 ht hp hq hl1 hl2
  go_enter Tryd.func3, Tryd.ntmps3
  go_wp2_with fail
  refine (lent_of _ L w H1.out HN1.out.1 HN1.out.2).mono ?_
  rintro e w1 ⟨Aa, na, ca, Ae, ne, ce, rfl, b1, lx⟩
  have B1 := hide b1
  have LX := hide lx
  clear b1 lx
  go_wp2_with fail
  refine (lent_of _ M _ (H2.out.below (B1.out.alloc B1.out.size _)) HN2.out.1 HN2.out.2).mono ?_
  rintro e w2 ⟨Ba, nb, cb, Be, nf, cf, rfl, b2, ly⟩
  have hx2 := (Blk.new w1 25 #[.slice Aa na ca, .slice Ae ne ce]).below' b2
  have hw2 : w1.heap.size < w2.heap.size := hx2.lt
  have hne2 : ¬ w1.heap.size = w2.heap.size := by omega
  have B12 := hide b2
  have B2 := hide ((B1.out.alloc B1.out.size _).trans (b2.mono (by have := B1.out.size; simp; omega)))
  simp only [World.size_alloc] at ly
  have LY := hide ly
  have X2 := hide hx2
  have k1 : (L.length : Int) ≤ (ca : Int) := by have := LX.out.cap; omega
  have k1' : L.length ≤ ca := LX.out.cap
  have k2 : (M.length : Int) ≤ (cb : Int) := by have := ly.cap; omega
  have k2' : M.length ≤ cb := ly.cap
  have x20 : w2.cell? ⟨w1.heap.size, 0, none⟩ = some (.slice Aa na ca) := hx2.cell 0
  have BX2 := hide (((Below.refl w1.heap.size w1).alloc (Nat.le_refl _) (.cells #[.slice Aa na ca, .slice Ae ne ce] 25)).trans (b2.mono (by simp)))
  clear b2 ly hx2 B12
  go_wp2_with fail
  -- the first Pack
  obtain ⟨L2, r2, e2⟩ := (LX.out.below (BX2.out.alloc BX2.out.size (.cells #[.slice Ba nb cb, .slice Be nf cf] 25))).front
  have Q1 := hide (pack_of _ L2 l er _ r2 (HT.out.below (B2.out.alloc B2.out.size _)) (by rw [e2]; exact HP.out))
  clear r2 e2
  refine Q1.out.mono ?_
  rintro e w3 ⟨b3, Pa, pa, rfl, oa⟩
  have hy3 := (Blk.new w2 25 #[.slice Ba nb cb, .slice Be nf cf]).below' b3
  have hx3 := ((X2.out.alloc (.cells #[.slice Ba nb cb, .slice Be nf cf] 25))).below' b3
  have BY3 := hide (((Below.refl w2.heap.size w2).alloc (Nat.le_refl _) (.cells #[.slice Ba nb cb, .slice Be nf cf] 25)).trans (b3.mono (by simp)))
  have B3 := hide (Below.step B2.out BY3.out)
  have BX3 := hide (Below.step BX2.out BY3.out)
  have OA3 := hide (show Own w3 (w2.heap.size + 1) 5 (.slice Pa l.length pa) l from by rw [World.size_alloc] at oa; exact oa)
  have HS3 := hide (show w2.heap.size + 1 ≤ w3.heap.size from by have := b3.size; rw [World.size_alloc] at this; exact this)
  have X3 := hide hx3
  have Y3 := hide hy3
  have y30 : w3.cell? ⟨w2.heap.size, 0, none⟩ = some (.slice Ba nb cb) := hy3.cell 0
  clear b3 oa hx3 hy3 Q1 x20
  go_wp2_with fail
  -- the second
  obtain ⟨L2, r2, e2⟩ := (LY.out.below BY3.out).front
  have Q2 := hide (pack_of _ L2 m es _ r2 (HT.out.below B3.out) (by rw [e2]; exact HQ.out))
  clear r2 e2
  refine Q2.out.mono ?_
  rintro e w4 ⟨b4, Pb, pb, rfl, ob⟩
  have hx4 := X3.out.below' b4
  have Y4 := hide (Y3.out.below' b4)
  have BY4 := hide (Below.step BY3.out b4)
  have B4 := hide (Below.step B3.out b4)
  have BX4 := hide (Below.step BX3.out b4)
  have OA4 := hide (OA3.out.below b4)
  have OB4 := hide ob
  have HS4 := hide b4.size
  have X4 := hide hx4
  have x40 : w4.cell? ⟨w1.heap.size, 0, none⟩ = some (.slice Aa na ca) := hx4.cell 0
  have hab := hide (Apx.apt_later OA3.out ob (Nat.le_refl _))
  clear b4 ob hx4 Q2 y30
  go_wp2_with fail
  -- the third
  obtain ⟨L2, r2, e2⟩ := (LX.out.below BX4.out).front
  have Q3 := hide (pack_of _ L2 l er _ r2 (HT.out.below B4.out) (by rw [e2]; exact HP.out))
  clear r2 e2
  refine Q3.out.mono ?_
  rintro e w5 ⟨b5, Pc, pc, rfl, oc⟩
  have hx5 := X4.out.below' b5
  have Y5 := hide (Y4.out.below' b5)
  have BY5 := hide (Below.step BY4.out b5)
  have B5 := hide (Below.step B4.out b5)
  have BX5 := hide (Below.step BX4.out b5)
  have OA5 := hide (OA4.out.below b5)
  have OB5 := hide (OB4.out.below b5)
  have OC5 := hide oc
  have HS5 := hide b5.size
  have X5 := hide hx5
  have x50 : w5.cell? ⟨w1.heap.size, 0, none⟩ = some (.slice Aa na ca) := hx5.cell 0
  have x51 : w5.cell? ⟨w1.heap.size, 1, none⟩ = some (.slice Ae ne ce) := hx5.cell 1
  have hac := hide (Apx.apt_later OA4.out oc (Nat.le_refl _))
  have hbc := hide (Apx.apt_later OB4.out oc (Nat.le_refl _))
  clear b5 oc hx5 Q3 x40 X2 X3 X4 Y3 Y4 BY3 BY4 B2 B3 B4 BX2 BX3 BX4 OA4 OB4
  go_wp2_with fail
  -- kept, twice
  refine (kept_of _ (LX.out.below BX5.out) (H1.out.below B5.out) HN1.out.1 HN1.out.2).mono ?_
  rintro e w6 ⟨rfl, b6⟩
  have hy6 := Y5.out.below' b6
  have X6 := hide (X5.out.below' b6)
  have BY6 := hide (Below.step BY5.out b6)
  have B6 := hide (Below.step B5.out b6)
  have BX6 := hide (Below.step BX5.out b6)
  have OA6 := hide (OA5.out.below b6)
  have OB6 := hide (OB5.out.below b6)
  have OC6 := hide (OC5.out.below b6)
  have HS6 := hide b6.size
  have Y6 := hide hy6
  have y60 : w6.cell? ⟨w2.heap.size, 0, none⟩ = some (.slice Ba nb cb) := hy6.cell 0
  have y61 : w6.cell? ⟨w2.heap.size, 1, none⟩ = some (.slice Be nf cf) := hy6.cell 1
  clear b6 hy6 x50 x51 X5 Y5 BY5 B5 BX5 OA5 OB5 OC5
  go_wp2_with fail
  refine (kept_of _ (LY.out.below BY6.out) (H2.out.below B6.out) HN2.out.1 HN2.out.2).mono ?_
  rintro e w7 ⟨rfl, b7⟩
  have hx7 := X6.out.below' b7
  have Y7 := hide (Y6.out.below' b7)
  have BY7 := hide (Below.step BY6.out b7)
  have B7 := hide (Below.step B6.out b7)
  have BX7 := hide (Below.step BX6.out b7)
  have OA7 := hide (OA6.out.below b7)
  have OB7 := hide (OB6.out.below b7)
  have OC7 := hide (OC6.out.below b7)
  have HS7 := hide b7.size
  have x70 : w7.cell? ⟨w1.heap.size, 0, none⟩ = some (.slice Aa na ca) := hx7.cell 0
  have x71 : w7.cell? ⟨w1.heap.size, 1, none⟩ = some (.slice Ae ne ce) := hx7.cell 1
  clear b7 hx7 y60 y61 X6 Y6 BY6 B6 BX6 OA6 OB6 OC6
  go_wp2_with fail
  -- written over, twice
  have q8 := over_of LX.out B1.out.size (.inl BX7.out) HN1.out.1 HN1.out.2
  have Q8 := hide q8
  clear q8
  refine Q8.out.mono ?_
  rintro e w8 ⟨rfl, b8, s8, g8⟩
  have hB8 : Below w.heap.size w w8 := B7.out.trans b8
  have hS78 : w2.heap.size + 1 ≤ w7.heap.size := Nat.le_trans HS3.out (Nat.le_trans HS4.out (Nat.le_trans HS5.out (Nat.le_trans HS6.out HS7.out)))
  have hy8 : Blk w8 w2.heap.size 25 #[.slice Ba nb cb, .slice Be nf cf] := (g8 w2.heap.size (by omega) (by omega)).trans Y7.out
  have LY8 := hide (show ∀ g, w1.heap.size + 1 ≤ g → g < w2.heap.size → w8.heap[g]? = w2.heap[g]? from fun g h1 h2 => (g8 g (by omega) (by omega)).trans (BY7.out.block g h2))
  have OA8 := hide (OA7.out.keepHi g8 (by omega))
  have OB8 := hide (OB7.out.keepHi g8 (by have := HS3.out; omega))
  have OC8 := hide (OC7.out.keepHi g8 (by have := HS3.out; have := HS4.out; omega))
  have B8 := hide hB8
  have S8 := hide (show w2.heap.size + 1 ≤ w8.heap.size from Nat.le_trans hS78 s8)
  have y80 : w8.cell? ⟨w2.heap.size, 0, none⟩ = some (.slice Ba nb cb) := hy8.cell 0
  have y81 : w8.cell? ⟨w2.heap.size, 1, none⟩ = some (.slice Be nf cf) := hy8.cell 1
  clear b8 s8 g8 hB8 hS78 hy8 Q8 x70 x71 Y7 OA7 OB7 OC7 BX7
  go_wp2_with fail
  have q9 := over_of LY.out hw2 (.inr ⟨LY8.out, by have := S8.out; omega⟩) HN2.out.1 HN2.out.2
  have Q9 := hide q9
  clear q9
  refine Q9.out.mono ?_
  rintro e w9 ⟨rfl, b9, s9, g9⟩
  have B9 := hide (B8.out.trans (b9.mono (by have := B1.out.size; omega)))
  have OA9 := hide (OA8.out.keepHi g9 (by omega))
  have OB9 := hide (OB8.out.keepHi g9 (by have := HS3.out; omega))
  have OC9 := hide (OC8.out.keepHi g9 (by have := HS3.out; have := HS4.out; omega))
  have S9 := hide (Nat.le_trans S8.out s9)
  clear b9 s9 g9 Q9 y80 y81 OA8 OB8 OC8 B8 S8 LY8
  go_wp2_with fail
  -- the document's answers
  refine (rpack_of _ L l er _ (H1.out.below B9.out) HP.out).mono ?_
  rintro e w10 ⟨b10, Pd, pd, rfl, od⟩
  have B10 := hide (Below.step B9.out b10)
  have OA10 := hide (OA9.out.below b10)
  have OB10 := hide (OB9.out.below b10)
  have OC10 := hide (OC9.out.below b10)
  have OD10 := hide od
  have S10 := hide (Nat.le_trans S9.out b10.size)
  clear b10 od OA9 OB9 OC9 B9 S9
  go_wp2_with fail
  refine (rpack_of _ M m es _ (H2.out.below B10.out) HQ.out).mono ?_
  rintro e w11 ⟨b11, Pe, pe, rfl, oe⟩
  have B11 := hide (Below.step B10.out b11)
  have OA11 := hide (OA10.out.below b11)
  have OB11 := hide (OB10.out.below b11)
  have OC11 := hide (OC10.out.below b11)
  have OD11 := hide (OD10.out.below b11)
  have OE11 := hide oe
  have S11 := hide (Nat.le_trans S10.out b11.size)
  clear b11 oe OA10 OB10 OC10 OD10 B10 S10
  have r1 : (er == er) = true := by simp
  have r2 : (es == es) = true := by simp
  go_wp2_with fail
  refine (same_any _ _ l l _ OA11.out.by_ OD11.out.by_).mono ?_
  rintro e w12 ⟨rfl, b12⟩
  rw [decide_eq_true rfl]
  have B12 := hide (Below.step B11.out b12)
  have OA12 := hide (OA11.out.below b12)
  have OB12 := hide (OB11.out.below b12)
  have OC12 := hide (OC11.out.below b12)
  have OD12 := hide (OD11.out.below b12)
  have OE12 := hide (OE11.out.below b12)
  have S12 := hide (Nat.le_trans S11.out b12.size)
  clear b12 OA11 OB11 OC11 OD11 OE11 B11 S11
  go_wp2_with fail
  refine (same_any _ _ m m _ OB12.out.by_ OE12.out.by_).mono ?_
  rintro e w13 ⟨rfl, b13⟩
  rw [decide_eq_true rfl]
  have B13 := hide (Below.step B12.out b13)
  have OA13 := hide (OA12.out.below b13)
  have OB13 := hide (OB12.out.below b13)
  have OC13 := hide (OC12.out.below b13)
  have OD13 := hide (OD12.out.below b13)
  have S13 := hide (Nat.le_trans S12.out b13.size)
  clear b13 OA12 OB12 OC12 OD12 OE12 B12 S12
  go_wp2_with fail
  refine (same_any _ _ l l _ OC13.out.by_ OD13.out.by_).mono ?_
  rintro e w14 ⟨rfl, b14⟩
  rw [decide_eq_true rfl]
  have B14 := hide (Below.step B13.out b14)
  have OA14 := hide (OA13.out.below b14)
  have OB14 := hide (OB13.out.below b14)
  have OC14 := hide (OC13.out.below b14)
  have S14 := hide (Nat.le_trans S13.out b14.size)
  clear b14 OA13 OB13 OC13 OD13 B13 S13
  go_wp2_with fail
  refine (Apx.apart3 (w2.heap.size + 1) S14.out OA14.out (OB14.out.base HS3.out) (OC14.out.base (Nat.le_trans HS3.out HS4.out)) hab.out hac.out hbc.out (by have := HLL.out.1; omega) (by have := HLL.out.2; omega) (by have := HLL.out.1; omega)).mono ?_
  rintro e w15 ⟨rfl, b15⟩
  have B15 := hide (B14.out.trans (b15.mono (by have := B1.out.size; omega)))
  clear b15
  go_wp2
  go_ret
  exact ⟨rfl, B15.out⟩

theorem of_laidP {W : World} {r : List (String × DataW Unit)}
    (h0 : laidMet Tryd.prog (("internal/strconv.uint64pow10", Rows.laid_internal_strconv_uint64pow10) :: r) W) : Tab W := by
  have e : (Rows.laid_internal_strconv_uint64pow10 : DataW Unit) = Lib.tabData .u64 Lib.pow10Tab := by kernel_rfl
  rw [e] at h0
  exact Lib.tabIs_of_head gTab gTabType Tryd.underlying143 Tryd.underlying111 (by kernel_rfl) (by kernel_rfl) h0
end Go.Proofs.YteaagngikiaokaaDoor
