/- Contract of the program's Letters. -/
import Derived.Test.YtghobbbmoeijbaaDoorBaseA
namespace Go.Proofs.YtghobbbmoeijbaaDoor
open Go.RowKit

theorem u32_and31 (a : Nat) (ha : a < 4294967296) : bits .and .u32 (a : Int) 31 = ((a % 32 : Nat) : Int) := by
  have := u32_and_nat a 31 ha (by omega)
  rw [show (31 : Nat) = 2 ^ 5 - 1 from rfl, Nat.and_two_pow_sub_one_eq_mod] at this
  exact this
theorem div_pow_cast (a h : Nat) : (a : Int) / 2 ^ h = ((a / 2 ^ h : Nat) : Int) := by rw [Int.natCast_ediv, Int.natCast_pow]; rfl
theorem mul_pow_cast (a h m : Nat) : (a : Int) * 2 ^ h % (m : Int) = ((a * 2 ^ h % m : Nat) : Int) := by rw [Int.natCast_emod, Int.natCast_mul, Int.natCast_pow]; rfl
theorem filled_get (d : Nat) (h : d < 32) : (filled 32)[d]? = some (Value.int .u8 ((letterN d).toNat : Int)) := by
  simp [filled, bcells, alph, h]
theorem m32_top (M h : Nat) (hh : h ≤ 5) : m32 M * 2 ^ h % 4294967296 % 32 = M * 2 ^ h % 32 := by
  rw [Nat.mod_mod_of_dvd _ (by decide : 32 ∣ 4294967296), Nat.mul_mod, ← show (2 : Nat) ^ 5 = 32 from rfl, m32_low M 5 (by omega), ← Nat.mul_mod]

set_option maxRecDepth 100000 in
set_option maxHeartbeats 1000000 in
theorem bletters_any (v : Value) (l : List UInt8) (w : World) (ha : By w v l) (hl : l.length ≤ 87960930222000) :
    Calls Tryd.prog 17 #[v] w fun e w' => ∃ s : ByteArray, e = .returned (.string s) ∧ s.data.toList = letters l ∧ Below w.heap.size w w' := by
  obtain ⟨A, c, rfl, hc, hm, hca⟩ := ha.form
  unfold maxLen at hm
  go_enter Tryd.func17, Tryd.ntmps17
  go_wp2_with fail
  refine (alphabet_any w).mono ?_
  rintro e w1 ⟨rfl, hb1⟩
  have hn := Blk.new w1 54 (filled 0)
  have hbl1 : Below w.heap.size w (w1.alloc (.cells (filled 0) 54)) := hb1.alloc hb1.size _
  go_wp2_with (refine wpList_store_row (o := ⟨none, .store _ _ _, _, _, _, _⟩) hn (filled 32) rfl (by decide +kernel) rfl 54 _ _ rfl (by kernel_rfl) rfl rfl ?_; intro w2 hb2 hg2)
  have hbl2 : Below w.heap.size w w2 := hbl1.grown hg2 (by have := hb1.size; simp; omega) fun k hk => by injection hk with hk; have := hb1.size; omega
  obtain ⟨g, hg⟩ : ∃ g, g = w1.heap.size := ⟨_, rfl⟩
  have hgw : w.heap.size ≤ g := by rw [hg]; exact hb1.size
  rw [← hg] at hb2 ⊢
  clear hn hbl1 hg2 hb1 hg
  have hlen : (l.length : Int) ≤ 87960930222000 := by omega
  go_loopw [4, 5, 6, 8, 12] (fun u4 u5 u6 _ u12 wr => ∃ k e h N : Nat, k ≤ l.length ∧ 5 * e + h = 8 * k ∧ h < 5 ∧ u12 = .int .i64 (k : Int) ∧ u6 = .int .i64 (h : Int) ∧ u5 = .int .u32 (N : Int) ∧
      N = m32 (val 256 (nats (l.take k))) ∧ Own wr w.heap.size 5 u4 (part l k e) ∧ Blk wr g 54 (filled 32) ∧ Below w.heap.size w wr) (fun _ _ _ _ u12 _ => l.length - (intOf u12).toNat)
  case atStart => exact ⟨0, 0, 0, 0, by omega, by omega, by omega, rfl, rfl, rfl, by simp [nats, m32_eq], by simpa [part, dig] using Own.nil w2 w.heap.size 5, hb2, hbl2⟩
  case round =>
    clear hb2 hbl2
    obtain ⟨k, e, h, N, hk, heh, hh, rfl, rfl, rfl, hN, hown, hblk, hbel⟩ := hrel
    have HN := hide hN
    have HO := hide hown
    have HE := hide heh
    have HB := hide hblk
    have hN32 : (N : Int) ≤ 4294967295 := by have := m32_lt (val 256 (nats (l.take k))); omega
    clear hN hown heh hblk
    by_cases hlt : k < l.length
    · obtain ⟨x, hx⟩ : ∃ x, l[k]? = some x := ⟨_, List.getElem?_eq_getElem hlt⟩
      obtain ⟨b, o, rfl, hbl, hcell⟩ := hca k x hx
      have hcx : wr.cell? ⟨b, o + k, none⟩ = some (.int .u8 (x.toNat : Int)) := (hbel.cell (p := ⟨b, o + k, none⟩) hbl).trans hcell
      have HX := hide hx
      clear hx hcell hca
      have hx8 := x.toNat_lt
      obtain ⟨NB, hNB⟩ : ∃ NB : Nat, NB = (N * 256) % 4294967296 + x.toNat := ⟨_, rfl⟩
      have hor : bits .or .u32 ((N : Int) * 256 % 4294967296) (x.toNat : Int) = (NB : Int) := by
        rw [show ((N : Int) * 256 % 4294967296) = ((N * 256 % 4294967296 : Nat) : Int) by omega, u32_or_nat _ _ (by omega) (by omega), or_byte32 _ _ (by omega), hNB]
      have hNB2 : NB = m32 (val 256 (nats (l.take (k + 1)))) := by
        rw [hNB, HN.out, m32_byte _ _ (by omega), take_snoc l k x HX.out, nats_snoc, val_snoc]
      have hNB3 : (NB : Int) ≤ 4294967295 := by have := m32_lt (val 256 (nats (l.take (k + 1)))); omega
      have HNB := hide hNB2
      clear hNB2 hNB
      go_wp2
      clear hor
      go_loopw [4, 6] (fun u4 u6 wr => ∃ e h : Nat, 5 * e + h = 8 * (k + 1) ∧ h ≤ 12 ∧ u6 = .int .i64 (h : Int) ∧ Own wr w.heap.size 5 u4 (part l (k + 1) e) ∧ Blk wr g 54 (filled 32) ∧ Below w.heap.size w wr) (fun _ u6 _ => (intOf u6).toNat)
      case atStart => exact ⟨e, h + 8, by have := HE.out; omega, by omega, by go_num, by rw [part_byte l k e x HX.out (by have := HE.out; omega)]; exact HO.out, HB.out, hbel⟩
      case round =>
        clear HO HE HB hcx hh hbel
        obtain ⟨e, h, heh, hh, rfl, hown, hblk, hbel⟩ := hrel
        have HO := hide hown
        have HE := hide heh
        have HB := hide hblk
        clear hown heh hblk
        by_cases h5 : 5 ≤ h
        · obtain ⟨d, hd⟩ : ∃ d : Nat, d = NB / 2 ^ (h - 5) % 32 := ⟨_, rfl⟩
          have hd32 : d < 32 := by rw [hd]; omega
          have hand : bits .and .u32 ((NB : Int) / 2 ^ (h - 5)) 31 = (d : Int) := by
            rw [div_pow_cast, u32_and31 _ (Nat.lt_of_le_of_lt (Nat.div_le_self _ _) (by omega)), hd]
          have hcd : wr.cell? ⟨g, d, none⟩ = some (.int .u8 ((letterN d).toNat : Int)) := by rw [HB.out.cell, filled_get d hd32]
          have HD := hide hd
          clear hd
          go_wp2_with (at_builtin; go_loud (refine wpList_pushB elem8 HO.out hbel hbel.size (by rw [part_length]; have := HE.out; omega) (letterN d) rfl _ _ rfl rfl rfl ?_); intro v1 w1 hown1 hbel1 hgr1 _)
          go_roundw
          case rel =>
            refine ⟨e + 1, h - 5, by have := HE.out; omega, by omega, by go_num, ?_, HB.out.grown hgr1 (by
              have := own_blk_ne HO.out HB.out (by decide)
              rcases this with h0 | h0
              · rw [h0]; simp
              · exact Ne.symm h0), hbel1⟩
            rw [part_letter l (k + 1) e (by have := HE.out; omega), show 8 * (k + 1) - 5 * (e + 1) = h - 5 by have := HE.out; omega]
            have : val 256 (nats (l.take (k + 1))) / 2 ^ (h - 5) % 32 = d := by
              rw [HD.out, HNB.out]
              exact (m32_bits _ (h - 5) 5 (by omega)).symm
            rw [this]
            exact hown1
          case measure => simp [intOf]; omega
        · go_wp2
          go_roundw
          case rel => exact ⟨k + 1, e, h, NB, by omega, HE.out, by omega, by go_num, rfl, rfl, HNB.out, HO.out, HB.out, hbel⟩
          case measure => simp [intOf]; omega
    · have hkl : k = l.length := by omega
      have HK := hide hkl
      clear hkl
      by_cases h0 : h = 0
      · subst h0
        obtain ⟨s, hs, hcv⟩ := run_str (P := Tryd.prog) (By.keep HO.out.by_ (Nat.le_refl _) fun _ _ => rfl) 36 9 5 Tryd.underlying36 Tryd.underlying5 Tryd.underlying9
        have HS := hide hs
        clear hs
        go_wp2
        go_ret
        refine ⟨s, rfl, ?_, hbel⟩
        rw [HS.out, HK.out, part_end l e (by have := HE.out; have := HK.out; omega) (by have := HE.out; have := HK.out; omega), if_pos (by have := HE.out; have := HK.out; omega)]
      · obtain ⟨d, hd⟩ : ∃ d : Nat, d = N * 2 ^ (5 - h) % 4294967296 % 32 := ⟨_, rfl⟩
        have hd32 : d < 32 := by rw [hd]; omega
        have hand : bits .and .u32 ((N : Int) * 2 ^ (5 - h) % 4294967296) 31 = (d : Int) := by
          rw [show (4294967296 : Int) = ((4294967296 : Nat) : Int) from rfl, mul_pow_cast, u32_and31 _ (Nat.mod_lt _ (by omega)), hd]
        have hcd : wr.cell? ⟨g, d, none⟩ = some (.int .u8 ((letterN d).toNat : Int)) := by rw [HB.out.cell, filled_get d hd32]
        have HD := hide hd
        clear hd
        have h1 : 1 ≤ h := by omega
        go_wp2_with (at_builtin; go_loud (refine wpList_pushB elem8 HO.out hbel hbel.size (by rw [part_length]; have := HE.out; omega) (letterN d) rfl _ _ rfl rfl rfl ?_); intro v1 w1 hown1 hbel1 hgr1 _; obtain ⟨s, hs, hcv⟩ := run_str (P := Tryd.prog) hown1.by_ 36 9 5 Tryd.underlying36 Tryd.underlying5 Tryd.underlying9; have HS := hide hs; clear hs)
        go_ret
        refine ⟨s, rfl, ?_, hbel1⟩
        rw [HS.out, HK.out, part_end l e (by have := HE.out; have := HK.out; omega) (by have := HE.out; have := HK.out; omega), if_neg (by have := HE.out; have := HK.out; omega)]
        congr 3
        rw [HD.out, HN.out, m32_top _ _ (by omega), HK.out, List.take_length]
        congr 3
        have := HE.out
        have := HK.out
        omega
end Go.Proofs.YtghobbbmoeijbaaDoor
