/- Contracts of the code: whether blocks have one length; New; K and N. -/
import Derived.Test.YtoaaplngdomdcaaRsA
import Derived.Test.YtoaaplngdomdcaaMem2
namespace Go.Proofs.Ytoaaplngdomdcaa
open Go.RowKit

/-! ### Blocks of one length -/
def anyB (p : Nat → Bool) (n : Nat) : Bool := (List.range n).any p
theorem anyB_false {p : Nat → Bool} {n : Nat} (h : ∀ i, i < n → p i = false) : anyB p n = false := by
  unfold anyB
  rw [List.any_eq_false]
  intro i hi
  rw [h i (List.mem_range.1 hi)]
  exact Bool.false_ne_true
theorem anyB_true {p : Nat → Bool} {n i : Nat} (hi : i < n) (h : p i = true) : anyB p n = true := by
  unfold anyB
  rw [List.any_eq_true]
  exact ⟨i, List.mem_range.2 hi, h⟩

set_option maxHeartbeats 800000 in
theorem index_any (vb : Value) (L : List (List UInt8)) (K : FuncId) (cap : Array Value) (p : Nat → Bool) (w : World) (hb : Ls w vb L)
    (hent : ∀ (args : Array Value) (w : World), (callFunc K args).run Try.prog w = .ok (.enter K args) w)
    (hcl : ∀ (i : Nat) (l : List UInt8) (x : Value) (w' : World), L[i]? = some l → By w x l → Below w.heap.size w w' → Calls Try.prog K (#[x] ++ cap) w' fun e w'' => e = .returned (.bool (p i)) ∧ Below w'.heap.size w' w'') :
    Calls Try.prog 152 #[vb, .func (.func K) #[] cap] w fun e w' => (∃ n : Int, e = .returned (.int .i64 n) ∧ (decide (n ≥ 0) = anyB p L.length)) ∧ Below w.heap.size w w' := by
  obtain ⟨B, d, rfl, hbc, hbm, hbcell⟩ := hb.form
  unfold maxLen at hbm
  clear hb
  go_enter Try.func152, Try.ntmps152
  go_wp2
  go_loopw [5, 8] (fun _ u8 wr => ∃ k : Nat, k ≤ L.length ∧ u8 = .int .i64 (k : Int) ∧ (∀ i, i < k → p i = false) ∧ Below w.heap.size w wr) (fun _ u8 _ => L.length - (intOf u8).toNat)
  case atStart => exact ⟨0, by omega, rfl, fun i h => absurd h (by omega), Below.refl _ _⟩
  case round =>
    obtain ⟨k, hk, rfl, hp, hbel⟩ := hrel
    have HP := hide hp
    clear hp
    by_cases hlt : k < L.length
    · have i1 : (k : Int) < (L.length : Int) := by omega
      have i2 : (0 : Int) ≤ (k : Int) := by omega
      obtain ⟨l, hl⟩ : ∃ l, L[k]? = some l := ⟨_, List.getElem?_eq_getElem hlt⟩
      obtain ⟨b, o, x, rfl, hlb, hcx, hby⟩ := hbcell k l hl
      have hcx2 : wr.cell? ⟨b, o + k, none⟩ = some x := (hbel.cell (p := ⟨b, o + k, none⟩) hlb).trans hcx
      have q := hcl k l x wr hl hby hbel
      obtain ⟨A2, c2, rfl, _⟩ := hby.form
      have hE := hent #[.slice A2 l.length c2]
      have HL := hide hl
      clear hl hby hcx hbcell
      cases hpk : p k
      · rw [hpk] at q
        go_wp2_with fail
        refine q.mono ?_
        rintro e w' ⟨rfl, hb2⟩
        go_wp2
        go_roundw
        case rel =>
          refine ⟨k + 1, by omega, by go_num, fun i hi => ?_, hbel.trans (hb2.mono hbel.size)⟩
          rcases Nat.lt_or_ge i k with h | h
          · exact HP.out i h
          · rw [show i = k by omega]; exact hpk
        case measure => simp [intOf]; omega
      · rw [hpk] at q
        go_wp2_with fail
        refine q.mono ?_
        rintro e w' ⟨rfl, hb2⟩
        go_wp2
        go_ret
        refine ⟨⟨_, rfl, ?_⟩, hbel.trans (hb2.mono hbel.size)⟩
        rw [anyB_true hlt hpk]
        simp
    · have hkl : k = L.length := by omega
      go_wp2
      go_ret
      refine ⟨⟨_, rfl, ?_⟩, hbel⟩
      rw [anyB_false (by rw [← hkl]; exact HP.out)]
      rfl

def lenAt (L : List (List UInt8)) (i : Nat) : Nat := (L.getD i []).length
theorem lenAt_of {L : List (List UInt8)} {i : Nat} {l : List UInt8} (h : L[i]? = some l) : lenAt L i = l.length := by
  unfold lenAt; rw [List.getD_eq_getElem?_getD, h]; rfl
def evenB (L : List (List UInt8)) : Bool := !anyB (fun i => decide (lenAt L i ≠ lenAt L 0)) L.length
theorem evenB_rows (n k : Nat) (D : Nat → Nat → UInt8) : evenB (rowsOf n D k) = true := by
  unfold evenB
  rw [rowsOf_length, anyB_false]
  · rfl
  · intro i hi
    rw [lenAt_of (rowsOf_get n D hi), lenAt_of (rowsOf_get n D (i := 0) (by omega))]
    simp

set_option maxHeartbeats 800000 in
theorem even1_any (L : List (List UInt8)) (B : Option Addr) (d g : Nat) (i : Nat) (l : List UInt8) (x : Value) (w : World) (hl : L[i]? = some l) (hx : By w x l) (hb : Ls w (.slice B L.length d) L) (hc : w.cell? ⟨g, 0, none⟩ = some (.slice B L.length d)) :
    Calls Try.prog 121 #[x, .pointer (some ⟨g, 0, none⟩)] w fun e w' => e = .returned (.bool (decide (lenAt L i ≠ lenAt L 0))) ∧ Below w.heap.size w w' := by
  have hlt : i < L.length := (List.getElem?_eq_some_iff.1 hl).1
  obtain ⟨l0, hl0⟩ : ∃ l0, L[0]? = some l0 := ⟨_, List.getElem?_eq_getElem (by omega)⟩
  rw [lenAt_of hl, lenAt_of hl0]
  obtain ⟨B', d', he, _, _, hcell⟩ := hb.form
  injection he with e1 _ e3
  subst e1 e3
  obtain ⟨b, o, y, rfl, _, hcy, hby⟩ := hcell 0 l0 hl0
  obtain ⟨A1, c1, rfl, _, _, _⟩ := hx.form
  obtain ⟨A2, c2, rfl, _, _, _⟩ := hby.form
  rw [Nat.add_zero] at hcy
  have i0 : (0 : Int) < (L.length : Int) := by omega
  have hd : ((l.length : Int) != (l0.length : Int)) = decide (l.length ≠ l0.length) := by
    by_cases h : l.length = l0.length
    · rw [h]; simp
    · rw [decide_eq_true h, bne_iff_ne]; omega
  clear hl hx hb hby hl0 hcell
  generalize decide (l.length ≠ l0.length) = r at *
  go_enter Try.func121, Try.ntmps121
  go_wp2
  try go_quiet (fail)
  go_wp2
  go_ret
  exact ⟨rfl, by first | exact Below.refl _ _ | exact below_drewN (Below.refl _ _) _⟩

set_option maxHeartbeats 800000 in
theorem even_any (vb : Value) (L : List (List UInt8)) (w : World) (hb : Ls w vb L) :
    Calls Try.prog 70 #[vb] w fun e w' => e = .returned (.bool (evenB L)) ∧ Below w.heap.size w w' := by
  have HB := hide hb
  obtain ⟨B, d, rfl, _, _, _⟩ := hb.form
  clear hb
  have n1 := Blk.new w 43 #[.slice B L.length d]
  have n2 := (Below.refl w.heap.size w).alloc (Nat.le_refl _) (.cells #[.slice B L.length d] 43)
  have H := hide (And.intro n1 n2)
  clear n1 n2
  have hcont : ∀ (w' : World) (g : Nat), Ls w' (.slice B L.length d) L → w'.cell? ⟨g, 0, none⟩ = some (.slice B L.length d) → g < w'.heap.size → Calls Try.prog 120 #[.slice B L.length d, .func (.func 121) #[] #[.pointer (some ⟨g, 0, none⟩)]] w' fun e w'' =>
      e = .returned (.bool (anyB (fun i => decide (lenAt L i ≠ lenAt L 0)) L.length)) ∧ Below w'.heap.size w' w'' := by
    intro w' g h1 h2 hg
    have q := index_any (.slice B L.length d) L 121 #[.pointer (some ⟨g, 0, none⟩)] (fun i => decide (lenAt L i ≠ lenAt L 0)) w' h1 (enters_of Try.func121 (by kernel_rfl) rfl) (fun i l x w2 hl hx hbel =>
      even1_any L B d g i l x w2 hl (hx.below hbel) (h1.below hbel) ((hbel.cell (p := ⟨g, 0, none⟩) hg).trans h2))
    clear h1 h2 hg
    generalize anyB (fun i => decide (lenAt L i ≠ lenAt L 0)) L.length = r at *
    go_enter Try.func120, Try.ntmps120
    go_wp2_with fail
    refine q.mono ?_
    rintro e w2 ⟨⟨n, rfl, hn⟩, hb2⟩
    go_wp2
    go_ret
    exact ⟨ret_bool (by first | rfl | exact hn), hb2⟩
  unfold evenB
  have hcont := hcont (w.alloc (.cells #[.slice B L.length d] 43)) w.heap.size (HB.out.below H.out.2) (by rw [H.out.1.cell]; rfl) (by simp)
  generalize anyB (fun i => decide (lenAt L i ≠ lenAt L 0)) L.length = r at *
  go_enter Try.func70, Try.ntmps70
  go_wp2_with fail
  refine hcont.mono ?_
  rintro e w2 ⟨rfl, hb2⟩
  go_wp2
  go_ret
  exact ⟨rfl, H.out.2.trans (hb2.mono H.out.2.size)⟩

/-! ### The code -/
/-- A code of k and n: its block holds the matrix. -/
def Cd (w : World) (gc k n : Nat) : Prop := ∃ g base, Blk w gc 118 #[.pointer (some ⟨g, 0, none⟩)] ∧ Mx w base g (rowsOf k (ent k) n)
theorem Cd.below {w w' : World} {gc k n : Nat} (h : Cd w gc k n) (hb : Below w.heap.size w w') : Cd w' gc k n := by
  obtain ⟨g, base, h1, h2⟩ := h
  exact ⟨g, base, h1.below' hb, h2.below hb⟩

theorem cmade_any (gc k n : Nat) (w : World) (h : Cd w gc k n) :
    Calls Try.prog 68 #[.pointer (some ⟨gc, 0, none⟩)] w fun e w' => e = .returned (.bool true) ∧ w = w' := by
  obtain ⟨g, base, h1, _⟩ := h
  have hc : w.cell? ⟨gc, 0, none⟩ = some (.pointer (some ⟨g, 0, none⟩)) := by rw [h1.cell]; rfl
  clear h1
  go_enter Try.func68, Try.ntmps68
  go_wp2
  go_ret
  exact ⟨rfl, rfl⟩
theorem ck_any (gc k n : Nat) (w : World) (h : Cd w gc k n) (hn : 0 < n) :
    Calls Try.prog 69 #[.pointer (some ⟨gc, 0, none⟩)] w fun e w' => e = .returned (.int .i64 (k : Int)) ∧ w = w' := by
  have q1 := cmade_any gc k n w h
  obtain ⟨g, base, h1, h2⟩ := h
  have q2 := mcols_any base g _ _ w h2 (rowsOf_get k (ent k) hn)
  rw [List.length_map, List.length_range] at q2
  have hc : w.cell? ⟨gc, 0, none⟩ = some (.pointer (some ⟨g, 0, none⟩)) := by rw [h1.cell]; rfl
  clear h1 h2
  go_enter Try.func69, Try.ntmps69
  go_wp2_with fail
  refine q1.mono ?_
  rintro e w' ⟨rfl, rfl⟩
  go_wp2_with fail
  refine q2.mono ?_
  rintro e w' ⟨rfl, rfl⟩
  go_wp2
  go_ret
  exact ⟨rfl, rfl⟩
theorem cn_any (gc k n : Nat) (w : World) (h : Cd w gc k n) :
    Calls Try.prog 71 #[.pointer (some ⟨gc, 0, none⟩)] w fun e w' => e = .returned (.int .i64 (n : Int)) ∧ w = w' := by
  have q1 := cmade_any gc k n w h
  obtain ⟨g, base, h1, h2⟩ := h
  have q2 := mrows_any base g _ w h2
  rw [rowsOf_length] at q2
  have hc : w.cell? ⟨gc, 0, none⟩ = some (.pointer (some ⟨g, 0, none⟩)) := by rw [h1.cell]; rfl
  clear h1 h2
  go_enter Try.func71, Try.ntmps71
  go_wp2_with fail
  refine q1.mono ?_
  rintro e w' ⟨rfl, rfl⟩
  go_wp2_with fail
  refine q2.mono ?_
  rintro e w' ⟨rfl, rfl⟩
  go_wp2
  go_ret
  exact ⟨rfl, rfl⟩

/-! ### New -/
/-- The elements row by row, as far as row i, place j. -/
def flatR (k : Nat) : Nat → List UInt8
  | 0 => []
  | i + 1 => flatR k i ++ (List.range k).map (ent k i)
theorem flatR_length (k i : Nat) : (flatR k i).length = i * k := by
  induction i with
  | zero => simp [flatR]
  | succ i ih => simp [flatR, ih, Nat.succ_mul]
theorem flatR_get (k n i j : Nat) (hi : i < n) (hj : j < k) : (flatR k n)[i * k + j]? = some (ent k i j) := by
  induction n with
  | zero => omega
  | succ n ih =>
    simp only [flatR]
    by_cases h : i < n
    · have : i * k + j < n * k := by
        have : (i + 1) * k ≤ n * k := Nat.mul_le_mul_right _ h
        rw [Nat.succ_mul] at this
        omega
      rw [List.getElem?_append_left (by rw [flatR_length]; exact this)]
      exact ih h
    · have hin : i = n := by omega
      subst hin
      rw [List.getElem?_append_right (by rw [flatR_length]; omega), flatR_length, show i * k + j - i * k = j by omega, List.getElem?_map, List.getElem?_range hj]
      rfl
theorem range_map_succ (f : Nat → UInt8) (j : Nat) : (List.range (j + 1)).map f = (List.range j).map f ++ [f j] := by simp [List.range_succ]

theorem rsnew_bad (k n : Int) (w : World) (h : ¬ (1 ≤ k ∧ k ≤ n ∧ n ≤ 255)) :
    Calls Try.prog 25 #[.int .i64 k, .int .i64 n] w fun e w' => e = .returned (.tuple #[.pointer none, .int .i64 3]) ∧ w = w' := by
  by_cases h1 : n < 1
  · go_enter Try.func25, Try.ntmps25
    go_wp2
    go_ret2
    exact ⟨rfl, rfl⟩
  · by_cases h2 : n > 255
    · go_enter Try.func25, Try.ntmps25
      go_wp2
      go_ret2
      exact ⟨rfl, rfl⟩
    · by_cases h3 : k < 1
      · go_enter Try.func25, Try.ntmps25
        go_wp2
        go_ret2
        exact ⟨rfl, rfl⟩
      · have h4 : k > n := by omega
        go_enter Try.func25, Try.ntmps25
        go_wp2
        go_ret2
        exact ⟨rfl, rfl⟩

theorem i64_xor (a b : Nat) (ha : a < 256) (hb : b < 256) : bits .xor .i64 (a : Int) (b : Int) = ((a ^^^ b : Nat) : Int) := by
  have hx := xor_lt ha hb
  have h1 : (BitVec.ofInt 64 (a : Int)).toNat = a := by
    rw [BitVec.ofInt_natCast, BitVec.toNat_ofNat]; exact Nat.mod_eq_of_lt (by omega)
  have h2 : (BitVec.ofInt 64 (b : Int)).toNat = b := by
    rw [BitVec.ofInt_natCast, BitVec.toNat_ofNat]; exact Nat.mod_eq_of_lt (by omega)
  show IntKind.i64.wrap ((BitVec.ofInt 64 (a : Int) ^^^ BitVec.ofInt 64 (b : Int)).toNat : Int) = _
  rw [BitVec.toNat_xor, h1, h2]
  simp [IntKind.wrap, IntKind.bits, IntKind.signed]
  omega

set_option maxRecDepth 100000 in
set_option maxHeartbeats 3200000 in
theorem rsnew_any (k n : Nat) (w : World) (h1 : 1 ≤ k) (h2 : k ≤ n) (h3 : n ≤ 255) :
    Calls Try.prog 25 #[.int .i64 (k : Int), .int .i64 (n : Int)] w fun e w' => ∃ gc, e = .returned (.tuple #[.pointer (some ⟨gc, 0, none⟩), .int .i64 0]) ∧ Cd w' gc k n ∧ Below w.heap.size w w' := by
  have hm : n * k ≤ 65536 := Nat.le_trans (Nat.mul_le_mul h3 (by omega : k ≤ 255)) (by omega)
  have hw1 : IntKind.i64.wrap ((n : Int) * (k : Int)) = ((n * k : Nat) : Int) := by
    rw [← Int.natCast_mul]
    simp [IntKind.wrap, IntKind.bits, IntKind.signed]
    omega
  obtain ⟨M, hM⟩ : ∃ M, M = n * k := ⟨_, rfl⟩
  rw [← hM] at hm hw1
  have HM := hide hM
  clear hM
  have a1 : ¬ (n : Int) < 1 := by omega
  have a2 : ¬ (n : Int) > 255 := by omega
  have a3 : ¬ (k : Int) < 1 := by omega
  have a4 : ¬ (k : Int) > (n : Int) := by omega
  obtain ⟨z, hi, hz, g1, g2⟩ := info_parts elem8.hi
  have HI := hide (And.intro hi (And.intro hz (And.intro g1 g2)))
  clear hi hz g1 g2
  go_enter Try.func25, Try.ntmps25
  go_wp2_with (at_make; refine wpList_make_own w rfl _ _ 38 rfl w.heap.size 5 z (.int .u8 0) 1 Try.underlying38 HI.out.1 HI.out.2.1 HI.out.2.2.1 .i64 .i64 _ M rfl rfl rfl (by rw [HI.out.2.2.2]; omega) (by unfold maxLen; omega) (Nat.le_refl _) ?_; intro w1 ho1 hg1)
  have HO := hide (show Own w1 w.heap.size 5 (.slice (some ⟨w.heap.size, 0, none⟩) 0 M) (flatR k 0) from ho1)
  have hb1 : Below w.heap.size w w1 := (Below.refl w.heap.size w).grown hg1 (Nat.le_refl _) (fun k hk => by cases hk)
  clear ho1 hg1 HI
  go_loopw [6, 7, 8, 9, 32, 36] (fun u6 _ _ _ u32 _ wr => ∃ i : Nat, i ≤ n ∧ u32 = .int .i64 (i : Int) ∧ Own wr w.heap.size 5 u6 (flatR k i) ∧ Below w.heap.size w wr) (fun _ _ _ _ u32 _ _ => n - (intOf u32).toNat)
  case atStart => exact ⟨0, by omega, rfl, HO.out, hb1⟩
  case round =>
    clear HO hb1
    obtain ⟨i, hi, rfl, hown, hbel⟩ := hrel
    have HO := hide hown
    clear hown
    by_cases hlt : i < n
    · have i1 : (i : Int) < (n : Int) := by omega
      have i2 : (0 : Int) ≤ (i : Int) := by omega
      have hik : i * k ≤ 65536 := Nat.le_trans (Nat.mul_le_mul (by omega : i ≤ 255) (by omega : k ≤ 255)) (by omega)
      have hlen : ∀ j, j < k → (flatR k i ++ (List.range j).map (ent k i)).length + 1 ≤ 140737488355328 := fun j hj => by
        rw [List.length_append, flatR_length, List.length_map, List.length_range]; omega
      have HL := hide hlen
      clear hlen hik
      go_wp2
      go_loopw [6, 8, 9, 36] (fun u6 _ _ u36 wr => ∃ j : Nat, j ≤ k ∧ u36 = .int .i64 (j : Int) ∧ Own wr w.heap.size 5 u6 (flatR k i ++ (List.range j).map (ent k i)) ∧ Below w.heap.size w wr) (fun _ _ _ u36 _ => k - (intOf u36).toNat)
      case atStart => exact ⟨0, by omega, rfl, by simpa using HO.out, hbel⟩
      case round =>
        clear HO hbel
        obtain ⟨j, hj, rfl, hown, hbel⟩ := hrel
        have HO := hide hown
        clear hown
        by_cases hjl : j < k
        · have j1 : (j : Int) < (k : Int) := by omega
          have j2 : (0 : Int) ≤ (j : Int) := by omega
          have HLJ := hide (HL.out j hjl)
          by_cases hki : k ≤ i
          · have c1 : (i : Int) ≥ (k : Int) := by omega
            have hx := i64_xor i j (by omega) (by omega)
            have hxl := xor_lt (a := i) (b := j) (by omega) (by omega)
            have HE := hide (show ent k i j = binv (UInt8.ofNat (i ^^^ j)) by unfold ent; rw [if_pos hki])
            generalize i ^^^ j = X at *
            have q := ginv_any (UInt8.ofNat X) wr
            rw [ofNat_toNat8 hxl] at q
            generalize binv (UInt8.ofNat X) = R at *
            go_wp2_with fail
            refine q.mono ?_
            rintro e w' ⟨⟨nn, rfl, hnn⟩, rfl⟩
            clear hnn
            go_wp2_with (at_builtin; go_loud (refine wpList_pushB elem8 HO.out hbel hbel.size HLJ.out R rfl _ _ rfl rfl rfl ?_); intro v1 w2 hown1 hbel1 _ _)
            go_roundw
            case rel => exact ⟨j + 1, by omega, by go_num, by rw [range_map_succ, ← List.append_assoc, HE.out]; exact hown1, hbel1⟩
            case measure => simp [intOf]; omega
          · have c1 : ¬ (i : Int) ≥ (k : Int) := by omega
            by_cases hij : i = j
            · have c2 : ((i : Int) == (j : Int)) = true := by rw [hij]; simp
              have HE := hide (show ent k i j = 1 by unfold ent; rw [if_neg hki, if_pos hij])
              clear hij
              go_wp2_with (at_builtin; go_loud (refine wpList_pushB elem8 HO.out hbel hbel.size HLJ.out 1 rfl _ _ rfl rfl rfl ?_); intro v1 w2 hown1 hbel1 _ _)
              go_roundw
              case rel => exact ⟨j + 1, by omega, by go_num, by rw [range_map_succ, ← List.append_assoc, HE.out]; exact hown1, hbel1⟩
              case measure => simp [intOf]; omega
            · have c2 : ((i : Int) == (j : Int)) = false := by simp only [beq_eq_false_iff_ne]; omega
              have HE := hide (show ent k i j = 0 by unfold ent; rw [if_neg hki, if_neg hij])
              go_wp2_with (at_builtin; go_loud (refine wpList_pushB elem8 HO.out hbel hbel.size HLJ.out 0 rfl _ _ rfl rfl rfl ?_); intro v1 w2 hown1 hbel1 _ _)
              go_roundw
              case rel => exact ⟨j + 1, by omega, by go_num, by rw [range_map_succ, ← List.append_assoc, HE.out]; exact hown1, hbel1⟩
              case measure => simp [intOf]; omega
        · have hjk : j = k := by omega
          have HO := hide (show Own wr w.heap.size 5 _ (flatR k (i + 1)) by have h := HO.out; rw [hjk] at h; exact h)
          clear hjk
          go_wp2
          go_roundw
          case rel => exact ⟨i + 1, by omega, by go_num, HO.out, hbel⟩
          case measure => simp [intOf]; omega
    · have hin : i = n := by omega
      have HO := hide (show Own wr w.heap.size 5 _ (flatR k n) by rw [← hin]; exact HO.out)
      clear hin
      have q := mnew_any n k (ent k) _ (flatR k n) wr ⟨by omega, by omega⟩ ⟨by omega, by omega⟩ HO.out.by_ (flatR_length k n) (fun i j hi hj => flatR_get k n i j hi hj)
      go_wp2_with fail
      refine q.mono ?_
      rintro e w' ⟨g, base, rfl, hbase, hmx, hb2⟩
      have HM2 := hide hmx
      clear hmx q
      go_wp2
      go_ret2
      refine ⟨w'.heap.size, rfl, ⟨g, base, Blk.new w' _ _, HM2.out.below ((Below.refl _ _).alloc (Nat.le_refl _) _)⟩, (hbel.trans (hb2.mono hbel.size)).alloc ?_ _⟩
      exact Nat.le_trans hbel.size hb2.size
end Go.Proofs.Ytoaaplngdomdcaa
