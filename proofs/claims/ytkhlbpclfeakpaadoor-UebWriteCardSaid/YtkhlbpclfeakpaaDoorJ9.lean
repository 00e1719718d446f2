/- Joined texts: TagA, TagF, TagB, TagC, TagD, ShaA, ShaB. -/
import Derived.Test.YtkhlbpclfeakpaaDoorJ8
import Derived.Test.YtkhlbpclfeakpaaDoorJ1

/- Tags: their words, and lists of bytes with their lengths ahead. -/
namespace Go.Proofs.YtkhlbpclfeakpaaDoor
open Go.RowKit

/-- A tag's word. -/
def tagB : Nat → ByteArray
  | 1 => ⟨#[115, 116, 114, 111, 110, 103, 114, 111, 111, 109, 32, 107, 101, 121]⟩
  | 2 => ⟨#[115, 116, 114, 111, 110, 103, 114, 111, 111, 109, 32, 105, 110, 100, 101, 120]⟩
  | 3 => ⟨#[115, 116, 114, 111, 110, 103, 114, 111, 111, 109, 32, 98, 108, 111, 99, 107]⟩
  | 4 => ⟨#[115, 116, 114, 111, 110, 103, 114, 111, 111, 109, 32, 115, 101, 103, 109, 101, 110, 116]⟩
  | 5 => ⟨#[115, 116, 114, 111, 110, 103, 114, 111, 111, 109, 32, 114, 111, 111, 116]⟩
  | 6 => ⟨#[115, 116, 114, 111, 110, 103, 114, 111, 111, 109, 32, 110, 111, 100, 101]⟩
  | 7 => ⟨#[115, 116, 114, 111, 110, 103, 114, 111, 111, 109, 32, 112, 97, 100]⟩
  | 8 => ⟨#[115, 116, 114, 111, 110, 103, 114, 111, 111, 109, 32, 117, 101, 98]⟩
  | 9 => ⟨#[115, 116, 114, 111, 110, 103, 114, 111, 111, 109, 32, 114, 105, 110, 103]⟩
  | _ => ⟨#[]⟩
def frameL (l : List UInt8) : List UInt8 := bigL l.length 8 ++ l
@[simp] theorem frameL_length (l : List UInt8) : (frameL l).length = l.length + 8 := by simp [frameL]; omega
def framedL (L : List (List UInt8)) : List UInt8 := L.flatMap frameL
theorem framedL_snoc (L : List (List UInt8)) (x : List UInt8) : framedL (L ++ [x]) = framedL L ++ frameL x := by simp [framedL]
theorem framedL_length (L : List (List UInt8)) : (framedL L).length = (L.map List.length).sum + 8 * L.length := by
  induction L with
  | nil => rfl
  | cons x L ih => simp only [framedL, List.flatMap_cons, List.length_append, frameL_length, List.map_cons, List.sum_cons, List.length_cons] at ih ⊢; omega
set_option maxHeartbeats 1000000 in
theorem word_any (t : Nat) (ht : 1 ≤ t ∧ t ≤ 9) (w : World) : Calls Tryd.prog 140 #[.int .u8 (t : Int)] w fun e w' => e = .returned (.string (tagB t)) ∧ w = w' := by
  obtain rfl | rfl | rfl | rfl | rfl | rfl | rfl | rfl | rfl : t = 1 ∨ t = 2 ∨ t = 3 ∨ t = 4 ∨ t = 5 ∨ t = 6 ∨ t = 7 ∨ t = 8 ∨ t = 9 := by omega
  all_goals
    go_enter Tryd.func140, Tryd.ntmps140
    go_wp2
    go_ret
    exact ⟨rfl, rfl⟩
set_option maxHeartbeats 1000000 in
theorem rword_any (t : Nat) (ht : 1 ≤ t ∧ t ≤ 9) (w : World) : Calls Tryd.prog 121 #[.int .u8 (t : Int)] w fun e w' => e = .returned (.string (tagB t)) ∧ w = w' := by
  obtain rfl | rfl | rfl | rfl | rfl | rfl | rfl | rfl | rfl : t = 1 ∨ t = 2 ∨ t = 3 ∨ t = 4 ∨ t = 5 ∨ t = 6 ∨ t = 7 ∨ t = 8 ∨ t = 9 := by omega
  all_goals
    go_enter Tryd.func121, Tryd.ntmps121
    go_wp2
    go_ret
    exact ⟨rfl, rfl⟩
set_option maxHeartbeats 1000000 in
theorem rframe_any (v : Value) (l : List UInt8) (w : World) (hv : By w v l) (hl : l.length ≤ 1099511627776) :
    Calls Tryd.prog 123 #[v] w fun e w' => ∃ v', e = .returned v' ∧ Own w' w.heap.size 5 v' (frameL l) ∧ Below w.heap.size w w' := by
  obtain ⟨A, c, rfl, -, -, -⟩ := hv.form
  obtain ⟨n, hn⟩ : ∃ n, n = l.length := ⟨_, rfl⟩
  rw [← hn] at hv hl ⊢
  have HV := hide (And.intro hv hn)
  have c3 : IntKind.u64.wrap (n : Int) = (n : Int) := by simp [IntKind.wrap, IntKind.bits, IntKind.signed]; omega
  have Q := hide (fun w => rbig_any n 8 w (by omega) (by omega))
  clear hv hn
  go_enter Tryd.func123, Tryd.ntmps123
  go_wp2_with first
    | (go_at_call 132; refine (Q.out _).mono ?_; rintro e w1 ⟨v1, rfl, o1, b1⟩; go_loud (have H1 := hide (And.intro o1 (And.intro b1 (HV.out.1.below b1))); clear o1 b1))
    | (at_builtin; go_loud (refine wpList_pushV elem8 H1.out.1 H1.out.2.1 H1.out.2.1.size H1.out.2.2 (by rw [bigL_length, ← HV.out.2]; omega) rfl _ _ rfl rfl rfl ?_); intro v2 w2 o2 b2 _ _)
  go_ret
  refine ⟨_, rfl, ?_, b2⟩
  unfold frameL
  rw [← HV.out.2]
  exact o2
def parts (L : List (Value × List UInt8)) : List (List UInt8) := L.map (·.2)
theorem parts_len (L : List (Value × List UInt8)) : ((parts L).map List.length).sum = total L := by simp [parts, total, List.map_map, Function.comp_def]
theorem framed_len (L : List (Value × List UInt8)) (k : Nat) (h : total L ≤ 1099511627776) (hk : L.length ≤ 1000000) : (framedL (parts (L.take k))).length ≤ 1200000000000 := by
  rw [framedL_length, parts_len]
  have := total_take L k
  simp [parts]
  omega
set_option maxRecDepth 100000 in
set_option maxHeartbeats 1000000 in
theorem framed_any (v : Value) (L : List (Value × List UInt8)) (w : World) (h : Lsts w v L) (ht : total L ≤ 1099511627776) (hk : L.length ≤ 1000000) :
    Calls Tryd.prog 142 #[v] w fun e w' => ∃ v', e = .returned v' ∧ Own w' w.heap.size 5 v' (framedL (parts L)) ∧ Below w.heap.size w w' := by
  have HL := hide h
  obtain ⟨A, c, rfl, hc, hm, hcell⟩ := h.1.form
  have HC := hide hcell
  have HT := hide (And.intro ht hk)
  unfold maxLen at hm
  clear h hcell ht hk
  go_enter Tryd.func142, Tryd.ntmps142
  go_wp2
  go_loopw [3, 8] (fun u3 u8 wr => ∃ k : Nat, k ≤ L.length ∧ u8 = .int .i64 k ∧ Own wr w.heap.size 5 u3 (framedL (parts (L.take k))) ∧ Below w.heap.size w wr) (fun _ i _ => L.length - (intOf i).toNat)
  case atStart => exact ⟨0, by omega, rfl, Own.nil _ _ _, Below.refl _ _⟩
  case round =>
    obtain ⟨k, hk, rfl, ho, hb⟩ := hrel
    have HO := hide ho
    clear ho
    by_cases hlt : k < L.length
    · obtain ⟨x, hx⟩ : ∃ x, L[k]? = some x := ⟨_, List.getElem?_eq_getElem hlt⟩
      obtain ⟨b, o, rfl, hbl, hcs⟩ := HC.out (by omega)
      have hcx : wr.cell? ⟨b, o + k, none⟩ = some x.1 := by rw [hb.cell (p := ⟨b, o + k, none⟩) hbl, hcs k (by omega)]; simp [hx]
      have hby := HL.out.2 x (List.mem_of_getElem? hx)
      have hxt : x.2.length ≤ 1099511627776 := by
        have h1 := total_take L (k + 1)
        rw [take_snoc L k x hx, total_snoc] at h1
        have := HT.out.1
        omega
      have hfl := framed_len L k HT.out.1 HT.out.2
      have hcat : framedL (parts (L.take (k + 1))) = (framedL (parts (L.take k)) ++ bigL x.2.length 8) ++ x.2 := by
        rw [take_snoc L k x hx, parts, List.map_append, List.map_cons, List.map_nil, framedL_snoc, frameL, List.append_assoc]; rfl
      obtain ⟨A2, c2, hv2, -, -, -⟩ := hby.form
      rw [hv2] at hcx hby
      obtain ⟨y, hy⟩ : ∃ y : Nat, y = x.2.length := ⟨_, rfl⟩
      rw [← hy] at hcx hby hxt hcat
      have HX := hide (And.intro hby (And.intro hy (And.intro hcat hfl)))
      have c3 : IntKind.u64.wrap (y : Int) = (y : Int) := by simp [IntKind.wrap, IntKind.bits, IntKind.signed]; omega
      have Q := hide (fun w => big64_any y w (by omega))
      have i1 : (k : Int) < (L.length : Int) := by omega
      have i2 : (0 : Int) ≤ (k : Int) := by omega
      clear hby hcs hx hv2 hcat hfl hy
      go_wp2_with first
        | (go_at_call 158; refine (Q.out _).mono ?_; rintro e w1 ⟨b1, rfl, o1⟩; go_loud (have H1 := hide (And.intro (HO.out.below b1) (And.intro (hb.trans (b1.mono hb.size)) o1.by_)); clear b1 o1))
        | (at_builtin; go_loud (first
            | (refine wpList_pushV elem8 H1.out.1 H1.out.2.1 H1.out.2.1.size H1.out.2.2 (by have := HX.out.2.2.2; simp; omega) rfl _ _ rfl rfl rfl ?_; intro v2 w2 o2 b2 g2 _)
            | (refine wpList_pushV elem8 o2 b2 b2.size (HX.out.1.below b2) (by have := HX.out.2.2.2; have := HX.out.2.1; simp; omega) rfl _ _ rfl rfl rfl ?_; intro v3 w3 o3 b3 g3 _)))
      go_roundw
      case rel => exact ⟨k + 1, by omega, by go_num, by rw [HX.out.2.2.1]; exact o3, b3⟩
      case measure => simp [intOf]; omega
    · have hkl : k = L.length := by omega
      subst hkl
      go_wp2
      go_ret
      refine ⟨_, rfl, ?_, hb⟩
      have := HO.out
      rwa [List.take_length] at this
end Go.Proofs.YtkhlbpclfeakpaaDoor

/- Tags with one part of a length of its own: Index, Root, Pad. -/
namespace Go.Proofs.YtkhlbpclfeakpaaDoor
open Go.RowKit

/-- The tags with one part of so many bytes. -/
def one2 (t k : Nat) : Prop := (t = 2 ∧ k = 16) ∨ (t = 5 ∧ k = 32) ∨ (t = 7 ∧ k = 4)
theorem one2_in {t k : Nat} (h : one2 t k) : 1 ≤ t ∧ t ≤ 9 := by unfold one2 at h; omega
set_option maxHeartbeats 400000 in
theorem just_any (k : Int) (w : World) : Calls Tryd.prog 171 #[.int .i64 k] w fun e w' => ∃ p, e = .returned (.func (.func 179) #[] #[.pointer (some ⟨p, 0, none⟩)]) ∧ Below w.heap.size w w' ∧ Blk w' p 3 #[.int .i64 k] := by
  go_enter Tryd.func171, Tryd.ntmps171
  go_wp2
  go_ret
  exact ⟨_, rfl, (Below.refl _ w).alloc (Nat.le_refl _) _, Blk.new _ _ _⟩
set_option maxHeartbeats 400000 in
theorem just1_any (p : Nat) (k n : Int) (w : World) (h : w.cell? ⟨p, 0, none⟩ = some (.int .i64 k)) : Calls Tryd.prog 179 #[.int .i64 n, .pointer (some ⟨p, 0, none⟩)] w fun e w' => e = .returned (.bool (n == k)) ∧ w = w' := by
  go_enter Tryd.func179, Tryd.ntmps179
  go_wp2
  go_ret
  exact ⟨rfl, rfl⟩
set_option maxHeartbeats 2000000 in
theorem bounds_two (t k : Nat) (ht : one2 t k) (w : World) : Calls Tryd.prog 157 #[.int .u8 (t : Int)] w fun e w' => ∃ g p, e = .returned (.slice (some ⟨g, 0, none⟩) 1 1) ∧ Below w.heap.size w w' ∧ Blk w' g 203 #[.func (.func 179) #[] #[.pointer (some ⟨p, 0, none⟩)]] ∧ w'.cell? ⟨p, 0, none⟩ = some (.int .i64 (k : Int)) := by
  rcases ht with ⟨rfl, rfl⟩ | ⟨rfl, rfl⟩ | ⟨rfl, rfl⟩
  all_goals
    go_enter Tryd.func157, Tryd.ntmps157
    go_wp2_with fail
    refine (just_any _ w).mono ?_
    rintro e w1 ⟨p, rfl, b1, hp⟩
    have HP := hide hp
    have HB := hide b1
    clear hp b1
    go_wp2
    go_ret
    exact ⟨_, p, rfl, HB.out.alloc HB.out.size _, Blk.new _ _ _, ((HP.out.alloc _).cell 0).trans rfl⟩
set_option maxHeartbeats 2000000 in
theorem fit_two (t k : Nat) (ht : one2 t k) (b o c : Nat) (Ap : Option Addr) (cp : Nat) (w : World) (hb : b < w.heap.size) (hc : w.cell? ⟨b, o, none⟩ = some (.slice Ap k cp)) : Calls Tryd.prog 141 #[.int .u8 (t : Int), .slice (some ⟨b, o, none⟩) 1 c] w fun e w' => e = .returned (.bool true) ∧ Below w.heap.size w w' := by
  have Q := hide (fun w => bounds_two t k ht w)
  go_enter Tryd.func141, Tryd.ntmps141
  go_wp2_with fail
  refine (Q.out _).mono ?_
  rintro e w1 ⟨g, p, rfl, b1, hg, hp⟩
  have hc1 : w1.cell? ⟨b, o, none⟩ = some (.slice Ap k cp) := (b1.cell (p := ⟨b, o, none⟩) hb).trans hc
  have hc2 : w1.cell? ⟨g, 0, none⟩ = some (.func (.func 179) #[] #[.pointer (some ⟨p, 0, none⟩)]) := (hg.cell 0).trans rfl
  have HB := hide b1
  have QA := hide (just1_any p (k : Int) (k : Int) w1 hp)
  clear b1 hg hc hp
  go_wp2
  go_loopw [17] (fun u17 wr => (u17 = .int .i64 0 ∨ u17 = .int .i64 1) ∧ w1 = wr) (fun u17 _ => 1 - (intOf u17).toNat)
  case atStart => exact ⟨.inl rfl, rfl⟩
  case round =>
    obtain ⟨rfl | rfl, rfl⟩ := hrel
    · go_wp2_with (go_at_call 179; refine QA.out.mono ?_; rintro e w2 ⟨rfl, rfl⟩; rw [show ((k : Int) == (k : Int)) = true from by simp])
      go_roundw
      case rel => exact ⟨.inr rfl, trivial⟩
      case measure => simp [intOf]
    · go_wp2
      go_ret
      exact ⟨rfl, HB.out⟩
set_option maxHeartbeats 4000000 in
theorem rfits_two (t k : Nat) (ht : one2 t k) (b o c : Nat) (Ap : Option Addr) (cp : Nat) (w : World) (hc : w.cell? ⟨b, o, none⟩ = some (.slice Ap k cp)) : Calls Tryd.prog 122 #[.int .u8 (t : Int), .slice (some ⟨b, o, none⟩) 1 c] w fun e w' => e = .returned (.bool true) ∧ w = w' := by
  rcases ht with ⟨rfl, rfl⟩ | ⟨rfl, rfl⟩ | ⟨rfl, rfl⟩
  all_goals
    go_enter Tryd.func122, Tryd.ntmps122
    go_wp2
    go_ret
    exact ⟨rfl, rfl⟩
end Go.Proofs.YtkhlbpclfeakpaaDoor

/- Tags: which parts go with a tag; the tagged bytes of one part. -/
namespace Go.Proofs.YtkhlbpclfeakpaaDoor
open Go.RowKit

theorem own_lower {w : World} {b b' : Nat} {e : TypeId} {v : Value} {l : List UInt8} (h : Own w b e v l) (hb : b' ≤ b) : Own w b' e v l := by
  obtain ⟨h1, h2 | ⟨g, cap, cur, hv, hg, r⟩⟩ := h
  · exact ⟨h1, .inl h2⟩
  · exact ⟨h1, .inr ⟨g, cap, cur, hv, Nat.le_trans hb hg, r⟩⟩
/-- The tags with one part of any length. -/
def one1 (t : Nat) : Prop := t = 3 ∨ t = 4 ∨ t = 8
theorem one1_in {t : Nat} (h : one1 t) : 1 ≤ t ∧ t ≤ 9 := by unfold one1 at h; omega
set_option maxHeartbeats 2000000 in
theorem rfits_one (t : Nat) (ht : one1 t) (A : Option Addr) (c : Nat) (w : World) : Calls Tryd.prog 122 #[.int .u8 (t : Int), .slice A 1 c] w fun e w' => e = .returned (.bool true) ∧ w = w' := by
  rcases ht with rfl | rfl | rfl
  all_goals
    go_enter Tryd.func122, Tryd.ntmps122
    go_wp2
    go_ret
    exact ⟨rfl, rfl⟩
set_option maxHeartbeats 2000000 in
theorem bounds_one (t : Nat) (ht : one1 t) (w : World) : Calls Tryd.prog 157 #[.int .u8 (t : Int)] w fun e w' => ∃ g, e = .returned (.slice (some ⟨g, 0, none⟩) 1 1) ∧ Below w.heap.size w w' ∧ Blk w' g 203 #[.func (.func 169) #[] #[]] := by
  rcases ht with rfl | rfl | rfl
  all_goals
    go_enter Tryd.func157, Tryd.ntmps157
    go_wp2
    go_ret
    exact ⟨_, rfl, (Below.refl _ w).alloc (Nat.le_refl _) _, Blk.new _ _ _⟩
set_option maxHeartbeats 400000 in
theorem bany_any (n : Int) (w : World) : Calls Tryd.prog 169 #[.int .i64 n] w fun e w' => e = .returned (.bool true) ∧ w = w' := by
  go_enter Tryd.func169, Tryd.ntmps169
  go_wp2
  go_ret
  exact ⟨rfl, rfl⟩
set_option maxHeartbeats 2000000 in
theorem fit_one (t : Nat) (ht : one1 t) (b o c : Nat) (Ap : Option Addr) (n cp : Nat) (w : World) (hb : b < w.heap.size) (hc : w.cell? ⟨b, o, none⟩ = some (.slice Ap n cp)) : Calls Tryd.prog 141 #[.int .u8 (t : Int), .slice (some ⟨b, o, none⟩) 1 c] w fun e w' => e = .returned (.bool true) ∧ Below w.heap.size w w' := by
  have Q := hide (fun w => bounds_one t ht w)
  have QA := hide (fun n w => bany_any n w)
  go_enter Tryd.func141, Tryd.ntmps141
  go_wp2_with fail
  refine (Q.out _).mono ?_
  rintro e w1 ⟨g, rfl, b1, hg⟩
  have hc1 : w1.cell? ⟨b, o, none⟩ = some (.slice Ap n cp) := (b1.cell (p := ⟨b, o, none⟩) hb).trans hc
  have hc2 : w1.cell? ⟨g, 0, none⟩ = some (.func (.func 169) #[] #[]) := (hg.cell 0).trans rfl
  have HB := hide b1
  clear b1 hg hc
  go_wp2
  go_loopw [17] (fun u17 wr => (u17 = .int .i64 0 ∨ u17 = .int .i64 1) ∧ w1 = wr) (fun u17 _ => 1 - (intOf u17).toNat)
  case atStart => exact ⟨.inl rfl, rfl⟩
  case round =>
    obtain ⟨rfl | rfl, rfl⟩ := hrel
    · go_wp2_with (go_at_call 169; refine (QA.out _ _).mono ?_; rintro e w2 ⟨rfl, rfl⟩)
      go_roundw
      case rel => exact ⟨.inr rfl, trivial⟩
      case measure => simp [intOf]
    · go_wp2
      go_ret
      exact ⟨rfl, HB.out⟩
/-- A tag, and how many bytes its one part has. -/
def okT (t n : Nat) : Prop := one1 t ∨ one2 t n
theorem okT_in {t n : Nat} (h : okT t n) : 1 ≤ t ∧ t ≤ 9 := h.elim one1_in one2_in
theorem tag_ne {t : Nat} (h : 1 ≤ t ∧ t ≤ 9) : (tagB t).toList.isEmpty = false := by
  obtain rfl | rfl | rfl | rfl | rfl | rfl | rfl | rfl | rfl : t = 1 ∨ t = 2 ∨ t = 3 ∨ t = 4 ∨ t = 5 ∨ t = 6 ∨ t = 7 ∨ t = 8 ∨ t = 9 := by omega
  all_goals (rw [ByteArray.toList_eq]; rfl)
theorem tag_len {t : Nat} (h : 1 ≤ t ∧ t ≤ 9) : (tagB t).size ≤ 20 := by
  obtain rfl | rfl | rfl | rfl | rfl | rfl | rfl | rfl | rfl : t = 1 ∨ t = 2 ∨ t = 3 ∨ t = 4 ∨ t = 5 ∨ t = 6 ∨ t = 7 ∨ t = 8 ∨ t = 9 := by omega
  all_goals decide
theorem rfits_okT (t n : Nat) (ht : okT t n) (b o c : Nat) (Ap : Option Addr) (cp : Nat) (w : World) (hc : w.cell? ⟨b, o, none⟩ = some (.slice Ap n cp)) : Calls Tryd.prog 122 #[.int .u8 (t : Int), .slice (some ⟨b, o, none⟩) 1 c] w fun e w' => e = .returned (.bool true) ∧ w = w' :=
  ht.elim (fun h => rfits_one t h _ c w) fun h => rfits_two t n h b o c Ap cp w hc
theorem fit_okT (t n : Nat) (ht : okT t n) (b o c : Nat) (Ap : Option Addr) (cp : Nat) (w : World) (hb : b < w.heap.size) (hc : w.cell? ⟨b, o, none⟩ = some (.slice Ap n cp)) : Calls Tryd.prog 141 #[.int .u8 (t : Int), .slice (some ⟨b, o, none⟩) 1 c] w fun e w' => e = .returned (.bool true) ∧ Below w.heap.size w w' :=
  ht.elim (fun h => fit_one t h b o c Ap n cp w hb hc) fun h => fit_two t n h b o c Ap cp w hb hc
set_option maxRecDepth 10000 in
set_option maxHeartbeats 4000000 in
theorem rbytes_one (t : Nat) (l : List UInt8) (ht : okT t l.length) (b o c : Nat) (Ap : Option Addr) (cp : Nat) (w : World) (hb : b < w.heap.size) (hc : w.cell? ⟨b, o, none⟩ = some (.slice Ap l.length cp)) (hv : By w (.slice Ap l.length cp) l) (hl : l.length ≤ 1099511627000) :
    Calls Tryd.prog 112 #[.int .u8 (t : Int), .slice (some ⟨b, o, none⟩) 1 c] w fun e w' => ∃ v', e = .returned (.tuple #[v', .int .i64 0]) ∧ Own w' w.heap.size 5 v' (framedL [lst (tagB t), l]) ∧ Below w.heap.size w w' := by
  have hne : (tagB t).toList.isEmpty = false := tag_ne (okT_in ht)
  have htl : (tagB t).size ≤ 20 := tag_len (okT_in ht)
  have QW := hide (fun w => rword_any t (okT_in ht) w)
  have QF := hide (rfits_okT t l.length ht b o c Ap cp w hc)
  obtain ⟨s, hs⟩ : ∃ s, s = tagB t := ⟨_, rfl⟩
  rw [← hs] at QW hne htl ⊢
  obtain ⟨n, hn⟩ : ∃ n, n = l.length := ⟨_, rfl⟩
  rw [← hn] at hc hv hl
  obtain ⟨g, cc, w2, hr, hby, b2, -, -, -, -⟩ := run_bytes_str 9 27 5 s w Tryd.underlying9 Tryd.underlying27 Tryd.underlying5 (by unfold maxLen; omega)
  have HB := hide (And.intro hby (And.intro b2 (And.intro hv (And.intro hn (And.intro hc (And.intro hb htl))))))
  have Q1 := hide (rframe_any _ (lst s) w2 hby (by rw [lst_len]; omega))
  have Q2 := hide (fun (W : World) (hW : Below w.heap.size w W) => rframe_any _ l W (hv.below hW) (by omega))
  clear hs hby b2 hv hn hc hb htl
  go_enter Tryd.func112, Tryd.ntmps112
  go_wp2_with first
    | (go_at_call 121; refine (QW.out _).mono ?_; rintro e w5 ⟨rfl, rfl⟩)
    | (go_at_call 122; refine QF.out.mono ?_; rintro e w5 ⟨rfl, rfl⟩)
    | (go_at_call 123; refine Q1.out.mono ?_; rintro e w3 ⟨v3, rfl, o3, b3⟩)
  have HI := hide (show Own w3 w.heap.size 5 v3 (frameL (lst s)) ∧ Below w.heap.size w w3 from ⟨own_lower o3 HB.out.2.1.size, HB.out.2.1.trans (b3.mono HB.out.2.1.size)⟩)
  clear o3 b3 Q1 QW QF
  go_loopw [6, 7] (fun u6 u7 wr => ((u7 = .int .i64 0 ∧ Own wr w.heap.size 5 u6 (frameL (lst s))) ∨ (u7 = .int .i64 1 ∧ Own wr w.heap.size 5 u6 (frameL (lst s) ++ frameL l))) ∧ Below w.heap.size w wr) (fun _ u7 _ => 1 - (intOf u7).toNat)
  case atStart => exact ⟨.inl ⟨rfl, HI.out.1⟩, HI.out.2⟩
  case round =>
    clear HI
    obtain ⟨⟨rfl, ho⟩ | ⟨rfl, ho⟩, hbel⟩ := hrel
    · have HO := hide ho
      have hcx : wr.cell? ⟨b, o, none⟩ = some (.slice Ap n cp) := (hbel.cell (p := ⟨b, o, none⟩) HB.out.2.2.2.2.2.1).trans HB.out.2.2.2.2.1
      clear ho
      go_wp2_with first
        | (go_at_call 123; refine (Q2.out _ hbel).mono ?_; rintro e w4 ⟨v4, rfl, o4, b4⟩; go_loud (have H4 := hide (And.intro (HO.out.below b4) (And.intro (hbel.trans (b4.mono hbel.size)) o4.by_)); clear o4 b4))
        | (at_builtin; go_loud (refine wpList_pushV elem8 H4.out.1 H4.out.2.1 H4.out.2.1.size H4.out.2.2 (by have := HB.out.2.2.2.1; have := HB.out.2.2.2.2.2.2; rw [frameL_length, frameL_length, lst_len]; omega) rfl _ _ rfl rfl (by obtain ⟨A9, c9, h9, -⟩ := H4.out.2.2.form; exact rfl) ?_); intro v5 w6 o5 b5 _ _)
      go_roundw
      case rel => exact ⟨.inr ⟨rfl, o5⟩, b5⟩
      case measure => simp [intOf]
    · go_wp2
      go_ret2
      refine ⟨_, rfl, ?_, hbel⟩
      have h9 : framedL [lst s, l] = frameL (lst s) ++ frameL l := by simp [framedL]
      rw [h9]
      exact ho
end Go.Proofs.YtkhlbpclfeakpaaDoor

/- The library's Concat of lists of lists of bytes. -/
namespace Go.Proofs.YtkhlbpclfeakpaaDoor
open Go.RowKit

theorem elemR : Elem1 Tryd.prog 23 27 (.slice none 0 0) 24 := ⟨Tryd.underlying23, by kernel_rfl, rfl⟩
theorem own_none (w : World) (n c : Nat) (h1 : n ≤ c) (h2 : c ≤ maxLen) :
    (w.alloc (.cells (Builtin.zeroCells #[.slice none 0 0] n ++ Builtin.zeroCells #[.slice none 0 0] (c - n)) 27)).drew.ownsRow w.heap.size 27 1 (.slice (some ⟨w.heap.size, 0, none⟩) 0 c) 0 [] := by
  have := (Blk.new w 27 (Builtin.zeroCells #[.slice none 0 0] n ++ Builtin.zeroCells #[.slice none 0 0] (c - n))).drew.own (base := w.heap.size) (e := 27) (n := 0) (cap := c) (sz := 1) rfl (Nat.le_refl _) (by simp [size_zeroCells]; omega) (Nat.zero_le _) h2
  simpa using this
set_option maxRecDepth 100000 in
set_option maxHeartbeats 1000000 in
theorem growR_any (n : Nat) (w : World) (hn : n ≤ 1048576) :
    Calls Tryd.prog 159 #[.slice none 0 0, .int .i64 (n : Int)] w fun e w' => ∃ v, e = .returned v ∧ w'.ownsRow w.heap.size 27 1 v 0 [] ∧ Below w.heap.size w w' := by
  by_cases h0 : n = 0
  · have g1 : (n : Int) = 0 := by omega
    rw [g1]
    go_enter Tryd.func159, Tryd.ntmps159
    go_wp2
    go_ret
    exact ⟨_, rfl, World.ownsRow_nil _ _ _ _, Below.refl _ _⟩
  · have g1 : ¬ (n : Int) < 0 := by omega
    have g2 : (0 : Int) < (n : Int) := by omega
    have g3 : ¬ (281474976710656 : Int) < (n : Int) * ((Tryd.t27).bytes : Int) := by
      have : ((Tryd.t27).bytes : Int) = 24 := by kernel_rfl
      rw [this]; omega
    have g4 : ¬ 281474976710656 < Builtin.nextslicecap n 0 * (Tryd.t27).bytes := by
      have h1 : (Tryd.t27).bytes = 24 := by kernel_rfl
      have h2 : Builtin.nextslicecap n 0 = n := by unfold Builtin.nextslicecap; simp; omega
      rw [h1, h2]; omega
    go_enter Tryd.func159, Tryd.ntmps159
    go_wp2
    go_ret
    refine ⟨_, rfl, ?_, ?_⟩
    · exact own_none w n _ (grownCap_ge w n 0 27) (grownCap_le_maxLen w n 0 27 (by unfold maxLen; omega))
    · exact ((Below.refl _ w).alloc (Nat.le_refl _) _).drew
/-- 'append(out, s...)', out a row of slices of the call's own. -/
theorem wpList_pushG {P : Program} {t e : TypeId} {z : Value} {bytes : Nat} (T : Elem1 P t e z bytes) {w : World} {base : Nat} {v : Value} {n : Nat} {xs : List Value} (hown : w.ownsRow base e 1 v n xs)
    {w0 : World} (hb : Below base w0 w) (hbase : base ≤ w.heap.size) {u : Value} {m : Nat} {ys : List Value} (hu : Sl w 1 u m ys) (h63 : n + m ≤ maxLen) (hbytes : (n + m) * bytes ≤ 140737488355328) (h1 : ∀ y ∈ ys, y.oneCell' = true)
    {ops : Array Oper} {rest : List Oper} {o : Oper} {a : Act} {Q : Exit → Act → World → Prop} (hgd : o.guard = none) (s y : Operand)
    (ho : o.op = .call { callee := .builtin .append, args := #[s, y], argTypes := #[t, t] }) (hs : a.eval s = v) (hx : a.eval y = u)
    (h : ∀ v' w', w'.ownsRow base e 1 v' (n + m) (xs ++ ys) → Below base w0 w' → wpList P ops Q rest (a.put o.dst v') w') :
    wpList P ops Q (o :: rest) a w := by
  refine wpList_plain hgd fun K hK => ?_
  obtain ⟨v', w', hrun, h3, h4, h6⟩ := run_pushS (P := P) T o.type hown hu h63 hbytes hbase h1
  unfold Oper.wp execOp
  simp only [ho, resolve, invoke, builtin, Sem.run_bind, Sem.run_pure, Result.andThen_ok, List.map_toArray, List.map_cons, List.map_nil, hs, hx, hrun]
  exact hK _ _ (h v' w' h3 (hb.grown h4 hbase fun k hk => (hown.lt k hk).1))
set_option maxRecDepth 100000 in
set_option maxHeartbeats 2000000 in
/-- Two lists of one slice each, laid behind one another. -/
theorem concatR_two (g : Nat) (gc : Nat) (u v x y : Value) (w : World) (h0 : w.cell? ⟨g, 0, none⟩ = some u) (h1 : w.cell? ⟨g, 1, none⟩ = some v) (hg : g < w.heap.size) (hu : Sl w 1 u 1 [x]) (hv : Sl w 1 v 1 [y]) (hx : x.oneCell' = true) (hy : y.oneCell' = true) :
    Calls Tryd.prog 143 #[.slice (some ⟨g, 0, none⟩) 2 2] w fun e w' => ∃ r, e = .returned r ∧ Sl w' 1 r 2 [x, y] ∧ Below w.heap.size w w' := by
  obtain ⟨Au, cu, rfl, -, -, -⟩ := hu.form
  obtain ⟨Av, cv, rfl, -, -, -⟩ := hv.form
  have HG := hide (growR_any 2)
  have HU := hide (And.intro hu (And.intro hv (And.intro hx hy)))
  clear hu hv hx hy
  go_enter Tryd.func143, Tryd.ntmps143
  go_wp2
  go_loopw [3, 11] (fun u3 u11 wr => ((u11 = .int .i64 0 ∧ u3 = .int .i64 0) ∨ (u11 = .int .i64 1 ∧ u3 = .int .i64 1) ∨ (u11 = .int .i64 2 ∧ u3 = .int .i64 2)) ∧ w = wr) (fun _ i _ => 2 - (intOf i).toNat)
  case atStart => exact ⟨.inl ⟨rfl, rfl⟩, rfl⟩
  case round =>
    obtain ⟨⟨rfl, rfl⟩ | ⟨rfl, rfl⟩ | ⟨rfl, rfl⟩, rfl⟩ := hrel
    · go_wp2
      go_roundw
      case rel => simp
      case measure => simp [intOf]
    · go_wp2
      go_roundw
      case rel => simp
      case measure => simp [intOf]
    · have HG2 := hide (show Calls Tryd.prog 159 #[.slice none 0 0, .int .i64 2] w _ from HG.out w (by omega))
      go_wp2_with (go_at_call 159; refine HG2.out.mono ?_; rintro e w1 ⟨v0, rfl, o1, b1⟩)
      have HI := hide (And.intro o1 b1)
      clear o1 b1
      go_loopw [6, 27] (fun u6 u27 wr => ((u27 = .int .i64 0 ∧ wr.ownsRow w.heap.size 27 1 u6 0 []) ∨ (u27 = .int .i64 1 ∧ wr.ownsRow w.heap.size 27 1 u6 1 [x]) ∨ (u27 = .int .i64 2 ∧ wr.ownsRow w.heap.size 27 1 u6 2 [x, y])) ∧ Below w.heap.size w wr) (fun _ i _ => 2 - (intOf i).toNat)
      case atStart => exact ⟨.inl ⟨rfl, HI.out.1⟩, HI.out.2⟩
      case round =>
        clear HI
        obtain ⟨⟨rfl, ho⟩ | ⟨rfl, ho⟩ | ⟨rfl, ho⟩, hb⟩ := hrel
        · have HO := hide ho
          have c0 : wr.cell? ⟨g, 0, none⟩ = some (.slice Au 1 cu) := (hb.cell (p := ⟨g, 0, none⟩) hg).trans h0
          clear ho
          go_wp2_with (at_builtin; go_loud (refine wpList_pushG elemR HO.out hb hb.size (HU.out.1.below hb) (by unfold maxLen; omega) (by omega) (by intro z hz; simp at hz; rw [hz]; exact HU.out.2.2.1) rfl _ _ rfl rfl rfl ?_); intro v2 w2 o2 b2)
          go_roundw
          case rel => exact ⟨.inr (.inl ⟨rfl, by simpa using o2⟩), b2⟩
          case measure => simp [intOf]
        · have HO := hide ho
          have c0 : wr.cell? ⟨g, 1, none⟩ = some (.slice Av 1 cv) := (hb.cell (p := ⟨g, 1, none⟩) hg).trans h1
          clear ho
          go_wp2_with (at_builtin; go_loud (refine wpList_pushG elemR HO.out hb hb.size (HU.out.2.1.below hb) (by unfold maxLen; omega) (by omega) (by intro z hz; simp at hz; rw [hz]; exact HU.out.2.2.2) rfl _ _ rfl rfl rfl ?_); intro v2 w2 o2 b2)
          go_roundw
          case rel => exact ⟨.inr (.inr ⟨rfl, by simpa using o2⟩), b2⟩
          case measure => simp [intOf]
        · go_wp2
          go_ret
          exact ⟨_, rfl, Sl.of_own ho, hb⟩
end Go.Proofs.YtkhlbpclfeakpaaDoor

/- The program's tagged bytes of one part. -/
namespace Go.Proofs.YtkhlbpclfeakpaaDoor
open Go.RowKit

theorem sl_one {w : World} {b o c : Nat} {x : Value} (hb : b < w.heap.size) (hc : w.cell? ⟨b, o, none⟩ = some x) (h1 : 1 ≤ c) (h2 : c ≤ maxLen) : Sl w 1 (.slice (some ⟨b, o, none⟩) 1 c) 1 [x] :=
  ⟨rfl, _, _, rfl, h1, h2, fun _ => ⟨b, o, rfl, hb, fun j hj => by
    have : j = 0 := by omega
    subst this
    simpa using hc⟩⟩
set_option maxRecDepth 10000 in
set_option maxHeartbeats 4000000 in
theorem bytes_one (t : Nat) (l : List UInt8) (ht : okT t l.length) (b o c : Nat) (Ap : Option Addr) (cp : Nat) (w : World) (hb : b < w.heap.size) (h1c : 1 ≤ c ∧ c ≤ maxLen) (hc : w.cell? ⟨b, o, none⟩ = some (.slice Ap l.length cp)) (hv : By w (.slice Ap l.length cp) l) (hl : l.length ≤ 1099511627000) :
    Calls Tryd.prog 128 #[.int .u8 (t : Int), .slice (some ⟨b, o, none⟩) 1 c] w fun e w' => ∃ v', e = .returned (.tuple #[v', .int .i64 0]) ∧ Own w' w.heap.size 5 v' (framedL [lst (tagB t), l]) ∧ Below w.heap.size w w' := by
  have hne : (tagB t).toList.isEmpty = false := tag_ne (okT_in ht)
  have htl : (tagB t).size ≤ 20 := tag_len (okT_in ht)
  have QW := hide (fun w => word_any t (okT_in ht) w)
  obtain ⟨s, hs⟩ : ∃ s, s = tagB t := ⟨_, rfl⟩
  rw [← hs] at QW hne htl ⊢
  obtain ⟨n, hn⟩ : ∃ n, n = l.length := ⟨_, rfl⟩
  rw [← hn] at hc hv hl ht
  have QF := hide (fit_okT t n ht b o c Ap cp w hb hc)
  have HB := hide (And.intro hv (And.intro hn (And.intro hc (And.intro hb (And.intro htl (And.intro h1c hl))))))
  clear hs hv hn hc hb htl h1c
  go_enter Tryd.func128, Tryd.ntmps128
  go_wp2_with first
    | (go_at_call 140; refine (QW.out _).mono ?_; rintro e w5 ⟨rfl, rfl⟩)
    | (go_at_call 141; refine QF.out.mono ?_; rintro e w1 ⟨rfl, b1⟩; go_loud (obtain ⟨g, cc, w2, hr, hby, b2, -, -, hcc, hcm⟩ := run_bytes_str 9 27 5 s w1 Tryd.underlying9 Tryd.underlying27 Tryd.underlying5 (by have := HB.out.2.2.2.2.1; unfold maxLen; omega); have H2 := hide (And.intro hby (And.intro (b1.trans (b2.mono b1.size)) (And.intro hcc hcm))); clear b1 b2 hby hcc hcm))
  have ha : Below w2.heap.size w2 (w2.alloc (.cells #[.slice (some ⟨g, 0, none⟩) s.size cc] 27)) := (Below.refl _ w2).alloc (Nat.le_refl _) _
  have hab : Below w2.heap.size w2 ((w2.alloc (.cells #[.slice (some ⟨g, 0, none⟩) s.size cc] 27)).alloc (.cells #[.slice (some ⟨w2.heap.size, 0, none⟩) 1 1, .slice (some ⟨b, o, none⟩) 1 c] 23)) := ha.alloc (by simp) _
  have k1 := Blk.new (w2.alloc (.cells #[.slice (some ⟨g, 0, none⟩) s.size cc] 27)) 23 #[.slice (some ⟨w2.heap.size, 0, none⟩) 1 1, .slice (some ⟨b, o, none⟩) 1 c]
  have k2 := (Blk.new w2 27 #[.slice (some ⟨g, 0, none⟩) s.size cc]).alloc (.cells #[.slice (some ⟨w2.heap.size, 0, none⟩) 1 1, .slice (some ⟨b, o, none⟩) 1 c] 23)
  rw [World.size_alloc] at k1
  have hbw : b < w2.heap.size := Nat.lt_of_lt_of_le HB.out.2.2.2.1 H2.out.2.1.size
  have hcw : w2.cell? ⟨b, o, none⟩ = some (.slice Ap n cp) := (H2.out.2.1.cell (p := ⟨b, o, none⟩) HB.out.2.2.2.1).trans HB.out.2.2.1
  have QC := hide (concatR_two (w2.heap.size + 1) 2 _ _ (.slice (some ⟨g, 0, none⟩) s.size cc) (.slice Ap n cp) _ ((k1.cell 0).trans rfl) ((k1.cell 1).trans rfl) k1.lt (sl_one k2.lt ((k2.cell 0).trans rfl) (Nat.le_refl _) (by unfold maxLen; omega)) (sl_one (Nat.lt_of_lt_of_le hbw hab.size) ((hab.cell (p := ⟨b, o, none⟩) hbw).trans hcw) HB.out.2.2.2.2.2.1.1 HB.out.2.2.2.2.2.1.2) rfl rfl)
  have HAB := hide hab
  clear ha hab k1 k2 hbw hcw
  with_reducible refine QC.out.mono ?_
  rintro e w3 ⟨r, rfl, hr3, b3⟩
  obtain ⟨Ar, cr, rfl, -, -, -⟩ := hr3.form
  have hb23 : Below w2.heap.size w2 w3 := HAB.out.trans (b3.mono HAB.out.size)
  have QR := hide (framed_any (.slice Ar 2 cr) [(.slice (some ⟨g, 0, none⟩) s.size cc, lst s), (.slice Ap n cp, l)] w3 ⟨hr3, fun x hx => by
    simp only [List.mem_cons, List.mem_nil_iff, or_false] at hx
    rcases hx with rfl | rfl
    · exact H2.out.1.below hb23
    · exact (HB.out.1.below H2.out.2.1).below hb23⟩ (by have := HB.out.2.2.2.2.1; have := HB.out.2.1; simp [total, lst_len]; omega) (by simp))
  have HX := hide (H2.out.2.1.trans (hb23.mono H2.out.2.1.size))
  clear hb23 hr3 b3 QC HAB
  go_wp2_with (go_at_call 142; refine QR.out.mono ?_; rintro e w4 ⟨v4, rfl, o4, b4⟩)
  go_ret2
  refine ⟨_, rfl, own_lower o4 HX.out.size, HX.out.trans (b4.mono HX.out.size)⟩
end Go.Proofs.YtkhlbpclfeakpaaDoor

/- Words of 32 bits, turned: the library's RotateLeft32, the document's turn. -/
namespace Go.Proofs.YtkhlbpclfeakpaaDoor
open Go.RowKit

/-- Words, with names that the walk does not open. -/
def xo (a b : UInt32) : UInt32 := a ^^^ b
def an (a b : UInt32) : UInt32 := a &&& b
def ad (a b : UInt32) : UInt32 := a + b
def nt (a : UInt32) : UInt32 := 4294967295 ^^^ a
def sr (a : UInt32) (n : Nat) : UInt32 := UInt32.ofNat (a.toNat / 2 ^ n)
def rr (a : UInt32) (n : Nat) : UInt32 := UInt32.ofNat (a.toNat / 2 ^ n ||| a.toNat * 2 ^ (32 - n) % 4294967296)
theorem w_lt (a : UInt32) : a.toNat < 4294967296 := a.toNat_lt
theorem w_xor (a b : UInt32) : bits .xor .u32 (a.toNat : Int) (b.toNat : Int) = ((xo a b).toNat : Int) := by
  rw [u32_xor_nat _ _ (w_lt a) (w_lt b)]; unfold xo; rw [UInt32.toNat_xor]
theorem w_and (a b : UInt32) : bits .and .u32 (a.toNat : Int) (b.toNat : Int) = ((an a b).toNat : Int) := by
  rw [u32_and_nat _ _ (w_lt a) (w_lt b)]; unfold an; rw [UInt32.toNat_and]
theorem w_add (a b : UInt32) : IntKind.u32.wrap ((a.toNat : Int) + (b.toNat : Int)) = ((ad a b).toNat : Int) := by
  unfold ad
  rw [IntKind.wrap_u32', UInt32.toNat_add]
  omega
theorem w_add' (a b : UInt32) : ((a.toNat : Int) + (b.toNat : Int)) % 4294967296 = ((ad a b).toNat : Int) := by
  rw [← w_add, IntKind.wrap_u32']
theorem w_not (a : UInt32) : bits .xor .u32 4294967295 (a.toNat : Int) = ((nt a).toNat : Int) := by
  rw [show (4294967295 : Int) = ((4294967295 : Nat) : Int) from rfl, u32_xor_nat _ _ (by omega) (w_lt a)]; unfold nt; rw [UInt32.toNat_xor]; rfl
theorem w_not' (a : UInt32) : bits .xor .u32 IntKind.u32.max (a.toNat : Int) = ((nt a).toNat : Int) := w_not a
theorem ofNat_lt {n : Nat} (h : n < 4294967296) : (UInt32.ofNat n).toNat = n := by rw [UInt32.toNat_ofNat']; exact Nat.mod_eq_of_lt h
theorem w_shr (a : UInt32) (n : Nat) : (a.toNat : Int) / 2 ^ n = ((sr a n).toNat : Int) := by
  unfold sr
  rw [ofNat_lt (Nat.lt_of_le_of_lt (Nat.div_le_self _ _) (w_lt a))]
  simp
theorem w_rr (x : UInt32) (n m : Nat) (h : n + m = 32) : bits .or .u32 ((x.toNat : Int) / 2 ^ n) ((x.toNat : Int) * 2 ^ m % 4294967296) = ((rr x n).toNat : Int) := by
  have e1 : (x.toNat : Int) / 2 ^ n = ((x.toNat / 2 ^ n : Nat) : Int) := by simp
  have e2 : (x.toNat : Int) * 2 ^ m % 4294967296 = ((x.toNat * 2 ^ m % 4294967296 : Nat) : Int) := by simp
  have h1 : x.toNat / 2 ^ n < 4294967296 := Nat.lt_of_le_of_lt (Nat.div_le_self _ _) (w_lt x)
  have h2 : x.toNat * 2 ^ m % 4294967296 < 4294967296 := Nat.mod_lt _ (by omega)
  rw [e1, e2, u32_or_nat _ _ h1 h2]
  unfold rr
  rw [show 32 - n = m by omega, ofNat_lt (Nat.or_lt_two_pow (n := 32) h1 h2)]
theorem w_rr' (x : UInt32) (n m : Nat) (h : n + m = 32) : bits .or .u32 ((x.toNat : Int) * 2 ^ m % 4294967296) ((x.toNat : Int) / 2 ^ n) = ((rr x n).toNat : Int) := by
  rw [← w_rr x n m h]
  have e1 : (x.toNat : Int) / 2 ^ n = ((x.toNat / 2 ^ n : Nat) : Int) := by simp
  have e2 : (x.toNat : Int) * 2 ^ m % 4294967296 = ((x.toNat * 2 ^ m % 4294967296 : Nat) : Int) := by simp
  have h1 : x.toNat / 2 ^ n < 4294967296 := Nat.lt_of_le_of_lt (Nat.div_le_self _ _) (w_lt x)
  have h2 : x.toNat * 2 ^ m % 4294967296 < 4294967296 := Nat.mod_lt _ (by omega)
  rw [e1, e2, u32_or_nat _ _ h1 h2, u32_or_nat _ _ h2 h1, Nat.or_comm]
theorem ad_assoc (a b c : UInt32) : ad (ad a b) c = ad a (ad b c) := UInt32.add_assoc a b c
theorem neg_and (n : Nat) (h : 1 ≤ n ∧ n ≤ 31) : bits .and .u64 (IntKind.u64.wrap (-(n : Int))) 31 = ((32 - n : Nat) : Int) := by
  have e : IntKind.u64.wrap (-(n : Int)) = ((18446744073709551616 - n : Nat) : Int) := by
    simp [IntKind.wrap, IntKind.bits, IntKind.signed]
    omega
  rw [e, show (31 : Int) = ((31 : Nat) : Int) from rfl, u64_and_nat _ _ (by omega) (by omega)]
  have h2 : (18446744073709551616 - n) &&& 31 = (18446744073709551616 - n) % 32 := Nat.and_two_pow_sub_one_eq_mod (n := 5) _
  rw [h2]
  omega

set_option maxHeartbeats 400000 in
theorem turn_any (x : UInt32) (n : Nat) (w : World) (h : 1 ≤ n ∧ n ≤ 31) :
    Calls Tryd.prog 135 #[.int .u32 (x.toNat : Int), .int .u64 (n : Int)] w fun e w' => e = .returned (.int .u32 ((rr x n).toNat : Int)) ∧ w = w' := by
  have hr := w_rr x n (32 - n) (by omega)
  go_enter Tryd.func135, Tryd.ntmps135
  go_wp2
  go_ret
  exact ⟨ret_int (by first | rfl | exact hr), rfl⟩
set_option maxHeartbeats 400000 in
theorem rotl_any (x : UInt32) (n : Nat) (w : World) (h : 1 ≤ n ∧ n ≤ 31) :
    Calls Tryd.prog 180 #[.int .u32 (x.toNat : Int), .int .i64 (-(n : Int))] w fun e w' => e = .returned (.int .u32 ((rr x n).toNat : Int)) ∧ w = w' := by
  have hn := neg_and n h
  obtain ⟨m, hm⟩ : ∃ m, m = 32 - n := ⟨_, rfl⟩
  rw [← hm] at hn
  have hr := w_rr' x n m (by omega)
  have h32 : 32 - (m : Int) = (n : Int) := by omega
  have hm1 : 1 ≤ m ∧ m ≤ 31 := by omega
  have HR := hide hr
  clear hm hr
  go_enter Tryd.func180, Tryd.ntmps180
  go_wp2
  go_ret
  exact ⟨ret_int HR.out, rfl⟩
/-- Turned by a number of the program's spelling. -/
def rkh (x : UInt32) (k : Int) : UInt32 := rr x k.natAbs
theorem rotl_k (x : UInt32) (k : Int) (w : World) (h : -31 ≤ k ∧ k ≤ -1) : Calls Tryd.prog 180 #[.int .u32 (x.toNat : Int), .int .i64 k] w fun e w' => e = .returned (.int .u32 ((rkh x k).toNat : Int)) ∧ w' = w := by
  have h1 := rotl_any x k.natAbs w (by omega)
  rw [show -((k.natAbs : Nat) : Int) = k by omega] at h1
  exact h1.mono fun _ _ ⟨a, b⟩ => ⟨a, b.symm⟩
theorem turn_k (x : UInt32) (k : Int) (w : World) (h : 1 ≤ k ∧ k ≤ 31) : Calls Tryd.prog 135 #[.int .u32 (x.toNat : Int), .int .u64 k] w fun e w' => e = .returned (.int .u32 ((rkh x k).toNat : Int)) ∧ w' = w := by
  have h1 := turn_any x k.natAbs w (by omega)
  rw [show ((k.natAbs : Nat) : Int) = k by omega] at h1
  exact h1.mono fun _ _ ⟨a, b⟩ => ⟨a, b.symm⟩
end Go.Proofs.YtkhlbpclfeakpaaDoor

/- One round of the digest: the program's. -/
namespace Go.Proofs.YtkhlbpclfeakpaaDoor
open Go.RowKit

/-- The eight words. -/
structure H8 where
  (a b c d e f g h : UInt32)
def H8.cells (s : H8) : Array Value := #[.int .u32 (s.a.toNat : Int), .int .u32 (s.b.toNat : Int), .int .u32 (s.c.toNat : Int), .int .u32 (s.d.toNat : Int), .int .u32 (s.e.toNat : Int), .int .u32 (s.f.toNat : Int), .int .u32 (s.g.toNat : Int), .int .u32 (s.h.toNat : Int)]
def S1 (e : UInt32) : UInt32 := xo (xo (rr e 6) (rr e 11)) (rr e 25)
def S0 (a : UInt32) : UInt32 := xo (xo (rr a 2) (rr a 13)) (rr a 22)
def chf (e f g : UInt32) : UInt32 := xo (an e f) (an (nt e) g)
def mjf (a b c : UInt32) : UInt32 := xo (xo (an a b) (an a c)) (an b c)
def ru (s : H8) (k : UInt32) : UInt32 := ad (ad (ad s.h (S1 s.e)) (chf s.e s.f s.g)) k
def rv (s : H8) : UInt32 := ad (S0 s.a) (mjf s.a s.b s.c)
/-- One round. -/
def rnd (s : H8) (k : UInt32) : H8 := ⟨ad (ru s k) (rv s), s.a, s.b, s.c, ad s.d (ru s k), s.e, s.f, s.g⟩

/-- A quiet call in a world that has drawn before. -/
theorem quiet_add_same {P : Program} {f : FuncId} {args : Array Value} {w : World} {a n : Nat} {v : Value}
    (h : Calls P f args (w.drewN (a + n)) fun e w' => e = .returned v ∧ w' = w.drewN (a + n)) :
    Calls P f args (w.drewN (a + n)) fun e w'' => e = .returned v ∧ ∃ m, w'' = w.drewN (a + m) :=
  h.mono fun _ _ ⟨h1, h2⟩ => ⟨h1, n, h2⟩
set_option maxRecDepth 100000 in
set_option maxHeartbeats 4000000 in
theorem round_any (s : H8) (k : UInt32) (w : World) :
    Calls Tryd.prog 175 #[.agg s.cells, .int .u32 (k.toNat : Int)] w fun e w' => e = .returned (.agg (rnd s k).cells) ∧ Below w.heap.size w w' := by
  obtain ⟨a, b, c, d, e, f, g, hh⟩ := s
  unfold H8.cells
  obtain ⟨R, hR⟩ : ∃ R, R = rkh := ⟨_, rfl⟩
  obtain ⟨X, hX⟩ : ∃ X, X = xo := ⟨_, rfl⟩
  obtain ⟨A, hA⟩ : ∃ A, A = an := ⟨_, rfl⟩
  obtain ⟨D, hD⟩ : ∃ D, D = ad := ⟨_, rfl⟩
  obtain ⟨N, hN⟩ : ∃ N, N = nt := ⟨_, rfl⟩
  have x1 : ∀ a b : UInt32, bits .xor .u32 (a.toNat : Int) (b.toNat : Int) = ((X a b).toNat : Int) := by rw [hX]; exact w_xor
  have x2 : ∀ a b : UInt32, bits .and .u32 (a.toNat : Int) (b.toNat : Int) = ((A a b).toNat : Int) := by rw [hA]; exact w_and
  have x3 : ∀ a b : UInt32, IntKind.u32.wrap ((a.toNat : Int) + (b.toNat : Int)) = ((D a b).toNat : Int) := by rw [hD]; exact w_add
  have x4 : ∀ a b : UInt32, ((a.toNat : Int) + (b.toNat : Int)) % 4294967296 = ((D a b).toNat : Int) := by rw [hD]; exact w_add'
  have x5 : ∀ a : UInt32, bits .xor .u32 IntKind.u32.max (a.toNat : Int) = ((N a).toNat : Int) := by rw [hN]; exact w_not'
  have qr : ∀ (x : UInt32) (k : Int) (w : World), (-31 ≤ k ∧ k ≤ -1) → Calls Tryd.prog 180 #[.int .u32 (x.toNat : Int), .int .i64 k] w fun e w' => e = .returned (.int .u32 ((R x k).toNat : Int)) ∧ w' = w := by rw [hR]; exact rotl_k
  have QR := hide qr
  have HEQ := hide (And.intro hR (And.intro hX (And.intro hA (And.intro hD hN))))
  clear hR hX hA hD hN qr
  go_enter Tryd.func175, Tryd.ntmps175
  go_wp2
  go_quiet (fail)
  go_wp2
  go_quiet ((go_at_call 180; with_reducible exact quiet_add_same (QR.out _ _ _ (by omega))))
  go_wp2
  go_quiet ((go_at_call 180; with_reducible exact quiet_add_same (QR.out _ _ _ (by omega))))
  go_wp2
  have hE : rnd ⟨a, b, c, d, e, f, g, hh⟩ k = ⟨D (D (D (D hh (X (X (R e (-6)) (R e (-11))) (R e (-25)))) (X (A e f) (A (N e) g))) k) (D (X (X (R a (-2)) (R a (-13))) (R a (-22))) (X (X (A a b) (A a c)) (A b c))), a, b, c, D d (D (D (D hh (X (X (R e (-6)) (R e (-11))) (R e (-25)))) (X (A e f) (A (N e) g))) k), e, f, g⟩ := by
    obtain ⟨rfl, rfl, rfl, rfl, rfl⟩ := HEQ.out
    rfl
  have HE := hide hE
  clear hE
  refine bodyPost_ret (v := .agg (H8.cells ⟨D (D (D (D hh (X (X (R e (-6)) (R e (-11))) (R e (-25)))) (X (A e f) (A (N e) g))) k) (D (X (X (R a (-2)) (R a (-13))) (R a (-22))) (X (X (A a b) (A a c)) (A b c))), a, b, c, D d (D (D (D hh (X (X (R e (-6)) (R e (-11))) (R e (-25)))) (X (A e f) (A (N e) g))) k), e, f, g⟩)) ?_ rfl ⟨?_, ?_⟩
  · clear x1 x2 x3 x4 x5
    simp [results, Tryd.results175, go_sem, H8.cells]
  · rw [HE.out]; rfl
  · (repeat (refine Below.setCell ?_ (by simp) _))
    exact below_drewN (((Below.refl _ w).alloc (Nat.le_refl _) _).alloc (by simp) _) _
end Go.Proofs.YtkhlbpclfeakpaaDoor
