/- Joined texts: PsW, PsH, PsI, PsJ, PsK. -/
import Derived.Test.YtcpceaflnnkhnaaGreatDoorJ11
import Derived.Maps.Own
import Derived.Maps.OwnSet
import Derived.Maps.Views
import Derived.StringKeys
import Derived.Carry
import Derived.Test.YtcpceaflnnkhnaaGreatDoorJ9

/- The map of the words of a capability, and how many parts each wants: made, filled, asked. -/
namespace Go.Proofs.YtcpceaflnnkhnaaGreatDoor
open Go.RowKit

theorem keyed_strW : Maps.Keyed Tryz.prog 9 := Maps.string_keyed Tryz.underlying9
def keyW (b : ByteArray) : Lit := .string b.data.toList
def litI (n : Int) : DataW Unit := .lit (.int .i64 n)
theorem keyW_ne {a b : ByteArray} (h : a ≠ b) : keyW a ≠ keyW b := fun e => by
  unfold keyW at e
  injection e with e
  exact h (by cases a; cases b; congr; exact Array.toList_inj.1 e)
theorem mlW (n : Nat) (h : n ≤ 3) : n < maxLen := by unfold maxLen; omega
theorem kl (b : ByteArray) : WideAt.IsKeyLit (keyW b) := trivial
def mapW : DataW Unit := (((DataW.map []).put (keyW bRead) (litI 8)).put (keyW bVerify) (litI 8)).put (keyW bLit) (litI 3)
theorem isMap0 : Maps.IsMap (DataW.map [] : DataW Unit) := ⟨[], rfl⟩
theorem mapW_lit (z : DataW Unit) : Maps.has mapW (keyW bLit) = true ∧ mapW.atKey (keyW bLit) z = litI 3 :=
  ⟨Maps.has_put_same ((isMap0.put _ _).put _ _) (kl _) _, Maps.atKey_put_same ((isMap0.put _ _).put _ _) (kl _) _ _⟩
theorem mapW_verify (z : DataW Unit) : Maps.has mapW (keyW bVerify) = true ∧ mapW.atKey (keyW bVerify) z = litI 8 := by
  have hne : keyW bVerify ≠ keyW bLit := keyW_ne (by decide)
  unfold mapW
  rw [Maps.has_put_other hne, Maps.atKey_put_other hne]
  exact ⟨Maps.has_put_same (isMap0.put _ _) (kl _) _, Maps.atKey_put_same (isMap0.put _ _) (kl _) _ _⟩
theorem mapW_read (z : DataW Unit) : Maps.has mapW (keyW bRead) = true ∧ mapW.atKey (keyW bRead) z = litI 8 := by
  have h1 : keyW bRead ≠ keyW bLit := keyW_ne (by decide)
  have h2 : keyW bRead ≠ keyW bVerify := keyW_ne (by decide)
  unfold mapW
  rw [Maps.has_put_other h1, Maps.atKey_put_other h1, Maps.has_put_other h2, Maps.atKey_put_other h2]
  exact ⟨Maps.has_put_same isMap0 (kl _) _, Maps.atKey_put_same isMap0 (kl _) _ _⟩
theorem mapW_no {b : ByteArray} (h1 : b ≠ bRead) (h2 : b ≠ bVerify) (h3 : b ≠ bLit) : Maps.has mapW (keyW b) = false := by
  unfold mapW
  rw [Maps.has_put_other (keyW_ne h3), Maps.has_put_other (keyW_ne h2), Maps.has_put_other (keyW_ne h1)]
  rfl
theorem want_map (W : World) (wd : ByteArray) (hs : wd.size ≤ 1000) : ∃ (w1 w2 w3 : World) (v : Int) (b : Bool),
    (Instr.mapUpdate 118 (.map (some W.heap.size)) (.string bRead) (.int .i64 8)).run Tryz.prog (W.alloc (.map #[] 0)) = .ok () w1 ∧
    (Instr.mapUpdate 118 (.map (some W.heap.size)) (.string bVerify) (.int .i64 8)).run Tryz.prog w1 = .ok () w2 ∧
    (Instr.mapUpdate 118 (.map (some W.heap.size)) (.string bLit) (.int .i64 3)).run Tryz.prog w2 = .ok () w3 ∧
    (Instr.lookup 118 (.map (some W.heap.size)) (.string wd) true).run Tryz.prog w3 = .ok (.tuple #[.int .i64 v, .bool b]) w3 ∧ Below W.heap.size W w3 ∧
    ((b = true ∧ wd = bRead ∧ v = 8) ∨ (b = true ∧ wd = bVerify ∧ v = 8) ∨ (b = true ∧ wd = bLit ∧ v = 3) ∨ (b = false ∧ wd ≠ bRead ∧ wd ≠ bVerify ∧ wd ≠ bLit)) := by
  have h0 := World.ownsMap_made W Tryz.prog 9 (plainElem (H := Unit) Tryz.prog 3)
  have hb0 : Below W.heap.size W (W.alloc (.map #[] 0)) := (Below.refl _ W).alloc (Nat.le_refl _) _
  have ks : ∀ x : ByteArray, x.size ≤ 1000 → keyOf Tryz.prog 9 (.string x) = some (keyW x) := fun x hx => WideMaps.keyOf_string_mk Tryz.underlying9 (by unfold maxLen; omega)
  have e8 : plainElem (H := Unit) Tryz.prog 3 (.int .i64 8) = some (litI 8, []) := plainElem_int Tryz.underlying3 (by decide)
  have e3 : plainElem (H := Unit) Tryz.prog 3 (.int .i64 3) = some (litI 3, []) := plainElem_int Tryz.underlying3 (by decide)
  have e0 : plainElem (H := Unit) Tryz.prog 3 (.int .i64 0) = some (litI 0, []) := plainElem_int Tryz.underlying3 (by decide)
  obtain ⟨w1, r1, o1, g1⟩ := h0.update keyed_strW Tryz.underlying118 (mlW _ (by omega)) (ks bRead (by show 4 ≤ 1000; omega)) e8
  obtain ⟨w2, r2, o2, g2⟩ := o1.update keyed_strW Tryz.underlying118 (mlW _ (by omega)) (ks bVerify (by show 6 ≤ 1000; omega)) e8
  obtain ⟨w3, r3, o3, g3⟩ := o2.update keyed_strW Tryz.underlying118 (mlW _ (by omega)) (ks bLit (by show 3 ≤ 1000; omega)) e3
  have hb1 := hb0.grown g1 (by simp) fun k hk => by injection hk with hk; omega
  have hb2 := hb1.grown g2 hb1.size fun k hk => by injection hk with hk; omega
  have hb3 := hb2.grown g3 hb2.size fun k hk => by injection hk with hk; omega
  obtain ⟨v, ps, r4, hv⟩ := o3.look_ok keyed_strW Tryz.underlying118 (z := .int .i64 0) (by kernel_rfl) e0 (ks wd hs)
  obtain ⟨n, rfl, hn, -⟩ := plainElem_int_inv Tryz.underlying3 hv
  injection hn with hn _
  have hD : ((((DataW.map []).put (keyW bRead) (litI 8)).put (keyW bVerify) (litI 8)).put (keyW bLit) (litI 3) : DataW Unit) = mapW := rfl
  rw [hD] at r4 hn
  refine ⟨w1, w2, w3, n, _, r1, r2, r3, r4, hb3, ?_⟩
  have inj : ∀ m : Int, (DataW.lit (.int .i64 n) : DataW Unit) = litI m → n = m := fun m h => by have h2 := DataW.lit.inj h; exact (Lit.int.inj h2).2
  by_cases h1 : wd = bRead
  · subst h1
    rw [(mapW_read _).2] at hn
    exact .inl ⟨(mapW_read .nil).1, rfl, inj 8 hn.symm⟩
  by_cases h2 : wd = bVerify
  · subst h2
    rw [(mapW_verify _).2] at hn
    exact .inr (.inl ⟨(mapW_verify .nil).1, rfl, inj 8 hn.symm⟩)
  by_cases h3 : wd = bLit
  · subst h3
    rw [(mapW_lit _).2] at hn
    exact .inr (.inr (.inl ⟨(mapW_lit .nil).1, rfl, inj 3 hn.symm⟩))
  · exact .inr (.inr (.inr ⟨mapW_no h1 h2 h3, h1, h2, h3⟩))
end Go.Proofs.YtcpceaflnnkhnaaGreatDoor

/- What the program's parse answers, of any word: the cases of PsB to PsE in one. -/
namespace Go.Proofs.YtcpceaflnnkhnaaGreatDoor
open Go.RowKit

/-- What parse answers of the parts behind the word of a kind. -/
def ParsePost (ps : List (List UInt8)) (k : Nat) (w : World) (e : Ending) (w' : World) : Prop :=
  Below w.heap.size w w' ∧
  (∀ a er, bodyF ps k = some (a, er) → ∃ c0 : CP, c0.wf ∧ e = .returned (.tuple #[.agg (c0.cells (.slice none 0 0)), faultV (er : Nat) (a : Nat)])) ∧
  (bodyF ps k = none → ∃ A n c, e = .returned (.tuple #[.agg ((capOf ps k false).cells (.slice A n c)), .nilIface]) ∧ Own w' w.heap.size 5 (.slice A n c) (capOf ps k false).lit)
theorem pp_bad {ps : List (List UInt8)} {k a er : Nat} {w w' : World} {e : Ending} (c0 : CP) (hw : c0.wf) (hb : Below w.heap.size w w') (hF : bodyF ps k = some (a, er))
    (he : e = .returned (.tuple #[.agg (c0.cells (.slice none 0 0)), faultV (er : Nat) (a : Nat)])) : ParsePost ps k w e w' :=
  ⟨hb, (fun a2 er2 h => by rw [hF] at h; injection h with h; injection h with e1 e2; subst e1 e2; exact ⟨c0, hw, he⟩), (fun h => by rw [hF] at h; cases h)⟩
theorem pp_ok {ps : List (List UInt8)} {k : Nat} {w w' : World} {e : Ending} (A : Option Addr) (n c : Nat) (hb : Below w.heap.size w w') (hF : bodyF ps k = none)
    (he : e = .returned (.tuple #[.agg ((capOf ps k false).cells (.slice A n c)), .nilIface])) (ho : Own w' w.heap.size 5 (.slice A n c) (capOf ps k false).lit) : ParsePost ps k w e w' :=
  ⟨hb, (fun a2 er2 h => by rw [hF] at h; cases h), fun _ => ⟨A, n, c, he, ho⟩⟩
theorem ltrF_bad {ps : List (List UInt8)} {i lo hi : Nat} (h : ltrE (part_ ps i) lo hi ≠ 0) : ltrF ps i lo hi = some (place ps i + ltrO (part_ ps i), ltrE (part_ ps i) lo hi) := by unfold ltrF; rw [if_pos h]
theorem ltrF_ok {ps : List (List UInt8)} {i lo hi : Nat} (h : ltrE (part_ ps i) lo hi = 0) : ltrF ps i lo hi = none := by unfold ltrF; rw [if_neg (by simp [h])]
theorem numF_bad {ps : List (List UInt8)} {i : Nat} {m : Int} (h : rd (part_ ps i) m = none) : numF ps i m = some (place ps i, 102) := by unfold numF; rw [if_pos h]
theorem numF_ok {ps : List (List UInt8)} {i : Nat} {m : Int} (h : ¬ rd (part_ ps i) m = none) : numF ps i m = none := by unfold numF; rw [if_neg h]
theorem zero3_wf : (⟨3, false, RV.zero, RV.zero, []⟩ : CP).wf := ⟨RV.zero_wf, RV.zero_wf, by show (3 : Nat) < 256; omega⟩
theorem parse_lit (ps : List (List UInt8)) (g o g2 o2 n c n2 c2 : Nat) (s : ByteArray) (a : Nat) (w : World) (hs : s.size ≤ 1000000) (ha : a ≤ 1000000) (hn : 1 ≤ n ∧ 1 ≤ n2) (hp : PartAt w g o g2 o2 0 s a) (h1 : part_ ps 2 = lst s) (h2 : place ps 2 = a) :
    Calls Tryz.prog 61 #[.string ⟨#[108, 105, 116]⟩, .slice (some ⟨g, o, none⟩) n c, .slice (some ⟨g2, o2, none⟩) n2 c2] w (ParsePost ps 3 w) := by
  by_cases hE : ltrE (lst s) 0 32 = 0
  · refine (parse_lit_ok g o g2 o2 n c n2 c2 s a w hs ha hn hp hE).mono ?_
    rintro e w' ⟨hb, A, c', rfl, ho⟩
    have hF : bodyF ps 3 = none := by unfold bodyF; rw [if_pos rfl]; exact ltrF_ok (by rw [h1]; exact hE)
    have hC : capOf ps 3 false = ⟨3, false, RV.zero, RV.zero, (decode (lst s)).1⟩ := by unfold capOf; rw [if_neg (by omega), if_neg (by omega), h1]
    exact pp_ok A _ c' hb hF (by rw [hC]) (by rw [hC]; exact ho)
  · refine (parse_lit_bad g o g2 o2 n c n2 c2 s a w hs ha hn hp hE).mono ?_
    rintro e w' ⟨hb, rfl⟩
    have hF : bodyF ps 3 = some (a + ltrO (lst s), ltrE (lst s) 0 32) := by unfold bodyF; rw [if_pos rfl, ltrF_bad (by rw [h1]; exact hE), h1, h2]
    exact pp_bad _ zero3_wf hb hF rfl
theorem parse_read (ps : List (List UInt8)) (g o g2 o2 n c n2 c2 : Nat) (x : Nat → ByteArray) (a : Nat → Nat) (w : World) (hs : ∀ i, i < 6 → (x i).size ≤ 1000000 ∧ a i ≤ 1000000) (hn : 6 ≤ n ∧ 6 ≤ n2) (hp : Six w g o g2 o2 x a) (ht : Tab w) (he : Err w)
    (hx : ∀ i, i < 6 → part_ ps (2 + i) = lst (x i) ∧ place ps (2 + i) = a i) :
    Calls Tryz.prog 61 #[.string ⟨#[114, 101, 97, 100]⟩, .slice (some ⟨g, o, none⟩) n c, .slice (some ⟨g2, o2, none⟩) n2 c2] w (ParsePost ps 1 w) := by
  obtain ⟨p0, l0⟩ := hx 0 (by omega)
  obtain ⟨p1, l1⟩ := hx 1 (by omega)
  obtain ⟨p2, l2⟩ := hx 2 (by omega)
  obtain ⟨p3, l3⟩ := hx 3 (by omega)
  obtain ⟨p4, l4⟩ := hx 4 (by omega)
  obtain ⟨p5, l5⟩ := hx 5 (by omega)
  simp only [Nat.reduceAdd] at p0 l0 p1 l1 p2 l2 p3 l3 p4 l4 p5 l5
  have hB : bodyF ps 1 = rvF ps := by unfold bodyF; rw [if_neg (by omega)]
  by_cases h0 : ltrE (lst (x 0)) 16 16 = 0
  · have f0 : ltrF ps 2 16 16 = none := ltrF_ok (by rw [p0]; exact h0)
    by_cases h1 : ltrE (lst (x 1)) 32 32 = 0
    · have f1 : ltrF ps 3 32 32 = none := ltrF_ok (by rw [p1]; exact h1)
      refine (parse_read_nums g o g2 o2 n c n2 c2 x a w hs hn hp h0 h1 ht he).mono ?_
      rintro e w' ⟨hb, q0, q1, q2, q3, q4⟩
      by_cases n0 : rd (lst (x 2)) 255 = none
      · exact pp_bad CP.zero CP.zero_wf hb (a := a 2) (er := 102) (by rw [hB]; unfold rvF; rw [f0, f1, numF_bad (i := 4) (m := 255) (by rw [p2]; exact n0), l2]; rfl) (q0 n0)
      have k0 : numF ps 4 255 = none := numF_ok (by rw [p2]; exact n0)
      by_cases n1 : rd (lst (x 3)) 255 = none
      · exact pp_bad CP.zero CP.zero_wf hb (a := a 3) (er := 102) (by rw [hB]; unfold rvF; rw [f0, f1, k0, numF_bad (i := 5) (m := 255) (by rw [p3]; exact n1), l3]; rfl) (q1 n0 n1)
      have k1 : numF ps 5 255 = none := numF_ok (by rw [p3]; exact n1)
      by_cases n2 : rd (lst (x 4)) 65791 = none
      · exact pp_bad CP.zero CP.zero_wf hb (a := a 4) (er := 102) (by rw [hB]; unfold rvF; rw [f0, f1, k0, k1, numF_bad (i := 6) (m := 65791) (by rw [p4]; exact n2), l4]; rfl) (q2 n0 n1 n2)
      have k2 : numF ps 6 65791 = none := numF_ok (by rw [p4]; exact n2)
      by_cases n3 : rd (lst (x 5)) 16777216 = none
      · exact pp_bad CP.zero CP.zero_wf hb (a := a 5) (er := 102) (by rw [hB]; unfold rvF; rw [f0, f1, k0, k1, k2, numF_bad (i := 7) (m := 16777216) (by rw [p5]; exact n3), l5]; rfl) (q3 n0 n1 n2 n3)
      have k3 : numF ps 7 16777216 = none := numF_ok (by rw [p5]; exact n3)
      have hC : capOf ps 1 false = ⟨1, false, ⟨(decode (lst (x 0))).1, (decode (lst (x 1))).1, rdN (lst (x 2)) 255, rdN (lst (x 3)) 255, rdN (lst (x 4)) 65791, rdN (lst (x 5)) 16777216⟩, RV.zero, []⟩ := by unfold capOf rvOf; rw [if_pos rfl]; rw [p0, p1, p2, p3, p4, p5]
      exact pp_ok none 0 0 hb (by rw [hB]; unfold rvF; rw [f0, f1, k0, k1, k2, k3]; rfl) (by rw [hC]; exact q4 n0 n1 n2 n3) (by rw [hC]; exact Own.nil _ _ _)
    · refine (parse_read_bad1 g o g2 o2 n c n2 c2 x a w hs hn hp h0 h1).mono ?_
      rintro e w' ⟨hb, rfl⟩
      exact pp_bad CP.zero CP.zero_wf hb (by rw [hB]; unfold rvF; rw [f0, ltrF_bad (i := 3) (lo := 32) (hi := 32) (by rw [p1]; exact h1), p1, l1]; rfl) rfl
  · refine (parse_read_bad0 g o g2 o2 n c n2 c2 x a w hs hn hp h0).mono ?_
    rintro e w' ⟨hb, rfl⟩
    exact pp_bad CP.zero CP.zero_wf hb (by rw [hB]; unfold rvF; rw [ltrF_bad (i := 2) (lo := 16) (hi := 16) (by rw [p0]; exact h0), p0, l0]; rfl) rfl
theorem parse_verify (ps : List (List UInt8)) (g o g2 o2 n c n2 c2 : Nat) (x : Nat → ByteArray) (a : Nat → Nat) (w : World) (hs : ∀ i, i < 6 → (x i).size ≤ 1000000 ∧ a i ≤ 1000000) (hn : 6 ≤ n ∧ 6 ≤ n2) (hp : Six w g o g2 o2 x a) (ht : Tab w) (he : Err w)
    (hx : ∀ i, i < 6 → part_ ps (2 + i) = lst (x i) ∧ place ps (2 + i) = a i) :
    Calls Tryz.prog 61 #[.string ⟨#[118, 101, 114, 105, 102, 121]⟩, .slice (some ⟨g, o, none⟩) n c, .slice (some ⟨g2, o2, none⟩) n2 c2] w (ParsePost ps 2 w) := by
  obtain ⟨p0, l0⟩ := hx 0 (by omega)
  obtain ⟨p1, l1⟩ := hx 1 (by omega)
  obtain ⟨p2, l2⟩ := hx 2 (by omega)
  obtain ⟨p3, l3⟩ := hx 3 (by omega)
  obtain ⟨p4, l4⟩ := hx 4 (by omega)
  obtain ⟨p5, l5⟩ := hx 5 (by omega)
  simp only [Nat.reduceAdd] at p0 l0 p1 l1 p2 l2 p3 l3 p4 l4 p5 l5
  have hB : bodyF ps 2 = rvF ps := by unfold bodyF; rw [if_neg (by omega)]
  by_cases h0 : ltrE (lst (x 0)) 16 16 = 0
  · have f0 : ltrF ps 2 16 16 = none := ltrF_ok (by rw [p0]; exact h0)
    by_cases h1 : ltrE (lst (x 1)) 32 32 = 0
    · have f1 : ltrF ps 3 32 32 = none := ltrF_ok (by rw [p1]; exact h1)
      refine (parse_verify_nums g o g2 o2 n c n2 c2 x a w hs hn hp h0 h1 ht he).mono ?_
      rintro e w' ⟨hb, q0, q1, q2, q3, q4⟩
      by_cases n0 : rd (lst (x 2)) 255 = none
      · exact pp_bad CP.zero CP.zero_wf hb (a := a 2) (er := 102) (by rw [hB]; unfold rvF; rw [f0, f1, numF_bad (i := 4) (m := 255) (by rw [p2]; exact n0), l2]; rfl) (q0 n0)
      have k0 : numF ps 4 255 = none := numF_ok (by rw [p2]; exact n0)
      by_cases n1 : rd (lst (x 3)) 255 = none
      · exact pp_bad CP.zero CP.zero_wf hb (a := a 3) (er := 102) (by rw [hB]; unfold rvF; rw [f0, f1, k0, numF_bad (i := 5) (m := 255) (by rw [p3]; exact n1), l3]; rfl) (q1 n0 n1)
      have k1 : numF ps 5 255 = none := numF_ok (by rw [p3]; exact n1)
      by_cases n2 : rd (lst (x 4)) 65791 = none
      · exact pp_bad CP.zero CP.zero_wf hb (a := a 4) (er := 102) (by rw [hB]; unfold rvF; rw [f0, f1, k0, k1, numF_bad (i := 6) (m := 65791) (by rw [p4]; exact n2), l4]; rfl) (q2 n0 n1 n2)
      have k2 : numF ps 6 65791 = none := numF_ok (by rw [p4]; exact n2)
      by_cases n3 : rd (lst (x 5)) 16777216 = none
      · exact pp_bad CP.zero CP.zero_wf hb (a := a 5) (er := 102) (by rw [hB]; unfold rvF; rw [f0, f1, k0, k1, k2, numF_bad (i := 7) (m := 16777216) (by rw [p5]; exact n3), l5]; rfl) (q3 n0 n1 n2 n3)
      have k3 : numF ps 7 16777216 = none := numF_ok (by rw [p5]; exact n3)
      have hC : capOf ps 2 false = ⟨2, false, RV.zero, ⟨(decode (lst (x 0))).1, (decode (lst (x 1))).1, rdN (lst (x 2)) 255, rdN (lst (x 3)) 255, rdN (lst (x 4)) 65791, rdN (lst (x 5)) 16777216⟩, []⟩ := by unfold capOf rvOf; rw [if_neg (by omega), if_pos rfl]; rw [p0, p1, p2, p3, p4, p5]
      exact pp_ok none 0 0 hb (by rw [hB]; unfold rvF; rw [f0, f1, k0, k1, k2, k3]; rfl) (by rw [hC]; exact q4 n0 n1 n2 n3) (by rw [hC]; exact Own.nil _ _ _)
    · refine (parse_verify_bad1 g o g2 o2 n c n2 c2 x a w hs hn hp h0 h1).mono ?_
      rintro e w' ⟨hb, rfl⟩
      exact pp_bad CP.zero CP.zero_wf hb (by rw [hB]; unfold rvF; rw [f0, ltrF_bad (i := 3) (lo := 32) (hi := 32) (by rw [p1]; exact h1), p1, l1]; rfl) rfl
  · refine (parse_verify_bad0 g o g2 o2 n c n2 c2 x a w hs hn hp h0).mono ?_
    rintro e w' ⟨hb, rfl⟩
    exact pp_bad CP.zero CP.zero_wf hb (by rw [hB]; unfold rvF; rw [ltrF_bad (i := 2) (lo := 16) (hi := 16) (by rw [p0]; exact h0), p0, l0]; rfl) rfl
end Go.Proofs.YtcpceaflnnkhnaaGreatDoor

/- The word of a capability, with or without its prefix (plain). -/
namespace Go.Proofs.YtcpceaflnnkhnaaGreatDoor
open Go.RowKit

theorem kind_of {l : List UInt8} {k : Nat} (hk : k = 1 ∨ k = 2 ∨ k = 3) (h : Lib.trimPrefix l tDir = wordK k) : kindL l = some (k, Lib.hasPrefix l tDir) := by
  have hl : l = wordL k (Lib.hasPrefix l tDir) := by
    unfold Lib.trimPrefix at h
    by_cases hp : Lib.hasPrefix l tDir = true
    · rw [if_pos hp] at h
      rw [hp]
      unfold wordL
      rw [if_pos rfl, ← h]
      have h2 : tDir <+: l := by simpa [Lib.hasPrefix] using hp
      obtain ⟨r, rfl⟩ := h2
      rw [List.drop_left]
    · rw [if_neg hp] at h
      have hp2 : Lib.hasPrefix l tDir = false := by simpa using hp
      rw [hp2]
      unfold wordL
      rw [if_neg (by decide), ← h]
      rfl
  have := kind_word k (Lib.hasPrefix l tDir) hk
  rw [← hl] at this
  exact this
theorem kind_no {l : List UInt8} (h1 : Lib.trimPrefix l tDir ≠ tRead) (h2 : Lib.trimPrefix l tDir ≠ tVerify) (h3 : Lib.trimPrefix l tDir ≠ tLit) : kindL l = none := by
  cases hk : kindL l with
  | none => rfl
  | some q =>
    obtain ⟨k, d⟩ := q
    obtain ⟨rfl, h | h | h⟩ := word_kind hk
    · subst h; cases d <;> exact absurd (by decide) h1
    · subst h; cases d <;> exact absurd (by decide) h2
    · subst h; cases d <;> exact absurd (by decide) h3
/-- What the map of the words says of the word behind a text's prefix. -/
theorem word_case {l : List UInt8} {wd : ByteArray} {v : Int} {b : Bool} (hw : wd = ⟨(Lib.trimPrefix l tDir).toArray⟩)
    (h : (b = true ∧ wd = bRead ∧ v = 8) ∨ (b = true ∧ wd = bVerify ∧ v = 8) ∨ (b = true ∧ wd = bLit ∧ v = 3) ∨ (b = false ∧ wd ≠ bRead ∧ wd ≠ bVerify ∧ wd ≠ bLit)) :
    (b = false ∧ kindL l = none) ∨ (b = true ∧ ∃ k vn : Nat, v = (vn : Int) ∧ kindL l = some (k, Lib.hasPrefix l tDir) ∧ want k = vn ∧ ((k = 1 ∧ wd = bRead ∧ vn = 8) ∨ (k = 2 ∧ wd = bVerify ∧ vn = 8) ∨ (k = 3 ∧ wd = bLit ∧ vn = 3))) := by
  have ht : wd.data.toList = Lib.trimPrefix l tDir := by rw [hw]
  rcases h with ⟨hb, rfl, hv⟩ | ⟨hb, rfl, hv⟩ | ⟨hb, rfl, hv⟩ | ⟨hb, h1, h2, h3⟩
  · exact .inr ⟨hb, 1, 8, hv, kind_of (.inl rfl) (ht.symm.trans rfl), rfl, .inl ⟨rfl, rfl, rfl⟩⟩
  · exact .inr ⟨hb, 2, 8, hv, kind_of (.inr (.inl rfl)) (ht.symm.trans rfl), rfl, .inr (.inl ⟨rfl, rfl, rfl⟩)⟩
  · exact .inr ⟨hb, 3, 3, hv, kind_of (.inr (.inr rfl)) (ht.symm.trans rfl), rfl, .inr (.inr ⟨rfl, rfl, rfl⟩)⟩
  · refine .inl ⟨hb, kind_no (fun e => h1 ?_) (fun e => h2 ?_) (fun e => h3 ?_)⟩
    all_goals (rw [hw, e]; rfl)
theorem cap_none {l : List UInt8} (h : l.length ≤ 256) (h0 : part_ (flds l) 0 = tRoom) (h1 : ¬ (flds l).length < 2) (h2 : kindL (part_ (flds l) 1) = none) : capF l = some (place (flds l) 1, 150) := by
  unfold capF
  rw [if_neg (by omega), if_neg (by simp [h0]), if_neg h1, h2]
theorem cap_few {l : List UInt8} {k : Nat} {d : Bool} (h : l.length ≤ 256) (h0 : part_ (flds l) 0 = tRoom) (h1 : ¬ (flds l).length < 2) (h2 : kindL (part_ (flds l) 1) = some (k, d)) (h3 : (flds l).length < want k) : capF l = some (l.length, 150) := by
  unfold capF
  rw [if_neg (by omega), if_neg (by simp [h0]), if_neg h1, h2]
  show (if (flds l).length < want k then _ else _) = _
  rw [if_pos h3]
theorem cap_many {l : List UInt8} {k : Nat} {d : Bool} (h : l.length ≤ 256) (h0 : part_ (flds l) 0 = tRoom) (h1 : ¬ (flds l).length < 2) (h2 : kindL (part_ (flds l) 1) = some (k, d)) (h3 : want k < (flds l).length) : capF l = some (place (flds l) (want k), 150) := by
  unfold capF
  rw [if_neg (by omega), if_neg (by simp [h0]), if_neg h1, h2]
  show (if (flds l).length < want k then _ else if want k < (flds l).length then _ else _) = _
  rw [if_neg (by omega), if_pos h3]
theorem cap_body {l : List UInt8} {k : Nat} {d : Bool} (h : l.length ≤ 256) (h0 : part_ (flds l) 0 = tRoom) (h1 : ¬ (flds l).length < 2) (h2 : kindL (part_ (flds l) 1) = some (k, d)) (h3 : want k = (flds l).length) : capF l = first_ (bodyF (flds l) k) (mayF (capOf (flds l) k d)) ∧ capC l = capOf (flds l) k d := by
  unfold capF capC
  rw [if_neg (by omega), if_neg (by simp [h0]), if_neg h1, h2]
  refine ⟨?_, rfl⟩
  show (if (flds l).length < want k then _ else if want k < (flds l).length then _ else _) = _
  rw [if_neg (by omega), if_neg (by omega)]
end Go.Proofs.YtcpceaflnnkhnaaGreatDoor

/- The program's parse at the parts behind the word: one contract for any word. -/
namespace Go.Proofs.YtcpceaflnnkhnaaGreatDoor
open Go.RowKit

theorem parse_at (ps : List (List UInt8)) (ts : List ByteArray) (g4 g5 m c c2 kd vn : Nat) (wd : ByteArray) (W : World) (hts : ts.map lst = ps) (hlen : ts.length = vn) (hm : m = vn + 1)
    (tcell : ∀ (j : Nat) (x : ByteArray), ts[j]? = some x → W.cell? ⟨g4, j, none⟩ = some (.string x)) (pcell : ∀ j, j ≤ vn → W.cell? ⟨g5, j, none⟩ = some (.int .i64 (place ps j : Int)))
    (hpl : ∀ k, place ps k ≤ 257) (hsz : ∀ (j : Nat) (x : ByteArray), ts[j]? = some x → x.size ≤ 1000)
    (hway : (kd = 1 ∧ wd = bRead ∧ vn = 8) ∨ (kd = 2 ∧ wd = bVerify ∧ vn = 8) ∨ (kd = 3 ∧ wd = bLit ∧ vn = 3)) (ht : Tab W) (he : Err W) :
    Calls Tryz.prog 61 #[.string wd, .slice (some ⟨g4, 2, none⟩) (vn - 2) c, .slice (some ⟨g5, 2, none⟩) (m - 2) c2] W (ParsePost ps kd W) := by
  have hg : ∀ j, j < vn → ts[j]? = some (ts.getD j ⟨#[]⟩) := fun j hj => by rw [List.getD_eq_getElem?_getD, List.getElem?_eq_getElem (by omega)]; rfl
  have hpart : ∀ j, j < vn → part_ ps j = lst (ts.getD j ⟨#[]⟩) := fun j hj => by
    unfold part_
    rw [← hts, List.getD_eq_getElem?_getD, List.getElem?_map, hg j hj]
    rfl
  rcases hway with ⟨rfl, rfl, hv⟩ | ⟨rfl, rfl, hv⟩ | ⟨rfl, rfl, hv⟩
  · refine parse_read ps g4 2 g5 2 (vn - 2) c (m - 2) c2 (fun i => ts.getD (2 + i) ⟨#[]⟩) (fun i => place ps (2 + i)) W (fun i hi => ⟨?_, ?_⟩) ⟨by omega, by omega⟩ ⟨fun i hi => ⟨tcell _ _ (hg _ (by omega)), pcell _ (by omega)⟩⟩ ht he fun i hi => ⟨hpart _ (by omega), rfl⟩
    · have := hsz _ _ (hg (2 + i) (by omega)); show (ts.getD (2 + i) ⟨#[]⟩).size ≤ 1000000; omega
    · have := hpl (2 + i); show place ps (2 + i) ≤ 1000000; omega
  · refine parse_verify ps g4 2 g5 2 (vn - 2) c (m - 2) c2 (fun i => ts.getD (2 + i) ⟨#[]⟩) (fun i => place ps (2 + i)) W (fun i hi => ⟨?_, ?_⟩) ⟨by omega, by omega⟩ ⟨fun i hi => ⟨tcell _ _ (hg _ (by omega)), pcell _ (by omega)⟩⟩ ht he fun i hi => ⟨hpart _ (by omega), rfl⟩
    · have := hsz _ _ (hg (2 + i) (by omega)); show (ts.getD (2 + i) ⟨#[]⟩).size ≤ 1000000; omega
    · have := hpl (2 + i); show place ps (2 + i) ≤ 1000000; omega
  · exact parse_lit ps g4 2 g5 2 (vn - 2) c (m - 2) c2 (ts.getD 2 ⟨#[]⟩) (place ps 2) W (by have := hsz _ _ (hg 2 (by omega)); omega) (by have := hpl 2; omega) ⟨by omega, by omega⟩ ⟨tcell _ _ (hg _ (by omega)), pcell _ (by omega)⟩ (hpart _ (by omega)) rfl
end Go.Proofs.YtcpceaflnnkhnaaGreatDoor

/- The store of any capability's cells into a block of its own. -/
namespace Go.Proofs.YtcpceaflnnkhnaaGreatDoor
open Go.RowKit

theorem cap_store {W : World} {g : Nat} (F : Array Value) (hs : F.size = 107) (h1 : F.all (·.oneCell') = true) (h : W.there g 0 107) : (Instr.storeAt 34 (.pointer (some ⟨g, 0, none⟩)) (.agg F)).run Tryz.prog W = .ok () (W.setCells g 0 F.toList) :=
  run_storeAt_mid (P := Tryz.prog) W g 0 34 F (by rw [hs]; exact h) (by rw [hs]; kernel_rfl) h1
theorem cap_storeC {W : World} {g : Nat} (F : Array Value) (hs : F.size = 107) (h1 : F.all (·.oneCell') = true) (h : W.there g 0 107) : (storeCells ⟨g, 0, none⟩ F.toList).run Tryz.prog W = .ok () (W.setCells g 0 F.toList) := by
  have hl : F.toList.length = 107 := by simpa using hs
  have := run_storeCells_cells (P := Tryz.prog) g 0 F.toList 0 W (fun j hj => by rw [hl] at hj; simpa using (h j hj).1) (fun j hj => by rw [hl] at hj; simpa using (h j hj).2) (fun v hv => by
    rw [Array.all_eq_true_iff_forall_mem] at h1
    exact h1 v (by simpa using hv))
  simpa using this
theorem blk_fill {w : World} {g : Nat} {t : TypeId} {old F : Array Value} (h : Blk w g t old) (hs : F.size = old.size) : Blk (w.setCells g 0 F.toList) g t F := by
  have := blk_setCells F.toList w 0 old h (by simp; omega)
  simp only [List.take_zero, List.nil_append, Nat.zero_add, Array.length_toList] at this
  rw [List.drop_of_length_le (by simp; omega), List.append_nil] at this
  simpa using this
/-- A row stays owned where a block of another type alone has turned. -/
theorem Own.apart {w w' : World} {base g : Nat} {e t : TypeId} {v : Value} {l : List UInt8} {cs : Array Value} (h : Own w base e v l) (hb : Blk w g t cs) (hne : e ≠ t) (hg : w.grownBy w' (some g)) : Own w' base e v l := by
  obtain ⟨h1, h2⟩ := h
  refine ⟨h1, ?_⟩
  rcases h2 with h2 | ⟨g', cap, cur, hv, hbg, hh, r⟩
  · exact .inl h2
  · have hlt : g' < w.heap.size := by
      rcases Nat.lt_or_ge g' w.heap.size with h3 | h3
      · exact h3
      · rw [Array.getElem?_eq_none h3] at hh; cases hh
    refine .inr ⟨g', cap, cur, hv, hbg, (hg.block g' hlt (fun e2 => ?_)).trans hh, r⟩
    injection e2 with e2
    subst e2
    unfold Blk at hb
    rw [hh] at hb
    injection hb with hb
    injection hb with _ ht
    exact hne ht
theorem Own.lower {w : World} {b b' : Nat} {e : TypeId} {v : Value} {l : List UInt8} (h : Own w b e v l) (hb : b' ≤ b) : Own w b' e v l := by
  obtain ⟨h1, h2⟩ := h
  refine ⟨h1, ?_⟩
  rcases h2 with h2 | ⟨g', cap, cur, hv, hbg, r⟩
  · exact .inl h2
  · exact .inr ⟨g', cap, cur, hv, Nat.le_trans hb hbg, r⟩
/-- As many cells as a capability has, each one. -/
def Fits (F : Array Value) : Prop := F.size = 107 ∧ F.all (·.oneCell') = true
theorem cap_storeG {W : World} {g : Nat} {F : Array Value} (hf : Fits F) (h : W.there g 0 107) : (Instr.storeAt 34 (.pointer (some ⟨g, 0, none⟩)) (.agg F)).run Tryz.prog W = .ok () (W.setCells g 0 F.toList) := cap_store F hf.1 hf.2 h
theorem cap_storeF {W : World} {g : Nat} {F : Array Value} (hf : Fits F) (h : W.there g 0 107) : (storeCells ⟨g, 0, none⟩ F.toList).run Tryz.prog W = .ok () (W.setCells g 0 F.toList) := cap_storeC F hf.1 hf.2 h
end Go.Proofs.YtcpceaflnnkhnaaGreatDoor
