/- BaseFields: of every text; new memory: the program's fields are the document's, and lie apart. -/
import Derived.Test.YtghobbbmoeijbaaDoorAptB
import Derived.Test.YtghobbbmoeijbaaDoorTexts
namespace Go.Proofs.YtghobbbmoeijbaaDoor
open Go.RowKit

theorem flds_length_le (l : List UInt8) : (flds l).length ≤ l.length + 1 := by
  induction l with
  | nil => simp [flds]
  | cons c l ih =>
    by_cases h : c = 58
    · subst h
      rw [flds_colon]
      simp only [List.length_cons]
      omega
    · obtain ⟨f, r, h1, h2⟩ := flds_other h l
      rw [h2]
      rw [h1] at ih
      simp only [List.length_cons] at ih ⊢
      omega

set_option maxRecDepth 100000 in
set_option maxHeartbeats 4000000 in
theorem law_fields (s t : ByteArray) (m : Int) (w : World) (hs : s.size ≤ 1048576) (ht : t.size ≤ 1048576) (hm : w.cell? ⟨2, 0, none⟩ = some (.int .i64 m)) :
    Calls Tryd.prog 3 #[.string s, .string t] w fun e w' => e = .returned (.bool true) ∧ Below w.heap.size w w' := by
  have hgl : 2 < w.heap.size := by
    rcases Nat.lt_or_ge 2 w.heap.size with h | h
    · exact h
    · simp [World.cell?, Array.getElem?_eq_none h] at hm
  have hmB : ∀ w', Below w.heap.size w w' → w'.cell? ⟨2, 0, none⟩ = some (.int .i64 m) := fun w' hb => (hb.cell (p := ⟨2, 0, none⟩) hgl).trans hm
  have HM := hide hmB
  have q1 := bfields_any s m w (by omega) hm
  clear hmB hm hgl
  go_enter Tryd.func3, Tryd.ntmps3
  go_wp2_with fail
  refine q1.mono ?_
  rintro e w1 ⟨a, ts, rfl, ha, hta, hb1⟩
  have q2 := bfields_any t m w1 (by omega) (HM.out _ hb1)
  have H1 := hide (And.intro ha (And.intro hta hb1))
  clear q1 ha hta hb1
  go_wp2_with fail
  refine q2.mono ?_
  rintro e w2 ⟨b, us, rfl, hb, htb, hb2⟩
  have hb02 := H1.out.2.2.trans (hb2.mono H1.out.2.2.size)
  have q3 := bfields_any s m w2 (by omega) (HM.out _ hb02)
  have H2 := hide (And.intro hb (And.intro htb (And.intro hb2 hb02)))
  clear q2 hb htb hb2 hb02
  go_wp2_with fail
  refine q3.mono ?_
  rintro e w3 ⟨c, vs, rfl, hc, htc, hb3⟩
  have hb03 := H2.out.2.2.2.trans (hb3.mono H2.out.2.2.2.size)
  have H3 := hide (And.intro hc (And.intro htc (And.intro hb3 hb03)))
  clear q3 hc htc hb3 hb03
  have q4 := rfields_any s w3 (by omega)
  go_wp2_with fail
  refine q4.mono ?_
  rintro e w4 ⟨d, xs, rfl, hd, htd, hb4⟩
  have h12 : ts = xs := map_lst_inj (by rw [H1.out.2.1, htd])
  have h32 : vs = xs := map_lst_inj (by rw [H3.out.2.1, htd])
  have hb04 := H3.out.2.2.2.trans (hb4.mono H3.out.2.2.2.size)
  -- the rows in the world w4
  have ha4 : OwnT w4 w.heap.size a ts := ((H1.out.1.below H2.out.2.2.1).below H3.out.2.2.1).below hb4
  have hb4' : OwnT w4 w1.heap.size b us := (H2.out.1.below H3.out.2.2.1).below hb4
  have hc4 : OwnT w4 w2.heap.size c vs := H3.out.1.below hb4
  have H4 := hide (And.intro ha4 (And.intro hb4' (And.intro hc4 (And.intro hd (And.intro hb04 (And.intro h12 (And.intro h32 H2.out.2.1)))))))
  have hs1 : w.heap.size ≤ w1.heap.size := H1.out.2.2.size
  have hs2 : w1.heap.size ≤ w2.heap.size := H2.out.2.2.1.size
  have hs3 : w2.heap.size ≤ w3.heap.size := H3.out.2.2.1.size
  have hap : Apt a b ∧ Apt a c ∧ Apt b c := ⟨apt_later H1.out.1 H2.out.1 (Nat.le_refl _), apt_later H1.out.1 H3.out.1 hs2, apt_later H2.out.1 H3.out.1 (Nat.le_refl _)⟩
  have hl1 : ts.length ≤ 1099511627776 := by
    have h := congrArg List.length H1.out.2.1
    rw [List.length_map] at h
    have := flds_length_le (lst s)
    rw [lst_len] at this
    omega
  have hl2 : us.length ≤ 1099511627776 := by
    have h := congrArg List.length H2.out.2.1
    rw [List.length_map] at h
    have := flds_length_le (lst t)
    rw [lst_len] at this
    omega
  have hl3 : vs.length ≤ 1099511627776 := by
    have h := congrArg List.length H3.out.2.1
    rw [List.length_map] at h
    have := flds_length_le (lst s)
    rw [lst_len] at this
    omega
  have HA := hide (And.intro hap (And.intro hl1 (And.intro hl2 hl3)))
  have HS := hide (And.intro hs1 (And.intro hs2 hs3))
  clear q4 hd htd hb4 h12 h32 hb04 ha4 hb4' hc4 H1 H2 H3 hap hl1 hl2 hl3 hs1 hs2 hs3
  have q5 := stexts_any _ _ _ _ _ _ w4 H4.out.1 H4.out.2.2.2.1
  rw [decide_eq_true H4.out.2.2.2.2.2.1] at q5
  go_wp2_with fail
  refine q5.mono ?_
  rintro e w5 ⟨rfl, hd5⟩
  have h45 := hd5.below
  have H5 := hide (And.intro (H4.out.1.below h45) (And.intro (H4.out.2.1.below h45) (And.intro (H4.out.2.2.1.below h45) (And.intro (H4.out.2.2.2.1.below h45) (And.intro (H4.out.2.2.2.2.1.trans (h45.mono H4.out.2.2.2.2.1.size)) (And.intro H4.out.2.2.2.2.2.2.1 H4.out.2.2.2.2.2.2.2))))))
  clear q5 hd5 h45 H4
  have q6 := rfields_any t w5 (by omega)
  go_wp2_with fail
  refine q6.mono ?_
  rintro e w6 ⟨f, ys, rfl, hf, htf, hb6⟩
  have h2y : us = ys := map_lst_inj (by rw [H5.out.2.2.2.2.2.2, htf])
  have H6 := hide (And.intro (H5.out.1.below hb6) (And.intro (H5.out.2.1.below hb6) (And.intro (H5.out.2.2.1.below hb6) (And.intro (H5.out.2.2.2.1.below hb6) (And.intro (H5.out.2.2.2.2.1.trans (hb6.mono H5.out.2.2.2.2.1.size)) (And.intro H5.out.2.2.2.2.2.1 (And.intro hf h2y)))))))
  clear q6 hf htf hb6 h2y H5
  have q7 := stexts_any _ _ _ _ _ _ w6 H6.out.2.1 H6.out.2.2.2.2.2.2.1
  rw [decide_eq_true H6.out.2.2.2.2.2.2.2] at q7
  go_wp2_with fail
  refine q7.mono ?_
  rintro e w7 ⟨rfl, hd7⟩
  have h67 := hd7.below
  have H7 := hide (And.intro (H6.out.1.below h67) (And.intro (H6.out.2.1.below h67) (And.intro (H6.out.2.2.1.below h67) (And.intro (H6.out.2.2.2.1.below h67) (And.intro (H6.out.2.2.2.2.1.trans (h67.mono H6.out.2.2.2.2.1.size)) H6.out.2.2.2.2.2.1)))))
  clear q7 hd7 h67 H6
  have q8 := stexts_any _ _ _ _ _ _ w7 H7.out.2.2.1 H7.out.2.2.2.1
  rw [decide_eq_true H7.out.2.2.2.2.2] at q8
  go_wp2_with fail
  refine q8.mono ?_
  rintro e w8 ⟨rfl, hd8⟩
  have h78 := hd8.below
  have H8 := hide (And.intro (H7.out.1.below h78) (And.intro (H7.out.2.1.below h78) (And.intro (H7.out.2.2.1.below h78) (H7.out.2.2.2.2.1.trans (h78.mono H7.out.2.2.2.2.1.size)))))
  have HV := hide H7.out.2.2.2.2.2
  clear q8 hd8 h78 H7
  have q9 := apartT3 w.heap.size H8.out.2.2.2.size H8.out.1 (own_base H8.out.2.1 HS.out.1) (own_base H8.out.2.2.1 (Nat.le_trans HS.out.1 HS.out.2.1)) HA.out.1.1 HA.out.1.2.1 HA.out.1.2.2 HA.out.2.1 HA.out.2.2.1 HA.out.2.2.2
  obtain ⟨A1, c1, hv1, _⟩ := H8.out.1.form
  obtain ⟨A2, c2, hv2, _⟩ := H8.out.2.1.form
  obtain ⟨A3, c3, hv3, _⟩ := H8.out.2.2.1.form
  subst hv1 hv2 hv3
  go_wp2_with fail
  refine q9.mono ?_
  rintro e w9 ⟨rfl, hb9⟩
  go_wp2
  go_ret
  exact ⟨rfl, H8.out.2.2.2.trans hb9⟩
end Go.Proofs.YtghobbbmoeijbaaDoor
