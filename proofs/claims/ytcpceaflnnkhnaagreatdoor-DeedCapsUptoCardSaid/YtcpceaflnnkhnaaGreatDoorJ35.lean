/- Joined texts: DocD. -/
import Derived.Test.YtcpceaflnnkhnaaGreatDoorJ34
import Derived.Test.YtcpceaflnnkhnaaGreatDoorJ27

/- The document's Print of every kind, and Weaken. (Printed by wip/docd.py.) -/
namespace Go.Proofs.YtcpceaflnnkhnaaGreatDoor
open Go.RowKit

set_option maxRecDepth 100000 in
set_option maxHeartbeats 8000000 in
theorem rprint_literal (cs : Array Value) (c : CP) (v : Value) (w : World) (h : Capy w cs c v) (hm : c.may) (hk : c.kind = 3) :
    Calls Tryz.prog 24 #[.agg cs] w fun e w' => ∃ s, e = .returned (.tuple #[.string s, .int .i64 0]) ∧ lst s = c.text ∧ Below w.heap.size w w' := by
  obtain ⟨A, k, rfl, -, -, -⟩ := h.by_.form
  have H0 := hide (And.intro (Blk.new w 34 cs) ((Below.refl w.heap.size w).alloc (Nat.le_refl _) (.cells cs 34)))
  have HZ := hide h.size
  have QC := hide (fun W (hW : Below w.heap.size w W) => rcheck_cap cs c _ W (h.below hW))
  have hlen : c.lit.length ≤ 32 := by
    rcases hm with ⟨k1, -⟩ | ⟨k1, -⟩ | ⟨-, -, -, k4⟩
    · omega
    · omega
    · exact k4
  rw [if_pos hm] at QC
  have f0 := h.c0
  have f1 := h.c1
  have f4 := h.lit
  rw [hk] at f0
  have e0 : ((3 : Nat) : Int) = 3 := rfl
  rw [e0] at f0
  have hbody : c.body = [letters c.lit] := by unfold CP.body; rw [hk]; rfl
  obtain ⟨d, hd⟩ : ∃ d, d = c.dir := ⟨_, rfl⟩
  rw [← hd] at f1
  obtain ⟨wd, hwl, hws, qw⟩ : ∃ wd : ByteArray, lst wd = wordL c.kind c.dir ∧ wd.size ≤ 10 ∧ ∀ W, Calls Tryz.prog 46 #[.int .u8 3, .bool d] W fun e w' => e = .returned (.string wd) ∧ Below W.heap.size W w' := by
    refine ⟨⟨(wordL 3 d).toArray⟩, by rw [lst_mk, hk, hd], by rw [← lst_len, lst_mk]; cases d <;> decide, fun W => ?_⟩
    exact kword_any 3 d W (by omega)
  have QW := hide qw
  have QL := hide (fun W (hW : Below w.heap.size w W) => rletters_any _ c.lit W (h.by_.below hW) (by omega))
  obtain ⟨n, hn⟩ : ∃ n, n = c.lit.length := ⟨_, rfl⟩
  rw [← hn] at f4 QL
  have HT := hide (show ∀ (x1 : ByteArray), lst x1 = letters c.lit → lst (⟨#[115, 116, 114, 111, 110, 103, 114, 111, 111, 109, 58]⟩ ++ wd ++ ⟨#[58]⟩ ++ x1) = c.text from fun x1 p1 => by
    simp only [lst_append, p1, hwl]
    unfold CP.text CP.parts
    rw [hbody]
    simp only [joinC_cons2]
    rw [show lst ⟨#[58]⟩ = [58] from rfl, show lst ⟨#[115, 116, 114, 111, 110, 103, 114, 111, 111, 109, 58]⟩ = tRoom ++ [58] from rfl]
    simp only [List.append_assoc, List.cons_append, List.nil_append]
    rfl)
  have HX := hide (show ∀ s : ByteArray, lst s = letters c.lit → s.size ≤ 60 from fun s hs => by
    rw [← lst_len, hs, letters_length]
    unfold lets
    omega)
  have HC := hide (show ∀ W, Blk W w.heap.size 34 cs → W.cell? ⟨w.heap.size, 0, none⟩ = some (.int .u8 3) ∧ W.cell? ⟨w.heap.size, 1, none⟩ = some (.bool d) ∧ W.cell? ⟨w.heap.size, 106, none⟩ = some (.slice A n k) from fun W hb => ⟨(hb.cell 0).trans f0, (hb.cell 1).trans f1, (hb.cell 106).trans f4⟩)
  clear hm h hk hbody hd hwl qw hn f0 f1 f4 e0 hlen
  go_enter Tryz.func24, Tryz.ntmps24
  go_wp2_with first
    | ((with_reducible change wpList _ _ _ (⟨some 7, _, _, _, _, _⟩ :: _) _ _); refine wpList_load_row (o := ⟨some 7, .load _ _, _, _, _, _⟩) rfl 34 _ rfl w.heap.size rfl 34 cs (0, 0) _ H0.out.1 Tryz.underlying34 rfl (by rw [HZ.out]; kernel_rfl) ?_)
    | (go_at_call 27; refine (QC.out _ H0.out.2).mono ?_; rintro e w1 ⟨rfl, b⟩; go_loud (have H1 := hide (And.intro (H0.out.1.below' b) (Below.step H0.out.2 b)); clear b; obtain ⟨g0, g1, g4⟩ := HC.out _ H1.out.1))
    | (go_at_call 46; refine (QW.out _).mono ?_; rintro e w2 ⟨rfl, b⟩; go_loud (have H2 := hide (And.intro (H1.out.1.below' b) (Below.step H1.out.2 b)); clear b; clear g0 g1 g4; obtain ⟨g0, g1, g4⟩ := HC.out _ H2.out.1))
    | (go_at_call 47; refine (QL.out _ H2.out.2).mono ?_; rintro e w3 ⟨x1, rfl, p1, b⟩; go_loud (have p1s := HX.out x1 p1; have H3 := hide (Below.step H2.out.2 b); clear b))
  go_ret2
  exact ⟨_, rfl, HT.out x1 p1, H3.out⟩
set_option maxRecDepth 100000 in
set_option maxHeartbeats 8000000 in
theorem rprint_bad (cs : Array Value) (c : CP) (v : Value) (w : World) (h : Capy w cs c v) (hm : ¬ c.may) :
    Calls Tryz.prog 24 #[.agg cs] w fun e w' => e = .returned (.tuple #[.string ⟨#[]⟩, .int .i64 5]) ∧ Below w.heap.size w w' := by
  obtain ⟨A, k, rfl, -, -, -⟩ := h.by_.form
  have H0 := hide (And.intro (Blk.new w 34 cs) ((Below.refl w.heap.size w).alloc (Nat.le_refl _) (.cells cs 34)))
  have HZ := hide h.size
  have QC := hide (fun W (hW : Below w.heap.size w W) => rcheck_cap cs c _ W (h.below hW))
  rw [if_neg hm] at QC
  clear h hm
  go_enter Tryz.func24, Tryz.ntmps24
  go_wp2_with first
    | ((with_reducible change wpList _ _ _ (⟨some 7, _, _, _, _, _⟩ :: _) _ _); refine wpList_load_row (o := ⟨some 7, .load _ _, _, _, _, _⟩) rfl 34 _ rfl w.heap.size rfl 34 cs (0, 0) _ H0.out.1 Tryz.underlying34 rfl (by rw [HZ.out]; kernel_rfl) ?_)
    | (go_at_call 27; refine (QC.out _ H0.out.2).mono ?_; rintro e w1 ⟨rfl, b⟩; go_loud (have H1 := hide (Below.step H0.out.2 b); clear b))
  go_ret2
  exact ⟨rfl, H1.out⟩
theorem rprint_cap (cs : Array Value) (c : CP) (v : Value) (w : World) (h : Capy w cs c v) :
    Calls Tryz.prog 24 #[.agg cs] w fun e w' => e = .returned (.tuple #[.string (prS c), .int .i64 (prE c)]) ∧ Below w.heap.size w w' := by
  have key : ∀ (e : Ending) (w' : World), c.may → (∃ s, e = .returned (.tuple #[.string s, .int .i64 0]) ∧ lst s = c.text ∧ Below w.heap.size w w') → (e = .returned (.tuple #[.string (prS c), .int .i64 (prE c)]) ∧ Below w.heap.size w w') := by
    rintro e w' hm ⟨s, rfl, h1, h2⟩
    refine ⟨?_, h2⟩
    unfold prS prE
    rw [if_pos hm, if_pos hm, show s = ⟨c.text.toArray⟩ from lst_inj (by rw [h1, lst_mk])]
  by_cases hm : c.may
  · have hk3 : c.kind = 1 ∨ c.kind = 2 ∨ c.kind = 3 := by
      rcases hm with ⟨h1, -⟩ | ⟨h1, -⟩ | ⟨h1, -⟩
      · exact .inl h1
      · exact .inr (.inl h1)
      · exact .inr (.inr h1)
    rcases hk3 with hk | hk | hk
    · exact (rprint_reading cs c v w h hm hk).mono fun e w' q => key e w' hm q
    · exact (rprint_verifying cs c v w h hm hk).mono fun e w' q => key e w' hm q
    · exact (rprint_literal cs c v w h hm hk).mono fun e w' q => key e w' hm q
  · refine (rprint_bad cs c v w h hm).mono ?_
    rintro e w' ⟨rfl, h2⟩
    refine ⟨?_, h2⟩
    unfold prS prE
    rw [if_neg hm, if_neg hm]
end Go.Proofs.YtcpceaflnnkhnaaGreatDoor
