/- Joined texts: DocC. -/
import Derived.Test.YtcpceaflnnkhnaaGreatDoorJ33
import Derived.Test.YtcpceaflnnkhnaaGreatDoorJ19

/- The document's Size and Print. (Printed by wip/docc.py.) -/
namespace Go.Proofs.YtcpceaflnnkhnaaGreatDoor
open Go.RowKit
attribute [local go_sem ↓] Go.run_string_add

theorem i64_idD (x : Int) (h0 : -9223372036854775808 ≤ x) (h : x ≤ 9223372036854775807) : IntKind.i64.wrap x = x := by
  simp only [IntKind.wrap, IntKind.bits, IntKind.signed]
  simp
  omega
theorem sizeN_sum {c : CP} (hm : c.may) : sizeN c = c.rd.size + c.vf.size + (c.lit.length : Int) ∧ (0 ≤ c.rd.size ∧ c.rd.size ≤ 16777216) ∧ (0 ≤ c.vf.size ∧ c.vf.size ≤ 16777216) ∧ c.lit.length ≤ 32 := by
  have h0 : RV.zero.size = 0 := rfl
  unfold sizeN
  rw [if_pos hm]
  rcases hm with ⟨k1, k2, k3, k4⟩ | ⟨k1, k2, k3, k4⟩ | ⟨k1, k2, k3, k4⟩
  · have := RV.may_nat k4
    rw [if_pos k1, k2, k3, h0]
    simp only [List.length_nil]
    omega
  · have := RV.may_nat k4
    rw [if_neg (by omega), if_pos k1, k2, k3, h0]
    simp only [List.length_nil]
    omega
  · rw [if_neg (by omega), if_neg (by omega), k2, k3, h0]
    omega
set_option maxRecDepth 100000 in
set_option maxHeartbeats 8000000 in
theorem rsize_cap (cs : Array Value) (c : CP) (v : Value) (w : World) (h : Capy w cs c v) :
    Calls Tryz.prog 26 #[.agg cs] w fun e w' => e = .returned (.tuple #[.int .i64 (sizeN c), .int .i64 (prE c)]) ∧ Below w.heap.size w w' := by
  obtain ⟨A, k, rfl, -, -, -⟩ := h.by_.form
  have H0 := hide (And.intro (Blk.new w 34 cs) ((Below.refl w.heap.size w).alloc (Nat.le_refl _) (.cells cs 34)))
  have HZ := hide h.size
  have QC := hide (fun W (hW : Below w.heap.size w W) => rcheck_cap cs c _ W (h.below hW))
  by_cases hmay : c.may
  rotate_left
  · have e1 : sizeN c = 0 := by unfold sizeN; rw [if_neg hmay]
    have e2 : prE c = 5 := by unfold prE; rw [if_neg hmay]
    rw [if_neg hmay] at QC
    rw [e1, e2]
    clear h hmay e1 e2
    go_enter Tryz.func26, Tryz.ntmps26
    go_wp2_with first
      | ((with_reducible change wpList _ _ _ (⟨some 4, _, _, _, _, _⟩ :: _) _ _); refine wpList_load_row (o := ⟨some 4, .load _ _, _, _, _, _⟩) rfl 34 _ rfl w.heap.size rfl 34 cs (0, 0) _ H0.out.1 Tryz.underlying34 rfl (by rw [HZ.out]; kernel_rfl) ?_)
      | (go_at_call 27; refine (QC.out _ H0.out.2).mono ?_; rintro e w1 ⟨rfl, b⟩; go_loud (have H1 := hide (Below.step H0.out.2 b); clear b))
    go_ret2
    exact ⟨rfl, H1.out⟩
  have e2 : prE c = 0 := by unfold prE; rw [if_pos hmay]
  obtain ⟨e1, r1, r2, r3⟩ := sizeN_sum hmay
  rw [if_pos hmay] at QC
  rw [e1, e2]
  obtain ⟨⟨-, -, -, n3⟩, ⟨-, -, -, m3⟩⟩ := h.nums
  have f4 := h.lit
  obtain ⟨n, hn⟩ : ∃ n, n = c.lit.length := ⟨_, rfl⟩
  obtain ⟨x, hx⟩ : ∃ n, n = c.rd.size := ⟨_, rfl⟩
  obtain ⟨y, hy⟩ : ∃ n, n = c.vf.size := ⟨_, rfl⟩
  rw [← hn] at f4 r3
  rw [← hx] at n3 r1
  rw [← hy] at m3 r2
  rw [← hn, ← hx, ← hy]
  have a1 : IntKind.i64.wrap (x + y) = x + y := i64_idD _ (by omega) (by omega)
  have a2 : IntKind.i64.wrap (x + y + (n : Int)) = x + y + (n : Int) := i64_idD _ (by omega) (by omega)
  have HC := hide (show ∀ W, Blk W w.heap.size 34 cs → W.cell? ⟨w.heap.size, 53, none⟩ = some (.int .i64 x) ∧ W.cell? ⟨w.heap.size, 105, none⟩ = some (.int .i64 y) ∧ W.cell? ⟨w.heap.size, 106, none⟩ = some (.slice A n k) from fun W hb => ⟨(hb.cell 53).trans n3, (hb.cell 105).trans m3, (hb.cell 106).trans f4⟩)
  clear h hmay e1 e2 hn hx hy n3 m3 f4
  go_enter Tryz.func26, Tryz.ntmps26
  go_wp2_with first
    | ((with_reducible change wpList _ _ _ (⟨some 4, _, _, _, _, _⟩ :: _) _ _); refine wpList_load_row (o := ⟨some 4, .load _ _, _, _, _, _⟩) rfl 34 _ rfl w.heap.size rfl 34 cs (0, 0) _ H0.out.1 Tryz.underlying34 rfl (by rw [HZ.out]; kernel_rfl) ?_)
    | (go_at_call 27; refine (QC.out _ H0.out.2).mono ?_; rintro e w1 ⟨rfl, b⟩; go_loud (have H1 := hide (And.intro (H0.out.1.below' b) (Below.step H0.out.2 b)); clear b; obtain ⟨c1, c2, c3⟩ := HC.out _ H1.out.1))
  go_ret2
  exact ⟨rfl, H1.out.2⟩
set_option maxRecDepth 100000 in
set_option maxHeartbeats 8000000 in
theorem rprint_reading (cs : Array Value) (c : CP) (v : Value) (w : World) (h : Capy w cs c v) (hm : c.may) (hk : c.kind = 1) :
    Calls Tryz.prog 24 #[.agg cs] w fun e w' => ∃ s, e = .returned (.tuple #[.string s, .int .i64 0]) ∧ lst s = c.text ∧ Below w.heap.size w w' := by
  obtain ⟨A, k, rfl, -, -, -⟩ := h.by_.form
  have H0 := hide (And.intro (Blk.new w 34 cs) ((Below.refl w.heap.size w).alloc (Nat.le_refl _) (.cells cs 34)))
  have HZ := hide h.size
  have QC := hide (fun W (hW : Below w.heap.size w W) => rcheck_cap cs c _ W (h.below hW))
  rw [if_pos hm] at QC
  have f0 := h.c0
  have f1 := h.c1
  rw [hk] at f0
  have e0 : ((1 : Nat) : Int) = 1 := rfl
  rw [e0] at f0
  have hbody : c.body = c.rd.parts := by unfold CP.body; rw [hk]; rfl
  obtain ⟨d, hd⟩ : ∃ d, d = c.dir := ⟨_, rfl⟩
  rw [← hd] at f1
  obtain ⟨wd, hwl, hws, qw⟩ : ∃ wd : ByteArray, lst wd = wordL c.kind c.dir ∧ wd.size = (if d = true then 8 else 4) ∧ ∀ W, Calls Tryz.prog 46 #[.int .u8 1, .bool d] W fun e w' => e = .returned (.string wd) ∧ Below W.heap.size W w' := by
    refine ⟨⟨(wordL 1 d).toArray⟩, by rw [lst_mk, hk, hd], by rw [← lst_len, lst_mk]; cases d <;> rfl, fun W => ?_⟩
    exact kword_any 1 d W (by omega)
  have QW := hide qw
  obtain ⟨r, hr⟩ : ∃ r, r = c.rd := ⟨_, rfl⟩
  have hf : r.wf := by rw [hr]; exact h.wf.1
  have hi : r.in64 := by rw [hr]; exact h.i64.1
  have hsz := RV.cells_length hf
  obtain ⟨F, hF⟩ : ∃ F : Array Value, F = r.cells.toArray := ⟨_, rfl⟩
  have HF := hide (show F.size = 52 ∧ F.all (·.oneCell') = true from by rw [hF]; exact ⟨rv_size r hf, rv_one r⟩)
  have HR := hide (show ∀ W, Blk W w.heap.size 34 cs → W.rangeAt w.heap.size 2 F.toList from fun W hb => by
    have := h.rdAt hb
    rw [hF, hr]
    simpa using this)
  have hcell : ∀ j, j < 52 → F[j]? = r.cells[j]? := fun j hj => by rw [hF, List.getElem?_toArray]
  have hkey : ∀ W g, Blk W g 28 F → By W (.slice (some ⟨g, 0, none⟩) 16 16) r.key := fun W g hb => ⟨by simp, _, 16, by rw [hf.1], by rw [hf.1]; exact Nat.le_refl _, by unfold maxLen; omega, fun _ => ⟨g, 0, rfl, hb.lt, fun j hj => by
    rw [hf.1, Nat.mul_one] at hj
    rw [Nat.zero_add, hb.cell, hcell j (by omega)]
    unfold RV.cells
    rw [List.getElem?_append_left (by simp [hf.1]; omega)]⟩⟩
  have hueb : ∀ W g, Blk W g 28 F → By W (.slice (some ⟨g, 16, none⟩) 32 32) r.ueb := fun W g hb => ⟨by simp, _, 32, by rw [hf.2], by rw [hf.2]; exact Nat.le_refl _, by unfold maxLen; omega, fun _ => ⟨g, 16, rfl, hb.lt, fun j hj => by
    rw [hf.2, Nat.mul_one] at hj
    rw [hb.cell, hcell (16 + j) (by omega)]
    unfold RV.cells
    rw [List.getElem?_append_right (by simp [hf.1]), List.getElem?_append_left (by simp [hf.1, hf.2]; omega)]
    congr 1
    simp [hf.1]⟩⟩
  have QL := hide (show ∀ (w0 : World) (g o n : Nat) (W : World), Blk w0 g 28 F → ((o = 0 ∧ n = 16) ∨ (o = 16 ∧ n = 32)) → Below w0.heap.size w0 W → Calls Tryz.prog 47 #[.slice (some ⟨g, o, none⟩) n n] W fun e w' => ∃ s : ByteArray, e = .returned (.string s) ∧ lst s = letters (if o = 0 then r.key else r.ueb) ∧ s.size = (if o = 0 then 26 else 52) ∧ Below W.heap.size W w' from fun w0 g o n W hb h hW => by
    rcases h with ⟨rfl, rfl⟩ | ⟨rfl, rfl⟩
    · exact (rletters_any _ r.key W (hkey W g (hb.below' hW)) (by rw [hf.1]; omega)).mono (by
        rintro e w' ⟨s, rfl, h1, h2⟩
        have h1' : lst s = letters r.key := h1
        exact ⟨s, rfl, h1, by rw [← lst_len, h1', letters_length, hf.1]; decide, h2⟩)
    · exact (rletters_any _ r.ueb W (hueb W g (hb.below' hW)) (by rw [hf.2]; omega)).mono (by
        rintro e w' ⟨s, rfl, h1, h2⟩
        have h1' : lst s = letters r.ueb := h1
        exact ⟨s, rfl, h1, by rw [← lst_len, h1', letters_length, hf.2]; decide, h2⟩))
  have c0 := (hcell 48 (by omega)).trans (cells_at r hf 0)
  have c1 := (hcell 49 (by omega)).trans (cells_at r hf 1)
  have c2 := (hcell 50 (by omega)).trans (cells_at r hf 2)
  have c3 := (hcell 51 (by omega)).trans (cells_at r hf 3)
  simp only [List.getElem?_cons_zero, List.getElem?_cons_succ] at c0 c1 c2 c3
  have QN := hide (fun W => rnumbers_any r.k r.n r.seg r.size W hi.1 hi.2.1 hi.2.2.1 hi.2.2.2)
  obtain ⟨z0, z1, z2, z3, hz⟩ : ∃ z0 z1 z2 z3, z0 = r.k ∧ z1 = r.n ∧ z2 = r.seg ∧ z3 = r.size := ⟨_, _, _, _, rfl, rfl, rfl, rfl⟩
  rw [← hz.1, ← hz.2.1, ← hz.2.2.1, ← hz.2.2.2] at QN
  rw [← hz.1] at c0
  rw [← hz.2.1] at c1
  rw [← hz.2.2.1] at c2
  rw [← hz.2.2.2] at c3
  have HS : Hid (∀ (w0 : World) (g : Nat), Blk w0 g 28 F → ∀ W, Below w0.heap.size w0 W → W.cell? ⟨g, 48, none⟩ = some (.int .i64 z0) ∧ W.cell? ⟨g, 49, none⟩ = some (.int .i64 z1) ∧ W.cell? ⟨g, 50, none⟩ = some (.int .i64 z2) ∧ W.cell? ⟨g, 51, none⟩ = some (.int .i64 z3)) := fun w0 g hb W hW => by
    have hbW := hb.below' hW
    exact ⟨(hbW.cell 48).trans c0, (hbW.cell 49).trans c1, (hbW.cell 50).trans c2, (hbW.cell 51).trans c3⟩
  have HT := hide (show ∀ (x1 x2 x3 : ByteArray), lst x1 = letters (if 0 = 0 then r.key else r.ueb) → lst x2 = letters (if 16 = 0 then r.key else r.ueb) → lst x3 = 58 :: (numL z0 ++ 58 :: (numL z1 ++ 58 :: (numL z2 ++ 58 :: numL z3))) → lst (⟨#[115, 116, 114, 111, 110, 103, 114, 111, 111, 109, 58]⟩ ++ wd ++ ⟨#[58]⟩ ++ x1 ++ ⟨#[58]⟩ ++ x2 ++ x3) = c.text from fun x1 x2 x3 p1 p2 p3 => by
    simp only [lst_append, p1, p2, p3, hwl]
    unfold CP.text CP.parts
    rw [hbody, ← hr]
    unfold RV.parts
    rw [hz.1, hz.2.1, hz.2.2.1, hz.2.2.2]
    simp only [joinC_cons2]
    rw [show lst ⟨#[58]⟩ = [58] from rfl, show lst ⟨#[115, 116, 114, 111, 110, 103, 114, 111, 111, 109, 58]⟩ = tRoom ++ [58] from rfl]
    simp only [List.append_assoc, List.cons_append, List.nil_append]
    rfl)
  have HC := hide (show ∀ W, Blk W w.heap.size 34 cs → W.cell? ⟨w.heap.size, 0, none⟩ = some (.int .u8 1) ∧ W.cell? ⟨w.heap.size, 1, none⟩ = some (.bool d) from fun W hb => ⟨(hb.cell 0).trans f0, (hb.cell 1).trans f1⟩)
  clear hm h hk hbody hd hwl qw hr hf hi hsz hF hcell hkey hueb c0 c1 c2 c3 hz f0 f1 e0
  cases d
  all_goals
    simp only [if_true, if_false, Bool.false_eq_true, reduceIte] at hws
    go_enter Tryz.func24, Tryz.ntmps24
    go_wp2_with first
      | ((with_reducible change wpList _ _ _ (⟨some 7, _, _, _, _, _⟩ :: _) _ _); refine wpList_load_row (o := ⟨some 7, .load _ _, _, _, _, _⟩) rfl 34 _ rfl w.heap.size rfl 34 cs (0, 0) _ H0.out.1 Tryz.underlying34 rfl (by rw [HZ.out]; kernel_rfl) ?_)
      | (go_at_call 27; refine (QC.out _ H0.out.2).mono ?_; rintro e w1 ⟨rfl, b⟩; go_loud (have H1 := hide (And.intro (H0.out.1.below' b) (Below.step H0.out.2 b)); clear b; obtain ⟨g0, g1⟩ := HC.out _ H1.out.1))
      | (go_at_call 46; refine (QW.out _).mono ?_; rintro e w2 ⟨rfl, b⟩; go_loud (have H2 := hide (And.intro (H1.out.1.below' b) (Below.step H1.out.2 b)); clear b; clear g0 g1; obtain ⟨g0, g1⟩ := HC.out _ H2.out.1))
      | ((with_reducible change wpList _ _ _ (⟨some 21, _, _, _, _, _⟩ :: _) _ _); refine wpList_yields (by kernel_rfl) (.agg F) (ex_load 28 _ rfl w.heap.size 2 (by kernel_rfl) F.toList _ (HR.out _ H2.out.1) Tryz.underlying28 rfl (by rw [Array.length_toList, HF.out.1]; kernel_rfl)) ?_)
      | ((with_reducible change wpList _ _ _ (⟨none, .store _ (.tmp 5) _, _, _, _, _⟩ :: _) _ _); go_loud (refine wpList_store_row (o := ⟨none, .store _ (.tmp 5) _, _, _, _, _⟩) (g := w2.heap.size) (t := 28) (Blk.new w2 _ _) F (HF.out.1.trans (by kernel_rfl)) HF.out.2 rfl 28 _ _ rfl ((by kernel_rfl : (Tryz.prog.info? 28).map (·.size) = some 52).trans (by rw [HF.out.1])) rfl rfl ?_; intro w3 hb hg; have H3 := hide (show Blk w3 w2.heap.size 28 F ∧ Below w.heap.size w w3 from ⟨hb, Below.step H2.out.2 ((Below.al0 (Below.refl w2.heap.size w2) _).grown hg (by simp) (fun k hk => by injection hk with hk; omega))⟩); clear hb hg))
    clear g0 g1
    obtain ⟨s0, s1, s2, s3⟩ := HS.out w3 _ H3.out.1 w3 (Below.refl _ _)
    go_region_held3 (fun w' => w'.cell? ⟨w2.heap.size, 48, none⟩ = some (.int .i64 z0) ∧ w'.cell? ⟨w2.heap.size, 49, none⟩ = some (.int .i64 z1) ∧ w'.cell? ⟨w2.heap.size, 50, none⟩ = some (.int .i64 z2) ∧ w'.cell? ⟨w2.heap.size, 51, none⟩ = some (.int .i64 z3))
      (first | go_keep | exact HS.out w3 _ H3.out.1 _ (by (repeat (first | with_reducible exact Below.refl _ _ | with_reducible refine Below.drew ?_ | with_reducible refine Below.al0 ?_ _ | with_reducible refine Below.step ?_ q1 | with_reducible refine Below.step ?_ q2 | with_reducible refine Below.step ?_ q3))))
      (first
        | (go_at_call 47; (with_reducible refine (QL.out w3 _ 0 16 _ H3.out.1 (.inl ⟨rfl, rfl⟩) ?b1).mono ?_); (case b1 => (repeat (first | with_reducible exact Below.refl _ _ | with_reducible refine Below.drew ?_ | with_reducible refine Below.al0 ?_ _ | with_reducible refine Below.step ?_ q1 | with_reducible refine Below.step ?_ q2 | with_reducible refine Below.step ?_ q3))); rintro e w4 ⟨x1, rfl, p1, p1t, q1⟩; have p1s : x1.size = 26 := p1t; clear p1t)
        | (go_at_call 47; (with_reducible refine (QL.out w3 _ 16 32 _ H3.out.1 (.inr ⟨rfl, rfl⟩) ?b2).mono ?_); (case b2 => (repeat (first | with_reducible exact Below.refl _ _ | with_reducible refine Below.drew ?_ | with_reducible refine Below.al0 ?_ _ | with_reducible refine Below.step ?_ q1 | with_reducible refine Below.step ?_ q2 | with_reducible refine Below.step ?_ q3))); rintro e w5 ⟨x2, rfl, p2, p2t, q2⟩; have p2s : x2.size = 52 := p2t; clear p2t)
        | (go_at_call 48; refine (QN.out _).mono ?_; rintro e w6 ⟨x3, rfl, p3, p3t, q3⟩; have p3s : (x3.size : Int) ≤ 8388608 := (by omega); clear p3t))
    all_goals
      go_wp2
      go_ret2
      exact ⟨_, rfl, HT.out x1 x2 x3 p1 p2 p3, Below.step H3.out.2 (by (repeat (first | with_reducible exact Below.refl _ _ | with_reducible refine Below.drew ?_ | with_reducible refine Below.al0 ?_ _ | with_reducible refine Below.step ?_ q1 | with_reducible refine Below.step ?_ q2 | with_reducible refine Below.step ?_ q3)))⟩
set_option maxRecDepth 100000 in
set_option maxHeartbeats 8000000 in
theorem rprint_verifying (cs : Array Value) (c : CP) (v : Value) (w : World) (h : Capy w cs c v) (hm : c.may) (hk : c.kind = 2) :
    Calls Tryz.prog 24 #[.agg cs] w fun e w' => ∃ s, e = .returned (.tuple #[.string s, .int .i64 0]) ∧ lst s = c.text ∧ Below w.heap.size w w' := by
  obtain ⟨A, k, rfl, -, -, -⟩ := h.by_.form
  have H0 := hide (And.intro (Blk.new w 34 cs) ((Below.refl w.heap.size w).alloc (Nat.le_refl _) (.cells cs 34)))
  have HZ := hide h.size
  have QC := hide (fun W (hW : Below w.heap.size w W) => rcheck_cap cs c _ W (h.below hW))
  rw [if_pos hm] at QC
  have f0 := h.c0
  have f1 := h.c1
  rw [hk] at f0
  have e0 : ((2 : Nat) : Int) = 2 := rfl
  rw [e0] at f0
  have hbody : c.body = c.vf.parts := by unfold CP.body; rw [hk]; rfl
  obtain ⟨d, hd⟩ : ∃ d, d = c.dir := ⟨_, rfl⟩
  rw [← hd] at f1
  obtain ⟨wd, hwl, hws, qw⟩ : ∃ wd : ByteArray, lst wd = wordL c.kind c.dir ∧ wd.size = (if d = true then 10 else 6) ∧ ∀ W, Calls Tryz.prog 46 #[.int .u8 2, .bool d] W fun e w' => e = .returned (.string wd) ∧ Below W.heap.size W w' := by
    refine ⟨⟨(wordL 2 d).toArray⟩, by rw [lst_mk, hk, hd], by rw [← lst_len, lst_mk]; cases d <;> rfl, fun W => ?_⟩
    exact kword_any 2 d W (by omega)
  have QW := hide qw
  obtain ⟨r, hr⟩ : ∃ r, r = c.vf := ⟨_, rfl⟩
  have hf : r.wf := by rw [hr]; exact h.wf.2.1
  have hi : r.in64 := by rw [hr]; exact h.i64.2
  have hsz := RV.cells_length hf
  obtain ⟨F, hF⟩ : ∃ F : Array Value, F = r.cells.toArray := ⟨_, rfl⟩
  have HF := hide (show F.size = 52 ∧ F.all (·.oneCell') = true from by rw [hF]; exact ⟨rv_size r hf, rv_one r⟩)
  have HR := hide (show ∀ W, Blk W w.heap.size 34 cs → W.rangeAt w.heap.size 54 F.toList from fun W hb => by
    have := h.vfAt hb
    rw [hF, hr]
    simpa using this)
  have hcell : ∀ j, j < 52 → F[j]? = r.cells[j]? := fun j hj => by rw [hF, List.getElem?_toArray]
  have hkey : ∀ W g, Blk W g 31 F → By W (.slice (some ⟨g, 0, none⟩) 16 16) r.key := fun W g hb => ⟨by simp, _, 16, by rw [hf.1], by rw [hf.1]; exact Nat.le_refl _, by unfold maxLen; omega, fun _ => ⟨g, 0, rfl, hb.lt, fun j hj => by
    rw [hf.1, Nat.mul_one] at hj
    rw [Nat.zero_add, hb.cell, hcell j (by omega)]
    unfold RV.cells
    rw [List.getElem?_append_left (by simp [hf.1]; omega)]⟩⟩
  have hueb : ∀ W g, Blk W g 31 F → By W (.slice (some ⟨g, 16, none⟩) 32 32) r.ueb := fun W g hb => ⟨by simp, _, 32, by rw [hf.2], by rw [hf.2]; exact Nat.le_refl _, by unfold maxLen; omega, fun _ => ⟨g, 16, rfl, hb.lt, fun j hj => by
    rw [hf.2, Nat.mul_one] at hj
    rw [hb.cell, hcell (16 + j) (by omega)]
    unfold RV.cells
    rw [List.getElem?_append_right (by simp [hf.1]), List.getElem?_append_left (by simp [hf.1, hf.2]; omega)]
    congr 1
    simp [hf.1]⟩⟩
  have QL := hide (show ∀ (w0 : World) (g o n : Nat) (W : World), Blk w0 g 31 F → ((o = 0 ∧ n = 16) ∨ (o = 16 ∧ n = 32)) → Below w0.heap.size w0 W → Calls Tryz.prog 47 #[.slice (some ⟨g, o, none⟩) n n] W fun e w' => ∃ s : ByteArray, e = .returned (.string s) ∧ lst s = letters (if o = 0 then r.key else r.ueb) ∧ s.size = (if o = 0 then 26 else 52) ∧ Below W.heap.size W w' from fun w0 g o n W hb h hW => by
    rcases h with ⟨rfl, rfl⟩ | ⟨rfl, rfl⟩
    · exact (rletters_any _ r.key W (hkey W g (hb.below' hW)) (by rw [hf.1]; omega)).mono (by
        rintro e w' ⟨s, rfl, h1, h2⟩
        have h1' : lst s = letters r.key := h1
        exact ⟨s, rfl, h1, by rw [← lst_len, h1', letters_length, hf.1]; decide, h2⟩)
    · exact (rletters_any _ r.ueb W (hueb W g (hb.below' hW)) (by rw [hf.2]; omega)).mono (by
        rintro e w' ⟨s, rfl, h1, h2⟩
        have h1' : lst s = letters r.ueb := h1
        exact ⟨s, rfl, h1, by rw [← lst_len, h1', letters_length, hf.2]; decide, h2⟩))
  have c0 := (hcell 48 (by omega)).trans (cells_at r hf 0)
  have c1 := (hcell 49 (by omega)).trans (cells_at r hf 1)
  have c2 := (hcell 50 (by omega)).trans (cells_at r hf 2)
  have c3 := (hcell 51 (by omega)).trans (cells_at r hf 3)
  simp only [List.getElem?_cons_zero, List.getElem?_cons_succ] at c0 c1 c2 c3
  have QN := hide (fun W => rnumbers_any r.k r.n r.seg r.size W hi.1 hi.2.1 hi.2.2.1 hi.2.2.2)
  obtain ⟨z0, z1, z2, z3, hz⟩ : ∃ z0 z1 z2 z3, z0 = r.k ∧ z1 = r.n ∧ z2 = r.seg ∧ z3 = r.size := ⟨_, _, _, _, rfl, rfl, rfl, rfl⟩
  rw [← hz.1, ← hz.2.1, ← hz.2.2.1, ← hz.2.2.2] at QN
  rw [← hz.1] at c0
  rw [← hz.2.1] at c1
  rw [← hz.2.2.1] at c2
  rw [← hz.2.2.2] at c3
  have HS : Hid (∀ (w0 : World) (g : Nat), Blk w0 g 31 F → ∀ W, Below w0.heap.size w0 W → W.cell? ⟨g, 48, none⟩ = some (.int .i64 z0) ∧ W.cell? ⟨g, 49, none⟩ = some (.int .i64 z1) ∧ W.cell? ⟨g, 50, none⟩ = some (.int .i64 z2) ∧ W.cell? ⟨g, 51, none⟩ = some (.int .i64 z3)) := fun w0 g hb W hW => by
    have hbW := hb.below' hW
    exact ⟨(hbW.cell 48).trans c0, (hbW.cell 49).trans c1, (hbW.cell 50).trans c2, (hbW.cell 51).trans c3⟩
  have HT := hide (show ∀ (x1 x2 x3 : ByteArray), lst x1 = letters (if 0 = 0 then r.key else r.ueb) → lst x2 = letters (if 16 = 0 then r.key else r.ueb) → lst x3 = 58 :: (numL z0 ++ 58 :: (numL z1 ++ 58 :: (numL z2 ++ 58 :: numL z3))) → lst (⟨#[115, 116, 114, 111, 110, 103, 114, 111, 111, 109, 58]⟩ ++ wd ++ ⟨#[58]⟩ ++ x1 ++ ⟨#[58]⟩ ++ x2 ++ x3) = c.text from fun x1 x2 x3 p1 p2 p3 => by
    simp only [lst_append, p1, p2, p3, hwl]
    unfold CP.text CP.parts
    rw [hbody, ← hr]
    unfold RV.parts
    rw [hz.1, hz.2.1, hz.2.2.1, hz.2.2.2]
    simp only [joinC_cons2]
    rw [show lst ⟨#[58]⟩ = [58] from rfl, show lst ⟨#[115, 116, 114, 111, 110, 103, 114, 111, 111, 109, 58]⟩ = tRoom ++ [58] from rfl]
    simp only [List.append_assoc, List.cons_append, List.nil_append]
    rfl)
  have HC := hide (show ∀ W, Blk W w.heap.size 34 cs → W.cell? ⟨w.heap.size, 0, none⟩ = some (.int .u8 2) ∧ W.cell? ⟨w.heap.size, 1, none⟩ = some (.bool d) from fun W hb => ⟨(hb.cell 0).trans f0, (hb.cell 1).trans f1⟩)
  clear hm h hk hbody hd hwl qw hr hf hi hsz hF hcell hkey hueb c0 c1 c2 c3 hz f0 f1 e0
  cases d
  all_goals
    simp only [if_true, if_false, Bool.false_eq_true, reduceIte] at hws
    go_enter Tryz.func24, Tryz.ntmps24
    go_wp2_with first
      | ((with_reducible change wpList _ _ _ (⟨some 7, _, _, _, _, _⟩ :: _) _ _); refine wpList_load_row (o := ⟨some 7, .load _ _, _, _, _, _⟩) rfl 34 _ rfl w.heap.size rfl 34 cs (0, 0) _ H0.out.1 Tryz.underlying34 rfl (by rw [HZ.out]; kernel_rfl) ?_)
      | (go_at_call 27; refine (QC.out _ H0.out.2).mono ?_; rintro e w1 ⟨rfl, b⟩; go_loud (have H1 := hide (And.intro (H0.out.1.below' b) (Below.step H0.out.2 b)); clear b; obtain ⟨g0, g1⟩ := HC.out _ H1.out.1))
      | (go_at_call 46; refine (QW.out _).mono ?_; rintro e w2 ⟨rfl, b⟩; go_loud (have H2 := hide (And.intro (H1.out.1.below' b) (Below.step H1.out.2 b)); clear b; clear g0 g1; obtain ⟨g0, g1⟩ := HC.out _ H2.out.1))
      | ((with_reducible change wpList _ _ _ (⟨some 46, _, _, _, _, _⟩ :: _) _ _); refine wpList_yields (by kernel_rfl) (.agg F) (ex_load 31 _ rfl w.heap.size 54 (by kernel_rfl) F.toList _ (HR.out _ H2.out.1) Tryz.underlying31 rfl (by rw [Array.length_toList, HF.out.1]; kernel_rfl)) ?_)
      | ((with_reducible change wpList _ _ _ (⟨none, .store _ (.tmp 6) _, _, _, _, _⟩ :: _) _ _); go_loud (refine wpList_store_row (o := ⟨none, .store _ (.tmp 6) _, _, _, _, _⟩) (g := w2.heap.size) (t := 31) (Blk.new w2 _ _) F (HF.out.1.trans (by kernel_rfl)) HF.out.2 rfl 31 _ _ rfl ((by kernel_rfl : (Tryz.prog.info? 31).map (·.size) = some 52).trans (by rw [HF.out.1])) rfl rfl ?_; intro w3 hb hg; have H3 := hide (show Blk w3 w2.heap.size 31 F ∧ Below w.heap.size w w3 from ⟨hb, Below.step H2.out.2 ((Below.al0 (Below.refl w2.heap.size w2) _).grown hg (by simp) (fun k hk => by injection hk with hk; omega))⟩); clear hb hg))
    clear g0 g1
    obtain ⟨s0, s1, s2, s3⟩ := HS.out w3 _ H3.out.1 w3 (Below.refl _ _)
    go_region_held3 (fun w' => w'.cell? ⟨w2.heap.size, 48, none⟩ = some (.int .i64 z0) ∧ w'.cell? ⟨w2.heap.size, 49, none⟩ = some (.int .i64 z1) ∧ w'.cell? ⟨w2.heap.size, 50, none⟩ = some (.int .i64 z2) ∧ w'.cell? ⟨w2.heap.size, 51, none⟩ = some (.int .i64 z3))
      (first | go_keep | exact HS.out w3 _ H3.out.1 _ (by (repeat (first | with_reducible exact Below.refl _ _ | with_reducible refine Below.drew ?_ | with_reducible refine Below.al0 ?_ _ | with_reducible refine Below.step ?_ q1 | with_reducible refine Below.step ?_ q2 | with_reducible refine Below.step ?_ q3))))
      (first
        | (go_at_call 47; (with_reducible refine (QL.out w3 _ 0 16 _ H3.out.1 (.inl ⟨rfl, rfl⟩) ?b1).mono ?_); (case b1 => (repeat (first | with_reducible exact Below.refl _ _ | with_reducible refine Below.drew ?_ | with_reducible refine Below.al0 ?_ _ | with_reducible refine Below.step ?_ q1 | with_reducible refine Below.step ?_ q2 | with_reducible refine Below.step ?_ q3))); rintro e w4 ⟨x1, rfl, p1, p1t, q1⟩; have p1s : x1.size = 26 := p1t; clear p1t)
        | (go_at_call 47; (with_reducible refine (QL.out w3 _ 16 32 _ H3.out.1 (.inr ⟨rfl, rfl⟩) ?b2).mono ?_); (case b2 => (repeat (first | with_reducible exact Below.refl _ _ | with_reducible refine Below.drew ?_ | with_reducible refine Below.al0 ?_ _ | with_reducible refine Below.step ?_ q1 | with_reducible refine Below.step ?_ q2 | with_reducible refine Below.step ?_ q3))); rintro e w5 ⟨x2, rfl, p2, p2t, q2⟩; have p2s : x2.size = 52 := p2t; clear p2t)
        | (go_at_call 48; refine (QN.out _).mono ?_; rintro e w6 ⟨x3, rfl, p3, p3t, q3⟩; have p3s : (x3.size : Int) ≤ 8388608 := (by omega); clear p3t))
    all_goals
      go_wp2
      go_ret2
      exact ⟨_, rfl, HT.out x1 x2 x3 p1 p2 p3, Below.step H3.out.2 (by (repeat (first | with_reducible exact Below.refl _ _ | with_reducible refine Below.drew ?_ | with_reducible refine Below.al0 ?_ _ | with_reducible refine Below.step ?_ q1 | with_reducible refine Below.step ?_ q2 | with_reducible refine Below.step ?_ q3)))⟩
end Go.Proofs.YtcpceaflnnkhnaaGreatDoor
