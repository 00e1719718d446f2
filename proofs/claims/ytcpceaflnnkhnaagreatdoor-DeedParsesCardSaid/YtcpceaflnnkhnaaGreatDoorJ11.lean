/- Joined texts: PrtC. -/
import Derived.Test.YtcpceaflnnkhnaaGreatDoorJ4
import Derived.Test.YtcpceaflnnkhnaaGreatDoorJ10

/- The contract of the program's Print. Printed by wip/prtc.py. -/
namespace Go.Proofs.YtcpceaflnnkhnaaGreatDoor
open Go.RowKit

theorem join_joinC : ∀ L : List (List UInt8), Lib.join L [58] = joinC L
  | [] => rfl
  | [x] => Lib.join_one x [58]
  | x :: y :: r => by
    rw [joinC_cons2, ← join_joinC (y :: r)]
    simp [Lib.join, List.intercalate]
def bRead : ByteArray := ⟨#[114, 101, 97, 100]⟩
def bVerify : ByteArray := ⟨#[118, 101, 114, 105, 102, 121]⟩
def bLit : ByteArray := ⟨#[108, 105, 116]⟩
theorem word_reading (C : Array Value) (w : World) : Calls Tryz.prog 202 #[.agg C] w fun e w' => e = .returned (.string bRead) ∧ Below w.heap.size w w' := by
  go_enter Tryz.func202, Tryz.ntmps202
  go_wp2
  go_ret
  exact ⟨rfl, (Below.refl _ w).alloc (Nat.le_refl _) _⟩
theorem word_verifying (C : Array Value) (w : World) : Calls Tryz.prog 213 #[.agg C] w fun e w' => e = .returned (.string bVerify) ∧ Below w.heap.size w w' := by
  go_enter Tryz.func213, Tryz.ntmps213
  go_wp2
  go_ret
  exact ⟨rfl, (Below.refl _ w).alloc (Nat.le_refl _) _⟩
theorem word_literal (C : Array Value) (w : World) : Calls Tryz.prog 220 #[.agg C] w fun e w' => e = .returned (.string bLit) ∧ Below w.heap.size w w' := by
  go_enter Tryz.func220, Tryz.ntmps220
  go_wp2
  go_ret
  exact ⟨rfl, (Below.refl _ w).alloc (Nat.le_refl _) _⟩
/-- 'append([]string{a, b}, ts...)'. -/
theorem wpList_pushT {w w0 : World} {base b2 : Nat} {x y : ByteArray} {u : Value} {ts : List ByteArray} (h2 : OwnT w b2 u ts) (hb : Below base w0 w) (hbase : base ≤ w.heap.size) (hl : ts.length ≤ 1000)
    {ops : Array Oper} {rest : List Oper} {o : Oper} {a : Act} {Q : Exit → Act → World → Prop} (hgd : o.guard = none) (s z : Operand)
    (ho : o.op = .call { callee := .builtin .append, args := #[s, z], argTypes := #[71, 71] }) (v0 : Value) (hs : a.eval s = v0) (hx : a.eval z = u)
    (hd : ∃ g, v0 = .slice (some ⟨g, 0, none⟩) 2 2 ∧ Blk w g 9 #[.string x, .string y] ∧ base ≤ g)
    (h : ∀ g n c w', n = (x :: y :: ts).length → OwnT w' base (.slice (some ⟨g, 0, none⟩) n c) (x :: y :: ts) → Below base w0 w' → wpList Tryz.prog ops Q rest (a.put o.dst (.slice (some ⟨g, 0, none⟩) n c)) w') : wpList Tryz.prog ops Q (o :: rest) a w := by
  refine wpList_plain hgd fun K hK => ?_
  obtain ⟨g, rfl, h1, hg⟩ := hd
  have hown : w.ownsRow base 9 1 (.slice (some ⟨g, 0, none⟩) 2 2) 2 [.string x, .string y] := h1.own (base := base) (n := 2) (cap := 2) (sz := 1) rfl hg rfl (Nat.le_refl _) (by unfold maxLen; omega)
  obtain ⟨v', w', hrun, h3, h4, h6⟩ := run_pushS (P := Tryz.prog) elemT o.type hown (Sl.of_own h2) (by unfold maxLen; omega) (by omega) hbase (fun z hz => by
    obtain ⟨t, _, rfl⟩ := List.mem_map.1 hz
    rfl)
  unfold Oper.wp execOp
  simp only [ho, resolve, invoke, builtin, Sem.run_bind, Sem.run_pure, Result.andThen_ok, List.map_toArray, List.map_cons, List.map_nil, hs, hx, hrun]
  have hv : OwnT w' base v' (x :: y :: ts) := by
    unfold OwnT
    have e : (x :: y :: ts).length = 2 + ts.length := by simp; omega
    rw [e]
    exact h3
  obtain ⟨g2, c2, rfl, -⟩ := World.ownsRow.form hv (by simp)
  exact hK _ _ (h g2 _ c2 w' rfl hv (hb.grown h4 hbase fun k hk => (hown.lt k hk).1))
theorem join_any (xs : List ByteArray) (n g c base : Nat) (w : World) (hn : n = xs.length) (h : OwnT w base (.slice (some ⟨g, 0, none⟩) n c) xs) (h0 : 0 < xs.length) (hl : (joinC (xs.map lst)).length ≤ 1000000) (hx : xs.length ≤ 1000000) :
    Calls Tryz.prog 44 #[.slice (some ⟨g, 0, none⟩) n c, .string ⟨#[58]⟩] w fun e w' => ∃ s, e = .returned (.string s) ∧ lst s = joinC (xs.map lst) ∧ Below w.heap.size w w' := by
  subst hn
  obtain ⟨A, c', hv, hc, -, hcell⟩ := OwnT.form h
  injection hv with hA _ hcc
  subst hcc
  obtain ⟨b, o, hb, hlt, -⟩ := hcell 0 xs[0] (List.getElem?_eq_getElem h0)
  rw [← hA] at hb
  injection hb with hb
  injection hb with hb1 hb2
  have hj : Lib.join (xs.map fun x => x.data.toList) (ByteArray.mk #[58]).data.toList = joinC (xs.map lst) := join_joinC _
  have q := Tryz.strings_Join g 0 c xs ⟨#[58]⟩ w (fun j x hx => by
    obtain ⟨b', o', hb', _, hcx⟩ := hcell j x hx
    rw [← hA] at hb'
    injection hb' with hb'
    injection hb' with e1 e2
    rw [e1, e2]
    exact hcx) (by rw [hb1]; exact hlt) (by omega) hc (by rw [hj]; omega)
  refine q.mono fun e w' ⟨h1, h2⟩ => ⟨_, h1, ?_, h2⟩
  exact hj
theorem text_split (c : CP) (y : ByteArray) (ts : List ByteArray) (hy : lst y = wordL c.kind c.dir) (hts : ts.map lst = c.body) : joinC ((ByteArray.mk #[115, 116, 114, 111, 110, 103, 114, 111, 111, 109] :: y :: ts).map lst) = c.text := by
  unfold CP.text CP.parts
  rw [List.map_cons, List.map_cons, hy, hts]
  rfl
theorem lst_append (a b : ByteArray) : lst (a ++ b) = lst a ++ lst b := by simp [lst]
set_option maxRecDepth 100000 in
set_option maxHeartbeats 1000000 in
theorem print_bad (cs : Array Value) (c : CP) (v : Value) (w : World) (h : Capy w cs c v) (hm : ¬ c.may) :
    Calls Tryz.prog 18 #[.agg cs] w fun e w' => e = .returned (.tuple #[.string ⟨#[]⟩, .int .i64 5]) ∧ Below w.heap.size w w' := by
  have HB := hide (And.intro (Blk.new w 34 cs) (And.intro ((Below.refl w.heap.size w).alloc (Nat.le_refl _) (.cells cs 34)) h.size))
  have Q := hide (check_cap cs c v _ (h.below HB.out.2.1))
  rw [if_neg hm] at Q
  clear h hm
  go_enter Tryz.func18, Tryz.ntmps18
  go_wp2_with first
    | ((with_reducible change wpList _ _ _ (⟨some 7, _, _, _, _, _⟩ :: _) _ _); refine wpList_load_row (o := ⟨some 7, .load _ _, _, _, _, _⟩) rfl 34 _ rfl w.heap.size rfl 34 cs (0, 0) _ HB.out.1 Tryz.underlying34 rfl (by rw [HB.out.2.2]; kernel_rfl) ?_)
    | (go_at_call 19; refine Q.out.mono ?_; rintro e w1 ⟨rfl, b1⟩; go_loud (have H1 := hide (HB.out.2.1.trans (b1.mono HB.out.2.1.size)); clear b1))
  go_ret2
  exact ⟨rfl, H1.out⟩
set_option maxRecDepth 100000 in
set_option maxHeartbeats 4000000 in
theorem print_reading (cs : Array Value) (c : CP) (v : Value) (w : World) (h : Capy w cs c v) (hm : c.may) (hk : c.kind = 1) (ht : Tab w) :
    Calls Tryz.prog 18 #[.agg cs] w fun e w' => ∃ s, e = .returned (.tuple #[.string s, .int .i64 0]) ∧ lst s = c.text ∧ Below w.heap.size w w' := by
  have HB := hide (And.intro (Blk.new w 34 cs) (And.intro ((Below.refl w.heap.size w).alloc (Nat.le_refl _) (.cells cs 34)) h.size))
  have Q := hide (fun W (hW : Below w.heap.size w W) => check_cap cs c v W (h.below hW))
  rw [if_pos hm] at Q
  have QO := hide (fun W (hW : Below w.heap.size w W) => of_any cs c v W (h.below hW))
  have hov : ofV c v = .iface 90 (.agg c.rd.cells.toArray) := by
    rcases hm with ⟨k1, k2, k3, -⟩ | ⟨k1, k2, k3, -⟩ | ⟨k1, k2, k3, -⟩
    · unfold ofV; rw [if_pos ⟨k1, k2, k3⟩]
    · omega
    · omega
  rw [hov] at QO
  have QP := hide (fun W (hW : Below w.heap.size w W) => parts_reading c.rd W h.wf.1 h.i64.1 (ht.below hW))
  have f1 := h.c1
  have hbody : c.body = c.rd.parts := by unfold CP.body; rw [hk]; rfl
  have hword : ∀ b : Bool, c.dir = b → wordL c.kind c.dir = (if b = true then tDir else []) ++ lst bRead := fun b hb => by rw [hk, hb]; rfl
  have hlen := text_len h.wf hm
  obtain ⟨C, hC⟩ : ∃ C : Array Value, C = c.rd.cells.toArray := ⟨_, rfl⟩
  rw [← hC] at QO QP
  obtain ⟨s0, hs0⟩ : ∃ s0, s0 = bRead := ⟨_, rfl⟩
  have QW := hide (fun W => word_reading C W)
  rw [← hs0] at QW hword
  have hsz : s0.size ≤ 10 := by rw [hs0]; decide
  have HT := hide (And.intro hbody (And.intro hword (And.intro hlen (show c.body.length ≤ 8 from by rw [hbody]; simp [RV.parts]))))
  clear h hm ht hov hC hs0 hbody hword hlen hk
  cases hd : c.dir
  all_goals
    rw [hd] at f1
    have HD := hide hd
    clear hd
    go_enter Tryz.func18, Tryz.ntmps18
    go_wp2_with first
      | ((with_reducible change wpList _ _ _ (⟨some 7, _, _, _, _, _⟩ :: _) _ _); refine wpList_load_row (o := ⟨some 7, .load _ _, _, _, _, _⟩) rfl 34 _ rfl w.heap.size rfl 34 cs (0, 0) _ HB.out.1 Tryz.underlying34 rfl (by rw [HB.out.2.2]; kernel_rfl) ?_)
      | (go_at_call 19; refine (Q.out _ HB.out.2.1).mono ?_; rintro e w1 ⟨rfl, b1⟩; go_loud (have H1 := hide (And.intro (HB.out.1.below' b1) (HB.out.2.1.trans (b1.mono HB.out.2.1.size))); clear b1))
      | ((with_reducible change wpList _ _ _ (⟨some 12, _, _, _, _, _⟩ :: _) _ _); refine wpList_load_row (o := ⟨some 12, .load _ _, _, _, _, _⟩) rfl 34 _ rfl w.heap.size rfl 34 cs (0, 0) _ H1.out.1 Tryz.underlying34 rfl (by rw [HB.out.2.2]; kernel_rfl) ?_)
      | (go_at_call 43; refine (QO.out _ H1.out.2).mono ?_; rintro e w2 ⟨rfl, b2⟩; go_loud (have H2 := hide (And.intro (H1.out.1.below' b2) (H1.out.2.trans (b2.mono H1.out.2.size))); have d1 : w2.cell? ⟨w.heap.size, 1, none⟩ = _ := (H2.out.1.cell 1).trans f1; clear b2))
      | (go_at_call 202; refine (QW.out _).mono ?_; rintro e w3 ⟨rfl, b3⟩; go_loud (have H3 := hide (And.intro (H2.out.1.below' b3) (H2.out.2.trans (b3.mono H2.out.2.size))); have d2 : w3.cell? ⟨w.heap.size, 1, none⟩ = _ := (H3.out.1.cell 1).trans f1; clear b3))
      | (go_at_call 201; refine (QP.out _ (H3.out.2.alloc H3.out.2.size _)).mono ?_; rintro e w4 ⟨u4, ts4, rfl, o4, p4, b4⟩; go_loud (obtain ⟨A4, c4, rfl, -⟩ := OwnT.form o4; have H4 := hide (And.intro (Blk.below' (Blk.new w3 9 _) b4) (And.intro o4 (And.intro p4 ((H3.out.2.alloc H3.out.2.size _).trans (b4.mono (H3.out.2.alloc H3.out.2.size _).size))))); clear o4 p4 b4))
      | (at_builtin; go_loud (refine wpList_pushT (base := w.heap.size) (w0 := w) H4.out.2.1 H4.out.2.2.2 H4.out.2.2.2.size (by have := congrArg List.length H4.out.2.2.1; rw [List.length_map] at this; have := HT.out.2.2.2; rw [HT.out.1] at this; omega) rfl _ _ rfl _ rfl rfl ⟨w3.heap.size, rfl, H4.out.1, H3.out.2.size⟩ ?_; intro g5 n5 c5 w5 hn5 o5 b5; (first | (have hd5 := HT.out.2.1 true HD.out; have H5 := hide (And.intro hn5 (And.intro o5 (And.intro b5 (text_split c (⟨#[100, 105, 114, 45]⟩ ++ s0) ts4 ((lst_append _ _).trans hd5.symm) (by rw [HT.out.1]; exact H4.out.2.2.1))))); clear hd5) | (have hd5 := HT.out.2.1 false HD.out; have H5 := hide (And.intro hn5 (And.intro o5 (And.intro b5 (text_split c s0 ts4 hd5.symm (by rw [HT.out.1]; exact H4.out.2.2.1))))); clear hd5)); clear hn5 o5 b5))
      | (go_at_call 44; refine (join_any _ n5 g5 c5 _ w5 H5.out.1 H5.out.2.1 (by simp) (by rw [H5.out.2.2.2]; have := HT.out.2.2.1; omega) (by have := congrArg List.length H4.out.2.2.1; rw [List.length_map] at this; have := HT.out.2.2.2; rw [HT.out.1] at this; simp; omega)).mono ?_; rintro e w6 ⟨s6, rfl, p6, b6⟩; go_loud (have H6 := hide (And.intro p6 (H5.out.2.2.1.trans (b6.mono H5.out.2.2.1.size))); clear p6 b6))
    go_ret2
    exact ⟨_, rfl, H6.out.1.trans H5.out.2.2.2, H6.out.2⟩
set_option maxRecDepth 100000 in
set_option maxHeartbeats 4000000 in
theorem print_verifying (cs : Array Value) (c : CP) (v : Value) (w : World) (h : Capy w cs c v) (hm : c.may) (hk : c.kind = 2) (ht : Tab w) :
    Calls Tryz.prog 18 #[.agg cs] w fun e w' => ∃ s, e = .returned (.tuple #[.string s, .int .i64 0]) ∧ lst s = c.text ∧ Below w.heap.size w w' := by
  have HB := hide (And.intro (Blk.new w 34 cs) (And.intro ((Below.refl w.heap.size w).alloc (Nat.le_refl _) (.cells cs 34)) h.size))
  have Q := hide (fun W (hW : Below w.heap.size w W) => check_cap cs c v W (h.below hW))
  rw [if_pos hm] at Q
  have QO := hide (fun W (hW : Below w.heap.size w W) => of_any cs c v W (h.below hW))
  have hov : ofV c v = .iface 93 (.agg c.vf.cells.toArray) := by
    rcases hm with ⟨k1, k2, k3, -⟩ | ⟨k1, k2, k3, -⟩ | ⟨k1, k2, k3, -⟩
    · omega
    · unfold ofV; rw [if_neg (fun x => absurd x.1 (by omega)), if_pos ⟨k1, k2, k3⟩]
    · omega
  rw [hov] at QO
  have QP := hide (fun W (hW : Below w.heap.size w W) => parts_verifying c.vf W h.wf.2.1 h.i64.2 (ht.below hW))
  have f1 := h.c1
  have hbody : c.body = c.vf.parts := by unfold CP.body; rw [hk]; rfl
  have hword : ∀ b : Bool, c.dir = b → wordL c.kind c.dir = (if b = true then tDir else []) ++ lst bVerify := fun b hb => by rw [hk, hb]; rfl
  have hlen := text_len h.wf hm
  obtain ⟨C, hC⟩ : ∃ C : Array Value, C = c.vf.cells.toArray := ⟨_, rfl⟩
  rw [← hC] at QO QP
  obtain ⟨s0, hs0⟩ : ∃ s0, s0 = bVerify := ⟨_, rfl⟩
  have QW := hide (fun W => word_verifying C W)
  rw [← hs0] at QW hword
  have hsz : s0.size ≤ 10 := by rw [hs0]; decide
  have HT := hide (And.intro hbody (And.intro hword (And.intro hlen (show c.body.length ≤ 8 from by rw [hbody]; simp [RV.parts]))))
  clear h hm ht hov hC hs0 hbody hword hlen hk
  cases hd : c.dir
  all_goals
    rw [hd] at f1
    have HD := hide hd
    clear hd
    go_enter Tryz.func18, Tryz.ntmps18
    go_wp2_with first
      | ((with_reducible change wpList _ _ _ (⟨some 7, _, _, _, _, _⟩ :: _) _ _); refine wpList_load_row (o := ⟨some 7, .load _ _, _, _, _, _⟩) rfl 34 _ rfl w.heap.size rfl 34 cs (0, 0) _ HB.out.1 Tryz.underlying34 rfl (by rw [HB.out.2.2]; kernel_rfl) ?_)
      | (go_at_call 19; refine (Q.out _ HB.out.2.1).mono ?_; rintro e w1 ⟨rfl, b1⟩; go_loud (have H1 := hide (And.intro (HB.out.1.below' b1) (HB.out.2.1.trans (b1.mono HB.out.2.1.size))); clear b1))
      | ((with_reducible change wpList _ _ _ (⟨some 12, _, _, _, _, _⟩ :: _) _ _); refine wpList_load_row (o := ⟨some 12, .load _ _, _, _, _, _⟩) rfl 34 _ rfl w.heap.size rfl 34 cs (0, 0) _ H1.out.1 Tryz.underlying34 rfl (by rw [HB.out.2.2]; kernel_rfl) ?_)
      | (go_at_call 43; refine (QO.out _ H1.out.2).mono ?_; rintro e w2 ⟨rfl, b2⟩; go_loud (have H2 := hide (And.intro (H1.out.1.below' b2) (H1.out.2.trans (b2.mono H1.out.2.size))); have d1 : w2.cell? ⟨w.heap.size, 1, none⟩ = _ := (H2.out.1.cell 1).trans f1; clear b2))
      | (go_at_call 213; refine (QW.out _).mono ?_; rintro e w3 ⟨rfl, b3⟩; go_loud (have H3 := hide (And.intro (H2.out.1.below' b3) (H2.out.2.trans (b3.mono H2.out.2.size))); have d2 : w3.cell? ⟨w.heap.size, 1, none⟩ = _ := (H3.out.1.cell 1).trans f1; clear b3))
      | (go_at_call 212; refine (QP.out _ (H3.out.2.alloc H3.out.2.size _)).mono ?_; rintro e w4 ⟨u4, ts4, rfl, o4, p4, b4⟩; go_loud (obtain ⟨A4, c4, rfl, -⟩ := OwnT.form o4; have H4 := hide (And.intro (Blk.below' (Blk.new w3 9 _) b4) (And.intro o4 (And.intro p4 ((H3.out.2.alloc H3.out.2.size _).trans (b4.mono (H3.out.2.alloc H3.out.2.size _).size))))); clear o4 p4 b4))
      | (at_builtin; go_loud (refine wpList_pushT (base := w.heap.size) (w0 := w) H4.out.2.1 H4.out.2.2.2 H4.out.2.2.2.size (by have := congrArg List.length H4.out.2.2.1; rw [List.length_map] at this; have := HT.out.2.2.2; rw [HT.out.1] at this; omega) rfl _ _ rfl _ rfl rfl ⟨w3.heap.size, rfl, H4.out.1, H3.out.2.size⟩ ?_; intro g5 n5 c5 w5 hn5 o5 b5; (first | (have hd5 := HT.out.2.1 true HD.out; have H5 := hide (And.intro hn5 (And.intro o5 (And.intro b5 (text_split c (⟨#[100, 105, 114, 45]⟩ ++ s0) ts4 ((lst_append _ _).trans hd5.symm) (by rw [HT.out.1]; exact H4.out.2.2.1))))); clear hd5) | (have hd5 := HT.out.2.1 false HD.out; have H5 := hide (And.intro hn5 (And.intro o5 (And.intro b5 (text_split c s0 ts4 hd5.symm (by rw [HT.out.1]; exact H4.out.2.2.1))))); clear hd5)); clear hn5 o5 b5))
      | (go_at_call 44; refine (join_any _ n5 g5 c5 _ w5 H5.out.1 H5.out.2.1 (by simp) (by rw [H5.out.2.2.2]; have := HT.out.2.2.1; omega) (by have := congrArg List.length H4.out.2.2.1; rw [List.length_map] at this; have := HT.out.2.2.2; rw [HT.out.1] at this; simp; omega)).mono ?_; rintro e w6 ⟨s6, rfl, p6, b6⟩; go_loud (have H6 := hide (And.intro p6 (H5.out.2.2.1.trans (b6.mono H5.out.2.2.1.size))); clear p6 b6))
    go_ret2
    exact ⟨_, rfl, H6.out.1.trans H5.out.2.2.2, H6.out.2⟩
set_option maxRecDepth 100000 in
set_option maxHeartbeats 4000000 in
theorem print_literal (cs : Array Value) (c : CP) (v : Value) (w : World) (h : Capy w cs c v) (hm : c.may) (hk : c.kind = 3) (ht : Tab w) :
    Calls Tryz.prog 18 #[.agg cs] w fun e w' => ∃ s, e = .returned (.tuple #[.string s, .int .i64 0]) ∧ lst s = c.text ∧ Below w.heap.size w w' := by
  have HB := hide (And.intro (Blk.new w 34 cs) (And.intro ((Below.refl w.heap.size w).alloc (Nat.le_refl _) (.cells cs 34)) h.size))
  have Q := hide (fun W (hW : Below w.heap.size w W) => check_cap cs c v W (h.below hW))
  rw [if_pos hm] at Q
  have QO := hide (fun W (hW : Below w.heap.size w W) => of_any cs c v W (h.below hW))
  have hov : ofV c v = .iface 135 (.agg #[v]) := by
    rcases hm with ⟨k1, k2, k3, -⟩ | ⟨k1, k2, k3, -⟩ | ⟨k1, k2, k3, -⟩
    · omega
    · omega
    · unfold ofV; rw [if_neg (fun x => absurd x.1 (by omega)), if_neg (fun x => absurd x.1 (by omega)), if_pos ⟨k1, k2, k3⟩]
  rw [hov] at QO
  have hlit : c.may → c.lit.length ≤ 32 := fun hm => by rcases hm with ⟨k1, -⟩ | ⟨k1, -⟩ | ⟨-, -, -, k1⟩ <;> omega
  have QP := hide (fun W (hW : Below w.heap.size w W) => parts_literal v c.lit W ((h.below hW).by_) (by have := hlit hm; omega))
  have f1 := h.c1
  obtain ⟨A0, k0, hv0, -, -, -⟩ := h.by_.form
  have hbody : c.body = [letters c.lit] := by unfold CP.body; rw [hk]; rfl
  have hword : ∀ b : Bool, c.dir = b → wordL c.kind c.dir = (if b = true then tDir else []) ++ lst bLit := fun b hb => by rw [hk, hb]; rfl
  have hlen := text_len h.wf hm
  obtain ⟨C, hC⟩ : ∃ C : Array Value, C = #[v] := ⟨_, rfl⟩
  rw [← hC] at QO QP
  obtain ⟨s0, hs0⟩ : ∃ s0, s0 = bLit := ⟨_, rfl⟩
  have QW := hide (fun W => word_literal C W)
  rw [← hs0] at QW hword
  have hsz : s0.size ≤ 10 := by rw [hs0]; decide
  have HT := hide (And.intro hbody (And.intro hword (And.intro hlen (show c.body.length ≤ 8 from by rw [hbody]; simp [RV.parts]))))
  clear h hm ht hov hC hs0 hbody hword hlen hk
  cases hd : c.dir
  all_goals
    rw [hd] at f1
    have HD := hide hd
    clear hd
    go_enter Tryz.func18, Tryz.ntmps18
    go_wp2_with first
      | ((with_reducible change wpList _ _ _ (⟨some 7, _, _, _, _, _⟩ :: _) _ _); refine wpList_load_row (o := ⟨some 7, .load _ _, _, _, _, _⟩) rfl 34 _ rfl w.heap.size rfl 34 cs (0, 0) _ HB.out.1 Tryz.underlying34 rfl (by rw [HB.out.2.2]; kernel_rfl) ?_)
      | (go_at_call 19; refine (Q.out _ HB.out.2.1).mono ?_; rintro e w1 ⟨rfl, b1⟩; go_loud (have H1 := hide (And.intro (HB.out.1.below' b1) (HB.out.2.1.trans (b1.mono HB.out.2.1.size))); clear b1))
      | ((with_reducible change wpList _ _ _ (⟨some 12, _, _, _, _, _⟩ :: _) _ _); refine wpList_load_row (o := ⟨some 12, .load _ _, _, _, _, _⟩) rfl 34 _ rfl w.heap.size rfl 34 cs (0, 0) _ H1.out.1 Tryz.underlying34 rfl (by rw [HB.out.2.2]; kernel_rfl) ?_)
      | (go_at_call 43; refine (QO.out _ H1.out.2).mono ?_; rintro e w2 ⟨rfl, b2⟩; go_loud (have H2 := hide (And.intro (H1.out.1.below' b2) (H1.out.2.trans (b2.mono H1.out.2.size))); have d1 : w2.cell? ⟨w.heap.size, 1, none⟩ = _ := (H2.out.1.cell 1).trans f1; clear b2))
      | (go_at_call 220; refine (QW.out _).mono ?_; rintro e w3 ⟨rfl, b3⟩; go_loud (have H3 := hide (And.intro (H2.out.1.below' b3) (H2.out.2.trans (b3.mono H2.out.2.size))); have d2 : w3.cell? ⟨w.heap.size, 1, none⟩ = _ := (H3.out.1.cell 1).trans f1; clear b3))
      | (go_at_call 219; refine (QP.out _ (H3.out.2.alloc H3.out.2.size _)).mono ?_; rintro e w4 ⟨u4, ts4, rfl, o4, p4, b4⟩; go_loud (obtain ⟨A4, c4, rfl, -⟩ := OwnT.form o4; have H4 := hide (And.intro (Blk.below' (Blk.new w3 9 _) b4) (And.intro o4 (And.intro p4 ((H3.out.2.alloc H3.out.2.size _).trans (b4.mono (H3.out.2.alloc H3.out.2.size _).size))))); clear o4 p4 b4))
      | (at_builtin; go_loud (refine wpList_pushT (base := w.heap.size) (w0 := w) H4.out.2.1 H4.out.2.2.2 H4.out.2.2.2.size (by have := congrArg List.length H4.out.2.2.1; rw [List.length_map] at this; have := HT.out.2.2.2; rw [HT.out.1] at this; omega) rfl _ _ rfl _ rfl rfl ⟨w3.heap.size, rfl, H4.out.1, H3.out.2.size⟩ ?_; intro g5 n5 c5 w5 hn5 o5 b5; (first | (have hd5 := HT.out.2.1 true HD.out; have H5 := hide (And.intro hn5 (And.intro o5 (And.intro b5 (text_split c (⟨#[100, 105, 114, 45]⟩ ++ s0) ts4 ((lst_append _ _).trans hd5.symm) (by rw [HT.out.1]; exact H4.out.2.2.1))))); clear hd5) | (have hd5 := HT.out.2.1 false HD.out; have H5 := hide (And.intro hn5 (And.intro o5 (And.intro b5 (text_split c s0 ts4 hd5.symm (by rw [HT.out.1]; exact H4.out.2.2.1))))); clear hd5)); clear hn5 o5 b5))
      | (go_at_call 44; refine (join_any _ n5 g5 c5 _ w5 H5.out.1 H5.out.2.1 (by simp) (by rw [H5.out.2.2.2]; have := HT.out.2.2.1; omega) (by have := congrArg List.length H4.out.2.2.1; rw [List.length_map] at this; have := HT.out.2.2.2; rw [HT.out.1] at this; simp; omega)).mono ?_; rintro e w6 ⟨s6, rfl, p6, b6⟩; go_loud (have H6 := hide (And.intro p6 (H5.out.2.2.1.trans (b6.mono H5.out.2.2.1.size))); clear p6 b6))
    go_ret2
    exact ⟨_, rfl, H6.out.1.trans H5.out.2.2.2, H6.out.2⟩
theorem print_any (cs : Array Value) (c : CP) (v : Value) (w : World) (h : Capy w cs c v) (ht : Tab w) :
    Calls Tryz.prog 18 #[.agg cs] w fun e w' => ∃ s, e = .returned (.tuple #[.string s, .int .i64 (if c.may then 0 else 5)]) ∧ lst s = (if c.may then c.text else []) ∧ Below w.heap.size w w' := by
  by_cases hm : c.may
  · rw [if_pos hm, if_pos hm]
    rcases hm with hm1 | hm1 | hm1
    · exact print_reading cs c v w h (.inl hm1) hm1.1 ht
    · exact print_verifying cs c v w h (.inr (.inl hm1)) hm1.1 ht
    · exact print_literal cs c v w h (.inr (.inr hm1)) hm1.1 ht
  · rw [if_neg hm, if_neg hm]
    exact (print_bad cs c v w h hm).mono fun e w' ⟨h1, h2⟩ => ⟨_, h1, rfl, h2⟩
end Go.Proofs.YtcpceaflnnkhnaaGreatDoor
