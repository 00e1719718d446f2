import Derived.Test.YtdohebhbiokljaaGreatDoorJ10
import Derived.Laws.StructEq
import Derived.Stop.BytesEq
import Derived.Test.YtdohebhbiokljaaGreatDoorJ6
import Derived.Test.YtdohebhbiokljaaGreatDoorJ11
import Derived.Deep.DeepCutAuto
set_option linter.all false
namespace Go.Proofs.YtdohebhbiokljaaGreatDoor
open Go.RowKit
section
variable {P : Program} {o : Oper} {a : Act} {w : World}
theorem ex_loadR (ty : TypeId) (x : Operand) (ho : o.op = .load ty x) (b k : Nat) (hx : a.eval x = .pointer (some ⟨b, k, none⟩)) (F : Array Value) (d : TypeDesc) (hc : w.rangeAt b k F.toList)
  (hu : P.underlying ty = some d) (hd : d.isRow = true) (hi : (P.info? ty).map (·.size) = some F.size) : (execOp a.eval o).run P w = .ok (.value (.agg F)) w := by
 unfold execOp
 simp only [ho, hx, Sem.run_bind, Sem.run_pure, Result.andThen_ok, run_loadAt_mid w b k ty F.toList d hc hu hd (by simpa using hi)]
theorem ex_binA (op : BinOp) (t : TypeId) (x y : Operand) (ho : o.op = .binOp op t x y t) (hop : op = .eql ∨ op = .neq) (xs ys : Array Value) (hx : a.eval x = .agg xs) (hy : a.eval y = .agg ys) (hm : P.eqGuardType P.depth t = false) (r : Bool) (hr : (binOp op t (.agg xs) (.agg ys)).run P w = .ok (.bool r) w) : (execOp a.eval o).run P w = .ok (.value (.bool r)) w := by
 unfold execOp
 rcases hop with rfl | rfl
 ·simp only [ho, hx, hy, Sem.run_bind, Sem.run_pure, run_eqGuard_agg w _ _ _ _ _ _ hm, Result.andThen_ok, hr]
 ·simp only [ho, hx, hy, Sem.run_bind, Sem.run_pure, run_eqGuard_agg w _ _ _ _ _ _ hm, Result.andThen_ok, hr]
theorem wpList_exW {ops : Array Oper} {rest : List Oper} {Q : Exit → Act → World → Prop} (hw : Region.wanted o (yielded ops a.tmps) = true) {v : Value} (hr : (execOp a.eval o).run P w = .ok (.value v) w) (h : wpList P ops Q rest (a.put o.dst v) w) : wpList P ops Q (o :: rest) a w :=
 wpList_step fun K hK => by
  rw [if_pos hw]
  unfold Oper.wp
  rw [hr]
  exact hK _ _ h
end
end Go.Proofs.YtdohebhbiokljaaGreatDoor
namespace Go.Proofs.YtdohebhbiokljaaGreatDoor
open Go.RowKit
end Go.Proofs.YtdohebhbiokljaaGreatDoor
namespace Go.Proofs.YtdohebhbiokljaaGreatDoor
open Go.RowKit
theorem Lsts.at_ {w : World} {A : Option Addr} {n c : Nat} {L : List (Value × List UInt8)} (h : Lsts w (.slice A n c) L) {k : Nat} {x : Value × List UInt8} (hx : L[k]? = some x) :
  ∃ b o C c2, A = some ⟨b, o, none⟩ ∧ w.cell? ⟨b, o + k, none⟩ = some (.slice C x.2.length c2) ∧ By w (.slice C x.2.length c2) x.2 := by
 have hk := (List.getElem?_eq_some_iff.1 hx).1
 obtain ⟨A', c', hv', _, _, hca⟩ := h.1.form
 injection hv' with hA' hn' hc'
 obtain ⟨b, o, hAb, _, hcell⟩ := hca (by omega)
 have hcx := hcell k (by omega)
 rw [List.getElem?_map, hx] at hcx
 have hbx := h.2 x (List.mem_of_getElem? hx)
 obtain ⟨Ae, ce, hxe, _, _, _⟩ := hbx.form
 rw [hxe] at hbx
 exact ⟨b, o, Ae, ce, hA'.trans hAb, by rw [hcx]; simp [hxe], hbx⟩
end Go.Proofs.YtdohebhbiokljaaGreatDoor
namespace Go.Proofs.YtdohebhbiokljaaGreatDoor
open Go.RowKit Exs
theorem Blk.rangeS {w : World} {g : Nat} {t : TypeId} {S : Array Value} (h : Blk w g t S) : w.rangeAt g 0 S.toList := fun j v hj => by
 rw [Nat.zero_add, h.cell, ← Array.getElem?_toList, hj]
theorem Exs.ex_loadC {P : Program} {o : Oper} {a : Act} {w : World} (ty : TypeId) (x : Operand) (ho : o.op = .load ty x) (p : Addr) (hx : a.eval x = .pointer (some p)) (v : Value) (d : TypeDesc) (hc : w.cell? p = some v) (hu : P.underlying ty = some d) (hd : d.isRow = false) : (execOp a.eval o).run P w = .ok (.value v) w := by
 unfold execOp
 simp only [ho, hx, Instr.loadAt, Instr.sureAddr, Sem.run_bind, Sem.run_pure, Result.andThen_ok]
 cases d <;> simp [TypeDesc.isRow] at hd <;> simp [loadVar, isAgg, underlying, hu, hc, Result.andThen]
theorem Blk.front2 {w : World} {g : Nat} {t : TypeId} {num : Int} {u : US} {a b c : Value} (hu : u.wf) (h : Blk w g t (frC num u a b c)) :
  (w.cell? ⟨g, 0, none⟩ = some (.int .i64 num) ∧ w.cell? ⟨g, 2, none⟩ = some (.int .i64 u.n)) ∧ (w.rangeAt g 5 (bcells u.sh).toArray.toList ∧ w.rangeAt g 37 (bcells u.sg).toArray.toList) ∧
  (w.cell? ⟨g, 69, none⟩ = some a ∧ w.cell? ⟨g, 70, none⟩ = some b ∧ w.cell? ⟨g, 71, none⟩ = some c) := by
 obtain ⟨h0, h1, h2, h3, h4⟩ := frC_get (num := num) (a := a) (b := b) (c := c) hu
 have hb1 : (bcells u.sh).length = 32 := by rw [bcells_length]; exact hu.1
 have hb2 : (bcells u.sg).length = 32 := by rw [bcells_length]; exact hu.2
 have hc : ∀ j, u.cells[j]? = (Value.int .i64 u.k :: .int .i64 u.n :: .int .i64 u.seg :: .int .i64 u.size :: (bcells u.sh ++ bcells u.sg))[j]? := fun j => by
  unfold US.cells uebC
  rw [List.getElem?_toArray]
 refine ⟨⟨by rw [h.cell]; exact h0, by rw [h.cell, show (2 : Nat) = 1 + 1 from rfl, h1 1 (by omega), hc]; rfl⟩, ⟨fun j v hj => ?_, fun j v hj => ?_⟩, by rw [h.cell]; exact h2, by rw [h.cell]; exact h3, by rw [h.cell]; exact h4⟩
 ·have := (List.getElem?_eq_some_iff.1 hj).1
  simp only at this
  rw [h.cell, show 5 + j = 1 + (4 + j) by omega, h1 _ (by omega), hc, show 4 + j = j + 1 + 1 + 1 + 1 by omega]
  simp only [List.getElem?_cons_succ]
  rw [List.getElem?_append_left (by omega)]
  exact hj
 ·have := (List.getElem?_eq_some_iff.1 hj).1
  simp only at this
  rw [h.cell, show 37 + j = 1 + (36 + j) by omega, h1 _ (by omega), hc, show 36 + j = 32 + j + 1 + 1 + 1 + 1 by omega]
  simp only [List.getElem?_cons_succ]
  rw [List.getElem?_append_right (by omega), hb1, show 32 + j - 32 = j by omega]
  exact hj
theorem Blk.share2 {w : World} {g : Nat} {t : TypeId} {num : Int} {u : US} {a b c d : Value} (hu : u.wf) (h : Blk w g t (shC num u a b c d)) :
  w.rangeAt g 0 (shC num u a b c d).toList ∧ w.rangeAt g 0 (frC num u a b c).toList ∧ w.rangeAt g 1 u.cells.toList ∧
  w.cell? ⟨g, 0, none⟩ = some (.int .i64 num) ∧ w.cell? ⟨g, 70, none⟩ = some b ∧ w.cell? ⟨g, 71, none⟩ = some c ∧ w.cell? ⟨g, 72, none⟩ = some d := by
 obtain ⟨h0, h1, h2, h3, h4⟩ := frC_get (num := num) (a := a) (b := b) (c := c) hu
 obtain ⟨r1, r2, r3⟩ := h.share hu
 refine ⟨h.rangeS, r1, r2, ?_, ?_, ?_, r3⟩
 ·have := r1 0 _ (by rw [Array.getElem?_toList]; exact h0)
  rwa [Nat.zero_add] at this
 ·have := r1 70 _ (by rw [Array.getElem?_toList]; exact h3)
  rwa [Nat.zero_add] at this
 ·have := r1 71 _ (by rw [Array.getElem?_toList]; exact h4)
  rwa [Nat.zero_add] at this
theorem tag1_len (t : Nat) (ht : (tagB t).size ≤ 20) (x : List UInt8) (hx : x.length ≤ 1099511627000) : (tag1 t x).length ≤ 1099511627776 := by
 unfold tag1
 rw [framedL_length]
 simp [lst_len]
 omega
theorem tag1_len5 (x : List UInt8) (hx : x.length = 32) : (tag1 5 x).length ≤ 1099511627776 := tag1_len 5 (tag_len (by omega)) x (by omega)
theorem okS_len {s : SS} (h : okS s) {j : Nat} {x : List UInt8} (hx : s.data[j]? = some x) : x.length ≤ 65536 := by
 have h1 : (s.data.map List.length)[j]? = some x.length := by rw [List.getElem?_map, hx]; rfl
 rw [h.2] at h1
 have hj : j < SG s.f.u := by
  have := (List.getElem?_eq_some_iff.1 h1).1
  rwa [lens_length] at this
 rw [lens_at _ _ hj] at h1
 injection h1 with h1
 have hb := u_bounds h.1.1
 unfold lensAt at h1
 split at h1 <;> omega
end Go.Proofs.YtdohebhbiokljaaGreatDoor
namespace Go.Proofs.YtdohebhbiokljaaGreatDoor
open Go.RowKit Exs
set_option maxRecDepth 100000 in
set_option maxHeartbeats 8000000 in
theorem sound_any (s : SS) (v : Value) (w : World) (hw : s.f.wf) (hi : s.f.u.in64) (hv : ShV w v s) (ht : Tab w) :
  Calls Tryz.prog 6 #[v] w fun e w' => Below w.heap.size w w' ∧ ∃ r, e = .returned (.bool r) ∧ (r = true → Snd s) := by
 have hv0 := hv
 obtain ⟨f, data⟩ := s
 obtain ⟨va, vb, vc, vd, LD, rfl, ha, hb, hc, hd, hLD⟩ := hv
 simp only at *
 obtain ⟨Ad, cd, rfl, hdl, hdm, _⟩ := hd.1.form
 obtain ⟨S0, hS0, hz0⟩ : ∃ S, S = shC f.num f.u va vb vc (.slice Ad LD.length cd) ∧ S.size = 73 := ⟨_, rfl, by
  have := frC_size (num := f.num) (a := va) (b := vb) (c := vc) hw.1
  unfold shC
  simp [this]⟩
 obtain ⟨F0, hF0, hzF⟩ : ∃ F, F = frC f.num f.u va vb vc ∧ F.size = 72 := ⟨_, rfl, frC_size hw.1⟩
 rw [← hS0] at hv0 ⊢
 have n0 := Blk.new w 31 S0
 have b0 := (Below.refl w.heap.size w).alloc (Nat.le_refl _) (.cells S0 31)
 have HR := hide (fun W (hW : Below (w.alloc (.cells S0 31)).heap.size (w.alloc (.cells S0 31)) W) =>
  (show W.rangeAt w.heap.size 0 S0.toList ∧ W.rangeAt w.heap.size 0 F0.toList ∧ W.cell? ⟨w.heap.size, 72, none⟩ = some (.slice Ad LD.length cd) from by
   have h := n0.below' hW
   refine ⟨h.rangeS, ?_⟩
   rw [hS0] at h
   rw [hF0]
   exact ⟨(h.share hw.1).1, (h.share hw.1).2.2⟩))
 have Q1 := hide (pack_any_share ⟨f, data⟩ (.agg S0) _ hw hi (hv0.below b0) (ht.below b0))
 have HV := hide (And.intro (ha.below b0) (And.intro (hb.below b0) (And.intro (hc.below b0) (hd.below b0))))
 have HB := hide b0
 have HZ := hide (And.intro hz0 hzF)
 have HH := hide (And.intro hw (And.intro hi (And.intro hLD hF0)))
 generalize hW0 : w.alloc (.cells S0 31) = W0 at *
 clear n0 b0 hv0 ha hb hc hd ht hS0 hF0 hz0 hzF hw hi hLD hdl hdm
 go_enter Tryz.func6, Tryz.ntmps6
 go_wp2_with (first
  | ((with_reducible change wpList _ _ _ (⟨some 13, _, _, _, _, _⟩ :: _) _ _); go_loud (refine wpList_load_midF (by rfl) 31 _ rfl w.heap.size 0 rfl S0 _ (HR.out W0 (Below.refl _ _)).1 Tryz.underlying31 rfl (by rw [HZ.out.1]; kernel_rfl) ?_)))
 refine Q1.out.mono ?_
 rintro e w1 ⟨b1, ⟨hok, A1, c1, rfl, _⟩ | ⟨hno, rfl⟩⟩
 ·obtain ⟨hm, hn0, hn1, hlc, hlb, hls⟩ : okF f := hok.1
  have hdd : data.length = SG f.u := okS_data hok
  have hbd := u_bounds hm
  obtain ⟨kk, hk⟩ : ∃ k : Nat, f.num = (k : Int) := ⟨f.num.toNat, by omega⟩
  obtain ⟨un, hun⟩ : ∃ n : Nat, f.u.n = (n : Int) := ⟨f.u.n.toNat, by omega⟩
  obtain ⟨S, hS⟩ : ∃ S, S = SG f.u := ⟨_, rfl⟩
  obtain ⟨p, hp⟩ : ∃ p, p = wid S := ⟨_, rfl⟩
  have hpw : 1 ≤ p := by rw [hp]; exact wid_pos S
  have hTU : TU f.u = 2 * p - 1 := by unfold TU; rw [hp, hS]
  obtain ⟨x0, hx0⟩ : ∃ x, f.bs[0]? = some x := ⟨_, List.getElem?_eq_getElem (by omega)⟩
  obtain ⟨y0, hy0⟩ : ∃ x, f.sg[0]? = some x := ⟨_, List.getElem?_eq_getElem (by omega)⟩
  obtain ⟨BA, bc, rfl, hbl, hbm, _⟩ := HV.out.2.1.1.form
  obtain ⟨CA, cc, rfl, hcl, hcm, _⟩ := HV.out.2.2.1.1.form
  obtain ⟨bb, bo, rfl, hbr, hb32, hbs⟩ := HV.out.2.1.at hx0
  obtain ⟨sb, so, rfl, hsr, hs32, hss⟩ := HV.out.2.2.1.at hy0
  obtain ⟨rt, hrt⟩ : ∃ r, r = climbL kk (tagD 5 x0) f.ch := ⟨_, rfl⟩
  have hr32 : rt.length = 32 := by rw [hrt]; exact climb_len _ _ _ (tagD_length _ _)
  obtain ⟨T0, hT0⟩ : ∃ F, F = (bcells (tagD 5 x0)).toArray := ⟨_, rfl⟩
  obtain ⟨X0, hX0⟩ : ∃ F, F = (bcells x0).toArray := ⟨_, rfl⟩
  obtain ⟨R0, hR0⟩ : ∃ F, F = (bcells rt).toArray := ⟨_, rfl⟩
  obtain ⟨Y0, hY0⟩ : ∃ F, F = (bcells y0).toArray := ⟨_, rfl⟩
  obtain ⟨SH, hSH⟩ : ∃ F, F = (bcells f.u.sh).toArray := ⟨_, rfl⟩
  obtain ⟨SN, hSN⟩ : ∃ F, F = (bcells f.u.sg).toArray := ⟨_, rfl⟩
  have hsz : X0.size = 32 ∧ R0.size = 32 ∧ Y0.size = 32 ∧ SH.size = 32 ∧ SN.size = 32 := ⟨by rw [hX0, arrSize]; exact hb32, by rw [hR0, arrSize]; exact hr32, by rw [hY0, arrSize]; exact hs32, by rw [hSH, arrSize]; exact HH.out.1.1.1, by rw [hSN, arrSize]; exact HH.out.1.1.2⟩
  have QT := hide (show ∀ W, Calls Tryz.prog 24 #[.agg X0] W fun e w' => e = .returned (.agg T0) ∧ Below W.heap.size W w' from fun W => by rw [hX0, hT0]; exact troot_any x0 hb32 W)
  have QC := hide (show ∀ W, Below W0.heap.size W0 W → Calls Tryz.prog 23 #[.int .i64 (un : Int), .int .i64 (kk : Int), .agg T0, va] W fun e w' => Below W.heap.size W w' ∧ e = .returned (.tuple #[.agg R0, .int .i64 0]) from fun W hW => by
   rw [hT0, hR0, hrt]
   exact climb_any un kk _ (tagD_length _ _) va f.ch W (by omega) (by omega) (HV.out.1.below hW) (by rw [hlc]; unfold CU; rw [hun]; rfl))
  have HW1 := hide (show ∀ W, Below W0.heap.size W0 W → W.rangeAt bb bo X0.toList ∧ W.rangeAt sb so Y0.toList from fun W hW => ⟨fun j v hj => (hW.cell (p := ⟨bb, bo + j, none⟩) hbs).trans (by have := hbr j v (by rw [hX0] at hj; exact hj); rw [Nat.zero_mul, Nat.add_zero] at this; exact this), fun j v hj => (hW.cell (p := ⟨sb, so + j, none⟩) hss).trans (by have := hsr j v (by rw [hY0] at hj; exact hj); rw [Nat.zero_mul, Nat.add_zero] at this; exact this)⟩)
  have QFR := hide (fun W g t (h : Blk W g t F0) => Blk.front2 HH.out.1.1 (by rw [HH.out.2.2.2] at h; exact h))
  rw [hk, hun, ← hSH, ← hSN] at QFR
  have HSZ := hide hsz
  have HX := hide (And.intro hX0 (And.intro hR0 (And.intro hY0 (And.intro hSH hSN))))
  have HRT := hide (And.intro hrt (And.intro hr32 (And.intro hx0 hy0)))
  have HOK := hide (And.intro hok (And.intro hm (And.intro hdd (And.intro hk (And.intro hS (And.intro hp (And.intro hTU (And.intro hlb hls))))))))
  have HBD := hide (And.intro hbd hpw)
  have hbl0 : 0 < f.bs.length := by omega
  have hsl0 : 0 < f.sg.length := by omega
  have B1 := hide b1
  have hzF := ZF_zero
  obtain ⟨zf, hzf, hzf1⟩ : ∃ Z, Z = ZF ∧ Z.size = 72 := ⟨_, rfl, ZF_size⟩
  rw [← hzf] at hzF
  have HZF := hide (And.intro hzf1 hzf)
  have hF1 : F0.all (·.oneCell') = true := by rw [HH.out.2.2.2]; exact frC_one HH.out.1.1 (by obtain ⟨A, c, rfl, _⟩ := HV.out.1.1.form; rfl) rfl rfl
  have HF1 := hide hF1
  clear hok hm hn0 hn1 hlc hlb hls hdd hbd hk hun hS hp hpw hTU hx0 hy0 hbl hbm hcl hcm hbr hb32 hbs hsr hs32 hss hrt hr32 hT0 hX0 hR0 hY0 hSH hSN hsz b1 Q1 hzf hzf1 hF1
  obtain ⟨bn, hbn⟩ : ∃ n, n = f.bs.length := ⟨_, rfl⟩
  obtain ⟨sn, hsn⟩ : ∃ n, n = f.sg.length := ⟨_, rfl⟩
  rw [← hbn] at QFR hbl0
  rw [← hsn] at QFR hsl0
  have HBN := hide (And.intro hbn hsn)
  clear hbn hsn
  go_wp2_with (first
   | ((with_reducible change wpList _ _ _ (⟨some 20, _, _, _, _, _⟩ :: _) _ _); go_loud (refine wpList_load_midF (by rfl) 28 _ rfl (w.heap.size) 0 rfl F0 _ ((HR.out w1 B1.out).2.1) Tryz.underlying28 rfl (by rw [HZ.out.2]; kernel_rfl) ?_))
   | ((with_reducible change wpList _ _ _ (⟨none, .store _ (.tmp 5) _, _, _, _, _⟩ :: _) _ _); go_loud (refine wpList_store_row (o := ⟨none, .store _ (.tmp 5) _, _, _, _, _⟩) (Blk.new w1 28 zf) F0 (by rw [HZ.out.2, HZF.out.1]) HF1.out rfl 28 _ _ rfl (by rw [HZ.out.2]; kernel_rfl) rfl rfl ?_; intro w2 hb9 hg9; have K2 := hide (And.intro hb9 (show Below w1.heap.size w1 w2 from ((Below.refl _ w1).alloc (Nat.le_refl _) _).grown hg9 (by simp) (fun k hk => by cases hk; exact Nat.le_refl _))); clear hb9 hg9; have B2 := hide (Below.step B1.out K2.out.2))))
  have HFR := hide (fun W (hW : Below w2.heap.size w2 W) => QFR.out W w1.heap.size _ (K2.out.1.below' hW))
  have HR1 := hide (show R0.all (·.oneCell') = true from by rw [HX.out.2.1]; exact arrOne _)
  obtain ⟨ZD, hZD⟩ : ∃ Z, Z = #[Value.int .u8 0, Value.int .u8 0, Value.int .u8 0, Value.int .u8 0, Value.int .u8 0, Value.int .u8 0, Value.int .u8 0, Value.int .u8 0, Value.int .u8 0, Value.int .u8 0, Value.int .u8 0, Value.int .u8 0, Value.int .u8 0, Value.int .u8 0, Value.int .u8 0, Value.int .u8 0, Value.int .u8 0, Value.int .u8 0, Value.int .u8 0, Value.int .u8 0, Value.int .u8 0, Value.int .u8 0, Value.int .u8 0, Value.int .u8 0, Value.int .u8 0, Value.int .u8 0, Value.int .u8 0, Value.int .u8 0, Value.int .u8 0, Value.int .u8 0, Value.int .u8 0, Value.int .u8 0] := ⟨_, rfl⟩
  go_frame
  go_cut [6, 7] (fun u6 u7 wx => ∃ g : Nat, u6 = .pointer (some ⟨g, 0, none⟩) ∧ u7 = .int .i64 0 ∧ Blk wx g 23 R0 ∧ Below w2.heap.size w2 wx)
  case first =>
   refine wp_region_noPanic ?_
   refine wp_region_held_drew (S := fun W => Below w2.heap.size w2 W) (by kernel_rfl) (Below.refl _ _).drew (fun hHeld => ?_)
   refine wpAnyH_take (i := 0) (v := ?_) rfl (by kernel_rfl) (by kernel_rfl) (by kernel_rfl) (fun _ _ _ h => h) (Or.inl ⟨by rfl, ?_⟩) (by assumption) ?_
   rotate_left
   ·(intro w9 hSw; (try dsimp only at hSw); go_simp; try with_reducible rfl)
   try simp only [Act.put, List.setIfInBounds_toArray, List.set_cons_zero, List.set_cons_succ, List.getElem_toArray, List.getElem_cons_succ, List.getElem_cons_zero]
   refine wpAnyH_take (i := 1) (v := ?_) rfl (by kernel_rfl) (by kernel_rfl) (by kernel_rfl) (fun _ _ _ h => h) (Or.inl ⟨by rfl, ?_⟩) (by assumption) ?_
   rotate_left
   ·(intro w9 hSw; (try dsimp only at hSw); go_simp; try with_reducible rfl)
   try simp only [Act.put, List.setIfInBounds_toArray, List.set_cons_zero, List.set_cons_succ, List.getElem_toArray, List.getElem_cons_succ, List.getElem_cons_zero]
   refine wpAnyH_take (i := 2) (v := .int .i64 un) rfl (by kernel_rfl) (by kernel_rfl) (by kernel_rfl) (fun _ _ _ h => h) (Or.inl ⟨by rfl, ?_⟩) (by assumption) ?_
   ·(intro W hW; exact ex_loadI 3 (.tmp 23) (by kernel_rfl) ⟨w1.heap.size, 2, none⟩ (by kernel_rfl) _ .i64 (HFR.out W hW).1.2 Tryz.underlying3)
   try simp only [Act.put, List.setIfInBounds_toArray, List.set_cons_zero, List.set_cons_succ, List.getElem_toArray, List.getElem_cons_succ, List.getElem_cons_zero]
   refine wpAnyH_take (i := 3) (v := ?_) rfl (by kernel_rfl) (by kernel_rfl) (by kernel_rfl) (fun _ _ _ h => h) (Or.inl ⟨by rfl, ?_⟩) (by assumption) ?_
   rotate_left
   ·(intro w9 hSw; (try dsimp only at hSw); go_simp; try with_reducible rfl)
   try simp only [Act.put, List.setIfInBounds_toArray, List.set_cons_zero, List.set_cons_succ, List.getElem_toArray, List.getElem_cons_succ, List.getElem_cons_zero]
   refine wpAnyH_take (i := 4) (v := .int .i64 kk) rfl (by kernel_rfl) (by kernel_rfl) (by kernel_rfl) (fun _ _ _ h => h) (Or.inl ⟨by rfl, ?_⟩) (by assumption) ?_
   ·(intro W hW; exact ex_loadI 3 (.tmp 25) (by kernel_rfl) ⟨w1.heap.size, 0, none⟩ (by kernel_rfl) _ .i64 (HFR.out W hW).1.1 Tryz.underlying3)
   try simp only [Act.put, List.setIfInBounds_toArray, List.set_cons_zero, List.set_cons_succ, List.getElem_toArray, List.getElem_cons_succ, List.getElem_cons_zero]
   refine wpAnyH_take (i := 5) (v := ?_) rfl (by kernel_rfl) (by kernel_rfl) (by kernel_rfl) (fun _ _ _ h => h) (Or.inl ⟨by rfl, ?_⟩) (by assumption) ?_
   rotate_left
   ·(intro w9 hSw; (try dsimp only at hSw); go_simp; try with_reducible rfl)
   try simp only [Act.put, List.setIfInBounds_toArray, List.set_cons_zero, List.set_cons_succ, List.getElem_toArray, List.getElem_cons_succ, List.getElem_cons_zero]
   refine wpAnyH_take (i := 6) (v := .slice (some ⟨bb, bo, none⟩) bn bc) rfl (by kernel_rfl) (by kernel_rfl) (by kernel_rfl) (fun _ _ _ h => h) (Or.inl ⟨by rfl, ?_⟩) (by assumption) ?_
   ·(intro W hW; exact ex_loadC 26 (.tmp 27) (by kernel_rfl) ⟨w1.heap.size, 70, none⟩ (by kernel_rfl) _ _ (HFR.out W hW).2.2.2.1 Tryz.underlying26 rfl)
   try simp only [Act.put, List.setIfInBounds_toArray, List.set_cons_zero, List.set_cons_succ, List.getElem_toArray, List.getElem_cons_succ, List.getElem_cons_zero]
   refine wpAnyH_take (i := 7) (v := ?_) rfl (by kernel_rfl) (by kernel_rfl) (by kernel_rfl) (fun _ _ _ h => h) (Or.inl ⟨by rfl, ?_⟩) (by assumption) ?_
   rotate_left
   ·(intro w9 hSw; (try dsimp only at hSw); go_simp; try with_reducible rfl)
   try simp only [Act.put, List.setIfInBounds_toArray, List.set_cons_zero, List.set_cons_succ, List.getElem_toArray, List.getElem_cons_succ, List.getElem_cons_zero]
   refine wpAnyH_take (i := 8) (v := .agg X0) rfl (by kernel_rfl) (by kernel_rfl) (by kernel_rfl) (fun _ _ _ h => h) (Or.inl ⟨by rfl, ?_⟩) (by assumption) ?_
   ·(intro W hW; exact ex_loadR 23 (.tmp 29) (by kernel_rfl) bb bo rfl X0 _ (HW1.out W (Below.step B2.out hW)).1 Tryz.underlying23 rfl (by rw [HSZ.out.1]; kernel_rfl))
   try simp only [Act.put, List.setIfInBounds_toArray, List.set_cons_zero, List.set_cons_succ, List.getElem_toArray, List.getElem_cons_succ, List.getElem_cons_zero]
   refine wpAnyH_take (i := 10) (v := ?_) rfl (by kernel_rfl) (by kernel_rfl) (by kernel_rfl) (fun _ _ _ h => h) (Or.inl ⟨by rfl, ?_⟩) (by assumption) ?_
   rotate_left
   ·(intro w9 hSw; (try dsimp only at hSw); go_simp; try with_reducible rfl)
   try simp only [Act.put, List.setIfInBounds_toArray, List.set_cons_zero, List.set_cons_succ, List.getElem_toArray, List.getElem_cons_succ, List.getElem_cons_zero]
   refine wpAnyH_take (i := 11) (v := va) rfl (by kernel_rfl) (by kernel_rfl) (by kernel_rfl) (fun _ _ _ h => h) (Or.inl ⟨by rfl, ?_⟩) (by assumption) ?_
   ·(intro W hW; exact ex_loadC 26 (.tmp 32) (by kernel_rfl) ⟨w1.heap.size, 69, none⟩ (by kernel_rfl) _ _ (HFR.out W hW).2.2.1 Tryz.underlying26 rfl)
   try simp only [Act.put, List.setIfInBounds_toArray, List.set_cons_zero, List.set_cons_succ, List.getElem_toArray, List.getElem_cons_succ, List.getElem_cons_zero]
   refine wpAnyH_ready (rs := [9, 16]) (by kernel_rfl) (by simp) ?_
   refine AllReadyH.cons rfl (fun K hK => ?_) (AllReadyH.cons rfl (fun K hK => ?_) AllReadyH.nil)
   ·skip
    go_simp
    refine (QT.out _).mono ?_
    rintro e a1 ⟨rfl, q⟩
    have Ba1 := hide (Below.step hHeld q)
    clear q
    refine hK.out _ _ (Ba1.out) (fun hHeld => ?_)
    clear hK K
    try simp only [Act.put, List.setIfInBounds_toArray, List.set_cons_zero, List.set_cons_succ, List.getElem_toArray, List.getElem_cons_succ, List.getElem_cons_zero]
    refine wpAnyH_ready (rs := [12, 16]) (by kernel_rfl) (by simp) ?_
    refine AllReadyH.cons rfl (fun K hK => ?_) (AllReadyH.cons rfl (fun K hK => ?_) AllReadyH.nil)
    ·skip
     go_simp
     refine (QC.out _ (Below.step B2.out Ba1.out)).mono ?_
     rintro e a2 ⟨q, rfl⟩
     have Ba2 := hide (Below.step Ba1.out q)
     clear q
     refine hK.out _ _ (Ba2.out) (fun hHeld => ?_)
     clear hK K
     try simp only [Act.put, List.setIfInBounds_toArray, List.set_cons_zero, List.set_cons_succ, List.getElem_toArray, List.getElem_cons_succ, List.getElem_cons_zero]
     refine wpAnyH_take (i := 13) (v := ?_) rfl (by kernel_rfl) (by kernel_rfl) (by kernel_rfl) (fun _ _ _ h => h) (Or.inl ⟨by rfl, ?_⟩) (by assumption) ?_
     rotate_left
     ·(intro w9 hSw; (try dsimp only at hSw); go_simp; try with_reducible rfl)
     try simp only [Act.put, List.setIfInBounds_toArray, List.set_cons_zero, List.set_cons_succ, List.getElem_toArray, List.getElem_cons_succ, List.getElem_cons_zero]
     refine wpAnyH_take (i := 14) (v := ?_) rfl (by kernel_rfl) (by kernel_rfl) (by kernel_rfl) (fun _ _ _ h => h) (Or.inl ⟨by rfl, ?_⟩) (by assumption) ?_
     rotate_left
     ·(intro w9 hSw; (try dsimp only at hSw); go_simp; try with_reducible rfl)
     try simp only [Act.put, List.setIfInBounds_toArray, List.set_cons_zero, List.set_cons_succ, List.getElem_toArray, List.getElem_cons_succ, List.getElem_cons_zero]
     refine wpAnyH_take (i := 15) (v := ?_) rfl (by kernel_rfl) (by kernel_rfl) (by kernel_rfl) (fun _ _ _ h => h) (Or.inl ⟨by rfl, ?_⟩) (by assumption) ?_
     rotate_left
     ·(intro w9 hSw; (try dsimp only at hSw); go_simp; try with_reducible rfl)
     try simp only [Act.put, List.setIfInBounds_toArray, List.set_cons_zero, List.set_cons_succ, List.getElem_toArray, List.getElem_cons_succ, List.getElem_cons_zero]
     refine wpAnyH_ready (rs := [16]) (by kernel_rfl) (by simp) ?_
     refine AllReadyH.cons rfl (fun K hK => ?_) AllReadyH.nil
     go_simp
     rw [← hZD]
     obtain ⟨a3, ha3⟩ : ∃ W, W = a2.alloc (.cells ZD 23) := ⟨_, rfl⟩
     have ea3 := Blk.new a2 23 ZD
     have ba3 := Ba2.out.alloc Ba2.out.size (.cells ZD 23)
     have la3 := Ba2.out.size
     rw [← ha3] at ea3 ba3 ⊢
     have Ba3 := hide ba3
     have Ka3 := hide ea3
     have HLKa3 := hide la3
     clear ha3 ea3 ba3 la3
     refine hK.out _ _ (Ba3.out) (fun hHeld => ?_)
     clear hK K
     try simp only [Act.put, List.setIfInBounds_toArray, List.set_cons_zero, List.set_cons_succ, List.getElem_toArray, List.getElem_cons_succ, List.getElem_cons_zero]
     refine wpAnyH_ready (rs := [17]) (by kernel_rfl) (by simp) ?_
     refine AllReadyH.cons rfl (fun K hK => ?_) AllReadyH.nil
     refine wp_store_blk (g := _) (t := 23) Ka3.out R0 (by rw [HSZ.out.2.1, hZD]; rfl) HR1.out 23 _ _ rfl (by rw [HSZ.out.2.1]; kernel_rfl) rfl rfl ?_
     intro w7 hb7 hg7
     have B7 := hide (Ba3.out.grown hg7 Ba3.out.size (fun k hk => by cases hk; exact HLKa3.out))
     have K7 := hide hb7
     clear hb7 hg7
     refine hK.out _ _ (B7.out) (fun hHeld => ?_)
     clear hK K
     try simp only [Act.put, List.setIfInBounds_toArray, List.set_cons_zero, List.set_cons_succ, List.getElem_toArray, List.getElem_cons_succ, List.getElem_cons_zero]
     refine wpAnyH_take (i := 18) (v := ?_) rfl (by kernel_rfl) (by kernel_rfl) (by kernel_rfl) (fun _ _ _ h => h) (Or.inl ⟨by rfl, ?_⟩) (by assumption) ?_
     rotate_left
     ·(intro w9 hSw; (try dsimp only at hSw); go_simp; try with_reducible rfl)
     try simp only [Act.put, List.setIfInBounds_toArray, List.set_cons_zero, List.set_cons_succ, List.getElem_toArray, List.getElem_cons_succ, List.getElem_cons_zero]
     refine wpAnyH_done (by kernel_rfl) ?_ _
     refine noPanic_norm ?_
     go_wp2_with fail
     go_meet
     exact ⟨_, rfl, rfl, K7.out, B7.out⟩
    ·skip
     go_simp
     rw [← hZD]
     obtain ⟨a4, ha4⟩ : ∃ W, W = a1.alloc (.cells ZD 23) := ⟨_, rfl⟩
     have ea4 := Blk.new a1 23 ZD
     have ba4 := Ba1.out.alloc Ba1.out.size (.cells ZD 23)
     have la4 := Ba1.out.size
     rw [← ha4] at ea4 ba4 ⊢
     have Ba4 := hide ba4
     have Ka4 := hide ea4
     have HLKa4 := hide la4
     clear ha4 ea4 ba4 la4
     refine hK.out _ _ (Ba4.out) (fun hHeld => ?_)
     clear hK K
     try simp only [Act.put, List.setIfInBounds_toArray, List.set_cons_zero, List.set_cons_succ, List.getElem_toArray, List.getElem_cons_succ, List.getElem_cons_zero]
     refine wpAnyH_ready (rs := [12]) (by kernel_rfl) (by simp) ?_
     refine AllReadyH.cons rfl (fun K hK => ?_) AllReadyH.nil
     go_simp
     refine (QC.out _ (Below.step B2.out Ba4.out)).mono ?_
     rintro e a5 ⟨q, rfl⟩
     have Ba5 := hide (Below.step Ba4.out q)
     have Ka5 := hide (Ka4.out.below' q)
     have HLKa5 := hide HLKa4.out
     clear q
     refine hK.out _ _ (Ba5.out) (fun hHeld => ?_)
     clear hK K
     try simp only [Act.put, List.setIfInBounds_toArray, List.set_cons_zero, List.set_cons_succ, List.getElem_toArray, List.getElem_cons_succ, List.getElem_cons_zero]
     refine wpAnyH_take (i := 13) (v := ?_) rfl (by kernel_rfl) (by kernel_rfl) (by kernel_rfl) (fun _ _ _ h => h) (Or.inl ⟨by rfl, ?_⟩) (by assumption) ?_
     rotate_left
     ·(intro w9 hSw; (try dsimp only at hSw); go_simp; try with_reducible rfl)
     try simp only [Act.put, List.setIfInBounds_toArray, List.set_cons_zero, List.set_cons_succ, List.getElem_toArray, List.getElem_cons_succ, List.getElem_cons_zero]
     refine wpAnyH_take (i := 14) (v := ?_) rfl (by kernel_rfl) (by kernel_rfl) (by kernel_rfl) (fun _ _ _ h => h) (Or.inl ⟨by rfl, ?_⟩) (by assumption) ?_
     rotate_left
     ·(intro w9 hSw; (try dsimp only at hSw); go_simp; try with_reducible rfl)
     try simp only [Act.put, List.setIfInBounds_toArray, List.set_cons_zero, List.set_cons_succ, List.getElem_toArray, List.getElem_cons_succ, List.getElem_cons_zero]
     refine wpAnyH_take (i := 15) (v := ?_) rfl (by kernel_rfl) (by kernel_rfl) (by kernel_rfl) (fun _ _ _ h => h) (Or.inl ⟨by rfl, ?_⟩) (by assumption) ?_
     rotate_left
     ·(intro w9 hSw; (try dsimp only at hSw); go_simp; try with_reducible rfl)
     try simp only [Act.put, List.setIfInBounds_toArray, List.set_cons_zero, List.set_cons_succ, List.getElem_toArray, List.getElem_cons_succ, List.getElem_cons_zero]
     refine wpAnyH_ready (rs := [17]) (by kernel_rfl) (by simp) ?_
     refine AllReadyH.cons rfl (fun K hK => ?_) AllReadyH.nil
     refine wp_store_blk (g := _) (t := 23) Ka5.out R0 (by rw [HSZ.out.2.1, hZD]; rfl) HR1.out 23 _ _ rfl (by rw [HSZ.out.2.1]; kernel_rfl) rfl rfl ?_
     intro w7 hb7 hg7
     have B7 := hide (Ba5.out.grown hg7 Ba5.out.size (fun k hk => by cases hk; exact HLKa5.out))
     have K7 := hide hb7
     clear hb7 hg7
     refine hK.out _ _ (B7.out) (fun hHeld => ?_)
     clear hK K
     try simp only [Act.put, List.setIfInBounds_toArray, List.set_cons_zero, List.set_cons_succ, List.getElem_toArray, List.getElem_cons_succ, List.getElem_cons_zero]
     refine wpAnyH_take (i := 18) (v := ?_) rfl (by kernel_rfl) (by kernel_rfl) (by kernel_rfl) (fun _ _ _ h => h) (Or.inl ⟨by rfl, ?_⟩) (by assumption) ?_
     rotate_left
     ·(intro w9 hSw; (try dsimp only at hSw); go_simp; try with_reducible rfl)
     try simp only [Act.put, List.setIfInBounds_toArray, List.set_cons_zero, List.set_cons_succ, List.getElem_toArray, List.getElem_cons_succ, List.getElem_cons_zero]
     refine wpAnyH_done (by kernel_rfl) ?_ _
     refine noPanic_norm ?_
     go_wp2_with fail
     go_meet
     exact ⟨_, rfl, rfl, K7.out, B7.out⟩
   ·skip
    go_simp
    rw [← hZD]
    obtain ⟨a6, ha6⟩ : ∃ W, W = (w2.alloc (.cells ZD 23)).drew := ⟨_, rfl⟩
    have ea6 := (Blk.new w2 23 ZD).drew
    have ba6 := ((Below.refl _ w2).alloc (Nat.le_refl _) (.cells ZD 23)).drew
    have la6 := Nat.le_refl w2.heap.size
    rw [← ha6] at ea6 ba6 ⊢
    have Ba6 := hide ba6
    have Ka6 := hide ea6
    have HLKa6 := hide la6
    clear ha6 ea6 ba6 la6
    refine hK.out _ _ (Ba6.out) (fun hHeld => ?_)
    clear hK K
    try simp only [Act.put, List.setIfInBounds_toArray, List.set_cons_zero, List.set_cons_succ, List.getElem_toArray, List.getElem_cons_succ, List.getElem_cons_zero]
    refine wpAnyH_ready (rs := [9]) (by kernel_rfl) (by simp) ?_
    refine AllReadyH.cons rfl (fun K hK => ?_) AllReadyH.nil
    go_simp
    refine (QT.out _).mono ?_
    rintro e a7 ⟨rfl, q⟩
    have Ba7 := hide (Below.step Ba6.out q)
    have Ka7 := hide (Ka6.out.below' q)
    have HLKa7 := hide HLKa6.out
    clear q
    refine hK.out _ _ (Ba7.out) (fun hHeld => ?_)
    clear hK K
    try simp only [Act.put, List.setIfInBounds_toArray, List.set_cons_zero, List.set_cons_succ, List.getElem_toArray, List.getElem_cons_succ, List.getElem_cons_zero]
    refine wpAnyH_ready (rs := [12]) (by kernel_rfl) (by simp) ?_
    refine AllReadyH.cons rfl (fun K hK => ?_) AllReadyH.nil
    go_simp
    refine (QC.out _ (Below.step B2.out Ba7.out)).mono ?_
    rintro e a8 ⟨q, rfl⟩
    have Ba8 := hide (Below.step Ba7.out q)
    have Ka8 := hide (Ka7.out.below' q)
    have HLKa8 := hide HLKa7.out
    clear q
    refine hK.out _ _ (Ba8.out) (fun hHeld => ?_)
    clear hK K
    try simp only [Act.put, List.setIfInBounds_toArray, List.set_cons_zero, List.set_cons_succ, List.getElem_toArray, List.getElem_cons_succ, List.getElem_cons_zero]
    refine wpAnyH_take (i := 13) (v := ?_) rfl (by kernel_rfl) (by kernel_rfl) (by kernel_rfl) (fun _ _ _ h => h) (Or.inl ⟨by rfl, ?_⟩) (by assumption) ?_
    rotate_left
    ·(intro w9 hSw; (try dsimp only at hSw); go_simp; try with_reducible rfl)
    try simp only [Act.put, List.setIfInBounds_toArray, List.set_cons_zero, List.set_cons_succ, List.getElem_toArray, List.getElem_cons_succ, List.getElem_cons_zero]
    refine wpAnyH_take (i := 14) (v := ?_) rfl (by kernel_rfl) (by kernel_rfl) (by kernel_rfl) (fun _ _ _ h => h) (Or.inl ⟨by rfl, ?_⟩) (by assumption) ?_
    rotate_left
    ·(intro w9 hSw; (try dsimp only at hSw); go_simp; try with_reducible rfl)
    try simp only [Act.put, List.setIfInBounds_toArray, List.set_cons_zero, List.set_cons_succ, List.getElem_toArray, List.getElem_cons_succ, List.getElem_cons_zero]
    refine wpAnyH_take (i := 15) (v := ?_) rfl (by kernel_rfl) (by kernel_rfl) (by kernel_rfl) (fun _ _ _ h => h) (Or.inl ⟨by rfl, ?_⟩) (by assumption) ?_
    rotate_left
    ·(intro w9 hSw; (try dsimp only at hSw); go_simp; try with_reducible rfl)
    try simp only [Act.put, List.setIfInBounds_toArray, List.set_cons_zero, List.set_cons_succ, List.getElem_toArray, List.getElem_cons_succ, List.getElem_cons_zero]
    refine wpAnyH_ready (rs := [17]) (by kernel_rfl) (by simp) ?_
    refine AllReadyH.cons rfl (fun K hK => ?_) AllReadyH.nil
    refine wp_store_blk (g := _) (t := 23) Ka8.out R0 (by rw [HSZ.out.2.1, hZD]; rfl) HR1.out 23 _ _ rfl (by rw [HSZ.out.2.1]; kernel_rfl) rfl rfl ?_
    intro w7 hb7 hg7
    have B7 := hide (Ba8.out.grown hg7 Ba8.out.size (fun k hk => by cases hk; exact HLKa8.out))
    have K7 := hide hb7
    clear hb7 hg7
    refine hK.out _ _ (B7.out) (fun hHeld => ?_)
    clear hK K
    try simp only [Act.put, List.setIfInBounds_toArray, List.set_cons_zero, List.set_cons_succ, List.getElem_toArray, List.getElem_cons_succ, List.getElem_cons_zero]
    refine wpAnyH_take (i := 18) (v := ?_) rfl (by kernel_rfl) (by kernel_rfl) (by kernel_rfl) (fun _ _ _ h => h) (Or.inl ⟨by rfl, ?_⟩) (by assumption) ?_
    rotate_left
    ·(intro w9 hSw; (try dsimp only at hSw); go_simp; try with_reducible rfl)
    try simp only [Act.put, List.setIfInBounds_toArray, List.set_cons_zero, List.set_cons_succ, List.getElem_toArray, List.getElem_cons_succ, List.getElem_cons_zero]
    refine wpAnyH_done (by kernel_rfl) ?_ _
    refine noPanic_norm ?_
    go_wp2_with fail
    go_meet
    exact ⟨_, rfl, rfl, K7.out, B7.out⟩
  case rest =>
   obtain ⟨g6, rfl, rfl, hb6, hbc⟩ := hcut
   have K3 := hide hb6
   have B3 := hide (Below.step B2.out hbc)
   have B23 := hide hbc
   clear hb6 hbc
   have hNE6 : ∀ W, (binOp .neq 23 (.agg R0) (.agg SH)).run Tryz.prog W = .ok (.bool (decide (rt ≠ f.u.sh))) W := fun W => by
    rw [HX.out.2.1, HX.out.2.2.2.1]; exact digNeq _ _ HRT.out.2.1 HH.out.1.1.1 W
   have hNE7 : ∀ W, (binOp .neq 23 (.agg Y0) (.agg SN)).run Tryz.prog W = .ok (.bool (decide (y0 ≠ f.u.sg))) W := fun W => by
    rw [HX.out.2.2.1, HX.out.2.2.2.2]; exact digNeq _ _ (by have h1 := HSZ.out.2.2.1; rw [HX.out.2.2.1, arrSize] at h1; exact h1) HH.out.1.1.2 W
   have HNE6 := hide hNE6
   have HNE7 := hide hNE7
   clear hNE6 hNE7
   by_cases hq6 : rt = f.u.sh
   ·rw [show decide (rt ≠ f.u.sh) = false from decide_eq_false (fun h => h hq6)] at HNE6
    have HQ6 := hide hq6
    clear hq6
    by_cases hq7 : y0 = f.u.sg
    ·rw [show decide (y0 ≠ f.u.sg) = false from decide_eq_false (fun h => h hq7)] at HNE7
     have HQ7 := hide hq7
     clear hq7
     go_wp2_with fail
     refine wp_region_noPanic ?_
     refine wp_region_held_drew (S := fun W => Below wc.heap.size wc W) (by kernel_rfl) (Below.refl _ _).drew (fun hHeld => ?_)
     refine wpAnyH_take (i := 0) (v := ?_) rfl (by kernel_rfl) (by kernel_rfl) (by kernel_rfl) (fun _ _ _ h => h) (Or.inl ⟨by rfl, ?_⟩) (by assumption) ?_
     rotate_left
     ·(intro w9 hSw; (try dsimp only at hSw); go_simp; try with_reducible rfl)
     try simp only [Act.put, List.setIfInBounds_toArray, List.set_cons_zero, List.set_cons_succ, List.getElem_toArray, List.getElem_cons_succ, List.getElem_cons_zero]
     refine wpAnyH_take (i := 1) (v := ?_) rfl (by kernel_rfl) (by kernel_rfl) (by kernel_rfl) (fun _ _ _ h => h) (Or.inl ⟨by rfl, ?_⟩) (by assumption) ?_
     rotate_left
     ·(intro w9 hSw; (try dsimp only at hSw); go_simp; try with_reducible rfl)
     try simp only [Act.put, List.setIfInBounds_toArray, List.set_cons_zero, List.set_cons_succ, List.getElem_toArray, List.getElem_cons_succ, List.getElem_cons_zero]
     refine wpAnyH_take (i := 2) (v := ?_) rfl (by kernel_rfl) (by kernel_rfl) (by kernel_rfl) (fun _ _ _ h => h) (Or.inl ⟨by rfl, ?_⟩) (by assumption) ?_
     rotate_left
     ·(intro w9 hSw; (try dsimp only at hSw); go_simp; try with_reducible rfl)
     try simp only [Act.put, List.setIfInBounds_toArray, List.set_cons_zero, List.set_cons_succ, List.getElem_toArray, List.getElem_cons_succ, List.getElem_cons_zero]
     refine wpAnyH_take (i := 3) (v := .agg R0) rfl (by kernel_rfl) (by kernel_rfl) (by kernel_rfl) (fun _ _ _ h => h) (Or.inl ⟨by rfl, ?_⟩) (by assumption) ?_
     ·(intro W hW; exact ex_loadB 23 (.tmp 6) (by kernel_rfl) g6 (by kernel_rfl) 23 R0 _ (K3.out.below' hW) Tryz.underlying23 rfl (by rw [HSZ.out.2.1]; kernel_rfl))
     try simp only [Act.put, List.setIfInBounds_toArray, List.set_cons_zero, List.set_cons_succ, List.getElem_toArray, List.getElem_cons_succ, List.getElem_cons_zero]
     refine wpAnyH_take (i := 4) (v := ?_) rfl (by kernel_rfl) (by kernel_rfl) (by kernel_rfl) (fun _ _ _ h => h) (Or.inl ⟨by rfl, ?_⟩) (by assumption) ?_
     rotate_left
     ·(intro w9 hSw; (try dsimp only at hSw); go_simp; try with_reducible rfl)
     try simp only [Act.put, List.setIfInBounds_toArray, List.set_cons_zero, List.set_cons_succ, List.getElem_toArray, List.getElem_cons_succ, List.getElem_cons_zero]
     refine wpAnyH_take (i := 5) (v := ?_) rfl (by kernel_rfl) (by kernel_rfl) (by kernel_rfl) (fun _ _ _ h => h) (Or.inl ⟨by rfl, ?_⟩) (by assumption) ?_
     rotate_left
     ·(intro w9 hSw; (try dsimp only at hSw); go_simp; try with_reducible rfl)
     try simp only [Act.put, List.setIfInBounds_toArray, List.set_cons_zero, List.set_cons_succ, List.getElem_toArray, List.getElem_cons_succ, List.getElem_cons_zero]
     refine wpAnyH_take (i := 6) (v := .agg SH) rfl (by kernel_rfl) (by kernel_rfl) (by kernel_rfl) (fun _ _ _ h => h) (Or.inl ⟨by rfl, ?_⟩) (by assumption) ?_
     ·(intro W hW; exact ex_loadR 23 (.tmp 42) (by kernel_rfl) w1.heap.size 5 rfl SH _ (HFR.out W (Below.step B23.out hW)).2.1.1 Tryz.underlying23 rfl (by rw [HSZ.out.2.2.2.1]; kernel_rfl))
     try simp only [Act.put, List.setIfInBounds_toArray, List.set_cons_zero, List.set_cons_succ, List.getElem_toArray, List.getElem_cons_succ, List.getElem_cons_zero]
     refine wpAnyH_take (i := 7) (v := .bool false) rfl (by kernel_rfl) (by kernel_rfl) (by kernel_rfl) (fun _ _ _ h => h) (Or.inl ⟨by rfl, ?_⟩) (by assumption) ?_
     ·(intro W hW; exact ex_binA .neq 23 (.tmp 40) (.tmp 43) (by kernel_rfl) (.inr rfl) R0 SH (by kernel_rfl) (by kernel_rfl) (by kernel_rfl) false (HNE6.out W))
     try simp only [Act.put, List.setIfInBounds_toArray, List.set_cons_zero, List.set_cons_succ, List.getElem_toArray, List.getElem_cons_succ, List.getElem_cons_zero]
     refine wpAnyH_take (i := 8) (v := ?_) rfl (by kernel_rfl) (by kernel_rfl) (by kernel_rfl) (fun _ _ _ h => h) (Or.inl ⟨by rfl, ?_⟩) (by assumption) ?_
     rotate_left
     ·(intro w9 hSw; (try dsimp only at hSw); go_simp; try with_reducible rfl)
     try simp only [Act.put, List.setIfInBounds_toArray, List.set_cons_zero, List.set_cons_succ, List.getElem_toArray, List.getElem_cons_succ, List.getElem_cons_zero]
     refine wpAnyH_take (i := 9) (v := ?_) rfl (by kernel_rfl) (by kernel_rfl) (by kernel_rfl) (fun _ _ _ h => h) (Or.inl ⟨by rfl, ?_⟩) (by assumption) ?_
     rotate_left
     ·(intro w9 hSw; (try dsimp only at hSw); go_simp; try with_reducible rfl)
     try simp only [Act.put, List.setIfInBounds_toArray, List.set_cons_zero, List.set_cons_succ, List.getElem_toArray, List.getElem_cons_succ, List.getElem_cons_zero]
     refine wpAnyH_take (i := 10) (v := ?_) rfl (by kernel_rfl) (by kernel_rfl) (by kernel_rfl) (fun _ _ _ h => h) (Or.inl ⟨by rfl, ?_⟩) (by assumption) ?_
     rotate_left
     ·(intro w9 hSw; (try dsimp only at hSw); go_simp; try with_reducible rfl)
     try simp only [Act.put, List.setIfInBounds_toArray, List.set_cons_zero, List.set_cons_succ, List.getElem_toArray, List.getElem_cons_succ, List.getElem_cons_zero]
     refine wpAnyH_take (i := 11) (v := .slice (some ⟨sb, so, none⟩) sn cc) rfl (by kernel_rfl) (by kernel_rfl) (by kernel_rfl) (fun _ _ _ h => h) (Or.inl ⟨by rfl, ?_⟩) (by assumption) ?_
     ·(intro W hW; exact ex_loadC 26 (.tmp 47) (by kernel_rfl) ⟨w1.heap.size, 71, none⟩ (by kernel_rfl) _ _ (HFR.out W (Below.step B23.out hW)).2.2.2.2 Tryz.underlying26 rfl)
     try simp only [Act.put, List.setIfInBounds_toArray, List.set_cons_zero, List.set_cons_succ, List.getElem_toArray, List.getElem_cons_succ, List.getElem_cons_zero]
     refine wpAnyH_take (i := 12) (v := ?_) rfl (by kernel_rfl) (by kernel_rfl) (by kernel_rfl) (fun _ _ _ h => h) (Or.inl ⟨by rfl, ?_⟩) (by assumption) ?_
     rotate_left
     ·(intro w9 hSw; (try dsimp only at hSw); go_simp; try with_reducible rfl)
     try simp only [Act.put, List.setIfInBounds_toArray, List.set_cons_zero, List.set_cons_succ, List.getElem_toArray, List.getElem_cons_succ, List.getElem_cons_zero]
     refine wpAnyH_take (i := 13) (v := .agg Y0) rfl (by kernel_rfl) (by kernel_rfl) (by kernel_rfl) (fun _ _ _ h => h) (Or.inl ⟨by rfl, ?_⟩) (by assumption) ?_
     ·(intro W hW; exact ex_loadR 23 (.tmp 49) (by kernel_rfl) sb so rfl Y0 _ (HW1.out W (Below.step B3.out hW)).2 Tryz.underlying23 rfl (by rw [HSZ.out.2.2.1]; kernel_rfl))
     try simp only [Act.put, List.setIfInBounds_toArray, List.set_cons_zero, List.set_cons_succ, List.getElem_toArray, List.getElem_cons_succ, List.getElem_cons_zero]
     refine wpAnyH_take (i := 14) (v := ?_) rfl (by kernel_rfl) (by kernel_rfl) (by kernel_rfl) (fun _ _ _ h => h) (Or.inl ⟨by rfl, ?_⟩) (by assumption) ?_
     rotate_left
     ·(intro w9 hSw; (try dsimp only at hSw); go_simp; try with_reducible rfl)
     try simp only [Act.put, List.setIfInBounds_toArray, List.set_cons_zero, List.set_cons_succ, List.getElem_toArray, List.getElem_cons_succ, List.getElem_cons_zero]
     refine wpAnyH_take (i := 15) (v := ?_) rfl (by kernel_rfl) (by kernel_rfl) (by kernel_rfl) (fun _ _ _ h => h) (Or.inl ⟨by rfl, ?_⟩) (by assumption) ?_
     rotate_left
     ·(intro w9 hSw; (try dsimp only at hSw); go_simp; try with_reducible rfl)
     try simp only [Act.put, List.setIfInBounds_toArray, List.set_cons_zero, List.set_cons_succ, List.getElem_toArray, List.getElem_cons_succ, List.getElem_cons_zero]
     refine wpAnyH_take (i := 16) (v := .agg SN) rfl (by kernel_rfl) (by kernel_rfl) (by kernel_rfl) (fun _ _ _ h => h) (Or.inl ⟨by rfl, ?_⟩) (by assumption) ?_
     ·(intro W hW; exact ex_loadR 23 (.tmp 52) (by kernel_rfl) w1.heap.size 37 rfl SN _ (HFR.out W (Below.step B23.out hW)).2.1.2 Tryz.underlying23 rfl (by rw [HSZ.out.2.2.2.2]; kernel_rfl))
     try simp only [Act.put, List.setIfInBounds_toArray, List.set_cons_zero, List.set_cons_succ, List.getElem_toArray, List.getElem_cons_succ, List.getElem_cons_zero]
     refine wpAnyH_take (i := 17) (v := .bool false) rfl (by kernel_rfl) (by kernel_rfl) (by kernel_rfl) (fun _ _ _ h => h) (Or.inl ⟨by rfl, ?_⟩) (by assumption) ?_
     ·(intro W hW; exact ex_binA .neq 23 (.tmp 50) (.tmp 53) (by kernel_rfl) (.inr rfl) Y0 SN (by kernel_rfl) (by kernel_rfl) (by kernel_rfl) false (HNE7.out W))
     try simp only [Act.put, List.setIfInBounds_toArray, List.set_cons_zero, List.set_cons_succ, List.getElem_toArray, List.getElem_cons_succ, List.getElem_cons_zero]
     refine wpAnyH_take (i := 18) (v := ?_) rfl (by kernel_rfl) (by kernel_rfl) (by kernel_rfl) (fun _ _ _ h => h) (Or.inl ⟨by rfl, ?_⟩) (by assumption) ?_
     rotate_left
     ·(intro w9 hSw; (try dsimp only at hSw); go_simp; try with_reducible rfl)
     try simp only [Act.put, List.setIfInBounds_toArray, List.set_cons_zero, List.set_cons_succ, List.getElem_toArray, List.getElem_cons_succ, List.getElem_cons_zero]
     refine wpAnyH_done (by kernel_rfl) ?_ _
     refine noPanic_norm ?_
     have HS5 := hide (Below.step B3.out hHeld)
     have HS6 := hide (Below.step B23.out hHeld)
     clear hHeld
     generalize wc.drew = wd at HS5 HS6 ⊢
     clear K3 B3 B23 HNE6 HNE7 K2 hzF QFR QT QC
     obtain ⟨n, hn⟩ : ∃ n, n = LD.length := ⟨_, rfl⟩
     rw [← hn] at HR HV
     have hnS : n = S := by
      have h1 := congrArg List.length HH.out.2.2.1
      rw [List.length_map, ← hn] at h1
      have := HOK.out.2.2.1
      have := HOK.out.2.2.2.2.1
      omega
     have hnb : 1 ≤ n ∧ n ≤ 512 := by
      have := HBD.out.1
      have := HOK.out.2.2.2.2.1
      omega
     have HL2 := hide (show f.bs.length = 2 * wid n - 1 ∧ f.sg.length = 2 * wid n - 1 from by
      have h1 := HOK.out.2.2.2.2.2
      rw [hnS, ← h1.1]
      omega)
     have hnn : n = SG f.u := by have := HOK.out.2.2.2.2.1; omega
     have HN := hide (And.intro hn (And.intro hnb hnn))
     have c72 := (HR.out wd HS5.out).2.2
     have c70 := (HFR.out wd HS6.out).2.2.2.1
     clear hn hnS hnb hnn
     go_wp2_with fail
     clear c72 c70
     refine (leaves_any n _ f.bs wd HN.out.2.1 (by rw [HBN.out.1]; exact HV.out.2.1.below HS5.out) HL2.out.1).mono ?_
     unfold LeavesPost
     rintro e w8 ⟨q8, ⟨hgd, v8, rfl, d8⟩ | ⟨x, -, -, -, -, rfl⟩⟩
     ·have HS8 := hide (Below.step HS5.out q8)
      have HF8 := hide (Below.step HS6.out q8)
      have HGD := hide hgd
      obtain ⟨LF, hLF⟩ : ∃ L, L = (f.bs.drop (wid n - 1)).take n := ⟨_, rfl⟩
      rw [← hLF] at d8
      have hLn : LF.length = n := by
       rw [hLF, List.length_take, List.length_drop]
       have h1 := HL2.out.1
       have h2 := wid_ge HN.out.2.1.2
       omega
      have d8' := d8.ds
      obtain ⟨A8, c8, rfl, hlc8, hca8, hcell8⟩ := d8'.1.form
      rw [hLn] at d8' hlc8 ⊢
      obtain ⟨b8, o8, rfl, hb8, -⟩ := hcell8 (by have := HN.out.2.1; omega)
      have HD8 := hide d8'
      have HLF := hide (And.intro hLF hLn)
      clear hgd d8 d8' hLF hLn hcell8 hlc8 hca8 q8 HS5 HS6
      obtain ⟨Z9, hzl, hZ9⟩ : ∃ Z : Array Value, (#[Value.int .u8 0, .int .u8 0, .int .u8 0, .int .u8 0, .int .u8 0, .int .u8 0, .int .u8 0, .int .u8 0, .int .u8 0, .int .u8 0, .int .u8 0, .int .u8 0, .int .u8 0, .int .u8 0, .int .u8 0, .int .u8 0, .int .u8 0, .int .u8 0, .int .u8 0, .int .u8 0, .int .u8 0, .int .u8 0, .int .u8 0, .int .u8 0, .int .u8 0, .int .u8 0, .int .u8 0, .int .u8 0, .int .u8 0, .int .u8 0, .int .u8 0, .int .u8 0] : Array Value) = Z ∧ Z.size = 32 := ⟨_, rfl, rfl⟩
      have HZ9 := hide hZ9
      clear hZ9 hZD
      go_wp2
      go_loopw [70] (fun u70 wr => ∃ k : Nat, k ≤ n ∧ u70 = .int .i64 (k : Int) ∧ (∀ j, j < k → ∃ d x, LF[j]? = some d ∧ data[j]? = some x ∧ d = tagD 3 x) ∧ Below w8.heap.size w8 wr) (fun u70 _ => n - (intOf u70).toNat)
      case atStart => exact ⟨0, by omega, rfl, fun j hj => by omega, Below.refl _ _⟩
      case round =>
       obtain ⟨k, hk, rfl, hgood, hbel⟩ := hrel
       have HBB := hide hbel
       have HG9 := hide hgood
       clear hgood
       by_cases hlt : k < n
       ·obtain ⟨d, hd⟩ : ∃ d, LF[k]? = some d := ⟨_, List.getElem?_eq_getElem (by have := HLF.out.2; omega)⟩
        obtain ⟨xx, hxx⟩ : ∃ x, LD[k]? = some x := ⟨_, List.getElem?_eq_getElem (by have := HN.out.1; omega)⟩
        obtain ⟨bx, ox, hA2, hr2, hdl, _⟩ := (HD8.out.below hbel).at hd
        injection hA2 with hA2
        injection hA2 with hA2b hA2o _
        subst hA2b hA2o
        obtain ⟨bd, od, XC, xc, rfl, hcx, hbx⟩ := ((HV.out.2.2.2.below HS8.out).below hbel).at_ hxx
        obtain ⟨xb, hxb⟩ : ∃ x, x = xx.2 := ⟨_, rfl⟩
        rw [← hxb] at hcx hbx
        have hdk : data[k]? = some xb := by rw [← HH.out.2.2.1, List.getElem?_map, hxx, hxb]; rfl
        have hxl9 : xb.length ≤ 1099511627000 := by have := okS_len HOK.out.1 hdk; omega
        obtain ⟨CUR, hCUR⟩ : ∃ C, C = (bcells d).toArray := ⟨_, rfl⟩
        obtain ⟨F, hF⟩ : ∃ C, C = (bcells (tagD 3 xb)).toArray := ⟨_, rfl⟩
        have HC := hide (show CUR.size = 32 ∧ CUR.all (·.oneCell') = true from ⟨by rw [hCUR, arrSize]; exact hdl, by rw [hCUR]; exact arrOne _⟩)
        have HRR := hide (show wr.rangeAt b8 (o8 + k * 32) CUR.toList from by rw [hCUR]; exact hr2)
        have hNE : ∀ W, (binOp .neq 23 (.agg CUR) (.agg F)).run Tryz.prog W = .ok (.bool (decide (d ≠ tagD 3 xb))) W := fun W => by rw [hCUR, hF]; exact digNeq _ _ hdl (tagD_length _ _) W
        have HNE := hide hNE
        have hqb := fun W (hW : Below wr.heap.size wr W) => tblock_any XC xc xb W (hbx.below hW) hxl9
        rw [← hF] at hqb
        have hbw : bd < wr.heap.size := World.block_lt_of_cell? _ _ hcx
        have hcx' := fun W (hW : Below wr.heap.size wr W) => And.intro ((hW.cell (p := ⟨bd, od + k, none⟩) hbw).trans hcx) True.intro
        have HDK := hide (And.intro hd hdk)
        obtain ⟨xl, hxl⟩ : ∃ x, x = xb.length := ⟨_, rfl⟩
        rw [← hxl] at hqb hcx'
        have QB := hide hqb
        have HCX := hide hcx'
        have j1 : (k : Int) < (n : Int) := by omega
        have j2 : (0 : Int) ≤ (k : Int) := by omega
        have hk9 : k < 100000 := by have := HN.out.2.1; omega
        clear hd hxx hr2 hdl hcx hbx hxb hdk hxl9 hCUR hF hNE hqb hbw hcx' hxl hbel
        by_cases hq : d = tagD 3 xb
        ·rw [show decide (d ≠ tagD 3 xb) = false from decide_eq_false (fun h => h hq)] at HNE
         have HQ := hide hq
         clear hq
         go_wp2_with (first
          | ((with_reducible change wpList _ _ _ (⟨some 74, _, _, _, _, _⟩ :: _) _ _); go_loud (refine wpList_load_midF (by rfl) 23 _ rfl b8 (o8 + k * 32) rfl CUR _ HRR.out Tryz.underlying23 rfl (by rw [HC.out.1]; kernel_rfl) ?_))
          | ((with_reducible change wpList _ _ _ (⟨none, .store _ (.tmp 11) _, _, _, _, _⟩ :: _) _ _); go_loud (refine wpList_store_row (o := ⟨none, .store _ (.tmp 11) _, _, _, _, _⟩) (Blk.new wr _ _) (CUR) (by rw [HC.out.1, HZ9.out]) (HC.out.2) rfl 23 _ _ rfl (by rw [HC.out.1]; kernel_rfl) rfl rfl ?_; intro w9 hb9 hg9; have q9 : Below wr.heap.size wr w9 := ((Below.refl _ wr).alloc (Nat.le_refl _) _).grown hg9 (by simp) (fun k hk => by cases hk; exact Nat.le_refl _); have H9 := hide (And.intro hb9 (Below.step HBB.out q9)); have Q9 := hide q9; clear hb9 hg9 q9)))
         obtain ⟨g9, hg9⟩ : ∃ g, g = wr.heap.size := ⟨_, rfl⟩
         rw [← hg9] at H9 ⊢
         refine wp_region_noPanic ?_
         refine wp_region_held_drew (S := fun W => Below w9.heap.size w9 W) (by kernel_rfl) (Below.refl _ _).drew (fun hHeld => ?_)
         refine wpAnyH_take (i := 0) (v := .agg CUR) rfl (by kernel_rfl) (by kernel_rfl) (by kernel_rfl) (fun _ _ _ h => h) (Or.inl ⟨by rfl, ?_⟩) (by assumption) ?_
         ·(intro W hW; exact ex_loadB 23 (.tmp 11) (by kernel_rfl) g9 (by kernel_rfl) 23 CUR _ (H9.out.1.below' hW) Tryz.underlying23 rfl (by rw [HC.out.1]; kernel_rfl))
         try simp only [Act.put, List.setIfInBounds_toArray, List.set_cons_zero, List.set_cons_succ, List.getElem_toArray, List.getElem_cons_succ, List.getElem_cons_zero]
         refine wpAnyH_take (i := 1) (v := ?_) rfl (by kernel_rfl) (by kernel_rfl) (by kernel_rfl) (fun _ _ _ h => h) (Or.inl ⟨by rfl, ?_⟩) (by assumption) ?_
         rotate_left
         ·(intro w9 hSw; (try dsimp only at hSw); go_simp; try with_reducible rfl)
         try simp only [Act.put, List.setIfInBounds_toArray, List.set_cons_zero, List.set_cons_succ, List.getElem_toArray, List.getElem_cons_succ, List.getElem_cons_zero]
         refine wpAnyH_take (i := 2) (v := .slice (some ⟨bd, od, none⟩) n cd) rfl (by kernel_rfl) (by kernel_rfl) (by kernel_rfl) (fun _ _ _ h => h) (Or.inl ⟨by rfl, ?_⟩) (by assumption) ?_
         ·(intro W hW; exact ex_loadC 29 (.tmp 76) (by kernel_rfl) ⟨w.heap.size, 72, none⟩ (by kernel_rfl) _ _ (HR.out W (Below.step HS8.out (Below.step H9.out.2 hW))).2.2 Tryz.underlying29 rfl)
         try simp only [Act.put, List.setIfInBounds_toArray, List.set_cons_zero, List.set_cons_succ, List.getElem_toArray, List.getElem_cons_succ, List.getElem_cons_zero]
         refine wpAnyH_take (i := 3) (v := ?_) rfl (by kernel_rfl) (by kernel_rfl) (by kernel_rfl) (fun _ _ _ h => h) (Or.inl ⟨by rfl, ?_⟩) (by assumption) ?_
         rotate_left
         ·(intro w9 hSw; (try dsimp only at hSw); go_simp; try with_reducible rfl)
         try simp only [Act.put, List.setIfInBounds_toArray, List.set_cons_zero, List.set_cons_succ, List.getElem_toArray, List.getElem_cons_succ, List.getElem_cons_zero]
         refine wpAnyH_take (i := 4) (v := ?_) rfl (by kernel_rfl) (by kernel_rfl) (by kernel_rfl) (fun _ _ _ h => h) (Or.inl ⟨by rfl, ?_⟩) (by assumption) ?_
         rotate_left
         ·(intro w9 hSw; (try dsimp only at hSw); go_simp; try with_reducible rfl)
         try simp only [Act.put, List.setIfInBounds_toArray, List.set_cons_zero, List.set_cons_succ, List.getElem_toArray, List.getElem_cons_succ, List.getElem_cons_zero]
         refine wpAnyH_take (i := 5) (v := .slice XC xl xc) rfl (by kernel_rfl) (by kernel_rfl) (by kernel_rfl) (fun _ _ _ h => h) (Or.inl ⟨by rfl, ?_⟩) (by assumption) ?_
         ·(intro W hW; exact ex_loadC 34 (.tmp 79) (by kernel_rfl) ⟨bd, od + k, none⟩ (by kernel_rfl) _ _ (HCX.out W (Below.step Q9.out hW)).1 Tryz.underlying34 rfl)
         try simp only [Act.put, List.setIfInBounds_toArray, List.set_cons_zero, List.set_cons_succ, List.getElem_toArray, List.getElem_cons_succ, List.getElem_cons_zero]
         refine wpAnyH_ready (rs := [6]) (by kernel_rfl) (by simp) ?_
         refine AllReadyH.cons rfl (fun K hK => ?_) AllReadyH.nil
         go_simp
         refine (QB.out _ (Below.step Q9.out hHeld)).mono ?_
         rintro e w10 ⟨rfl, q10⟩
         have HS10 := hide (Below.step hHeld q10)
         clear q10
         refine hK.out _ _ (HS10.out) (fun hHeld => ?_)
         clear hK K
         try simp only [Act.put, List.setIfInBounds_toArray, List.set_cons_zero, List.set_cons_succ, List.getElem_toArray, List.getElem_cons_succ, List.getElem_cons_zero]
         refine wpAnyH_take (i := 7) (v := .bool false) rfl (by kernel_rfl) (by kernel_rfl) (by kernel_rfl) (fun _ _ _ h => h) (Or.inl ⟨by rfl, ?_⟩) (by assumption) ?_
         ·(intro W hW; exact ex_binA .neq 23 (.tmp 75) (.tmp 81) (by kernel_rfl) (.inr rfl) CUR F (by kernel_rfl) (by kernel_rfl) (by kernel_rfl) false (HNE.out W))
         try simp only [Act.put, List.setIfInBounds_toArray, List.set_cons_zero, List.set_cons_succ, List.getElem_toArray, List.getElem_cons_succ, List.getElem_cons_zero]
         refine wpAnyH_done (by kernel_rfl) ?_ _
         refine noPanic_norm ?_
         go_wp2
         go_roundw
         case rel => exact ⟨k + 1, by omega, by go_num, fun j hj => (by
          by_cases hj2 : j < k
          ·exact HG9.out j hj2
          ·obtain rfl : j = k := by omega
           exact ⟨d, xb, HDK.out.1, HDK.out.2, HQ.out⟩), Below.step H9.out.2 HS10.out⟩
         case measure => simp [intOf]; omega
        ·rw [show decide (d ≠ tagD 3 xb) = true from decide_eq_true hq] at HNE
         clear hq
         go_wp2_with (first
          | ((with_reducible change wpList _ _ _ (⟨some 74, _, _, _, _, _⟩ :: _) _ _); go_loud (refine wpList_load_midF (by rfl) 23 _ rfl b8 (o8 + k * 32) rfl CUR _ HRR.out Tryz.underlying23 rfl (by rw [HC.out.1]; kernel_rfl) ?_))
          | ((with_reducible change wpList _ _ _ (⟨none, .store _ (.tmp 11) _, _, _, _, _⟩ :: _) _ _); go_loud (refine wpList_store_row (o := ⟨none, .store _ (.tmp 11) _, _, _, _, _⟩) (Blk.new wr _ _) (CUR) (by rw [HC.out.1, HZ9.out]) (HC.out.2) rfl 23 _ _ rfl (by rw [HC.out.1]; kernel_rfl) rfl rfl ?_; intro w9 hb9 hg9; have q9 : Below wr.heap.size wr w9 := ((Below.refl _ wr).alloc (Nat.le_refl _) _).grown hg9 (by simp) (fun k hk => by cases hk; exact Nat.le_refl _); have H9 := hide (And.intro hb9 (Below.step HBB.out q9)); have Q9 := hide q9; clear hb9 hg9 q9)))
         obtain ⟨g9, hg9⟩ : ∃ g, g = wr.heap.size := ⟨_, rfl⟩
         rw [← hg9] at H9 ⊢
         refine wp_region_noPanic ?_
         refine wp_region_held_drew (S := fun W => Below w9.heap.size w9 W) (by kernel_rfl) (Below.refl _ _).drew (fun hHeld => ?_)
         refine wpAnyH_take (i := 0) (v := .agg CUR) rfl (by kernel_rfl) (by kernel_rfl) (by kernel_rfl) (fun _ _ _ h => h) (Or.inl ⟨by rfl, ?_⟩) (by assumption) ?_
         ·(intro W hW; exact ex_loadB 23 (.tmp 11) (by kernel_rfl) g9 (by kernel_rfl) 23 CUR _ (H9.out.1.below' hW) Tryz.underlying23 rfl (by rw [HC.out.1]; kernel_rfl))
         try simp only [Act.put, List.setIfInBounds_toArray, List.set_cons_zero, List.set_cons_succ, List.getElem_toArray, List.getElem_cons_succ, List.getElem_cons_zero]
         refine wpAnyH_take (i := 1) (v := ?_) rfl (by kernel_rfl) (by kernel_rfl) (by kernel_rfl) (fun _ _ _ h => h) (Or.inl ⟨by rfl, ?_⟩) (by assumption) ?_
         rotate_left
         ·(intro w9 hSw; (try dsimp only at hSw); go_simp; try with_reducible rfl)
         try simp only [Act.put, List.setIfInBounds_toArray, List.set_cons_zero, List.set_cons_succ, List.getElem_toArray, List.getElem_cons_succ, List.getElem_cons_zero]
         refine wpAnyH_take (i := 2) (v := .slice (some ⟨bd, od, none⟩) n cd) rfl (by kernel_rfl) (by kernel_rfl) (by kernel_rfl) (fun _ _ _ h => h) (Or.inl ⟨by rfl, ?_⟩) (by assumption) ?_
         ·(intro W hW; exact ex_loadC 29 (.tmp 76) (by kernel_rfl) ⟨w.heap.size, 72, none⟩ (by kernel_rfl) _ _ (HR.out W (Below.step HS8.out (Below.step H9.out.2 hW))).2.2 Tryz.underlying29 rfl)
         try simp only [Act.put, List.setIfInBounds_toArray, List.set_cons_zero, List.set_cons_succ, List.getElem_toArray, List.getElem_cons_succ, List.getElem_cons_zero]
         refine wpAnyH_take (i := 3) (v := ?_) rfl (by kernel_rfl) (by kernel_rfl) (by kernel_rfl) (fun _ _ _ h => h) (Or.inl ⟨by rfl, ?_⟩) (by assumption) ?_
         rotate_left
         ·(intro w9 hSw; (try dsimp only at hSw); go_simp; try with_reducible rfl)
         try simp only [Act.put, List.setIfInBounds_toArray, List.set_cons_zero, List.set_cons_succ, List.getElem_toArray, List.getElem_cons_succ, List.getElem_cons_zero]
         refine wpAnyH_take (i := 4) (v := ?_) rfl (by kernel_rfl) (by kernel_rfl) (by kernel_rfl) (fun _ _ _ h => h) (Or.inl ⟨by rfl, ?_⟩) (by assumption) ?_
         rotate_left
         ·(intro w9 hSw; (try dsimp only at hSw); go_simp; try with_reducible rfl)
         try simp only [Act.put, List.setIfInBounds_toArray, List.set_cons_zero, List.set_cons_succ, List.getElem_toArray, List.getElem_cons_succ, List.getElem_cons_zero]
         refine wpAnyH_take (i := 5) (v := .slice XC xl xc) rfl (by kernel_rfl) (by kernel_rfl) (by kernel_rfl) (fun _ _ _ h => h) (Or.inl ⟨by rfl, ?_⟩) (by assumption) ?_
         ·(intro W hW; exact ex_loadC 34 (.tmp 79) (by kernel_rfl) ⟨bd, od + k, none⟩ (by kernel_rfl) _ _ (HCX.out W (Below.step Q9.out hW)).1 Tryz.underlying34 rfl)
         try simp only [Act.put, List.setIfInBounds_toArray, List.set_cons_zero, List.set_cons_succ, List.getElem_toArray, List.getElem_cons_succ, List.getElem_cons_zero]
         refine wpAnyH_ready (rs := [6]) (by kernel_rfl) (by simp) ?_
         refine AllReadyH.cons rfl (fun K hK => ?_) AllReadyH.nil
         go_simp
         refine (QB.out _ (Below.step Q9.out hHeld)).mono ?_
         rintro e w10 ⟨rfl, q10⟩
         have HS10 := hide (Below.step hHeld q10)
         clear q10
         refine hK.out _ _ (HS10.out) (fun hHeld => ?_)
         clear hK K
         try simp only [Act.put, List.setIfInBounds_toArray, List.set_cons_zero, List.set_cons_succ, List.getElem_toArray, List.getElem_cons_succ, List.getElem_cons_zero]
         refine wpAnyH_take (i := 7) (v := .bool true) rfl (by kernel_rfl) (by kernel_rfl) (by kernel_rfl) (fun _ _ _ h => h) (Or.inl ⟨by rfl, ?_⟩) (by assumption) ?_
         ·(intro W hW; exact ex_binA .neq 23 (.tmp 75) (.tmp 81) (by kernel_rfl) (.inr rfl) CUR F (by kernel_rfl) (by kernel_rfl) (by kernel_rfl) true (HNE.out W))
         try simp only [Act.put, List.setIfInBounds_toArray, List.set_cons_zero, List.set_cons_succ, List.getElem_toArray, List.getElem_cons_succ, List.getElem_cons_zero]
         refine wpAnyH_done (by kernel_rfl) ?_ _
         refine noPanic_norm ?_
         go_wp2
         go_ret
         first | exact ⟨Below.step HB.out (Below.step HS8.out (Below.step H9.out.2 HS10.out)), false, rfl, fun h => by cases h⟩ | exact ⟨Below.step HB.out (Below.step HS8.out (Below.step H9.out.2 HS10.out)), .inl rfl⟩
       ·obtain rfl : k = n := by omega
        have c72 := (HR.out wr (Below.step HS8.out hbel)).2.2
        have c71 := (HFR.out wr (Below.step HF8.out hbel)).2.2.2.2
        have HW9 := hide hbel
        clear hbel
        go_wp2_with fail
        clear c72 c71
        refine (leaves_any k _ f.sg wr HN.out.2.1 (by rw [HBN.out.2]; exact HV.out.2.2.1.below (Below.step HS8.out HW9.out)) HL2.out.2).mono ?_
        unfold LeavesPost
        rintro e w11 ⟨q11, ⟨hgd2, v11, rfl, -⟩ | ⟨x, -, -, -, -, rfl⟩⟩
        ·have bT := hide q11
         have HGS := hide hgd2
         clear q11 hgd2
         go_wp2
         go_ret
         have hsnd : Snd ⟨f, data⟩ := by
          have hnS := HN.out.2.2
          refine ⟨HH.out.1, HOK.out.1, ⟨x0, HRT.out.2.2.1, ?_⟩, by rw [HRT.out.2.2.2, HQ7.out], ?_, ?_, fun j hj => ?_⟩
          ·show climbL f.num.toNat (tagD 5 x0) f.ch = f.u.sh
           rw [show f.num.toNat = kk from by have := HOK.out.2.2.2.1; omega, ← HRT.out.1, HQ6.out]
          ·show Tr (wid (SG f.u)) f.bs
           rw [← hnS]
           exact Tr.of_good HL2.out.1 HGD.out
          ·show Tr (wid (SG f.u)) f.sg
           rw [← hnS]
           exact Tr.of_good HL2.out.2 HGS.out
          ·obtain ⟨d, x, h1, h2, h3⟩ := HG9.out j (by have h : j < SG f.u := hj; omega)
           refine ⟨d, x, ?_, h2, h3⟩
           show f.bs[wid (SG f.u) - 1 + j]? = some d
           have hj' : j < SG f.u := hj
           rw [HLF.out.1, List.getElem?_take, if_pos (by omega), List.getElem?_drop] at h1
           rw [← hnS]
           exact h1
         first | exact ⟨Below.step HB.out (Below.step HS8.out (Below.step HW9.out bT.out)), true, rfl, fun _ => hsnd⟩ | exact ⟨Below.step HB.out (Below.step HS8.out (Below.step HW9.out bT.out)), .inr hsnd⟩ | exact ⟨Below.step HB.out (Below.step HS8.out (Below.step HW9.out bT.out)), .inr ⟨rfl, hsnd⟩⟩
        ·have bT := hide q11
         clear q11
         go_wp2
         go_ret
         first | exact ⟨Below.step HB.out (Below.step HS8.out (Below.step HW9.out bT.out)), false, rfl, fun h => by cases h⟩ | exact ⟨Below.step HB.out (Below.step HS8.out (Below.step HW9.out bT.out)), .inl rfl⟩
     ·have bT := hide q8
      clear q8
      go_wp2
      go_ret
      first | exact ⟨Below.step HB.out (Below.step HS5.out bT.out), false, rfl, fun h => by cases h⟩ | exact ⟨Below.step HB.out (Below.step HS5.out bT.out), .inl rfl⟩
    ·rw [show decide (y0 ≠ f.u.sg) = true from decide_eq_true hq7] at HNE7
     clear hq7
     go_wp2_with fail
     refine wp_region_noPanic ?_
     refine wp_region_held_drew (S := fun W => Below wc.heap.size wc W) (by kernel_rfl) (Below.refl _ _).drew (fun hHeld => ?_)
     refine wpAnyH_take (i := 0) (v := ?_) rfl (by kernel_rfl) (by kernel_rfl) (by kernel_rfl) (fun _ _ _ h => h) (Or.inl ⟨by rfl, ?_⟩) (by assumption) ?_
     rotate_left
     ·(intro w9 hSw; (try dsimp only at hSw); go_simp; try with_reducible rfl)
     try simp only [Act.put, List.setIfInBounds_toArray, List.set_cons_zero, List.set_cons_succ, List.getElem_toArray, List.getElem_cons_succ, List.getElem_cons_zero]
     refine wpAnyH_take (i := 1) (v := ?_) rfl (by kernel_rfl) (by kernel_rfl) (by kernel_rfl) (fun _ _ _ h => h) (Or.inl ⟨by rfl, ?_⟩) (by assumption) ?_
     rotate_left
     ·(intro w9 hSw; (try dsimp only at hSw); go_simp; try with_reducible rfl)
     try simp only [Act.put, List.setIfInBounds_toArray, List.set_cons_zero, List.set_cons_succ, List.getElem_toArray, List.getElem_cons_succ, List.getElem_cons_zero]
     refine wpAnyH_take (i := 2) (v := ?_) rfl (by kernel_rfl) (by kernel_rfl) (by kernel_rfl) (fun _ _ _ h => h) (Or.inl ⟨by rfl, ?_⟩) (by assumption) ?_
     rotate_left
     ·(intro w9 hSw; (try dsimp only at hSw); go_simp; try with_reducible rfl)
     try simp only [Act.put, List.setIfInBounds_toArray, List.set_cons_zero, List.set_cons_succ, List.getElem_toArray, List.getElem_cons_succ, List.getElem_cons_zero]
     refine wpAnyH_take (i := 3) (v := .agg R0) rfl (by kernel_rfl) (by kernel_rfl) (by kernel_rfl) (fun _ _ _ h => h) (Or.inl ⟨by rfl, ?_⟩) (by assumption) ?_
     ·(intro W hW; exact ex_loadB 23 (.tmp 6) (by kernel_rfl) g6 (by kernel_rfl) 23 R0 _ (K3.out.below' hW) Tryz.underlying23 rfl (by rw [HSZ.out.2.1]; kernel_rfl))
     try simp only [Act.put, List.setIfInBounds_toArray, List.set_cons_zero, List.set_cons_succ, List.getElem_toArray, List.getElem_cons_succ, List.getElem_cons_zero]
     refine wpAnyH_take (i := 4) (v := ?_) rfl (by kernel_rfl) (by kernel_rfl) (by kernel_rfl) (fun _ _ _ h => h) (Or.inl ⟨by rfl, ?_⟩) (by assumption) ?_
     rotate_left
     ·(intro w9 hSw; (try dsimp only at hSw); go_simp; try with_reducible rfl)
     try simp only [Act.put, List.setIfInBounds_toArray, List.set_cons_zero, List.set_cons_succ, List.getElem_toArray, List.getElem_cons_succ, List.getElem_cons_zero]
     refine wpAnyH_take (i := 5) (v := ?_) rfl (by kernel_rfl) (by kernel_rfl) (by kernel_rfl) (fun _ _ _ h => h) (Or.inl ⟨by rfl, ?_⟩) (by assumption) ?_
     rotate_left
     ·(intro w9 hSw; (try dsimp only at hSw); go_simp; try with_reducible rfl)
     try simp only [Act.put, List.setIfInBounds_toArray, List.set_cons_zero, List.set_cons_succ, List.getElem_toArray, List.getElem_cons_succ, List.getElem_cons_zero]
     refine wpAnyH_take (i := 6) (v := .agg SH) rfl (by kernel_rfl) (by kernel_rfl) (by kernel_rfl) (fun _ _ _ h => h) (Or.inl ⟨by rfl, ?_⟩) (by assumption) ?_
     ·(intro W hW; exact ex_loadR 23 (.tmp 42) (by kernel_rfl) w1.heap.size 5 rfl SH _ (HFR.out W (Below.step B23.out hW)).2.1.1 Tryz.underlying23 rfl (by rw [HSZ.out.2.2.2.1]; kernel_rfl))
     try simp only [Act.put, List.setIfInBounds_toArray, List.set_cons_zero, List.set_cons_succ, List.getElem_toArray, List.getElem_cons_succ, List.getElem_cons_zero]
     refine wpAnyH_take (i := 7) (v := .bool false) rfl (by kernel_rfl) (by kernel_rfl) (by kernel_rfl) (fun _ _ _ h => h) (Or.inl ⟨by rfl, ?_⟩) (by assumption) ?_
     ·(intro W hW; exact ex_binA .neq 23 (.tmp 40) (.tmp 43) (by kernel_rfl) (.inr rfl) R0 SH (by kernel_rfl) (by kernel_rfl) (by kernel_rfl) false (HNE6.out W))
     try simp only [Act.put, List.setIfInBounds_toArray, List.set_cons_zero, List.set_cons_succ, List.getElem_toArray, List.getElem_cons_succ, List.getElem_cons_zero]
     refine wpAnyH_take (i := 8) (v := ?_) rfl (by kernel_rfl) (by kernel_rfl) (by kernel_rfl) (fun _ _ _ h => h) (Or.inl ⟨by rfl, ?_⟩) (by assumption) ?_
     rotate_left
     ·(intro w9 hSw; (try dsimp only at hSw); go_simp; try with_reducible rfl)
     try simp only [Act.put, List.setIfInBounds_toArray, List.set_cons_zero, List.set_cons_succ, List.getElem_toArray, List.getElem_cons_succ, List.getElem_cons_zero]
     refine wpAnyH_take (i := 9) (v := ?_) rfl (by kernel_rfl) (by kernel_rfl) (by kernel_rfl) (fun _ _ _ h => h) (Or.inl ⟨by rfl, ?_⟩) (by assumption) ?_
     rotate_left
     ·(intro w9 hSw; (try dsimp only at hSw); go_simp; try with_reducible rfl)
     try simp only [Act.put, List.setIfInBounds_toArray, List.set_cons_zero, List.set_cons_succ, List.getElem_toArray, List.getElem_cons_succ, List.getElem_cons_zero]
     refine wpAnyH_take (i := 10) (v := ?_) rfl (by kernel_rfl) (by kernel_rfl) (by kernel_rfl) (fun _ _ _ h => h) (Or.inl ⟨by rfl, ?_⟩) (by assumption) ?_
     rotate_left
     ·(intro w9 hSw; (try dsimp only at hSw); go_simp; try with_reducible rfl)
     try simp only [Act.put, List.setIfInBounds_toArray, List.set_cons_zero, List.set_cons_succ, List.getElem_toArray, List.getElem_cons_succ, List.getElem_cons_zero]
     refine wpAnyH_take (i := 11) (v := .slice (some ⟨sb, so, none⟩) sn cc) rfl (by kernel_rfl) (by kernel_rfl) (by kernel_rfl) (fun _ _ _ h => h) (Or.inl ⟨by rfl, ?_⟩) (by assumption) ?_
     ·(intro W hW; exact ex_loadC 26 (.tmp 47) (by kernel_rfl) ⟨w1.heap.size, 71, none⟩ (by kernel_rfl) _ _ (HFR.out W (Below.step B23.out hW)).2.2.2.2 Tryz.underlying26 rfl)
     try simp only [Act.put, List.setIfInBounds_toArray, List.set_cons_zero, List.set_cons_succ, List.getElem_toArray, List.getElem_cons_succ, List.getElem_cons_zero]
     refine wpAnyH_take (i := 12) (v := ?_) rfl (by kernel_rfl) (by kernel_rfl) (by kernel_rfl) (fun _ _ _ h => h) (Or.inl ⟨by rfl, ?_⟩) (by assumption) ?_
     rotate_left
     ·(intro w9 hSw; (try dsimp only at hSw); go_simp; try with_reducible rfl)
     try simp only [Act.put, List.setIfInBounds_toArray, List.set_cons_zero, List.set_cons_succ, List.getElem_toArray, List.getElem_cons_succ, List.getElem_cons_zero]
     refine wpAnyH_take (i := 13) (v := .agg Y0) rfl (by kernel_rfl) (by kernel_rfl) (by kernel_rfl) (fun _ _ _ h => h) (Or.inl ⟨by rfl, ?_⟩) (by assumption) ?_
     ·(intro W hW; exact ex_loadR 23 (.tmp 49) (by kernel_rfl) sb so rfl Y0 _ (HW1.out W (Below.step B3.out hW)).2 Tryz.underlying23 rfl (by rw [HSZ.out.2.2.1]; kernel_rfl))
     try simp only [Act.put, List.setIfInBounds_toArray, List.set_cons_zero, List.set_cons_succ, List.getElem_toArray, List.getElem_cons_succ, List.getElem_cons_zero]
     refine wpAnyH_take (i := 14) (v := ?_) rfl (by kernel_rfl) (by kernel_rfl) (by kernel_rfl) (fun _ _ _ h => h) (Or.inl ⟨by rfl, ?_⟩) (by assumption) ?_
     rotate_left
     ·(intro w9 hSw; (try dsimp only at hSw); go_simp; try with_reducible rfl)
     try simp only [Act.put, List.setIfInBounds_toArray, List.set_cons_zero, List.set_cons_succ, List.getElem_toArray, List.getElem_cons_succ, List.getElem_cons_zero]
     refine wpAnyH_take (i := 15) (v := ?_) rfl (by kernel_rfl) (by kernel_rfl) (by kernel_rfl) (fun _ _ _ h => h) (Or.inl ⟨by rfl, ?_⟩) (by assumption) ?_
     rotate_left
     ·(intro w9 hSw; (try dsimp only at hSw); go_simp; try with_reducible rfl)
     try simp only [Act.put, List.setIfInBounds_toArray, List.set_cons_zero, List.set_cons_succ, List.getElem_toArray, List.getElem_cons_succ, List.getElem_cons_zero]
     refine wpAnyH_take (i := 16) (v := .agg SN) rfl (by kernel_rfl) (by kernel_rfl) (by kernel_rfl) (fun _ _ _ h => h) (Or.inl ⟨by rfl, ?_⟩) (by assumption) ?_
     ·(intro W hW; exact ex_loadR 23 (.tmp 52) (by kernel_rfl) w1.heap.size 37 rfl SN _ (HFR.out W (Below.step B23.out hW)).2.1.2 Tryz.underlying23 rfl (by rw [HSZ.out.2.2.2.2]; kernel_rfl))
     try simp only [Act.put, List.setIfInBounds_toArray, List.set_cons_zero, List.set_cons_succ, List.getElem_toArray, List.getElem_cons_succ, List.getElem_cons_zero]
     refine wpAnyH_take (i := 17) (v := .bool true) rfl (by kernel_rfl) (by kernel_rfl) (by kernel_rfl) (fun _ _ _ h => h) (Or.inl ⟨by rfl, ?_⟩) (by assumption) ?_
     ·(intro W hW; exact ex_binA .neq 23 (.tmp 50) (.tmp 53) (by kernel_rfl) (.inr rfl) Y0 SN (by kernel_rfl) (by kernel_rfl) (by kernel_rfl) true (HNE7.out W))
     try simp only [Act.put, List.setIfInBounds_toArray, List.set_cons_zero, List.set_cons_succ, List.getElem_toArray, List.getElem_cons_succ, List.getElem_cons_zero]
     refine wpAnyH_take (i := 18) (v := ?_) rfl (by kernel_rfl) (by kernel_rfl) (by kernel_rfl) (fun _ _ _ h => h) (Or.inl ⟨by rfl, ?_⟩) (by assumption) ?_
     rotate_left
     ·(intro w9 hSw; (try dsimp only at hSw); go_simp; try with_reducible rfl)
     try simp only [Act.put, List.setIfInBounds_toArray, List.set_cons_zero, List.set_cons_succ, List.getElem_toArray, List.getElem_cons_succ, List.getElem_cons_zero]
     refine wpAnyH_done (by kernel_rfl) ?_ _
     refine noPanic_norm ?_
     have HS5 := hide (Below.step B3.out hHeld)
     go_wp2
     go_ret
     first | exact ⟨Below.step HB.out HS5.out, false, rfl, fun h => by cases h⟩ | exact ⟨Below.step HB.out HS5.out, .inl rfl⟩
   ·rw [show decide (rt ≠ f.u.sh) = true from decide_eq_true hq6] at HNE6
    clear hq6
    go_wp2_with fail
    refine wp_region_noPanic ?_
    refine wp_region_held_drew (S := fun W => Below wc.heap.size wc W) (by kernel_rfl) (Below.refl _ _).drew (fun hHeld => ?_)
    refine wpAnyH_take (i := 0) (v := ?_) rfl (by kernel_rfl) (by kernel_rfl) (by kernel_rfl) (fun _ _ _ h => h) (Or.inl ⟨by rfl, ?_⟩) (by assumption) ?_
    rotate_left
    ·(intro w9 hSw; (try dsimp only at hSw); go_simp; try with_reducible rfl)
    try simp only [Act.put, List.setIfInBounds_toArray, List.set_cons_zero, List.set_cons_succ, List.getElem_toArray, List.getElem_cons_succ, List.getElem_cons_zero]
    refine wpAnyH_take (i := 1) (v := ?_) rfl (by kernel_rfl) (by kernel_rfl) (by kernel_rfl) (fun _ _ _ h => h) (Or.inl ⟨by rfl, ?_⟩) (by assumption) ?_
    rotate_left
    ·(intro w9 hSw; (try dsimp only at hSw); go_simp; try with_reducible rfl)
    try simp only [Act.put, List.setIfInBounds_toArray, List.set_cons_zero, List.set_cons_succ, List.getElem_toArray, List.getElem_cons_succ, List.getElem_cons_zero]
    refine wpAnyH_take (i := 2) (v := ?_) rfl (by kernel_rfl) (by kernel_rfl) (by kernel_rfl) (fun _ _ _ h => h) (Or.inl ⟨by rfl, ?_⟩) (by assumption) ?_
    rotate_left
    ·(intro w9 hSw; (try dsimp only at hSw); go_simp; try with_reducible rfl)
    try simp only [Act.put, List.setIfInBounds_toArray, List.set_cons_zero, List.set_cons_succ, List.getElem_toArray, List.getElem_cons_succ, List.getElem_cons_zero]
    refine wpAnyH_take (i := 3) (v := .agg R0) rfl (by kernel_rfl) (by kernel_rfl) (by kernel_rfl) (fun _ _ _ h => h) (Or.inl ⟨by rfl, ?_⟩) (by assumption) ?_
    ·(intro W hW; exact ex_loadB 23 (.tmp 6) (by kernel_rfl) g6 (by kernel_rfl) 23 R0 _ (K3.out.below' hW) Tryz.underlying23 rfl (by rw [HSZ.out.2.1]; kernel_rfl))
    try simp only [Act.put, List.setIfInBounds_toArray, List.set_cons_zero, List.set_cons_succ, List.getElem_toArray, List.getElem_cons_succ, List.getElem_cons_zero]
    refine wpAnyH_take (i := 4) (v := ?_) rfl (by kernel_rfl) (by kernel_rfl) (by kernel_rfl) (fun _ _ _ h => h) (Or.inl ⟨by rfl, ?_⟩) (by assumption) ?_
    rotate_left
    ·(intro w9 hSw; (try dsimp only at hSw); go_simp; try with_reducible rfl)
    try simp only [Act.put, List.setIfInBounds_toArray, List.set_cons_zero, List.set_cons_succ, List.getElem_toArray, List.getElem_cons_succ, List.getElem_cons_zero]
    refine wpAnyH_take (i := 5) (v := ?_) rfl (by kernel_rfl) (by kernel_rfl) (by kernel_rfl) (fun _ _ _ h => h) (Or.inl ⟨by rfl, ?_⟩) (by assumption) ?_
    rotate_left
    ·(intro w9 hSw; (try dsimp only at hSw); go_simp; try with_reducible rfl)
    try simp only [Act.put, List.setIfInBounds_toArray, List.set_cons_zero, List.set_cons_succ, List.getElem_toArray, List.getElem_cons_succ, List.getElem_cons_zero]
    refine wpAnyH_take (i := 6) (v := .agg SH) rfl (by kernel_rfl) (by kernel_rfl) (by kernel_rfl) (fun _ _ _ h => h) (Or.inl ⟨by rfl, ?_⟩) (by assumption) ?_
    ·(intro W hW; exact ex_loadR 23 (.tmp 42) (by kernel_rfl) w1.heap.size 5 rfl SH _ (HFR.out W (Below.step B23.out hW)).2.1.1 Tryz.underlying23 rfl (by rw [HSZ.out.2.2.2.1]; kernel_rfl))
    try simp only [Act.put, List.setIfInBounds_toArray, List.set_cons_zero, List.set_cons_succ, List.getElem_toArray, List.getElem_cons_succ, List.getElem_cons_zero]
    refine wpAnyH_take (i := 7) (v := .bool true) rfl (by kernel_rfl) (by kernel_rfl) (by kernel_rfl) (fun _ _ _ h => h) (Or.inl ⟨by rfl, ?_⟩) (by assumption) ?_
    ·(intro W hW; exact ex_binA .neq 23 (.tmp 40) (.tmp 43) (by kernel_rfl) (.inr rfl) R0 SH (by kernel_rfl) (by kernel_rfl) (by kernel_rfl) true (HNE6.out W))
    try simp only [Act.put, List.setIfInBounds_toArray, List.set_cons_zero, List.set_cons_succ, List.getElem_toArray, List.getElem_cons_succ, List.getElem_cons_zero]
    refine wpAnyH_take (i := 8) (v := ?_) rfl (by kernel_rfl) (by kernel_rfl) (by kernel_rfl) (fun _ _ _ h => h) (Or.inl ⟨by rfl, ?_⟩) (by assumption) ?_
    rotate_left
    ·(intro w9 hSw; (try dsimp only at hSw); go_simp; try with_reducible rfl)
    try simp only [Act.put, List.setIfInBounds_toArray, List.set_cons_zero, List.set_cons_succ, List.getElem_toArray, List.getElem_cons_succ, List.getElem_cons_zero]
    refine wpAnyH_take (i := 9) (v := ?_) rfl (by kernel_rfl) (by kernel_rfl) (by kernel_rfl) (fun _ _ _ h => h) (Or.inl ⟨by rfl, ?_⟩) (by assumption) ?_
    rotate_left
    ·(intro w9 hSw; (try dsimp only at hSw); go_simp; try with_reducible rfl)
    try simp only [Act.put, List.setIfInBounds_toArray, List.set_cons_zero, List.set_cons_succ, List.getElem_toArray, List.getElem_cons_succ, List.getElem_cons_zero]
    refine wpAnyH_take (i := 10) (v := undef) rfl (by kernel_rfl) (by kernel_rfl) (by kernel_rfl) (fun _ _ _ h => h) (Or.inr ⟨by rfl, rfl⟩) (by assumption) ?_
    try simp only [Act.put, List.setIfInBounds_toArray, List.set_cons_zero, List.set_cons_succ, List.getElem_toArray, List.getElem_cons_succ, List.getElem_cons_zero]
    refine wpAnyH_take (i := 11) (v := undef) rfl (by kernel_rfl) (by kernel_rfl) (by kernel_rfl) (fun _ _ _ h => h) (Or.inr ⟨by rfl, rfl⟩) (by assumption) ?_
    try simp only [Act.put, List.setIfInBounds_toArray, List.set_cons_zero, List.set_cons_succ, List.getElem_toArray, List.getElem_cons_succ, List.getElem_cons_zero]
    refine wpAnyH_take (i := 12) (v := undef) rfl (by kernel_rfl) (by kernel_rfl) (by kernel_rfl) (fun _ _ _ h => h) (Or.inr ⟨by rfl, rfl⟩) (by assumption) ?_
    try simp only [Act.put, List.setIfInBounds_toArray, List.set_cons_zero, List.set_cons_succ, List.getElem_toArray, List.getElem_cons_succ, List.getElem_cons_zero]
    refine wpAnyH_take (i := 13) (v := undef) rfl (by kernel_rfl) (by kernel_rfl) (by kernel_rfl) (fun _ _ _ h => h) (Or.inr ⟨by rfl, rfl⟩) (by assumption) ?_
    try simp only [Act.put, List.setIfInBounds_toArray, List.set_cons_zero, List.set_cons_succ, List.getElem_toArray, List.getElem_cons_succ, List.getElem_cons_zero]
    refine wpAnyH_take (i := 14) (v := undef) rfl (by kernel_rfl) (by kernel_rfl) (by kernel_rfl) (fun _ _ _ h => h) (Or.inr ⟨by rfl, rfl⟩) (by assumption) ?_
    try simp only [Act.put, List.setIfInBounds_toArray, List.set_cons_zero, List.set_cons_succ, List.getElem_toArray, List.getElem_cons_succ, List.getElem_cons_zero]
    refine wpAnyH_take (i := 15) (v := undef) rfl (by kernel_rfl) (by kernel_rfl) (by kernel_rfl) (fun _ _ _ h => h) (Or.inr ⟨by rfl, rfl⟩) (by assumption) ?_
    try simp only [Act.put, List.setIfInBounds_toArray, List.set_cons_zero, List.set_cons_succ, List.getElem_toArray, List.getElem_cons_succ, List.getElem_cons_zero]
    refine wpAnyH_take (i := 16) (v := undef) rfl (by kernel_rfl) (by kernel_rfl) (by kernel_rfl) (fun _ _ _ h => h) (Or.inr ⟨by rfl, rfl⟩) (by assumption) ?_
    try simp only [Act.put, List.setIfInBounds_toArray, List.set_cons_zero, List.set_cons_succ, List.getElem_toArray, List.getElem_cons_succ, List.getElem_cons_zero]
    refine wpAnyH_take (i := 17) (v := undef) rfl (by kernel_rfl) (by kernel_rfl) (by kernel_rfl) (fun _ _ _ h => h) (Or.inr ⟨by rfl, rfl⟩) (by assumption) ?_
    try simp only [Act.put, List.setIfInBounds_toArray, List.set_cons_zero, List.set_cons_succ, List.getElem_toArray, List.getElem_cons_succ, List.getElem_cons_zero]
    refine wpAnyH_take (i := 18) (v := ?_) rfl (by kernel_rfl) (by kernel_rfl) (by kernel_rfl) (fun _ _ _ h => h) (Or.inl ⟨by rfl, ?_⟩) (by assumption) ?_
    rotate_left
    ·(intro w9 hSw; (try dsimp only at hSw); go_simp; try with_reducible rfl)
    try simp only [Act.put, List.setIfInBounds_toArray, List.set_cons_zero, List.set_cons_succ, List.getElem_toArray, List.getElem_cons_succ, List.getElem_cons_zero]
    refine wpAnyH_done (by kernel_rfl) ?_ _
    refine noPanic_norm ?_
    have HS5 := hide (Below.step B3.out hHeld)
    go_wp2
    go_ret
    first | exact ⟨Below.step HB.out HS5.out, false, rfl, fun h => by cases h⟩ | exact ⟨Below.step HB.out HS5.out, .inl rfl⟩
 ·have B1 := hide b1
  clear b1 hno Q1
  go_wp2
  go_ret
  first | exact ⟨Below.step HB.out B1.out, false, rfl, fun h => by cases h⟩ | exact ⟨Below.step HB.out B1.out, .inl rfl⟩
end Go.Proofs.YtdohebhbiokljaaGreatDoor
namespace Go.Proofs.YtdohebhbiokljaaGreatDoor
open Go.RowKit
set_option maxRecDepth 100000 in
set_option maxHeartbeats 4000000 in
theorem dsame_all (va vb : Value) (L M : List (List UInt8)) (w : World) (ha : Ds w va L) (hb : Ds w vb M) :
  Calls Tryz.prog 53 #[va, vb] w fun e w' => e = .returned (.bool (decide (L = M))) ∧ Below w.heap.size w w' := by
 obtain ⟨A, c, rfl, _, hca, _⟩ := ha.1.form
 obtain ⟨B, d, rfl, _, hcb, _⟩ := hb.1.form
 by_cases hlen : L.length = M.length
 case neg =>
  have i1 : ((L.length : Int) != (M.length : Int)) = true := by simp; omega
  have hne : decide (L = M) = false := decide_eq_false (fun h => hlen (by rw [h]))
  rw [hne]
  have i2 : ¬ (L.length : Int) = (M.length : Int) := by omega
  clear ha hb hca hcb hne hlen
  generalize L.length = nl at *
  generalize M.length = nm at *
  go_enter Tryz.func53, Tryz.ntmps53
  go_wp2
  go_ret
  exact ⟨rfl, Below.refl _ _⟩
 case pos =>
  have H := hide (And.intro ha hb)
  have hL : L.length ≤ 9223372036854775807 := by unfold maxLen at hca; omega
  rw [← hlen] at H ⊢
  have HLEN := hide hlen
  clear ha hb hca hcb hlen
  go_enter Tryz.func53, Tryz.ntmps53
  go_wp2_with fail
  go_loopw [5] (fun u5 wr => ∃ k : Nat, k ≤ L.length ∧ u5 = .int .i64 (k : Int) ∧ L.take k = M.take k ∧ Below w.heap.size w wr) (fun u5 _ => L.length - (intOf u5).toNat)
  case atStart => exact ⟨0, by omega, rfl, rfl, Below.refl _ _⟩
  case round =>
   obtain ⟨k, hk, rfl, htk, hbel⟩ := hrel
   by_cases hlt : k < L.length
   ·obtain ⟨x, hx⟩ : ∃ d, L[k]? = some d := ⟨_, List.getElem?_eq_getElem hlt⟩
    obtain ⟨y, hy⟩ : ∃ d, M[k]? = some d := ⟨_, List.getElem?_eq_getElem (by have := HLEN.out; omega)⟩
    obtain ⟨b1, o1, rfl, hr1, hx32, _⟩ := (H.out.1.below hbel).at hx
    obtain ⟨b2, o2, rfl, hr2, hy32, _⟩ := (H.out.2.below hbel).at hy
    obtain ⟨F, hF, hF1, hF2, hF3⟩ := digC_cells hx32
    obtain ⟨G, hG, hG1, hG2, hG3⟩ := digC_cells hy32
    rw [← hF3] at hr1
    rw [← hG3] at hr2
    have HR := hide (And.intro hr1 hr2)
    have HF := hide (And.intro hF1 hG1)
    have HBB := hide hbel
    have HTK := hide htk
    have j1 : (k : Int) < (L.length : Int) := by omega
    have j2 : (0 : Int) ≤ (k : Int) := by omega
    have HXY := hide (And.intro hx hy)
    have HNE := hide (show ∀ W, (binOp .neq 23 (.agg F) (.agg G)).run Tryz.prog W = .ok (.bool (decide (x ≠ y))) W from fun W => by rw [hF, hG]; exact digNeq x y hx32 hy32 W)
    clear hF hF1 hF2 hF3 hG hG1 hG2 hG3 hr1 hr2 hx32 hy32 htk hx hy hbel
    by_cases hxy : x = y
    ·have hb0 : decide (x ≠ y) = false := decide_eq_false (fun h => h hxy)
     rw [hb0] at HNE
     have HTK2 := hide (show L.take (k + 1) = M.take (k + 1) from by rw [List.take_add_one, List.take_add_one, HTK.out, HXY.out.1, HXY.out.2, hxy])
     clear hb0 hxy HXY HTK
     go_wp2_with fail
     refine wp_region_noPanic ?_
     refine wp_region_held_drew (S := fun W => W.rangeAt b1 (o1 + k * 32) F.toList ∧ W.rangeAt b2 (o2 + k * 32) G.toList) (by kernel_rfl) ⟨HR.out.1, HR.out.2⟩ (fun hHeld => ?_)
     refine wpAnyH_take (i := 0) (v := ?_) rfl (by kernel_rfl) (by kernel_rfl) (by kernel_rfl) (fun _ _ _ h => h) (Or.inl ⟨by rfl, ?_⟩) (by assumption) ?_
     rotate_left
     ·(intro w9 hSw; (try dsimp only at hSw); go_simp; try with_reducible rfl)
     try simp only [Act.put, List.setIfInBounds_toArray, List.set_cons_zero, List.set_cons_succ, List.getElem_toArray, List.getElem_cons_succ, List.getElem_cons_zero]
     refine wpAnyH_take (i := 1) (v := ?_) rfl (by kernel_rfl) (by kernel_rfl) (by kernel_rfl) (fun _ _ _ h => h) (Or.inl ⟨by rfl, ?_⟩) (by assumption) ?_
     rotate_left
     ·(intro w9 hSw; (try dsimp only at hSw); go_simp; try with_reducible rfl)
     try simp only [Act.put, List.setIfInBounds_toArray, List.set_cons_zero, List.set_cons_succ, List.getElem_toArray, List.getElem_cons_succ, List.getElem_cons_zero]
     refine wpAnyH_take (i := 2) (v := ?_) rfl (by kernel_rfl) (by kernel_rfl) (by kernel_rfl) (fun _ _ _ h => h) (Or.inl ⟨by rfl, ?_⟩) (by assumption) ?_
     rotate_left
     ·(intro w9 hSw; (try dsimp only at hSw); go_simp; try with_reducible rfl)
     try simp only [Act.put, List.setIfInBounds_toArray, List.set_cons_zero, List.set_cons_succ, List.getElem_toArray, List.getElem_cons_succ, List.getElem_cons_zero]
     refine wpAnyH_take (i := 3) (v := .agg F) rfl (by kernel_rfl) (by kernel_rfl) (by kernel_rfl) (fun _ _ _ h => h) (Or.inl ⟨by rfl, ?_⟩) (by assumption) ?_
     ·(intro W hW; exact ex_loadR 23 (.tmp 19) (by kernel_rfl) b1 (o1 + k * 32) rfl F _ hW.1 Tryz.underlying23 rfl (by rw [HF.out.1]; kernel_rfl))
     try simp only [Act.put, List.setIfInBounds_toArray, List.set_cons_zero, List.set_cons_succ, List.getElem_toArray, List.getElem_cons_succ, List.getElem_cons_zero]
     refine wpAnyH_take (i := 4) (v := ?_) rfl (by kernel_rfl) (by kernel_rfl) (by kernel_rfl) (fun _ _ _ h => h) (Or.inl ⟨by rfl, ?_⟩) (by assumption) ?_
     rotate_left
     ·(intro w9 hSw; (try dsimp only at hSw); go_simp; try with_reducible rfl)
     try simp only [Act.put, List.setIfInBounds_toArray, List.set_cons_zero, List.set_cons_succ, List.getElem_toArray, List.getElem_cons_succ, List.getElem_cons_zero]
     refine wpAnyH_take (i := 5) (v := ?_) rfl (by kernel_rfl) (by kernel_rfl) (by kernel_rfl) (fun _ _ _ h => h) (Or.inl ⟨by rfl, ?_⟩) (by assumption) ?_
     rotate_left
     ·(intro w9 hSw; (try dsimp only at hSw); go_simp; try with_reducible rfl)
     try simp only [Act.put, List.setIfInBounds_toArray, List.set_cons_zero, List.set_cons_succ, List.getElem_toArray, List.getElem_cons_succ, List.getElem_cons_zero]
     refine wpAnyH_take (i := 6) (v := ?_) rfl (by kernel_rfl) (by kernel_rfl) (by kernel_rfl) (fun _ _ _ h => h) (Or.inl ⟨by rfl, ?_⟩) (by assumption) ?_
     rotate_left
     ·(intro w9 hSw; (try dsimp only at hSw); go_simp; try with_reducible rfl)
     try simp only [Act.put, List.setIfInBounds_toArray, List.set_cons_zero, List.set_cons_succ, List.getElem_toArray, List.getElem_cons_succ, List.getElem_cons_zero]
     refine wpAnyH_take (i := 7) (v := .agg G) rfl (by kernel_rfl) (by kernel_rfl) (by kernel_rfl) (fun _ _ _ h => h) (Or.inl ⟨by rfl, ?_⟩) (by assumption) ?_
     ·(intro W hW; exact ex_loadR 23 (.tmp 23) (by kernel_rfl) b2 (o2 + k * 32) rfl G _ hW.2 Tryz.underlying23 rfl (by rw [HF.out.2]; kernel_rfl))
     try simp only [Act.put, List.setIfInBounds_toArray, List.set_cons_zero, List.set_cons_succ, List.getElem_toArray, List.getElem_cons_succ, List.getElem_cons_zero]
     refine wpAnyH_take (i := 8) (v := .bool false) rfl (by kernel_rfl) (by kernel_rfl) (by kernel_rfl) (fun _ _ _ h => h) (Or.inl ⟨by rfl, ?_⟩) (by assumption) ?_
     ·(intro W hW; exact ex_binA .neq 23 (.tmp 20) (.tmp 24) (by kernel_rfl) (.inr rfl) F G (by kernel_rfl) (by kernel_rfl) (by kernel_rfl) false (HNE.out W))
     try simp only [Act.put, List.setIfInBounds_toArray, List.set_cons_zero, List.set_cons_succ, List.getElem_toArray, List.getElem_cons_succ, List.getElem_cons_zero]
     refine wpAnyH_done (by kernel_rfl) ?_ _
     refine noPanic_norm ?_
     go_wp2_with fail
     go_roundw
     case rel => exact ⟨k + 1, by omega, by go_num, HTK2.out, HBB.out.drew⟩
     case measure => simp [intOf]; omega
    ·have hb0 : decide (x ≠ y) = true := decide_eq_true hxy
     rw [hb0] at HNE
     have HD := hide (show decide (L = M) = false from decide_eq_false (fun h => hxy (by
      have h1 := HXY.out.1
      rw [h, HXY.out.2] at h1
      injection h1 with h1
      exact h1.symm)))
     clear hb0 hxy HXY HTK
     go_wp2_with fail
     refine wp_region_noPanic ?_
     refine wp_region_held_drew (S := fun W => W.rangeAt b1 (o1 + k * 32) F.toList ∧ W.rangeAt b2 (o2 + k * 32) G.toList) (by kernel_rfl) ⟨HR.out.1, HR.out.2⟩ (fun hHeld => ?_)
     refine wpAnyH_take (i := 0) (v := ?_) rfl (by kernel_rfl) (by kernel_rfl) (by kernel_rfl) (fun _ _ _ h => h) (Or.inl ⟨by rfl, ?_⟩) (by assumption) ?_
     rotate_left
     ·(intro w9 hSw; (try dsimp only at hSw); go_simp; try with_reducible rfl)
     try simp only [Act.put, List.setIfInBounds_toArray, List.set_cons_zero, List.set_cons_succ, List.getElem_toArray, List.getElem_cons_succ, List.getElem_cons_zero]
     refine wpAnyH_take (i := 1) (v := ?_) rfl (by kernel_rfl) (by kernel_rfl) (by kernel_rfl) (fun _ _ _ h => h) (Or.inl ⟨by rfl, ?_⟩) (by assumption) ?_
     rotate_left
     ·(intro w9 hSw; (try dsimp only at hSw); go_simp; try with_reducible rfl)
     try simp only [Act.put, List.setIfInBounds_toArray, List.set_cons_zero, List.set_cons_succ, List.getElem_toArray, List.getElem_cons_succ, List.getElem_cons_zero]
     refine wpAnyH_take (i := 2) (v := ?_) rfl (by kernel_rfl) (by kernel_rfl) (by kernel_rfl) (fun _ _ _ h => h) (Or.inl ⟨by rfl, ?_⟩) (by assumption) ?_
     rotate_left
     ·(intro w9 hSw; (try dsimp only at hSw); go_simp; try with_reducible rfl)
     try simp only [Act.put, List.setIfInBounds_toArray, List.set_cons_zero, List.set_cons_succ, List.getElem_toArray, List.getElem_cons_succ, List.getElem_cons_zero]
     refine wpAnyH_take (i := 3) (v := .agg F) rfl (by kernel_rfl) (by kernel_rfl) (by kernel_rfl) (fun _ _ _ h => h) (Or.inl ⟨by rfl, ?_⟩) (by assumption) ?_
     ·(intro W hW; exact ex_loadR 23 (.tmp 19) (by kernel_rfl) b1 (o1 + k * 32) rfl F _ hW.1 Tryz.underlying23 rfl (by rw [HF.out.1]; kernel_rfl))
     try simp only [Act.put, List.setIfInBounds_toArray, List.set_cons_zero, List.set_cons_succ, List.getElem_toArray, List.getElem_cons_succ, List.getElem_cons_zero]
     refine wpAnyH_take (i := 4) (v := ?_) rfl (by kernel_rfl) (by kernel_rfl) (by kernel_rfl) (fun _ _ _ h => h) (Or.inl ⟨by rfl, ?_⟩) (by assumption) ?_
     rotate_left
     ·(intro w9 hSw; (try dsimp only at hSw); go_simp; try with_reducible rfl)
     try simp only [Act.put, List.setIfInBounds_toArray, List.set_cons_zero, List.set_cons_succ, List.getElem_toArray, List.getElem_cons_succ, List.getElem_cons_zero]
     refine wpAnyH_take (i := 5) (v := ?_) rfl (by kernel_rfl) (by kernel_rfl) (by kernel_rfl) (fun _ _ _ h => h) (Or.inl ⟨by rfl, ?_⟩) (by assumption) ?_
     rotate_left
     ·(intro w9 hSw; (try dsimp only at hSw); go_simp; try with_reducible rfl)
     try simp only [Act.put, List.setIfInBounds_toArray, List.set_cons_zero, List.set_cons_succ, List.getElem_toArray, List.getElem_cons_succ, List.getElem_cons_zero]
     refine wpAnyH_take (i := 6) (v := ?_) rfl (by kernel_rfl) (by kernel_rfl) (by kernel_rfl) (fun _ _ _ h => h) (Or.inl ⟨by rfl, ?_⟩) (by assumption) ?_
     rotate_left
     ·(intro w9 hSw; (try dsimp only at hSw); go_simp; try with_reducible rfl)
     try simp only [Act.put, List.setIfInBounds_toArray, List.set_cons_zero, List.set_cons_succ, List.getElem_toArray, List.getElem_cons_succ, List.getElem_cons_zero]
     refine wpAnyH_take (i := 7) (v := .agg G) rfl (by kernel_rfl) (by kernel_rfl) (by kernel_rfl) (fun _ _ _ h => h) (Or.inl ⟨by rfl, ?_⟩) (by assumption) ?_
     ·(intro W hW; exact ex_loadR 23 (.tmp 23) (by kernel_rfl) b2 (o2 + k * 32) rfl G _ hW.2 Tryz.underlying23 rfl (by rw [HF.out.2]; kernel_rfl))
     try simp only [Act.put, List.setIfInBounds_toArray, List.set_cons_zero, List.set_cons_succ, List.getElem_toArray, List.getElem_cons_succ, List.getElem_cons_zero]
     refine wpAnyH_take (i := 8) (v := .bool true) rfl (by kernel_rfl) (by kernel_rfl) (by kernel_rfl) (fun _ _ _ h => h) (Or.inl ⟨by rfl, ?_⟩) (by assumption) ?_
     ·(intro W hW; exact ex_binA .neq 23 (.tmp 20) (.tmp 24) (by kernel_rfl) (.inr rfl) F G (by kernel_rfl) (by kernel_rfl) (by kernel_rfl) true (HNE.out W))
     try simp only [Act.put, List.setIfInBounds_toArray, List.set_cons_zero, List.set_cons_succ, List.getElem_toArray, List.getElem_cons_succ, List.getElem_cons_zero]
     refine wpAnyH_done (by kernel_rfl) ?_ _
     refine noPanic_norm ?_
     go_wp2
     go_ret
     exact ⟨by rw [HD.out]; rfl, HBB.out.drew⟩
   ·have hkl : k = L.length := by omega
    subst hkl
    have HBB := hide hbel
    have hD : decide (L = M) = true := decide_eq_true (by
     have h1 := htk
     rw [List.take_length] at h1
     have h2 := HLEN.out
     rw [h2, List.take_length] at h1
     exact h1)
    have HD := hide hD
    clear hbel htk hD
    go_wp2
    go_ret
    exact ⟨by rw [HD.out]; rfl, HBB.out⟩
end Go.Proofs.YtdohebhbiokljaaGreatDoor
