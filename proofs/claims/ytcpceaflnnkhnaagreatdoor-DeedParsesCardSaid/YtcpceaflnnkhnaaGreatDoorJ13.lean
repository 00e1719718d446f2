/- Joined texts: PsG. -/
import Derived.Test.YtcpceaflnnkhnaaGreatDoorJ9
import Derived.Test.YtcpceaflnnkhnaaGreatDoorJ11
import Derived.Test.YtcpceaflnnkhnaaGreatDoorJ12
import Derived.Deep.DeepCutAuto

/- The contract of the program's read of a text: under trial. -/
namespace Go.Proofs.YtcpceaflnnkhnaaGreatDoor
open Go.RowKit
attribute [local go_sem ↓] Go.wp_at_zero Go.wp_at_succ
attribute [local go_sem ↓] capZ_store cap_storeG
attribute [local go_sem] capZ_storeC cap_storeF

theorem elemI : Elem1 Tryz.prog 114 3 (.int .i64 0) 8 := ⟨Tryz.underlying114, by kernel_rfl, rfl⟩
/-- The places of the first parts, and of the one behind them. -/
def placesL (ps : List (List UInt8)) (k : Nat) : List Value := (List.range (k + 1)).map fun i => .int .i64 (place ps i : Int)
theorem placesL_succ (ps : List (List UInt8)) (k : Nat) : placesL ps (k + 1) = placesL ps k ++ [.int .i64 (place ps (k + 1) : Int)] := by simp [placesL, List.range_succ]
theorem placesL_len (ps : List (List UInt8)) (k : Nat) : (placesL ps k).length = k + 1 := by simp [placesL]
theorem place_succ (ps : List (List UInt8)) (k : Nat) (p : List UInt8) (h : ps[k]? = some p) : place ps (k + 1) = place ps k + (p.length + 1) := by
  unfold place
  rw [List.take_add_one, h]
  simp
theorem flds_total (l : List UInt8) : (flds l).length ≤ l.length + 1 ∧ place (flds l) (flds l).length = l.length + 1 := by
  induction l with
  | nil => simp [flds, place]
  | cons c l ih =>
    unfold place at *
    rw [List.take_length] at *
    by_cases hc : c = 58
    · subst hc
      rw [flds_colon]
      simp only [List.length_cons, List.map_cons, List.sum_cons, List.length_nil]
      omega
    · obtain ⟨f, r, h1, h2⟩ := flds_other hc l
      rw [h1] at ih
      rw [h2]
      simp only [List.length_cons, List.map_cons, List.sum_cons] at *
      omega
theorem place_le (l : List UInt8) (k : Nat) : place (flds l) k ≤ l.length + 1 := by
  have h := (flds_total l).2
  rw [← h]
  unfold place
  rw [List.take_length]
  have e : (flds l) = (flds l).take k ++ (flds l).drop k := (List.take_append_drop k _).symm
  conv => rhs; rw [e]
  rw [List.map_append, List.sum_append]
  omega
theorem part_len (l : List UInt8) (k : Nat) : (part_ (flds l) k).length ≤ l.length + 1 := by
  unfold part_
  rw [List.getD_eq_getElem?_getD]
  cases h : (flds l)[k]? with
  | none => simp
  | some p =>
    have h1 := place_succ (flds l) k p h
    have h2 := place_le l (k + 1)
    simp only [Option.getD_some]
    omega
set_option maxRecDepth 100000 in
set_option maxHeartbeats 2000000 in
theorem read_long (s : ByteArray) (w : World) (hs : 256 < s.size) (hs2 : s.size ≤ 9223372036854775807) :
    Calls Tryz.prog 32 #[.string s] w fun e w' => ∃ cs : Array Value, e = .returned (.tuple #[.agg cs, faultV 151 256]) ∧ (cs.size = 107 ∧ cs.all (·.oneCell') = true) ∧ Below w.heap.size w w' := by
  have g1 : (256 : Int) < (s.size : Int) := by omega
  obtain ⟨w0, hw0⟩ : ∃ w0, w0 = w.alloc (.cells Tryz.zeroCells34 34) := ⟨_, rfl⟩
  have H0 := hide (show Blk w0 w.heap.size 34 Tryz.zeroCells34 ∧ Below w.heap.size w w0 from ⟨by rw [hw0]; exact Blk.new w _ _, by rw [hw0]; exact (Below.refl _ w).alloc (Nat.le_refl _) _⟩)
  have HW := hide hw0
  clear hw0
  go_enter Tryz.func32, Tryz.ntmps32
  go_wp2_with ((with_reducible change wpList _ _ _ (⟨none, .store _ (.tmp 2) _, _, _, _, _⟩ :: _) _ _); go_loud (rw [← HW.out]; refine wpList_store_row (o := ⟨none, .store _ (.tmp 2) _, _, _, _, _⟩) H0.out.1 Tryz.zeroCells34 (by kernel_rfl) (by rw [capZ_eq]; exact CP.zero_one) rfl 34 _ _ rfl (by kernel_rfl) rfl rfl ?_; intro w7 hb7 hg7))
  refine bodyPost_ret (results_row_tmp rfl _ _ w.heap.size 34 Tryz.zeroCells34 (0, 0) _ rfl hb7 Tryz.underlying34 rfl (by kernel_rfl)) rfl ⟨_, rfl, ⟨by kernel_rfl, by rw [capZ_eq]; exact CP.zero_one⟩, ?_⟩
  exact H0.out.2.grown hg7 H0.out.2.size fun k hk => by injection hk with hk; omega
theorem part_get {ts : List ByteArray} {ps : List (List UInt8)} (h : ts.map lst = ps) {k : Nat} {x : ByteArray} (hx : ts[k]? = some x) : part_ ps k = lst x := by
  unfold part_
  rw [← h, List.getD_eq_getElem?_getD, List.getElem?_map, hx]
  rfl
/-- What read answers. -/
def ReadPost (s : ByteArray) (w : World) (e : Ending) (w' : World) : Prop :=
  (capF (lst s) = none → ∃ A n c, e = .returned (.tuple #[.agg ((capC (lst s)).cells (.slice A n c)), .nilIface]) ∧ Own w' w.heap.size 5 (.slice A n c) (capC (lst s)).lit) ∧
  ∀ a er, capF (lst s) = some (a, er) → ∃ cs : Array Value, cs.size = 107 ∧ cs.all (·.oneCell') = true ∧ e = .returned (.tuple #[.agg cs, faultV (er : Nat) (a : Nat)])
theorem rp_bad {s : ByteArray} {w w' : World} {a er : Nat} {cs : Array Value} (h : capF (lst s) = some (a, er)) (hs : cs.size = 107) (h1 : cs.all (·.oneCell') = true) : ReadPost s w (.returned (.tuple #[.agg cs, faultV (er : Nat) (a : Nat)])) w' :=
  ⟨(fun h2 => by rw [h] at h2; cases h2), (fun a2 er2 h2 => by rw [h] at h2; injection h2 with h2; injection h2 with e1 e2; subst e1 e2; exact ⟨cs, hs, h1, rfl⟩)⟩
theorem rp_badZ {s : ByteArray} {w w' : World} {a er : Nat} (h : capF (lst s) = some (a, er)) : ReadPost s w (.returned (.tuple #[.agg Tryz.zeroCells34, faultV (er : Nat) (a : Nat)])) w' := rp_bad h (by kernel_rfl) (by rw [capZ_eq]; exact CP.zero_one)
theorem rp_badL {s : ByteArray} {w w' : World} {a er : Nat} (h : capF (lst s) = some (a, er)) : ReadPost s w (.returned (.tuple #[.agg Tryz.zeroCells34.toList.toArray, faultV (er : Nat) (a : Nat)])) w' := rp_badZ h
theorem capF_0 {l : List UInt8} (h : l.length ≤ 256) (h0 : part_ (flds l) 0 ≠ tRoom) : capF l = some (0, 150) := by unfold capF; rw [if_neg (by omega), if_pos h0]
theorem capF_1 {l : List UInt8} (h : l.length ≤ 256) (h0 : part_ (flds l) 0 = tRoom) (h1 : (flds l).length < 2) : capF l = some (l.length, 150) := by unfold capF; rw [if_neg (by omega), if_neg (by simp [h0]), if_pos h1]
/-- What the loop over the parts has done. -/
def PlRel (ps : List (List UInt8)) (n base : Nat) (w1 : World) (u5 u25 : Value) (wr : World) : Prop := ∃ k g c, k ≤ n ∧ u25 = .int .i64 (k : Int) ∧ u5 = .slice (some ⟨g, 0, none⟩) (k + 1) c ∧ wr.ownsRow base 3 1 u5 (k + 1) (placesL ps k) ∧ Below w1.heap.size w1 wr
/-- What stands behind the call of parse: its capability in a block of its own, and its error. -/
def RMid (ps : List (List UInt8)) (kd : Nat) (w : World) (u12 u13 : Value) (wx : World) : Prop :=
  ∃ (g : Nat) (F : Array Value), u12 = .pointer (some ⟨g, 0, none⟩) ∧ F.size = 107 ∧ F.all (·.oneCell') = true ∧ Blk wx g 34 F ∧ w.heap.size ≤ g ∧ Below w.heap.size w wx ∧
    ((∃ pa er, bodyF ps kd = some (pa, er) ∧ u13 = faultV (er : Nat) (pa : Nat)) ∨ (bodyF ps kd = none ∧ u13 = .nilIface ∧ ∃ A n c, F = (capOf ps kd false).cells (.slice A n c) ∧ Own wx w.heap.size 5 (.slice A n c) (capOf ps kd false).lit))
theorem rdN_bd (l : List UInt8) (most : Int) (h0 : 0 ≤ most) (hm : most ≤ 9223372036854775807) : -9223372036854775808 ≤ rdN l most ∧ rdN l most ≤ 9223372036854775807 := by
  unfold rdN
  cases h : rd l most with
  | none => simp only []; omega
  | some x => have := (rd_some h hm).2.1; simp only []; omega
theorem rvOf_in (ps : List (List UInt8)) : (rvOf ps).in64 := ⟨rdN_bd _ _ (by omega) (by omega), rdN_bd _ _ (by omega) (by omega), rdN_bd _ _ (by omega) (by omega), rdN_bd _ _ (by omega) (by omega)⟩
theorem capOf_in (ps : List (List UInt8)) (kd : Nat) (d : Bool) : (capOf ps kd d).in64 := by
  unfold capOf
  split
  · exact ⟨rvOf_in ps, RV.zero_in⟩
  · split
    · exact ⟨RV.zero_in, rvOf_in ps⟩
    · exact ⟨RV.zero_in, RV.zero_in⟩
theorem rvOf_wf {ps : List (List UInt8)} (h : rvF ps = none) : (rvOf ps).wf := by
  obtain ⟨a1, h⟩ := first_none h
  obtain ⟨a2, h⟩ := first_none h
  have b1 := ltrF_none a1
  have b2 := ltrF_none a2
  exact ⟨by show (decode _).1.length = 16; omega, by show (decode _).1.length = 32; omega⟩
theorem capOf_wf {ps : List (List UInt8)} {kd : Nat} {d : Bool} (h : bodyF ps kd = none) : (capOf ps kd d).wf := by
  unfold bodyF at h
  unfold capOf
  split
  · rename_i hk
    rw [if_neg (by omega)] at h
    exact ⟨rvOf_wf h, RV.zero_wf, by show (1 : Nat) < 256; omega⟩
  · split
    · rename_i _ hk
      rw [if_neg (by omega)] at h
      exact ⟨RV.zero_wf, rvOf_wf h, by show (2 : Nat) < 256; omega⟩
    · exact ⟨RV.zero_wf, RV.zero_wf, by show (3 : Nat) < 256; omega⟩
theorem capOf_dir (ps : List (List UInt8)) (kd : Nat) (d : Bool) (v : Value) : ((capOf ps kd false).cells v).setIfInBounds 1 (.bool d) = (capOf ps kd d).cells v := by
  unfold capOf
  split
  · simp [CP.cells, CP.cellsL]
  · split <;> simp [CP.cells, CP.cellsL]
theorem capOf_lit (ps : List (List UInt8)) (kd : Nat) (d : Bool) : (capOf ps kd d).lit = (capOf ps kd false).lit := by
  unfold capOf
  split
  · rfl
  · split <;> rfl
theorem one_set {F : Array Value} (h : F.all (·.oneCell') = true) (i : Nat) (u : Value) (hu : u.oneCell' = true) : (F.setIfInBounds i u).all (·.oneCell') = true := by
  rw [Array.all_eq_true_iff_forall_mem] at *
  intro x hx
  rw [← Array.mem_toList_iff, Array.toList_setIfInBounds] at hx
  rcases List.mem_or_eq_of_mem_set hx with h1 | h1
  · exact h x (Array.mem_toList_iff.1 h1)
  · rw [h1]; exact hu
theorem pp_form {ps : List (List UInt8)} {kd : Nat} {w w' : World} {e : Ending} (h : ParsePost ps kd w e w') : ∃ (F : Array Value) (U : Value), e = .returned (.tuple #[.agg F, U]) ∧ F.size = 107 ∧ F.all (·.oneCell') = true ∧ Below w.heap.size w w' ∧
    ((∃ pa er, bodyF ps kd = some (pa, er) ∧ U = faultV (er : Nat) (pa : Nat)) ∨ (bodyF ps kd = none ∧ U = .nilIface ∧ ∃ A n c, F = (capOf ps kd false).cells (.slice A n c) ∧ Own w' w.heap.size 5 (.slice A n c) (capOf ps kd false).lit)) := by
  obtain ⟨hb, h1, h2⟩ := h
  cases hF : bodyF ps kd with
  | some q =>
    obtain ⟨pa, er⟩ := q
    obtain ⟨c0, wf0, rfl⟩ := h1 _ _ hF
    exact ⟨_, _, rfl, CP.cells_size wf0 _, CP.cells_one _ _ _ _, hb, .inl ⟨pa, er, rfl, rfl⟩⟩
  | none =>
    obtain ⟨A, n, c, rfl, ho⟩ := h2 hF
    refine ⟨_, _, rfl, CP.cells_size (capOf_wf hF) _, CP.cells_one _ _ _ _, hb, .inr ⟨rfl, rfl, A, n, c, rfl, ho⟩⟩
set_option maxRecDepth 100000 in
set_option maxHeartbeats 4000000 in
theorem read_any (s : ByteArray) (mx : Int) (w : World) (hs : s.size ≤ 256) (hm : w.cell? ⟨1, 0, none⟩ = some (.int .i64 mx)) (ht : Tab w) (he : Err w) :
    Calls Tryz.prog 32 #[.string s] w fun e w' => Below w.heap.size w w' ∧ ReadPost s w e w' := by
  have g1 : ¬ (256 : Int) < (s.size : Int) := by omega
  obtain ⟨w0, hw0⟩ : ∃ w0, w0 = w.alloc (.cells Tryz.zeroCells34 34) := ⟨_, rfl⟩
  have H0 := hide (show Blk w0 w.heap.size 34 Tryz.zeroCells34 ∧ Below w.heap.size w w0 from ⟨by rw [hw0]; exact Blk.new w _ _, by rw [hw0]; exact (Below.refl _ w).alloc (Nat.le_refl _) _⟩)
  have QF := hide (bfields_any s mx w0 (by omega) ((H0.out.2.cell (World.block_lt_of_cell? _ _ hm)).trans hm))
  obtain ⟨ps, hps⟩ : ∃ ps, ps = flds (lst s) := ⟨_, rfl⟩
  have hpl : ∀ k, place ps k ≤ 257 := fun k => by have := place_le (lst s) k; rw [lst_len, ← hps] at this; omega
  have hne : ps ≠ [] := by rw [hps]; exact flds_ne _
  have hlen : ps.length ≤ 257 := by have := (flds_total (lst s)).1; rw [lst_len, ← hps] at this; omega
  rw [← hps] at QF
  have HP := hide (And.intro hps (And.intro hpl (And.intro hne (And.intro hlen (And.intro ht he)))))
  have HW := hide hw0
  clear hw0 hps hpl hne hlen hm ht he
  go_enter Tryz.func32, Tryz.ntmps32
  go_wp2_with fail
  rw [← HW.out]
  refine QF.out.mono ?_
  rintro e w1 ⟨v, ts, rfl, o1, p1, b1⟩
  have hn : ts.length = ps.length := by rw [← p1, List.length_map]
  have hn0 : 0 < ts.length := by rw [hn]; exact List.length_pos_iff.2 HP.out.2.2.1
  have hn2 : ts.length ≤ 257 := by rw [hn]; exact HP.out.2.2.2.1
  obtain ⟨g4, c4, rfl, hg4, hg4l⟩ := World.ownsRow.form o1 hn0
  obtain ⟨A4', c4', hv4, hc4, hcm4, hcell4⟩ := OwnT.form o1
  obtain ⟨n, hnn⟩ : ∃ n, n = ts.length := ⟨_, rfl⟩
  rw [← hnn] at hn0 hn2 hc4
  injection hv4 with hA4 _ hcc4
  subst hcc4
  unfold maxLen at hcm4
  have HT := hide (show (∀ (k : Nat) (x : ByteArray), ts[k]? = some x → w1.cell? ⟨g4, k, none⟩ = some (.string x)) ∧ ts.map lst = ps ∧ n = ts.length ∧ g4 < w1.heap.size from ⟨fun k x hx => by
    obtain ⟨b, o, hb, _, hcx⟩ := hcell4 k x hx
    rw [← hA4] at hb
    injection hb with hb
    injection hb with e1 e2
    rw [← e1, ← e2, Nat.zero_add] at hcx
    exact hcx, p1, hnn, hg4l⟩)
  have H1 := hide (And.intro (H0.out.1.below' b1) (And.intro b1 (H0.out.2.trans (b1.mono H0.out.2.size))))
  rw [← hnn]
  clear b1 o1 p1 hn hg4l hg4 hcell4 hA4 hnn
  have k1 := Blk.new w1 3 #[.int .i64 0]
  have ho1 := k1.own (base := w1.heap.size) (n := 1) (cap := 1) (sz := 1) rfl (Nat.le_refl _) rfl (Nat.le_refl _) (by unfold maxLen; omega)
  have hr0 : PlRel ps n w1.heap.size w1 (.slice (some ⟨w1.heap.size, 0, none⟩) 1 1) (.int .i64 0) (w1.alloc (.cells #[.int .i64 0] 3)) := ⟨0, _, _, Nat.zero_le _, rfl, rfl, ho1, (Below.refl _ w1).alloc (Nat.le_refl _) _⟩
  have HR := hide hr0
  clear k1 ho1 hr0
  go_wp2_with fail
  go_loopw [5, 25] (fun u5 u25 wr => PlRel ps n w1.heap.size w1 u5 u25 wr) (fun _ u25 _ => n - (intOf u25).toNat)
  case atStart => exact HR.out
  case round =>
    clear HR
    obtain ⟨k, g5, c5, hk, rfl, rfl, ho, hb⟩ := hrel
    have i2 : (0 : Int) ≤ (k : Int) := by omega
    by_cases hlt : k < n
    · obtain ⟨x, hx⟩ : ∃ x, ts[k]? = some x := ⟨_, List.getElem?_eq_getElem (by have := HT.out.2.2.1; omega)⟩
      have i1 : (k : Int) < (n : Int) := by omega
      have cx : wr.cell? ⟨g4, k, none⟩ = some (.string x) := (hb.cell (p := ⟨g4, k, none⟩) HT.out.2.2.2).trans (HT.out.1 k x hx)
      obtain ⟨pk, hpk⟩ : ∃ pk, pk = place ps k := ⟨_, rfl⟩
      have hpk2 : pk ≤ 257 := by rw [hpk]; exact HP.out.2.1 k
      have hps : place ps (k + 1) = pk + (x.size + 1) := by rw [hpk, ← lst_len]; exact place_succ ps k (lst x) (by rw [← HT.out.2.1, List.getElem?_map, hx]; rfl)
      have hxs : x.size ≤ 257 := by have := HP.out.2.1 (k + 1); omega
      obtain ⟨m, hmk⟩ : ∃ m, m = k + 1 := ⟨_, rfl⟩
      have e5 : (m : Int) - 1 = (k : Int) := by omega
      have i3 : (k : Int) < (m : Int) := by omega
      have hm2 : m ≤ 258 := by omega
      have cy : wr.cell? ⟨g5, k, none⟩ = some (.int .i64 (pk : Int)) := by
        have := ho.cells (g := g5) rfl k (.int .i64 (pk : Int)) (by unfold placesL; rw [List.getElem?_map, List.getElem?_range (by omega), hpk]; rfl)
        rwa [Addr.add_mid, Nat.zero_add] at this
      rw [← hmk] at ho ⊢
      have HO := hide (And.intro ho (And.intro hb (And.intro hps hmk)))
      clear ho hb hps hmk hx hpk
      go_wp2_with (at_builtin; go_loud (refine wpList_push1 elemI HO.out.1 HO.out.2.1 HO.out.2.1.size (by unfold maxLen; omega) (by omega) (.int .i64 ((pk : Int) + (x.size : Int) + 1)) rfl rfl _ _ rfl rfl rfl ?_); intro v6 w6 o6 b6 _ _ _)
      go_roundw
      case rel =>
        obtain ⟨g6, c6, hv6, -, -⟩ := World.ownsRow.form o6 (by omega)
        have e6 : (.int .i64 ((pk : Int) + (x.size : Int) + 1) : Value) = .int .i64 (place ps (k + 1) : Int) := by rw [HO.out.2.2.1]; congr 1
        rw [e6, ← placesL_succ, HO.out.2.2.2] at o6
        rw [HO.out.2.2.2] at hv6
        exact ⟨k + 1, g6, c6, by omega, by go_num, hv6, o6, b6⟩
      case measure => simp [intOf]; omega
    · have hkn : k = n := by omega
      subst hkn
      have i1 : ¬ (k : Int) < (k : Int) := by omega
      obtain ⟨x0, hx0⟩ : ∃ x, ts[0]? = some x := ⟨_, List.getElem?_eq_getElem (by have := HT.out.2.2.1; omega)⟩
      have y0 : wr.cell? ⟨g4, 0, none⟩ = some (.string x0) := (hb.cell (p := ⟨g4, 0, none⟩) HT.out.2.2.2).trans (HT.out.1 0 x0 hx0)
      have q0 := part_get HT.out.2.1 hx0
      have HZ := hide (show Blk wr w.heap.size 34 Tryz.zeroCells34 ∧ Below w.heap.size w wr from ⟨H1.out.1.below hb H1.out.1.lt, H1.out.2.2.trans (hb.mono H1.out.2.2.size)⟩)
      have HO := hide (And.intro ho (And.intro hb q0))
      have hls : (lst s).length ≤ 256 := by rw [lst_len]; exact hs
      have hk2 : ps.length = k := by rw [← HT.out.2.1, List.length_map]; exact HT.out.2.2.1.symm
      have hpsf := HP.out.1
      obtain ⟨hc5, hcm5⟩ : k + 1 ≤ c5 ∧ c5 ≤ 2 ^ 63 - 1 := by
        rcases ho.2 with ⟨-, h0⟩ | ⟨_, _, _, h0, -, -, h1, h2, -⟩
        · omega
        · injection h0 with _ _ h0
          subst h0
          unfold maxLen at h2
          exact ⟨h1, h2⟩
      obtain ⟨m, hmk⟩ : ∃ m, m = k + 1 := ⟨_, rfl⟩
      rw [← hmk] at hc5 ⊢
      have HQ := hide hmk
      clear ho hb hx0 hmk
      by_cases hr : x0 = ⟨#[115, 116, 114, 111, 110, 103, 114, 111, 111, 109]⟩
      · subst hr
        have h0 : part_ (flds (lst s)) 0 = tRoom := by rw [← hpsf, q0]; rfl
        by_cases h2 : k < 2
        · have HF := hide (show capF (lst s) = some (s.size, 150) from by rw [← lst_len]; exact capF_1 hls h0 (by rw [← hpsf]; omega))
          have g2 : (k : Int) < 2 := by omega
          clear hls hk2 hpsf q0 h0 h2
          go_wp2_with ((with_reducible change wpList _ _ _ (⟨none, .store _ (.tmp 2) _, _, _, _, _⟩ :: _) _ _); go_loud (refine wpList_store_row (o := ⟨none, .store _ (.tmp 2) _, _, _, _, _⟩) HZ.out.1 Tryz.zeroCells34 (by kernel_rfl) (by rw [capZ_eq]; exact CP.zero_one) rfl 34 _ _ rfl (by kernel_rfl) rfl rfl ?_; intro w7 hb7 hg7))
          refine bodyPost_ret (results_row_tmp rfl _ _ w.heap.size 34 Tryz.zeroCells34 (0, 0) _ rfl hb7 Tryz.underlying34 rfl (by kernel_rfl)) rfl ⟨HZ.out.2.grown hg7 HZ.out.2.size fun k hk => (by injection hk with hk; omega), rp_badZ HF.out⟩
        · obtain ⟨x1, hx1⟩ : ∃ x, ts[1]? = some x := ⟨_, List.getElem?_eq_getElem (by have := HT.out.2.2.1; omega)⟩
          have y1 : wr.cell? ⟨g4, 1, none⟩ = some (.string x1) := (HO.out.2.1.cell (p := ⟨g4, 1, none⟩) HT.out.2.2.2).trans (HT.out.1 1 x1 hx1)
          have q1 := part_get HT.out.2.1 hx1
          have g2 : ¬ (k : Int) < 2 := by omega
          have g3 : (1 : Int) < (k : Int) := by omega
          have g4' : 1 < k := by omega
          obtain ⟨wd, hwd⟩ : ∃ wd, wd = (⟨(Lib.trimPrefix (lst x1) tDir).toArray⟩ : ByteArray) := ⟨_, rfl⟩
          obtain ⟨dd, hdd⟩ : ∃ dd, dd = Lib.hasPrefix (lst x1) tDir := ⟨_, rfl⟩
          have QC := hide (show ∀ W, Calls Tryz.prog 60 #[.string x1, .string ⟨#[100, 105, 114, 45]⟩] W fun e w' => e = .returned (.tuple #[.string wd, .bool dd]) ∧ w' = W from fun W => by rw [hwd, hdd]; exact Tryz.strings_CutPrefix x1 ⟨#[100, 105, 114, 45]⟩ W)
          have HX := hide (And.intro q1 (And.intro hwd (And.intro hdd (And.intro h0 (And.intro hls hk2)))))
          clear hls hk2 hpsf q0 h0 h2 hx1 q1 hwd hdd
          go_wp2_with fail
          refine (QC.out _).mono ?_
          rintro e w9 ⟨rfl, rfl⟩
          have hwl : wd.size ≤ 1000 := by
            have h1 := HX.out.1
            have h3 := part_len (lst s) 1
            have h4 := HX.out.2.2.2.2.1
            rw [← HP.out.1, h1] at h3
            have h2 : wd.size = (Lib.trimPrefix (lst x1) tDir).length := by rw [HX.out.2.1]; simp [ByteArray.size]
            have h5 : (Lib.trimPrefix (lst x1) tDir).length ≤ (lst x1).length := by
              unfold Lib.trimPrefix
              split
              · simp
              · exact Nat.le_refl _
            omega
          obtain ⟨m1, m2, m3, v, b, r1, r2, r3, r4, hbm, hcase⟩ := want_map w9 wd hwl
          have r0 := run_makeMap (P := Tryz.prog) 118 w9
          have HM := hide (And.intro hbm hcase)
          clear hbm hcase hwl
          unfold bRead at r1
          unfold bVerify at r2
          unfold bLit at r3
          have HY := hide (show Blk m3 w.heap.size 34 Tryz.zeroCells34 ∧ Below w.heap.size w m3 from ⟨HZ.out.1.below HM.out.1 HZ.out.1.lt, HZ.out.2.trans (HM.out.1.mono HZ.out.2.size)⟩)
          have pcell : ∀ j, j ≤ k → m3.cell? ⟨g5, j, none⟩ = some (.int .i64 (place ps j : Int)) := fun j hj => by
            have := HO.out.1.cells (g := g5) rfl j (.int .i64 (place ps j : Int)) (by unfold placesL; rw [List.getElem?_map, List.getElem?_range (by omega)]; rfl)
            rw [Addr.add_mid, Nat.zero_add] at this
            exact (HM.out.1.cell (World.block_lt_of_cell? _ _ this)).trans this
          have tcell : ∀ (j : Nat) (x : ByteArray), ts[j]? = some x → m3.cell? ⟨g4, j, none⟩ = some (.string x) := fun j x hx => by
            have := (HO.out.2.1.cell (p := ⟨g4, j, none⟩) HT.out.2.2.2).trans (HT.out.1 j x hx)
            exact (HM.out.1.cell (World.block_lt_of_cell? _ _ this)).trans this
          have hnf : ¬ (flds (lst s)).length < 2 := by rw [← HP.out.1, HX.out.2.2.2.2.2]; omega
          have hk1 : kindL (part_ (flds (lst s)) 1) = kindL (lst x1) := by rw [← HP.out.1, HX.out.1]
          have HGL := hide (show g5 ≠ w.heap.size from by
            have l1 := H0.out.1.lt
            have l2 := H1.out.2.1.size
            rcases HO.out.1.2 with ⟨-, h0⟩ | ⟨_, _, _, h0, hb0, -⟩
            · omega
            · injection h0 with h0
              injection h0 with h0
              injection h0 with h0
              omega)
          rcases word_case HX.out.2.1 HM.out.2 with ⟨rfl, hkn⟩ | ⟨rfl, kd, vn, rfl, hkd, hwant, hway⟩
          · have HF := hide (show capF (lst s) = some (place ps 1, 150) from by rw [HP.out.1]; exact cap_none HX.out.2.2.2.2.1 HX.out.2.2.2.1 hnf (hk1.trans hkn))
            have c51 := pcell 1 (by omega)
            have i11 : (1 : Int) < (m : Int) := by have := HQ.out; omega
            have i11' : 1 < m := by have := HQ.out; omega
            have HC := hide (And.intro pcell tcell)
            clear pcell tcell hnf hk1 hkn
            have hS4 : m3.cell? ⟨g5, 1, none⟩ = some (.int .i64 (place ps 1 : Int)) ∧ m3.there w.heap.size 0 107 := ⟨c51, there_of_blk HY.out.1 (by kernel_rfl)⟩
            go_wp2_with fail
            go_region_held3 (fun w' => w'.cell? ⟨g5, 1, none⟩ = some (.int .i64 (place ps 1 : Int)) ∧ w'.there w.heap.size 0 107) (first | with_reducible assumption | (with_reducible refine keepS ?_ HGL.out; with_reducible assumption) | (simp only [World.cell?_drew, World.there_drew]; with_reducible assumption)) (fail)
            all_goals
              go_wp2_with fail
              refine bodyPost_ret (results_mid_tmp rfl _ _ w.heap.size Tryz.zeroCells34.toList _ rfl (World.rangeAt_setCells_same _ _ _ _ (there_of_blk HY.out.1.drew (by kernel_rfl))) Tryz.underlying34 rfl (by kernel_rfl)) rfl ⟨HY.out.2.drew.trans (Lib.below_setCells_w (Nat.le_refl _) _ _ _), rp_badL HF.out⟩
          · have hvn2 : vn ≤ 8 := by rcases hway with ⟨-, -, h⟩ | ⟨-, -, h⟩ | ⟨-, -, h⟩ <;> omega
            have hvn3 : 3 ≤ vn := by rcases hway with ⟨-, -, h⟩ | ⟨-, -, h⟩ | ⟨-, -, h⟩ <;> omega
            by_cases hlt : k < vn
            · have HF := hide (show capF (lst s) = some (s.size, 150) from by rw [← lst_len]; exact cap_few HX.out.2.2.2.2.1 HX.out.2.2.2.1 hnf (hk1.trans hkd) (by rw [← HP.out.1, HX.out.2.2.2.2.2, hwant]; exact hlt))
              have i7 : (k : Int) < (vn : Int) := by omega
              have HC := hide (And.intro pcell (And.intro tcell hway))
              clear pcell tcell hnf hk1 hkd hwant hway
              go_wp2_with ((with_reducible change wpList _ _ _ (⟨none, .store _ (.tmp 2) _, _, _, _, _⟩ :: _) _ _); go_loud (refine wpList_store_row (o := ⟨none, .store _ (.tmp 2) _, _, _, _, _⟩) HY.out.1 Tryz.zeroCells34 (by kernel_rfl) (by rw [capZ_eq]; exact CP.zero_one) rfl 34 _ _ rfl (by kernel_rfl) rfl rfl ?_; intro w7 hb7 hg7))
              refine bodyPost_ret (results_row_tmp rfl _ _ w.heap.size 34 Tryz.zeroCells34 (0, 0) _ rfl hb7 Tryz.underlying34 rfl (by kernel_rfl)) rfl ⟨HY.out.2.grown hg7 HY.out.2.size fun k hk => (by injection hk with hk; omega), rp_badZ HF.out⟩
            · by_cases hgt : vn < k
              · have HF := hide (show capF (lst s) = some (place ps vn, 150) from by rw [HP.out.1, ← hwant]; exact cap_many HX.out.2.2.2.2.1 HX.out.2.2.2.1 hnf (hk1.trans hkd) (by rw [← HP.out.1, HX.out.2.2.2.2.2, hwant]; exact hgt))
                have i7 : ¬ (k : Int) < (vn : Int) := by omega
                have i8 : (vn : Int) < (k : Int) := by omega
                have i9 : (0 : Int) ≤ (vn : Int) := by omega
                have i10 : (vn : Int) < (m : Int) := by have := HQ.out; omega
                have c5v := pcell vn (by omega)
                have i11' : vn < m := by have := HQ.out; omega
                have HC := hide (And.intro pcell (And.intro tcell hway))
                clear pcell tcell hnf hk1 hkd hwant hway
                have hS4 : m3.cell? ⟨g5, vn, none⟩ = some (.int .i64 (place ps vn : Int)) ∧ m3.there w.heap.size 0 107 := ⟨c5v, there_of_blk HY.out.1 (by kernel_rfl)⟩
                go_wp2_with fail
                go_region_held3 (fun w' => w'.cell? ⟨g5, vn, none⟩ = some (.int .i64 (place ps vn : Int)) ∧ w'.there w.heap.size 0 107) (first | with_reducible assumption | (with_reducible refine keepS ?_ HGL.out; with_reducible assumption) | (simp only [World.cell?_drew, World.there_drew]; with_reducible assumption)) (fail)
                all_goals
                  go_wp2_with fail
                  refine bodyPost_ret (results_mid_tmp rfl _ _ w.heap.size Tryz.zeroCells34.toList _ rfl (World.rangeAt_setCells_same _ _ _ _ (there_of_blk HY.out.1.drew (by kernel_rfl))) Tryz.underlying34 rfl (by kernel_rfl)) rfl ⟨HY.out.2.drew.trans (Lib.below_setCells_w (Nat.le_refl _) _ _ _), rp_badL HF.out⟩
              · have hkv : vn = k := by omega
                subst hkv
                have hsz : ∀ (j : Nat) (x : ByteArray), ts[j]? = some x → x.size ≤ 1000 := fun j x hx => by
                  have h3 := part_len (lst s) j
                  have h4 := HX.out.2.2.2.2.1
                  rw [← HP.out.1, part_get HT.out.2.1 hx] at h3
                  have h5 : (lst x).length = x.size := lst_len x
                  omega
                have QP := hide (show ∀ W, Below m3.heap.size m3 W → Calls Tryz.prog 61 #[.string wd, .slice (some ⟨g4, 2, none⟩) (vn - 2) (c4 - 2), .slice (some ⟨g5, 2, none⟩) (m - 2) (c5 - 2)] W (ParsePost ps kd W) from fun W hW =>
                  parse_at ps ts g4 g5 m (c4 - 2) (c5 - 2) kd vn wd W HT.out.2.1 HT.out.2.2.1.symm HQ.out (fun j x hx => (hW.cell (World.block_lt_of_cell? _ _ (tcell j x hx))).trans (tcell j x hx)) (fun j hj => (hW.cell (World.block_lt_of_cell? _ _ (pcell j hj))).trans (pcell j hj)) HP.out.2.1 hsz hway
                    (HP.out.2.2.2.2.1.below (HY.out.2.trans (hW.mono HY.out.2.size))) (HP.out.2.2.2.2.2.below (HY.out.2.trans (hW.mono HY.out.2.size))))
                have e4 : ¬ c4 = 2 := by omega
                have e5 : ¬ c5 = 2 := by have := HQ.out; omega
                clear hsz
                have i7 : ¬ (vn : Int) < (vn : Int) := by omega
                have i12 : (2 : Int) ≤ (vn : Int) := by omega
                have i13 : (2 : Int) ≤ (m : Int) := by have := HQ.out; omega
                have i14 : 2 ≤ m := by omega
                have i15 : 2 ≤ vn := by omega
                have HC := hide (And.intro pcell (And.intro tcell (And.intro hnf (And.intro hk1 (And.intro hkd (And.intro hwant hway))))))
                clear pcell tcell hnf hk1 hkd hwant hway
                go_upto_region 22 with fail
                go_cut [12, 13] (fun u12 u13 wx => RMid ps kd m3 u12 u13 wx)
                case first =>
                  go_region_held3 (fun _ => True) (trivial) ((go_at_call 61; refine (QP.out _ (by repeat (first | with_reducible exact Below.refl _ _ | with_reducible refine Below.drew ?_ | with_reducible refine Below.al0 ?_ _))).mono ?_; rintro e w5 hP; obtain ⟨F, U, rfl, hFs, hFo, hb5, hU⟩ := pp_form hP; have hFit : Fits F := ⟨hFs, hFo⟩; have HFit := hide (And.intro hFs hFo); clear hFo; have hthA := there_of_blk (n := 107) (Blk.new w5 34 Tryz.zeroCells34) (by kernel_rfl); (try (have hthB := there_of_blk (n := 107) ((Blk.drew (Blk.new m3 34 Tryz.zeroCells34)).below' hb5) (by kernel_rfl))); have HU := hide hU; clear hU hP))
                  · go_wp2_with fail
                    go_meet
                    have hbm := Below.step (Below.refl _ m3).drew hb5
                    have ka := Blk.new w5 34 Tryz.zeroCells34
                    refine ⟨w5.heap.size, F, rfl, hFs, HFit.out.2, blk_fill ka (by rw [hFs]; kernel_rfl), hbm.size, (Below.al0 hbm _).trans (Lib.below_setCells_w hbm.size _ _ _), ?_⟩
                    rcases HU.out with h1 | ⟨h1, h2, A, n, c, h3, h4⟩
                    · exact .inl h1
                    · exact .inr ⟨h1, h2, A, n, c, h3, Own.apart (Own.below h4 (Below.al0 (Below.refl _ w5) _)) ka (by decide) (stores_grown _ _ _ _)⟩
                  · go_wp2_with fail
                    go_meet
                    have hbm := Below.step (Below.al0 (Below.refl _ m3) (.cells Tryz.zeroCells34 34)).drew hb5
                    have ka := ((Blk.drew (Blk.new m3 34 Tryz.zeroCells34)).below' hb5)
                    refine ⟨m3.heap.size, F, rfl, hFs, HFit.out.2, blk_fill ka (by rw [hFs]; kernel_rfl), Nat.le_refl _, hbm.trans (Lib.below_setCells_w (Nat.le_refl _) _ _ _), ?_⟩
                    rcases HU.out with h1 | ⟨h1, h2, A, n, c, h3, h4⟩
                    · exact .inl h1
                    · exact .inr ⟨h1, h2, A, n, c, h3, Own.lower (Own.apart h4 ka (by decide) (stores_grown _ _ _ _)) (by show m3.heap.size ≤ (m3.alloc _).heap.size; simp)⟩
                case rest =>
                  obtain ⟨g12, F, rfl, hFs, hFo, hblk, hlow, hbel, hc⟩ := hcut
                  have hne12 : g12 ≠ w.heap.size := by have := HY.out.1.lt; omega
                  obtain ⟨F2, hF2⟩ : ∃ F2, F2 = F.setIfInBounds 1 (.bool dd) := ⟨_, rfl⟩
                  have c1 : ∃ y, wc.cell? ⟨g12, 1, none⟩ = some y := ⟨F[1]'(by omega), by rw [hblk.cell]; exact Array.getElem?_eq_getElem _⟩
                  have f1 := hblk.frozen 1
                  obtain ⟨y1, c1⟩ := c1
                  have HB := hide (show Blk (wc.setCell ⟨g12, 1, none⟩ (.bool dd)) g12 34 F2 ∧ Blk (wc.setCell ⟨g12, 1, none⟩ (.bool dd)) w.heap.size 34 Tryz.zeroCells34 ∧ Below m3.heap.size m3 (wc.setCell ⟨g12, 1, none⟩ (.bool dd)) from
                    ⟨by rw [hF2]; exact hblk.set_ 1 _, (HY.out.1.below' hbel).far (fun e => hne12 e.symm) _, hbel.setCell hlow _⟩)
                  have HF2 := hide (show F2.size = 107 ∧ F2.all (·.oneCell') = true ∧ F2 = F.setIfInBounds 1 (.bool dd) from ⟨by rw [hF2]; simpa using hFs, by rw [hF2]; exact one_set hFo _ _ rfl, hF2⟩)
                  have HL := hide (And.intro hne12 (And.intro hlow hbel))
                  have HK := hide hblk
                  clear hF2 hblk hlow hbel hne12
                  rcases hc with ⟨pa, er, hbody, rfl⟩ | ⟨hbody, rfl, A6, n6, c6, hFc, ho6⟩
                  · have HF := hide (show capF (lst s) = some (pa, er) from by
                      obtain ⟨_, _, hnf, hk1, hkd, hwant, _⟩ := HC.out
                      rw [(cap_body HX.out.2.2.2.2.1 HX.out.2.2.2.1 hnf (hk1.trans hkd) (by rw [← HP.out.1, HX.out.2.2.2.2.2, hwant])).1, ← HP.out.1, hbody]; rfl)
                    unfold faultV
                    go_wp2_with first
                      | ((with_reducible change wpList _ _ _ (⟨some 123, _, _, _, _, _⟩ :: _) _ _); refine wpList_load_row (o := ⟨some 123, .load _ _, _, _, _, _⟩) rfl 34 _ rfl g12 rfl 34 F2 (0, 0) _ HB.out.1 Tryz.underlying34 rfl (by rw [HF2.out.1]; kernel_rfl) ?_)
                      | ((with_reducible change wpList _ _ _ (⟨none, .store _ (.tmp 2) _, _, _, _, _⟩ :: _) _ _); go_loud (refine wpList_store_row (o := ⟨none, .store _ (.tmp 2) _, _, _, _, _⟩) HB.out.2.1 F2 (by rw [HF2.out.1]; kernel_rfl) HF2.out.2.1 rfl 34 _ _ rfl (by rw [HF2.out.1]; kernel_rfl) rfl rfl ?_; intro w7 hb7 hg7))
                    refine bodyPost_ret (results_row_tmp rfl _ _ w.heap.size 34 F2 (0, 0) _ rfl hb7 Tryz.underlying34 rfl (by rw [HF2.out.1]; kernel_rfl)) rfl ⟨?_, rp_bad HF.out HF2.out.1 HF2.out.2.1⟩
                    exact (HY.out.2.trans (HB.out.2.2.mono HY.out.2.size)).grown hg7 (Nat.le_trans HY.out.2.size HB.out.2.2.size) fun k hk => (by injection hk with hk; omega)
                  · have hcap : capF (lst s) = mayF (capOf ps kd dd) ∧ capC (lst s) = capOf ps kd dd := by
                      obtain ⟨_, _, hnf, hk1, hkd, hwant, _⟩ := HC.out
                      have h := cap_body HX.out.2.2.2.2.1 HX.out.2.2.2.1 hnf (hk1.trans hkd) (by rw [← HP.out.1, HX.out.2.2.2.2.2, hwant])
                      rw [← HP.out.1, ← HX.out.2.2.1, hbody] at h
                      exact h
                    have hown : Own (wc.setCell ⟨g12, 1, none⟩ (.bool dd)) m3.heap.size 5 (.slice A6 n6 c6) (capOf ps kd dd).lit := by
                      rw [capOf_lit]
                      exact ho6.apart HK.out (by decide) (store_grown _ _ _ _)
                    have hcy : Capy (wc.setCell ⟨g12, 1, none⟩ (.bool dd)) F2 (capOf ps kd dd) (.slice A6 n6 c6) := ⟨by rw [HF2.out.2.2, hFc, capOf_dir], capOf_wf hbody, capOf_in _ _ _, hown.by_⟩
                    have HY2 := hide (And.intro hcap (And.intro hown hcy))
                    have hR : (wc.setCell ⟨g12, 1, none⟩ (.bool dd)).rangeAt g12 0 F2.toList := fun j u hu => by rw [Nat.zero_add, HB.out.1.cell j]; simpa using hu
                    have HR2 := hide hR
                    have QC := hide (check_cap F2 (capOf ps kd dd) (.slice A6 n6 c6) _ hcy)
                    clear hcap hown hcy hR hFc ho6
                    by_cases hmay : (capOf ps kd dd).may
                    · rw [if_pos hmay] at QC
                      have HM2 := hide hmay
                      clear hmay
                      go_wp2_with first
                        | ((with_reducible change wpList _ _ _ (⟨some 117, _, _, _, _, _⟩ :: _) _ _); refine wpList_yields (by kernel_rfl) (.agg F2) (ex_load 34 _ rfl g12 0 (by kernel_rfl) F2.toList _ HR2.out Tryz.underlying34 rfl (by rw [Array.length_toList, HF2.out.1]; kernel_rfl)) ?_)
                        | (go_at_call 19; refine QC.out.mono ?_; rintro e w8 ⟨rfl, b8⟩; go_loud (have H8 := hide (And.intro (HB.out.1.below' b8) (And.intro (HB.out.2.1.below' b8) (And.intro (Below.step HB.out.2.2 b8) (HY2.out.2.1.below b8)))); clear b8))
                        | ((with_reducible change wpList _ _ _ (⟨some 123, _, _, _, _, _⟩ :: _) _ _); refine wpList_load_row (o := ⟨some 123, .load _ _, _, _, _, _⟩) rfl 34 _ rfl g12 rfl 34 F2 (0, 0) _ H8.out.1 Tryz.underlying34 rfl (by rw [HF2.out.1]; kernel_rfl) ?_)
                        | ((with_reducible change wpList _ _ _ (⟨none, .store _ (.tmp 2) _, _, _, _, _⟩ :: _) _ _); go_loud (refine wpList_store_row (o := ⟨none, .store _ (.tmp 2) _, _, _, _, _⟩) H8.out.2.1 F2 (by rw [HF2.out.1]; kernel_rfl) HF2.out.2.1 rfl 34 _ _ rfl (by rw [HF2.out.1]; kernel_rfl) rfl rfl ?_; intro w7 hb7 hg7))
                      have hbw : Below w.heap.size w w7 := (HY.out.2.trans (H8.out.2.2.1.mono HY.out.2.size)).grown hg7 (Nat.le_trans HY.out.2.size H8.out.2.2.1.size) fun k hk => (by injection hk with hk; omega)
                      refine bodyPost_ret (results_row_tmp rfl _ _ w.heap.size 34 F2 (0, 0) _ rfl hb7 Tryz.underlying34 rfl (by rw [HF2.out.1]; kernel_rfl)) rfl ⟨hbw, ?_, ?_⟩
                      · intro _
                        refine ⟨A6, n6, c6, ?_, ?_⟩
                        · rw [HY2.out.1.2, ← HY2.out.2.2.eq]; rfl
                        · rw [HY2.out.1.2]
                          exact Own.lower (Own.apart H8.out.2.2.2 H8.out.2.1 (by decide) hg7) HY.out.2.size
                      · intro a er h
                        rw [HY2.out.1.1] at h
                        unfold mayF at h
                        rw [if_pos HM2.out] at h
                        cases h
                    · rw [if_neg hmay] at QC
                      have HF := hide (show capF (lst s) = some (0, 5) from by rw [HY2.out.1.1]; unfold mayF; rw [if_neg hmay])
                      clear hmay
                      go_wp2_with first
                        | ((with_reducible change wpList _ _ _ (⟨some 117, _, _, _, _, _⟩ :: _) _ _); refine wpList_yields (by kernel_rfl) (.agg F2) (ex_load 34 _ rfl g12 0 (by kernel_rfl) F2.toList _ HR2.out Tryz.underlying34 rfl (by rw [Array.length_toList, HF2.out.1]; kernel_rfl)) ?_)
                        | (go_at_call 19; refine QC.out.mono ?_; rintro e w8 ⟨rfl, b8⟩; go_loud (have H8 := hide (And.intro (HB.out.1.below' b8) (And.intro (HB.out.2.1.below' b8) (Below.step HB.out.2.2 b8))); clear b8))
                        | ((with_reducible change wpList _ _ _ (⟨some 123, _, _, _, _, _⟩ :: _) _ _); refine wpList_load_row (o := ⟨some 123, .load _ _, _, _, _, _⟩) rfl 34 _ rfl g12 rfl 34 F2 (0, 0) _ H8.out.1 Tryz.underlying34 rfl (by rw [HF2.out.1]; kernel_rfl) ?_)
                        | ((with_reducible change wpList _ _ _ (⟨none, .store _ (.tmp 2) _, _, _, _, _⟩ :: _) _ _); go_loud (refine wpList_store_row (o := ⟨none, .store _ (.tmp 2) _, _, _, _, _⟩) H8.out.2.1 F2 (by rw [HF2.out.1]; kernel_rfl) HF2.out.2.1 rfl 34 _ _ rfl (by rw [HF2.out.1]; kernel_rfl) rfl rfl ?_; intro w7 hb7 hg7))
                      have hbw : Below w.heap.size w w7 := (HY.out.2.trans (H8.out.2.2.mono HY.out.2.size)).grown hg7 (Nat.le_trans HY.out.2.size H8.out.2.2.size) fun k hk => (by injection hk with hk; omega)
                      exact bodyPost_ret (results_row_tmp rfl _ _ w.heap.size 34 F2 (0, 0) _ rfl hb7 Tryz.underlying34 rfl (by rw [HF2.out.1]; kernel_rfl)) rfl ⟨hbw, rp_bad HF.out HF2.out.1 HF2.out.2.1⟩
      · have HF := hide (show capF (lst s) = some (0, 150) from capF_0 hls (by rw [← hpsf, q0]; intro h; refine hr ?_; cases x0; congr; exact Array.toList_inj.1 h))
        have z1 : (x0.toList == [115, 116, 114, 111, 110, 103, 114, 111, 111, 109]) = false := by
          rw [beq_eq_false_iff_ne, str_toList]
          intro h
          refine hr ?_
          cases x0
          congr
          exact Array.toList_inj.1 h
        clear hr hls hk2 hpsf q0
        go_wp2_with ((with_reducible change wpList _ _ _ (⟨none, .store _ (.tmp 2) _, _, _, _, _⟩ :: _) _ _); go_loud (refine wpList_store_row (o := ⟨none, .store _ (.tmp 2) _, _, _, _, _⟩) HZ.out.1 Tryz.zeroCells34 (by kernel_rfl) (by rw [capZ_eq]; exact CP.zero_one) rfl 34 _ _ rfl (by kernel_rfl) rfl rfl ?_; intro w7 hb7 hg7))
        refine bodyPost_ret (results_row_tmp rfl _ _ w.heap.size 34 Tryz.zeroCells34 (0, 0) _ rfl hb7 Tryz.underlying34 rfl (by kernel_rfl)) rfl ⟨HZ.out.2.grown hg7 HZ.out.2.size fun k hk => (by injection hk with hk; omega), rp_badZ HF.out⟩
end Go.Proofs.YtcpceaflnnkhnaaGreatDoor
