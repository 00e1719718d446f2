/- Joined texts: Fld, PrtA, Bst. -/
import Derived.Test.YtcpceaflnnkhnaaGreatDoorJ1
import Derived.Test.YtcpceaflnnkhnaaGreatDoorShelf
import Derived.Test.YtcpceaflnnkhnaaGreatDoorRows
import Derived.Test.YtcpceaflnnkhnaaGreatDoorJ2
import Derived.Laws.ResultCell

/- Contracts of Fields, the document's and the program's: lists of texts of the call's own. -/
namespace Go.Proofs.YtcpceaflnnkhnaaGreatDoor
open Go.RowKit

theorem elemT : Elem1 Tryz.prog 71 9 (.string ByteArray.empty) 16 := ⟨Tryz.underlying71, by kernel_rfl, rfl⟩
/-- A list of texts of the call's own. -/
def OwnT (w : World) (base : Nat) (v : Value) (ts : List ByteArray) : Prop := w.ownsRow base 9 1 v ts.length (ts.map Value.string)
theorem OwnT.nil (w : World) (base : Nat) : OwnT w base (.slice none 0 0) [] := World.ownsRow_nil w base _ 1
theorem OwnT.below {w w' : World} {base : Nat} {v : Value} {ts : List ByteArray} (h : OwnT w base v ts) (hb : Below w.heap.size w w') : OwnT w' base v ts := own_below' h hb
theorem OwnT.form {w : World} {base : Nat} {v : Value} {ts : List ByteArray} (h : OwnT w base v ts) :
    ∃ A c, v = .slice A ts.length c ∧ ts.length ≤ c ∧ c ≤ maxLen ∧ (∀ (k : Nat) (t : ByteArray), ts[k]? = some t → ∃ b o, A = some ⟨b, o, none⟩ ∧ b < w.heap.size ∧ w.cell? ⟨b, o + k, none⟩ = some (.string t)) := by
  obtain ⟨A, c, hv, hn, hc, h2⟩ := Sl.form (Sl.of_own h)
  refine ⟨A, c, hv, hn, hc, fun k x hx => ?_⟩
  have hk : k < ts.length := (List.getElem?_eq_some_iff.1 hx).1
  obtain ⟨b, o, hA, hlt, hcell⟩ := h2 (by omega)
  refine ⟨b, o, hA, hlt, ?_⟩
  rw [hcell k (by omega), List.getElem?_map, hx]; rfl

theorem lst_extract (s : ByteArray) (a b : Nat) : lst (s.extract a b) = ((lst s).take b).drop a := by
  simp [lst, ByteArray.data_extract, List.extract_eq_take_drop, List.drop_take]

/-- What the document's loop has done: the pieces so far, and where the piece at hand begins. -/
def FInv (l : List UInt8) (done : List (List UInt8)) (f i : Nat) : Prop := f ≤ i ∧ i ≤ l.length ∧ flds l = done ++ flds (l.drop f) ∧ (58 : UInt8) ∉ (l.drop f).take (i - f)
theorem FInv.start (l : List UInt8) : FInv l [] 0 0 := ⟨Nat.le_refl _, Nat.zero_le _, by simp, by simp⟩
theorem FInv.other {l : List UInt8} {done : List (List UInt8)} {f i : Nat} {c : UInt8} (h : FInv l done f i) (hc : l[i]? = some c) (hn : c ≠ 58) : FInv l done f (i + 1) := by
  obtain ⟨h1, h2, h3, h4⟩ := h
  have hi : i < l.length := (List.getElem?_eq_some_iff.1 hc).1
  refine ⟨by omega, by omega, h3, ?_⟩
  rw [show i + 1 - f = (i - f) + 1 by omega, List.take_add_one, List.getElem?_drop, show f + (i - f) = i by omega, hc]
  simp only [Option.toList_some, List.mem_append, List.mem_singleton, not_or]
  exact ⟨h4, fun e => hn e.symm⟩
theorem FInv.colon {l : List UInt8} {done : List (List UInt8)} {f i : Nat} (h : FInv l done f i) (hc : l[i]? = some 58) : FInv l (done ++ [(l.take i).drop f]) (i + 1) (i + 1) := by
  obtain ⟨h1, h2, h3, h4⟩ := h
  have hi : i < l.length := (List.getElem?_eq_some_iff.1 hc).1
  refine ⟨Nat.le_refl _, by omega, ?_, by simp⟩
  have e : l.drop f = (l.drop f).take (i - f) ++ 58 :: l.drop (i + 1) := by
    conv => lhs; rw [← List.take_append_drop (i - f) (l.drop f)]
    rw [List.drop_drop, show f + (i - f) = i by omega, List.drop_eq_getElem_cons hi]
    have : l[i] = 58 := by
      rw [List.getElem?_eq_getElem hi] at hc
      injection hc
    rw [this]
  rw [h3, e, flds_step _ _ h4, List.append_assoc, List.drop_take]
  rfl
theorem FInv.stop {l : List UInt8} {done : List (List UInt8)} {f : Nat} (h : FInv l done f l.length) : flds l = done ++ [l.drop f] := by
  obtain ⟨h1, h2, h3, h4⟩ := h
  rw [List.take_of_length_le (by simp)] at h4
  rw [h3, flds_one _ h4]


set_option maxRecDepth 100000 in
set_option maxHeartbeats 2000000 in
theorem rfields_any (s : ByteArray) (w : World) (hs : s.size ≤ 1099511627776) :
    Calls Tryz.prog 34 #[.string s] w fun e w' => ∃ v ts, e = .returned v ∧ OwnT w' w.heap.size v ts ∧ ts.map lst = flds (lst s) ∧ Below w.heap.size w w' := by
  have HLEN := hide (lst_len s)
  go_enter Tryz.func34, Tryz.ntmps34
  go_wp2
  go_loopw [3, 4, 5] (fun u3 u4 u5 wr => ∃ (f i : Nat) (ts : List ByteArray), f ≤ i ∧ i ≤ s.size ∧ u4 = .int .i64 (f : Int) ∧ u5 = .int .i64 (i : Int) ∧ OwnT wr w.heap.size u3 ts ∧ FInv (lst s) (ts.map lst) f i ∧ ts.length ≤ i ∧ Below w.heap.size w wr) (fun _ _ u5 _ => s.size - (intOf u5).toNat)
  case atStart => exact ⟨0, 0, [], by omega, by omega, rfl, rfl, OwnT.nil _ _, FInv.start _, by simp, Below.refl _ _⟩
  case round =>
    obtain ⟨f, i, ts, hfi, hi, rfl, rfl, hown, hinv, htl, hbel⟩ := hrel
    have HO := hide hown
    have HI := hide hinv
    clear hown hinv
    have i1 : (0 : Int) ≤ (f : Int) := by omega
    have i2 : (f : Int) ≤ (i : Int) := by omega
    have i3 : (i : Int) ≤ (s.size : Int) := by omega
    by_cases hlt : i < s.size
    · have hx := hide (lst_get s i hlt)
      have j1 : (i : Int) < (s.size : Int) := by omega
      have j2 : (0 : Int) ≤ (i : Int) := by omega
      by_cases hc : s[i] = 58
      · have hc1 : ((s[i].toNat : Int) == 58) = true := by rw [hc]; rfl
        have HN := hide (HI.out.colon (by rw [hx.out, hc]))
        clear hc
        go_wp2_with (at_builtin; go_loud (refine wpList_push1 elemT HO.out hbel hbel.size (by unfold maxLen; omega) (by omega) (.string (s.extract f i)) rfl rfl _ _ rfl rfl rfl ?_); intro v1 w4 ho4 hb4 _ hg4 _)
        go_roundw
        case rel =>
          refine ⟨i + 1, i + 1, ts ++ [s.extract f i], by omega, by omega, by go_num, by go_num, ?_, ?_, by simp; omega, hb4⟩
          · unfold OwnT
            rw [List.map_append, List.length_append]
            exact ho4
          · rw [List.map_append, List.map_cons, List.map_nil, lst_extract]
            exact HN.out
        case measure => simp [intOf]; omega
      · have hc1 : ((s[i].toNat : Int) == 58) = false := by
          simp only [beq_eq_false_iff_ne]
          intro h
          exact hc (UInt8.toNat_inj.1 (by have : s[i].toNat = 58 := by omega
                                          rw [this]; rfl))
        have HN := hide (HI.out.other hx.out hc)
        clear hc
        go_wp2
        go_roundw
        case rel => exact ⟨f, i + 1, ts, by omega, by omega, rfl, by go_num, HO.out, HN.out, by omega, hbel⟩
        case measure => simp [intOf]; omega
    · have his : i = s.size := by omega
      have HN := hide (FInv.stop (by have := HI.out; rw [his, ← HLEN.out] at this; exact this))
      have j1 : ¬ (i : Int) < (s.size : Int) := by omega
      have j4 : (f : Int) ≤ (s.size : Int) := by omega
      clear his
      go_wp2_with (at_builtin; go_loud (refine wpList_push1 elemT HO.out hbel hbel.size (by unfold maxLen; omega) (by omega) (.string (s.extract f s.size)) rfl rfl _ _ rfl rfl rfl ?_); intro v1 w4 ho4 hb4 _ hg4 _)
      go_ret
      refine ⟨v1, rfl, ts ++ [s.extract f s.size], ?_, ?_, hb4⟩
      · unfold OwnT
        rw [List.map_append, List.length_append]
        exact ho4
      · rw [List.map_append, List.map_cons, List.map_nil, lst_extract, HN.out, ← HLEN.out, List.take_of_length_le (Nat.le_refl _)]

set_option maxRecDepth 100000 in
set_option maxHeartbeats 800000 in
theorem bfields_any (s : ByteArray) (m : Int) (w : World) (hs : s.size < 4294967281) (hm : w.cell? ⟨1, 0, none⟩ = some (.int .i64 m)) :
    Calls Tryz.prog 59 #[.string s] w fun e w' => ∃ v ts, e = .returned v ∧ OwnT w' w.heap.size v ts ∧ ts.map lst = flds (lst s) ∧ Below w.heap.size w w' := by
  have q := Tryz.strings_Split s ⟨#[58]⟩ m w hs hm (by decide)
  have hlen : (Lib.splitB ⟨#[58]⟩ 0 (Lib.countB s ⟨#[58]⟩) s).length = Lib.countB s ⟨#[58]⟩ + 1 := Lib.splitB_all ⟨#[58]⟩ (by decide) 0 _ s rfl
  have hcs : Lib.countB s ⟨#[58]⟩ ≤ s.size := Lib.countB_le ⟨#[58]⟩ (by decide) s.size s (Nat.le_refl _)
  have hdat : (Lib.splitB ⟨#[58]⟩ 0 (Lib.countB s ⟨#[58]⟩) s).map lst = flds (lst s) := by
    rw [← splitK_flds]
    exact Lib.splitB_data _ _ _ _
  generalize Lib.countB s ⟨#[58]⟩ = k at *
  generalize Lib.splitB ⟨#[58]⟩ 0 k s = ts at *
  have n1 := Blk.new w 9 (ts.map Value.string).toArray
  have n2 := (Below.refl w.heap.size w).alloc (Nat.le_refl _) (.cells (ts.map Value.string).toArray 9)
  have H := hide (And.intro n1 (And.intro n2 (And.intro hlen hdat)))
  clear n1 n2 hlen hdat
  go_enter Tryz.func59, Tryz.ntmps59
  go_wp2_with fail
  refine q.mono ?_
  rintro e w' ⟨rfl, rfl⟩
  go_wp2
  go_ret
  refine ⟨_, ts, rfl, ?_, H.out.2.2.2, H.out.2.1⟩
  have ho := H.out.1.own (base := w.heap.size) (n := k + 1) (cap := k + 1) (sz := 1) rfl (Nat.le_refl _) (by simp [H.out.2.2.1]) (Nat.le_refl _) (by unfold maxLen; omega)
  unfold OwnT
  rw [H.out.2.2.1]
  have e : (ts.map Value.string).toArray.toList.take ((k + 1) * 1) = ts.map Value.string := by
    rw [List.take_of_length_le (by simp [H.out.2.2.1])]
  rw [e] at ho
  exact ho
end Go.Proofs.YtcpceaflnnkhnaaGreatDoor

/- The contract of the program's numbers: a list of numbers as a list of texts. -/
namespace Go.Proofs.YtcpceaflnnkhnaaGreatDoor
open Go.RowKit

set_option maxRecDepth 100000 in
set_option maxHeartbeats 1000000 in
theorem numbers_any (g c : Nat) (zs : List Int) (w : World) (hg : g < w.heap.size) (hc : ∀ k x, zs[k]? = some x → w.cell? ⟨g, k, none⟩ = some (.int .i64 x)) (hb : ∀ x ∈ zs, -9223372036854775808 ≤ x ∧ x ≤ 9223372036854775807) (hn : zs.length ≤ 1000) (ht : Tab w) :
    Calls Tryz.prog 205 #[.slice (some ⟨g, 0, none⟩) zs.length c] w fun e w' => ∃ v, e = .returned v ∧ OwnT w' w.heap.size v (zs.map numS) ∧ Below w.heap.size w w' := by
  have HC := hide (And.intro hc (And.intro hb ht))
  clear hc hb ht
  go_enter Tryz.func205, Tryz.ntmps205
  go_wp2
  go_loopw [3, 5, 6, 7, 10, 11] (fun u3 u5 u6 u7 u10 u11 wr => ∃ k : Nat, k ≤ zs.length ∧ u10 = .int .i64 k ∧ OwnT wr w.heap.size u3 ((zs.take k).map numS) ∧ Below w.heap.size w wr) (fun _ _ _ _ u10 _ _ => zs.length - (intOf u10).toNat)
  case atStart => exact ⟨0, by omega, rfl, OwnT.nil _ _, Below.refl _ _⟩
  case round =>
    obtain ⟨k, hk, rfl, ho, hbel⟩ := hrel
    have HO := hide ho
    clear ho
    have i2 : (0 : Int) ≤ (k : Int) := by omega
    by_cases hlt : k < zs.length
    · obtain ⟨x, hx⟩ : ∃ x, zs[k]? = some x := ⟨_, List.getElem?_eq_getElem hlt⟩
      have hcx : wr.cell? ⟨g, k, none⟩ = some (.int .i64 x) := (hbel.cell (p := ⟨g, k, none⟩) hg).trans (HC.out.1 k x hx)
      have hbx := HC.out.2.1 x (List.mem_of_getElem? hx)
      have i1 : (k : Int) < (zs.length : Int) := by omega
      have Q := hide (bnumber_any x wr hbx (HC.out.2.2.below hbel))
      have hts : (zs.take (k + 1)).map numS = (zs.take k).map numS ++ [numS x] := by rw [take_snoc zs k x hx, List.map_append]; rfl
      have HX := hide (And.intro hts hx)
      clear hx hbx hts
      go_wp2_with first
        | (go_at_call 208; refine Q.out.mono ?_; rintro e w1 ⟨rfl, b1⟩; go_loud (have H1 := hide (And.intro (HO.out.below (b1.mono (Nat.le_refl _))) (hbel.trans (b1.mono hbel.size))); clear b1))
        | (at_builtin; go_loud (refine wpList_push1 elemT H1.out.1 H1.out.2 H1.out.2.size (by unfold maxLen; simp; omega) (by simp; omega) (.string (numS x)) rfl rfl _ _ rfl rfl rfl ?_); intro v1 w4 ho4 hb4 _ hg4 _)
      go_roundw
      case rel =>
        refine ⟨k + 1, by omega, by go_num, ?_, hb4⟩
        rw [HX.out.1]
        unfold OwnT
        rw [List.map_append, List.length_append]
        exact ho4
      case measure => simp [intOf]; omega
    · have hkl : k = zs.length := by omega
      subst hkl
      go_wp2
      go_ret
      refine ⟨_, rfl, ?_, hbel⟩
      have := HO.out
      rwa [List.take_length] at this
end Go.Proofs.YtcpceaflnnkhnaaGreatDoor

/- Steps of worlds, one behind another. They hold of every program. -/
namespace Go.Proofs.YtcpceaflnnkhnaaGreatDoor
open Go.RowKit
theorem Below.step {w W W' : World} (h : Below w.heap.size w W) (h' : Below W.heap.size W W') : Below w.heap.size w W' := h.trans (h'.mono h.size)
theorem Below.al0 {w W : World} (h : Below w.heap.size w W) (o : Obj) : Below w.heap.size w (W.alloc o) := h.alloc h.size o
theorem results_row_tmp {P : Program} {fn : Func} {p u : Tmp} {ty : TypeId} (h : fn.results = #[.cell p ty, .tmp u]) (tmps : Array Value) (w : World) (g : Nat) (t : TypeId) (cs : Array Value) (fr : Nat × Nat) (d : TypeDesc)
    (hp : tmps.getD p undef = .pointer (some ⟨g, 0, none⟩)) (hg : w.heap[g]? = some (.cells cs t fr))
    (hu : P.underlying ty = some d) (hd : (match d with | .struct _ | .array _ _ => true | _ => false) = true) (hi : (P.info? ty).map (·.size) = some cs.size) :
    (results fn tmps).run P w = .ok (.tuple #[.agg cs, tmps.getD u undef]) w := by
  rw [results_cell_tmp h, hp]
  simp [asAddr, run_loadVar_row w g t ty cs fr d hg hu hd hi, Result.andThen]
end Go.Proofs.YtcpceaflnnkhnaaGreatDoor
