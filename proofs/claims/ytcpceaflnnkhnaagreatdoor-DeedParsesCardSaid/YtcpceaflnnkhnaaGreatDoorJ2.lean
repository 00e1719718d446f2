/- Joined texts: Mem3, ConB, Cat, CutM, AgP, DeedP, DeedC, DeedR, BaseA, BaseB, BaseC, BaseD, PsA. -/
import Derived.Test.YtcpceaflnnkhnaaGreatDoorJ1
import Derived.Lib.SlBytesConst
import Derived.Laws.IdiomStrings
import Derived.Deep.RegionHeld3
import Derived.Deep.DrawnRows
import Derived.Laws.Cover1
import Derived.Deep.RegionHeld
import Derived.Handy
import Derived.BigQuiet
import Derived.Deep.QuietTactic
import Derived.Test.YtcpceaflnnkhnaaGreatDoorRows
import Derived.Laws.StructEq
import Derived.Stop.BytesEq
import Derived.Deep.MidRow
import Derived.BigGuardPart

/- More lemmas on memory: what lies in a slice is appended to a row of the call's own. -/
namespace Go.Proofs.YtcpceaflnnkhnaaGreatDoor
open Go.RowKit

theorem run_append_none {P : Program} (w : World) (t ty e : TypeId) (i : TypeInfo) (ht : P.underlying t = some (.slice e)) (hi : P.info? e = some i) (A : Option Addr) (n c d : Nat) (hn : n ≤ c) :
    (Builtin.append_ #[t, t] ty #[.slice A n c, .slice none 0 d]).run P w = .ok (.slice A n c) w := by
  cases A with
  | none => simp [Builtin.append_, run_underlying ht, sizeOf, typeInfo, hi, Builtin.lenOf, Builtin.firstCells, loadCells, loadCellsFrom, storeCells, hn]
  | some a => simp [Builtin.append_, run_underlying ht, sizeOf, typeInfo, hi, Builtin.lenOf, Builtin.firstCells, loadCells, loadCellsFrom, storeCells, hn]

theorem run_pushS {P : Program} {t e : TypeId} {z : Value} {bytes : Nat} (T : Elem1 P t e z bytes) (ty : TypeId) {w : World} {base : Nat} {v : Value} {n : Nat} {xs : List Value} (hown : w.ownsRow base e 1 v n xs)
    {u : Value} {m : Nat} {ys : List Value} (hu : Sl w 1 u m ys) (h63 : n + m ≤ maxLen) (hbytes : (n + m) * bytes ≤ 140737488355328) (hbase : base ≤ w.heap.size) (h1 : ∀ y ∈ ys, y.oneCell' = true) :
    ∃ v' w', (Builtin.append_ #[t, t] ty #[v, u]).run P w = .ok v' w' ∧ w'.ownsRow base e 1 v' (n + m) (xs ++ ys) ∧ w.grownBy w' v.ownBlock ∧ (v'.ownBlock = v.ownBlock ∨ v'.ownBlock = some w.heap.size) := by
  obtain ⟨i, hi, hz, hs, hb⟩ := info_parts T.hi
  obtain ⟨hl, A, c, rfl, hc, hm, hcell⟩ := hu
  have hpos : (∃ ad, A = some ad ∧ ∀ (j : Nat) (x : Value), ys[j]? = some x → w.cell? (ad.add j) = some x) ∨ (A = none ∧ m = 0) := by
    rcases Nat.eq_zero_or_pos m with h0 | h0
    · subst h0
      cases A with
      | none => exact .inr ⟨rfl, rfl⟩
      | some ad =>
        have : ys = [] := List.eq_nil_of_length_eq_zero (by simpa using hl)
        subst this
        exact .inl ⟨ad, rfl, fun j x hx => by simp at hx⟩
    · obtain ⟨b, o, rfl, _, hcs⟩ := hcell h0
      refine .inl ⟨_, rfl, fun j x hx => ?_⟩
      have hj := (List.getElem?_eq_some_iff.1 hx).1
      have ea : (⟨b, o, none⟩ : Addr).add j = ⟨b, o + j, none⟩ := by simp [Addr.add]
      rw [ea, hcs j (by omega), hx]
  rcases hpos with ⟨ad, rfl, hcs⟩ | ⟨rfl, rfl⟩
  · obtain ⟨v', w', h2, h3, h4, -, h5⟩ := run_append_own_at (P := P) w base t ty e i z 1 bytes T.ht hi hz hs hb T.hz (by omega) v n xs hown ad m c ys hl hcs h1 h63 hbytes hbase
    exact ⟨v', w', h2, h3, h4, h5⟩
  · have : ys = [] := List.eq_nil_of_length_eq_zero (by simpa using hl)
    subst this
    obtain ⟨_, A', c', rfl, hn, -⟩ := Sl.of_own hown
    exact ⟨_, w, run_append_none w t ty e i T.ht hi A' n c' c hn, by simpa using hown, ⟨rfl, rfl, rfl, Nat.le_refl _, fun _ _ _ => rfl⟩, .inl rfl⟩

/-- 'append(out, s...)', out a row of bytes of the call's own. -/
theorem wpList_pushV {P : Program} {t e : TypeId} (T : Elem1 P t e (.int .u8 0) 1) {w : World} {base : Nat} {v : Value} {l : List UInt8} (hown : Own w base e v l)
    {w0 : World} (hb : Below base w0 w) (hbase : base ≤ w.heap.size) {u : Value} {m : List UInt8} (hu : By w u m) (hlen : l.length + m.length ≤ 140737488355328)
    {ops : Array Oper} {rest : List Oper} {o : Oper} {a : Act} {Q : Exit → Act → World → Prop} (hgd : o.guard = none) (s y : Operand)
    (ho : o.op = .call { callee := .builtin .append, args := #[s, y], argTypes := #[t, t] }) (hs : a.eval s = v) (hx : a.eval y = u)
    (h : ∀ v' w', Own w' base e v' (l ++ m) → Below base w0 w' → w.grownBy w' v.ownBlock → (v'.ownBlock = v.ownBlock ∨ v'.ownBlock = some w.heap.size) → wpList P ops Q rest (a.put o.dst v') w') :
    wpList P ops Q (o :: rest) a w := by
  refine wpList_plain hgd fun K hK => ?_
  obtain ⟨v', w', hrun, h3, h4, h6⟩ := run_pushS (P := P) T o.type hown hu (by unfold maxLen; omega) (by omega) hbase fun x hx => by
    obtain ⟨x, _, rfl⟩ := List.mem_map.1 hx
    rfl
  unfold Oper.wp execOp
  simp only [ho, resolve, invoke, builtin, Sem.run_bind, Sem.run_pure, Result.andThen_ok, List.map_toArray, List.map_cons, List.map_nil, hs, hx, hrun]
  refine hK _ _ (h v' w' ?_ (hb.grown h4 hbase fun k hk => (hown.lt k hk).1) h4 h6)
  unfold Own
  rw [bcells_append, List.length_append]
  exact h3
end Go.Proofs.YtcpceaflnnkhnaaGreatDoor

/- Bytes of a constant text, and of a text: a marked row of the call's own. -/
namespace Go.Proofs.YtcpceaflnnkhnaaGreatDoor
open Go.RowKit

theorem by_row {w : World} {g : Nat} {cs : Array Value} {e : TypeId} {f : Nat × Nat} {l : List UInt8} {c : Nat} (hh : w.heap[g]? = some (.cells cs e f)) (hc : l.length ≤ c) (hm : c ≤ maxLen)
    (hcs : ∀ j, j < l.length → cs[j]? = (bcells l)[j]?) : By w (.slice (some ⟨g, 0, none⟩) l.length c) l := by
  refine ⟨by simp, _, c, rfl, hc, hm, fun _ => ⟨g, 0, rfl, ?_, fun j hj => ?_⟩⟩
  · rcases Nat.lt_or_ge g w.heap.size with h | h
    · exact h
    · simp [Array.getElem?_eq_none h] at hh
  · rw [Nat.zero_add, cell_of_row w g j cs e f hh]
    exact hcs j (by omega)
theorem by_marked (w : World) (e : TypeId) (f : Nat × Nat) (l : List UInt8) (h : l.length ≤ 1000) : By (w.alloc (.cells (bcells l).toArray e f)) (.slice (some ⟨w.heap.size, 0, none⟩) l.length l.length) l :=
  by_row (heap_alloc_new w _) (Nat.le_refl _) (by unfold maxLen; omega) fun j hj => by simp
theorem by_ofstr (w : World) (e : TypeId) (s : ByteArray) (f : Nat × Nat) (h : s.size ≤ maxLen) : By (w.drew.alloc (.cells (bytesRow s (grownCap w s.size 0 e)) e f)) (.slice (some ⟨w.heap.size, 0, none⟩) s.size (grownCap w s.size 0 e)) (lst s) := by
  have := by_row (w := w.drew.alloc (.cells (bytesRow s (grownCap w s.size 0 e)) e f)) (g := w.heap.size) (l := lst s) (c := grownCap w s.size 0 e) (heap_alloc_new w.drew _) (by rw [lst_len]; exact grownCap_ge ..) (grownCap_le_maxLen _ _ _ _ h) fun j hj => by
    rw [lst_len] at hj
    unfold bytesRow bcells lst
    rw [Array.getElem?_append_left (by simp; omega)]
    simp
  rwa [lst_len] at this
/-- '[]byte(s)': bytes in memory that is new. -/
theorem run_bytes_str {P : Program} (src dst e : TypeId) (s : ByteArray) (w : World) (hs : P.underlying src = some .string) (hd : P.underlying dst = some (.slice e)) (he : P.underlying e = some (.int .u8)) (h : s.size ≤ maxLen) :
    ∃ g c w', (convert src dst (.string s)).run P w = .ok (.slice (some ⟨g, 0, none⟩) s.size c) w' ∧ By w' (.slice (some ⟨g, 0, none⟩) s.size c) (lst s) ∧ Below w.heap.size w w' ∧ g = w.heap.size ∧ w'.heap.size = w.heap.size + 1 ∧ s.size ≤ c ∧ c ≤ maxLen :=
  ⟨_, _, _, run_bytes_of_string w src dst e s hs hd he, by_ofstr w e s _ h, (Below.refl _ w).drew.alloc (Nat.le_refl _) _, rfl, by simp, grownCap_ge .., grownCap_le_maxLen _ _ _ _ h⟩
end Go.Proofs.YtcpceaflnnkhnaaGreatDoor

/- Contracts of the library's Grow and Concat, of Clone and IndexByte, at lists of bytes. -/
namespace Go.Proofs.YtcpceaflnnkhnaaGreatDoor
open Go.RowKit

theorem own_zero (w : World) (n c : Nat) (h1 : n ≤ c) (h2 : c ≤ maxLen) :
    Own (w.alloc (.cells (Builtin.zeroCells #[.int .u8 0] n ++ Builtin.zeroCells #[.int .u8 0] (c - n)) 5)).drew w.heap.size 5 (.slice (some ⟨w.heap.size, 0, none⟩) 0 c) [] := by
  have := (Blk.new w 5 (Builtin.zeroCells #[.int .u8 0] n ++ Builtin.zeroCells #[.int .u8 0] (c - n))).drew.own (base := w.heap.size) (e := 5) (n := 0) (cap := c) (sz := 1) rfl (Nat.le_refl _) (by simp [size_zeroCells]; omega) (Nat.zero_le _) h2
  simpa [Own, bcells] using this

set_option maxRecDepth 100000 in
set_option maxHeartbeats 1000000 in
theorem grow_any (n : Nat) (w : World) (hn : n ≤ 1099511627776) :
    Calls Tryz.prog 178 #[.slice none 0 0, .int .i64 (n : Int)] w fun e w' => ∃ v, e = .returned v ∧ Own w' w.heap.size 5 v [] ∧ Below w.heap.size w w' := by
  by_cases h0 : n = 0
  · have g1 : (n : Int) = 0 := by omega
    rw [g1]
    go_enter Tryz.func178, Tryz.ntmps178
    go_wp2
    go_ret
    exact ⟨_, rfl, Own.nil _ _ _, Below.refl _ _⟩
  · have g1 : ¬ (n : Int) < 0 := by omega
    have g2 : (0 : Int) < (n : Int) := by omega
    have g3 : ¬ (281474976710656 : Int) < (n : Int) * ((Tryz.t5).bytes : Int) := by
      have : ((Tryz.t5).bytes : Int) = 1 := by kernel_rfl
      rw [this]; omega
    have g4 : ¬ 281474976710656 < Builtin.nextslicecap n 0 * (Tryz.t5).bytes := by
      have h1 : (Tryz.t5).bytes = 1 := by kernel_rfl
      have h2 : Builtin.nextslicecap n 0 = n := by unfold Builtin.nextslicecap; simp; omega
      rw [h1, h2]; omega
    go_enter Tryz.func178, Tryz.ntmps178
    go_wp2
    go_ret
    refine ⟨_, rfl, ?_, ?_⟩
    · exact own_zero w n _ (grownCap_ge w n 0 5) (grownCap_le_maxLen w n 0 5 (by unfold maxLen; omega))
    · exact ((Below.refl _ w).alloc (Nat.le_refl _) _).drew

/-- A list of lists of bytes, by their values. -/
def Lsts (w : World) (v : Value) (L : List (Value × List UInt8)) : Prop := Sl w 1 v L.length (L.map (·.1)) ∧ ∀ x ∈ L, By w x.1 x.2
theorem Lsts.below {w w' : World} {v : Value} {L : List (Value × List UInt8)} (h : Lsts w v L) (hb : Below w.heap.size w w') : Lsts w' v L := ⟨h.1.below hb, fun x hx => (h.2 x hx).below hb⟩
def total (L : List (Value × List UInt8)) : Nat := (L.map (·.2.length)).sum
def cat (L : List (Value × List UInt8)) : List UInt8 := L.flatMap (·.2)
theorem total_snoc (L : List (Value × List UInt8)) (x : Value × List UInt8) : total (L ++ [x]) = total L + x.2.length := by simp [total]
theorem cat_snoc (L : List (Value × List UInt8)) (x : Value × List UInt8) : cat (L ++ [x]) = cat L ++ x.2 := by simp [cat]
theorem cat_length (L : List (Value × List UInt8)) : (cat L).length = total L := by
  induction L with
  | nil => rfl
  | cons x L ih => simp only [cat, total, List.flatMap_cons, List.length_append, List.map_cons, List.sum_cons] at ih ⊢; omega
theorem total_take (L : List (Value × List UInt8)) (k : Nat) : total (L.take k) ≤ total L := by
  have : total L = total (L.take k) + total (L.drop k) := by
    unfold total
    conv => lhs; rw [← List.take_append_drop k L, List.map_append, List.sum_append]
  omega

set_option maxRecDepth 100000 in
set_option maxHeartbeats 1000000 in
theorem concat_any (v : Value) (L : List (Value × List UInt8)) (w : World) (h : Lsts w v L) (ht : total L ≤ 1099511627776) :
    Calls Tryz.prog 164 #[v] w fun e w' => ∃ v', e = .returned v' ∧ Own w' w.heap.size 5 v' (cat L) ∧ Below w.heap.size w w' := by
  have HL := hide h
  obtain ⟨A, c, rfl, hc, hm, hcell⟩ := h.1.form
  have HC := hide hcell
  have HT := hide ht
  unfold maxLen at hm
  clear h hcell ht
  go_enter Tryz.func164, Tryz.ntmps164
  go_wp2
  go_loopw [3, 11] (fun u3 u11 wr => ∃ k t : Nat, k ≤ L.length ∧ u11 = .int .i64 k ∧ u3 = .int .i64 (t : Int) ∧ t = total (L.take k) ∧ w = wr) (fun _ i _ => L.length - (intOf i).toNat)
  case atStart => exact ⟨0, 0, by omega, rfl, rfl, by simp [total], rfl⟩
  case round =>
    obtain ⟨k, t, hk, rfl, rfl, ht, rfl⟩ := hrel
    have hle := total_take L k
    rw [← ht] at hle
    have HT2 := hide ht
    have hle2 : t ≤ 1099511627776 := Nat.le_trans hle HT.out
    clear ht hle
    by_cases hlt : k < L.length
    · obtain ⟨x, hx⟩ : ∃ x, L[k]? = some x := ⟨_, List.getElem?_eq_getElem hlt⟩
      obtain ⟨b, o, rfl, hbl, hcs⟩ := HC.out (by omega)
      have hcx : w.cell? ⟨b, o + k, none⟩ = some x.1 := by rw [hcs k (by omega)]; simp [hx]
      have hby := HL.out.2 x (List.mem_of_getElem? hx)
      have hsum : total (L.take (k + 1)) = t + x.2.length := by rw [take_snoc L k x hx, total_snoc, HT2.out]
      have hle3 := total_take L (k + 1)
      rw [hsum] at hle3
      have hle4 : t + x.2.length ≤ 1099511627776 := Nat.le_trans hle3 HT.out
      obtain ⟨A2, c2, hv2, _⟩ := hby.form
      rw [hv2] at hcx
      have HS := hide hsum
      clear hby hcs hx hv2 hsum hle3
      obtain ⟨y, hy⟩ : ∃ y : Nat, y = x.2.length := ⟨_, rfl⟩
      rw [← hy] at hcx hle4
      have HY := hide hy
      have i1 : (k : Int) < (L.length : Int) := by omega
      have i2 : (0 : Int) ≤ (k : Int) := by omega
      clear hy
      go_wp2
      go_roundw
      case rel => exact ⟨k + 1, t + y, by omega, by go_num, by go_num, by rw [HS.out, HY.out], trivial⟩
      case measure => simp [intOf]; omega
    · have hge : ¬ (k : Int) < (L.length : Int) := by omega
      have hks : k = L.length := by omega
      have htl : t = total L := by rw [HT2.out, hks, List.take_length]
      have HQ := hide (grow_any t w (by omega))
      have HK := hide htl
      clear hks htl HT2
      go_wp2_with fail
      refine HQ.out.mono ?_
      rintro e w1 ⟨v0, rfl, o1, b1⟩
      have HO1 := hide o1
      clear HQ o1 hge hlt hk
      go_wp2_with fail
      go_loopw [6, 27] (fun u6 u27 wr => ∃ k : Nat, k ≤ L.length ∧ u27 = .int .i64 k ∧ Own wr w.heap.size 5 u6 (cat (L.take k)) ∧ Below w.heap.size w wr) (fun _ i _ => L.length - (intOf i).toNat)
      case atStart => exact ⟨0, by omega, rfl, HO1.out, b1⟩
      case round =>
        obtain ⟨k, hk, rfl, ho, hb⟩ := hrel
        have HO := hide ho
        clear ho
        by_cases hlt : k < L.length
        · obtain ⟨x, hx⟩ : ∃ x, L[k]? = some x := ⟨_, List.getElem?_eq_getElem hlt⟩
          obtain ⟨b, o, rfl, hbl, hcs⟩ := HC.out (by omega)
          have hcx : wr.cell? ⟨b, o + k, none⟩ = some x.1 := by rw [hb.cell (p := ⟨b, o + k, none⟩) hbl, hcs k (by omega)]; simp [hx]
          have hby := (HL.out.2 x (List.mem_of_getElem? hx)).below hb
          have hsum : total (L.take (k + 1)) = total (L.take k) + x.2.length := by rw [take_snoc L k x hx, total_snoc]
          have hle3 := total_take L (k + 1)
          have hlen : (cat (L.take k)).length + x.2.length ≤ 140737488355328 := by
            rw [cat_length, ← hsum]
            have := HT.out
            omega
          have hcat : cat (L.take (k + 1)) = cat (L.take k) ++ x.2 := by rw [take_snoc L k x hx, cat_snoc]
          have HCAT := hide hcat
          have HY := hide hby
          obtain ⟨A2, c2, hv2, _⟩ := hby.form
          rw [hv2] at hcx
          have HV := hide hv2
          have HLEN := hide hlen
          clear hby hcs hx hv2 hsum hle3 hcat hlen
          obtain ⟨y, hy⟩ : ∃ y : Nat, y = x.2.length := ⟨_, rfl⟩
          rw [← hy] at hcx
          have HY2 := hide hy
          have i1 : (k : Int) < (L.length : Int) := by omega
          have i2 : (0 : Int) ≤ (k : Int) := by omega
          clear hy
          go_wp2_with (at_builtin; go_loud (refine wpList_pushV elem8 HO.out hb hb.size HY.out HLEN.out rfl _ _ rfl rfl (by rw [HV.out, ← HY2.out]; rfl) ?_); intro v1 w1 hown1 hbel1 hgr1 _)
          go_roundw
          case rel => exact ⟨k + 1, by omega, by go_num, by rw [HCAT.out]; exact hown1, hbel1⟩
          case measure => simp [intOf]; omega
        · have hge : ¬ (k : Int) < (L.length : Int) := by omega
          have hks : k = L.length := by omega
          have hend := HO.out
          rw [hks, List.take_length] at hend
          have HE := hide hend
          clear hks hend HO
          go_wp2
          go_ret
          exact ⟨_, rfl, HE.out, hb⟩
end Go.Proofs.YtcpceaflnnkhnaaGreatDoor

/- Joined texts: CutA, CutB, CutC. -/


/- Contracts of the program's shapes: up, shape, Again. -/
namespace Go.Proofs.YtcpceaflnnkhnaaGreatDoor
open Go.RowKit
attribute [local go_sem ↓] Go.wp_at_zero Go.wp_at_succ

def upN (a b : Nat) : Nat := (a + b - 1) / b
theorem wrap64_nat (n : Nat) (h : n < 9223372036854775808) : wrap64 (n : Int) = (n : Int) := by unfold wrap64; omega

set_option maxRecDepth 100000 in
set_option maxHeartbeats 400000 in
theorem up_any (a b : Nat) (w : World) (hb : 1 ≤ b) (hb2 : b ≤ 1099511627776) (ha : a ≤ 1099511627776) :
    Calls Tryz.prog 209 #[.int .i64 (a : Int), .int .i64 (b : Int)] w fun e w' => e = .returned (.int .i64 (upN a b : Int)) ∧ w = w' := by
  obtain ⟨c, hc⟩ : ∃ c : Nat, c = a + b - 1 := ⟨_, rfl⟩
  have e1 : (a : Int) + (b : Int) - 1 = (c : Int) := by omega
  have e4 : ¬ (b : Int) = 0 := by omega
  have hcb : c / b ≤ c := Nat.div_le_self _ _
  have hfin : wrap64 ((c : Int) / (b : Int)) = (upN a b : Int) := by
    have h1 : (c : Int) / (b : Int) = ((c / b : Nat) : Int) := rfl
    rw [h1, wrap64_nat _ (by omega)]
    unfold upN
    rw [hc]
  rw [hc] at hfin
  have HF := hide hfin
  clear hcb hfin
  go_enter Tryz.func209, Tryz.ntmps209
  go_wp2
  go_ret
  exact ⟨ret_int HF.out, rfl⟩

def shapeV (k n seg size : Nat) : Value := .agg #[.int .i64 (k : Int), .int .i64 (n : Int), .int .i64 (seg : Int), .int .i64 (size : Int), .int .i64 (upN size seg : Int), .int .i64 ((size - (upN size seg - 1) * seg : Nat) : Int), .int .i64 ((seg / k : Nat) : Int), .int .i64 (upN (size - (upN size seg - 1) * seg) k : Int)]

theorem upN_le (a b : Nat) (hb : 1 ≤ b) : upN a b ≤ a := by
  unfold upN
  rcases Nat.eq_zero_or_pos a with h | h
  · subst h
    rw [Nat.zero_add, Nat.div_eq_of_lt (by omega)]
    exact Nat.le_refl _
  · have : (a + b - 1) / b ≤ (a * b) / b := Nat.div_le_div_right (by
      have := Nat.mul_le_mul (show 1 ≤ a from h) (show 1 ≤ b from hb)
      obtain ⟨a', rfl⟩ : ∃ a', a = a' + 1 := ⟨a - 1, by omega⟩
      obtain ⟨b', rfl⟩ : ∃ b', b = b' + 1 := ⟨b - 1, by omega⟩
      have : (a' + 1) * (b' + 1) = a' * b' + a' + b' + 1 := by rw [Nat.add_mul, Nat.mul_add]; omega
      have := Nat.zero_le (a' * b')
      omega)
    rwa [Nat.mul_div_cancel _ (by omega)] at this
theorem upN_spec (a b : Nat) (hb : 1 ≤ b) (ha : 1 ≤ a) : 1 ≤ upN a b ∧ (upN a b - 1) * b < a ∧ a ≤ upN a b * b := by
  unfold upN
  have h1 := Nat.div_add_mod (a + b - 1) b
  have h2 := Nat.mod_lt (a + b - 1) (show 0 < b by omega)
  generalize (a + b - 1) / b = q at *
  have hq : 1 ≤ q := by
    rcases Nat.eq_zero_or_pos q with h | h
    · subst h; rw [Nat.mul_zero] at h1; omega
    · exact h
  obtain ⟨q', rfl⟩ : ∃ q', q = q' + 1 := ⟨q - 1, by omega⟩
  rw [Nat.mul_add, Nat.mul_comm b q'] at h1
  rw [Nat.add_sub_cancel, Nat.add_mul]
  generalize q' * b = z at *
  omega

set_option maxRecDepth 100000 in
set_option maxHeartbeats 4000000 in
theorem shape_any (k n seg size : Nat) (w : World) (hk : 1 ≤ k) (hk2 : k ≤ 1048576) (hs : 1 ≤ seg) (hs2 : seg ≤ 1048576) (hz : 1 ≤ size) (hz2 : size ≤ 16777216) :
    Calls Tryz.prog 210 #[.int .i64 (k : Int), .int .i64 (n : Int), .int .i64 (seg : Int), .int .i64 (size : Int)] w fun e w' => e = .returned (shapeV k n seg size) ∧ Below w.heap.size w w' := by
  have u1 := fun w => up_any size seg w hs (by omega) (by omega)
  have h1 := upN_spec size seg hs hz
  have h2 := upN_le size seg hs
  have ht : size - (upN size seg - 1) * seg ≤ size := Nat.sub_le _ _
  have u2 := fun w => up_any (size - (upN size seg - 1) * seg) k w hk (by omega) (by omega)
  unfold shapeV
  generalize hA : upN size seg = A at *
  have h3 : ((A - 1) * seg : Nat) ≤ size := by omega
  have e1 : ((A : Int) - 1) * (seg : Int) = (((A - 1) * seg : Nat) : Int) := by rw [Int.natCast_mul]; congr 1; omega
  generalize hB : (A - 1) * seg = B at *
  generalize hC : upN (size - B) k = C at *
  obtain ⟨q, hq⟩ : ∃ q : Nat, q = seg / k := ⟨_, rfl⟩
  have e2 : (seg : Int) / (k : Int) = (q : Int) := by rw [hq]; rfl
  have hq2 : q ≤ 1048576 := by have := Nat.div_le_self seg k; omega
  have e4 : ¬ k = 0 := by omega
  rw [← hq]
  clear h1 hB hA hC hq
  go_enter Tryz.func210, Tryz.ntmps210
  go_wp2_with fail
  go_region_held3 (fun _ => True) (trivial) ((go_at_call 209; (with_reducible refine (u1 _).mono ?_); rintro e w1 ⟨rfl, rfl⟩))
  all_goals
    go_wp2_with fail
    rw [show (size : Int) - (B : Int) = ((size - B : Nat) : Int) by omega]
    refine (u2 _).mono ?_
    rintro e w2 ⟨rfl, rfl⟩
    go_wp2
    go_returns
    refine ⟨rfl, ?_⟩
    go_grown
end Go.Proofs.YtcpceaflnnkhnaaGreatDoor

/- The contract of the program's Again, and of Check. -/
namespace Go.Proofs.YtcpceaflnnkhnaaGreatDoor
open Go.RowKit
attribute [local go_sem ↓] Go.wp_at_zero Go.wp_at_succ

/-- The four numbers of a shape that may be. -/
def agOK (k n seg size : Int) : Prop := (1 ≤ n ∧ n ≤ 255 ∧ 1 ≤ k ∧ k ≤ n ∧ 1 ≤ seg) ∧ seg % k = 0 ∧ seg / k ≤ (upN 65536 k.toNat : Int) ∧ 32 < size ∧ size ≤ 16777216 ∧ upN size.toNat seg.toNat ≤ 512
def zeroShape : Value := .agg #[.int .i64 0, .int .i64 0, .int .i64 0, .int .i64 0, .int .i64 0, .int .i64 0, .int .i64 0, .int .i64 0]

def set8 (w : World) (g : Nat) (v0 v1 v2 v3 v4 v5 v6 v7 : Value) : World :=
  (((((((w.setCell ⟨g, 0, none⟩ v0).setCell ⟨g, 1, none⟩ v1).setCell ⟨g, 2, none⟩ v2).setCell ⟨g, 3, none⟩ v3).setCell ⟨g, 4, none⟩ v4).setCell ⟨g, 5, none⟩ v5).setCell ⟨g, 6, none⟩ v6).setCell ⟨g, 7, none⟩ v7
theorem blk_set8 {w : World} {g : Nat} {t : TypeId} {a0 a1 a2 a3 a4 a5 a6 a7 : Value} (h : Blk w g t #[a0, a1, a2, a3, a4, a5, a6, a7]) (v0 v1 v2 v3 v4 v5 v6 v7 : Value) :
    Blk (set8 w g v0 v1 v2 v3 v4 v5 v6 v7) g t #[v0, v1, v2, v3, v4, v5, v6, v7] := by
  have := (((((((h.set_ 0 v0).set_ 1 v1).set_ 2 v2).set_ 3 v3).set_ 4 v4).set_ 5 v5).set_ 6 v6).set_ 7 v7
  simpa [set8] using this
theorem set8_cells {w : World} {g : Nat} {t : TypeId} {a0 a1 a2 a3 a4 a5 a6 a7 : Value} (h : Blk w g t #[a0, a1, a2, a3, a4, a5, a6, a7]) (v0 v1 v2 v3 v4 v5 v6 v7 : Value) :
    (set8 w g v0 v1 v2 v3 v4 v5 v6 v7).cell? ⟨g, 0, none⟩ = some v0 ∧ (set8 w g v0 v1 v2 v3 v4 v5 v6 v7).cell? ⟨g, 1, none⟩ = some v1 ∧ (set8 w g v0 v1 v2 v3 v4 v5 v6 v7).cell? ⟨g, 2, none⟩ = some v2 ∧ (set8 w g v0 v1 v2 v3 v4 v5 v6 v7).cell? ⟨g, 3, none⟩ = some v3 ∧
    (set8 w g v0 v1 v2 v3 v4 v5 v6 v7).cell? ⟨g, 4, none⟩ = some v4 ∧ (set8 w g v0 v1 v2 v3 v4 v5 v6 v7).cell? ⟨g, 5, none⟩ = some v5 ∧ (set8 w g v0 v1 v2 v3 v4 v5 v6 v7).cell? ⟨g, 6, none⟩ = some v6 ∧ (set8 w g v0 v1 v2 v3 v4 v5 v6 v7).cell? ⟨g, 7, none⟩ = some v7 := by
  have hb := blk_set8 h v0 v1 v2 v3 v4 v5 v6 v7
  exact ⟨hb.cell 0, hb.cell 1, hb.cell 2, hb.cell 3, hb.cell 4, hb.cell 5, hb.cell 6, hb.cell 7⟩

set_option maxRecDepth 100000 in
set_option maxHeartbeats 1000000 in
theorem again_early (k n seg size : Int) (w : World) (h : ¬ (1 ≤ n ∧ n ≤ 255 ∧ 1 ≤ k ∧ k ≤ n ∧ 1 ≤ seg)) :
    Calls Tryz.prog 206 #[.int .i64 k, .int .i64 n, .int .i64 seg, .int .i64 size] w fun e w' => Below w.heap.size w w' ∧ e = .returned (.tuple #[zeroShape, .int .i64 92]) := by
  by_cases c1 : n < 1
  · have g1 : decide (n < 1) = true := decide_eq_true c1
    clear h c1
    go_enter Tryz.func206, Tryz.ntmps206
    go_wp2_with fail
    go_quiet (fail)
    go_wp2
    go_returns
    refine ⟨?_, rfl⟩
    go_grown
    exact below_drewN ((Below.refl _ w).alloc (Nat.le_refl _) _) _
  · have g1 : decide (n < 1) = false := decide_eq_false c1
    by_cases c2 : 255 < n
    · have g2 : decide (255 < n) = true := decide_eq_true c2
      clear h c1 c2
      go_enter Tryz.func206, Tryz.ntmps206
      go_wp2_with fail
      go_quiet (fail)
      go_wp2
      go_returns
      refine ⟨?_, rfl⟩
      go_grown
      exact below_drewN ((Below.refl _ w).alloc (Nat.le_refl _) _) _
    · have g2 : decide (255 < n) = false := decide_eq_false c2
      by_cases c3 : k < 1
      · have g3 : decide (k < 1) = true := decide_eq_true c3
        clear h c1 c2 c3
        go_enter Tryz.func206, Tryz.ntmps206
        go_wp2_with fail
        go_quiet (fail)
        go_wp2
        go_returns
        refine ⟨?_, rfl⟩
        go_grown
        exact below_drewN ((Below.refl _ w).alloc (Nat.le_refl _) _) _
      · have g3 : decide (k < 1) = false := decide_eq_false c3
        by_cases c4 : n < k
        · have g4 : decide (n < k) = true := decide_eq_true c4
          clear h c1 c2 c3 c4
          go_enter Tryz.func206, Tryz.ntmps206
          go_wp2_with fail
          go_quiet (fail)
          go_wp2
          go_returns
          refine ⟨?_, rfl⟩
          go_grown
          exact below_drewN ((Below.refl _ w).alloc (Nat.le_refl _) _) _
        · have g4 : decide (n < k) = false := decide_eq_false c4
          have g5 : decide (seg < 1) = true := decide_eq_true (by omega)
          clear h c1 c2 c3 c4
          go_enter Tryz.func206, Tryz.ntmps206
          go_wp2_with fail
          go_quiet (fail)
          go_wp2
          go_returns
          refine ⟨?_, rfl⟩
          go_grown
          exact below_drewN ((Below.refl _ w).alloc (Nat.le_refl _) _) _

set_option maxRecDepth 100000 in
set_option maxHeartbeats 8000000 in
theorem again_late (k n seg : Nat) (size : Int) (w : World) (h : 1 ≤ n ∧ n ≤ 255 ∧ 1 ≤ k ∧ k ≤ n ∧ 1 ≤ seg) (hseg : (seg : Int) ≤ 9223372036854775807) (hsz : -9223372036854775808 ≤ size ∧ size ≤ 9223372036854775807)
    (hbad : ¬ (seg % k = 0 ∧ seg / k ≤ upN 65536 k ∧ 32 < size ∧ size ≤ 16777216)) :
    Calls Tryz.prog 206 #[.int .i64 (k : Int), .int .i64 (n : Int), .int .i64 (seg : Int), .int .i64 size] w fun e w' => Below w.heap.size w w' ∧ e = .returned (.tuple #[zeroShape, .int .i64 92]) := by
  have hu : ∀ w, Calls Tryz.prog 209 #[.int .i64 65536, .int .i64 (k : Int)] w fun e w' => e = .returned (.int .i64 (upN 65536 k : Int)) ∧ w = w' := fun w => up_any 65536 k w (by omega) (by omega) (by omega)
  have hul := upN_le 65536 k (by omega)
  obtain ⟨m, hm⟩ : ∃ m : Nat, m = seg % k := ⟨_, rfl⟩
  obtain ⟨q, hq⟩ : ∃ q : Nat, q = seg / k := ⟨_, rfl⟩
  have e1 : (seg : Int) % (k : Int) = (m : Int) := by rw [hm]; rfl
  have e2 : (seg : Int) / (k : Int) = (q : Int) := by rw [hq]; rfl
  have e3 : (seg : Int).tmod (k : Int) = (m : Int) := by rw [hm]; rfl
  have e4 : (seg : Int).tdiv (k : Int) = (q : Int) := by rw [hq]; rfl
  have hm2 : m < k := by rw [hm]; exact Nat.mod_lt _ (by omega)
  have hq2 : q ≤ seg := by rw [hq]; exact Nat.div_le_self _ _
  have e5 : ¬ k = 0 := by omega
  have e6 : ¬ (k : Int) = 0 := by omega
  rw [← hm, ← hq] at hbad
  generalize upN 65536 k = U at *
  have i1 : decide ((n : Int) < 1) = false := decide_eq_false (by omega)
  have i2 : decide ((255 : Int) < (n : Int)) = false := decide_eq_false (by omega)
  have i3 : decide ((k : Int) < 1) = false := decide_eq_false (by omega)
  have i4 : decide ((n : Int) < (k : Int)) = false := decide_eq_false (by omega)
  have i6 : decide (n < k) = false := decide_eq_false (by omega)
  have wq : IntKind.i64.wrap (q : Int) = (q : Int) := IntWalk.i64_in _ (by omega)
  have i5 : decide ((seg : Int) < 1) = false := decide_eq_false (by omega)
  clear hm hq
  by_cases c1 : m = 0
  · have c1' : ((m : Int) == 0) = true := beq_iff_eq.2 (by omega)
    by_cases c2 : U < q
    · have c2' : decide ((U : Int) < (q : Int)) = true := decide_eq_true (by omega)
      have c2n : decide (U < q) = true := decide_eq_true c2
      clear hbad
      go_enter Tryz.func206, Tryz.ntmps206
      go_wp2_with fail
      go_quiet ((go_at_call 209; exact Calls.quiet_of_same ((hu _).mono fun e w' ⟨h1, h2⟩ => ⟨h1, h2.symm⟩)))
      go_wp2
      go_returns
      refine ⟨?_, rfl⟩
      go_grown
      exact below_drewN ((Below.refl _ w).alloc (Nat.le_refl _) _) _
    · have c2' : decide ((U : Int) < (q : Int)) = false := decide_eq_false (by omega)
      have c2n : decide (U < q) = false := decide_eq_false c2
      by_cases c3 : size ≤ 32
      · have c3' : decide (size ≤ 32) = true := decide_eq_true c3
        clear hbad
        go_enter Tryz.func206, Tryz.ntmps206
        go_wp2_with fail
        go_quiet ((go_at_call 209; exact Calls.quiet_of_same ((hu _).mono fun e w' ⟨h1, h2⟩ => ⟨h1, h2.symm⟩)))
        go_wp2
        go_returns
        refine ⟨?_, rfl⟩
        go_grown
        exact below_drewN ((Below.refl _ w).alloc (Nat.le_refl _) _) _
      · have c3' : decide (size ≤ 32) = false := decide_eq_false c3
        have c4 : decide (16777216 < size) = true := decide_eq_true (by omega)
        clear hbad
        go_enter Tryz.func206, Tryz.ntmps206
        go_wp2_with fail
        go_quiet ((go_at_call 209; exact Calls.quiet_of_same ((hu _).mono fun e w' ⟨h1, h2⟩ => ⟨h1, h2.symm⟩)))
        go_wp2
        go_returns
        refine ⟨?_, rfl⟩
        go_grown
        exact below_drewN ((Below.refl _ w).alloc (Nat.le_refl _) _) _
  · have c1' : ((m : Int) == 0) = false := beq_eq_false_iff_ne.2 (by omega)
    clear hbad
    go_enter Tryz.func206, Tryz.ntmps206
    go_wp2_with fail
    go_quiet ((go_at_call 209; exact Calls.quiet_of_same ((hu _).mono fun e w' ⟨h1, h2⟩ => ⟨h1, h2.symm⟩)))
    go_wp2
    go_returns
    refine ⟨?_, rfl⟩
    go_grown
    exact below_drewN ((Below.refl _ w).alloc (Nat.le_refl _) _) _

set_option maxRecDepth 100000 in
set_option maxHeartbeats 8000000 in
theorem again_shape (k n seg size : Nat) (w : World) (h : 1 ≤ n ∧ n ≤ 255 ∧ 1 ≤ k ∧ k ≤ n ∧ 1 ≤ seg)
    (hok : seg % k = 0 ∧ seg / k ≤ upN 65536 k ∧ 32 < size ∧ size ≤ 16777216) :
    Calls Tryz.prog 206 #[.int .i64 (k : Int), .int .i64 (n : Int), .int .i64 (seg : Int), .int .i64 (size : Int)] w fun e w' => Below w.heap.size w w' ∧
      e = .returned (if upN size seg ≤ 512 then .tuple #[shapeV k n seg size, .int .i64 0] else .tuple #[zeroShape, .int .i64 92]) := by
  have hsg : seg ≤ 1048576 := by
    have h1 := Nat.div_add_mod seg k
    have h2 := upN_spec 65536 k (by omega) (by omega)
    have h3 : k * (seg / k) ≤ k * upN 65536 k := Nat.mul_le_mul_left k hok.2.1
    have h4 : (upN 65536 k - 1) * k < 65536 := h2.2.1
    have h5 : k * upN 65536 k = (upN 65536 k - 1) * k + k := by
      obtain ⟨u, hu⟩ : ∃ u, upN 65536 k = u + 1 := ⟨upN 65536 k - 1, by omega⟩
      rw [hu, Nat.add_sub_cancel, Nat.mul_add, Nat.mul_comm]; omega
    omega
  have hs := fun w => shape_any k n seg size w (by omega) (by omega) (by omega) hsg (by omega) (by omega)
  have hu : ∀ w, Calls Tryz.prog 209 #[.int .i64 65536, .int .i64 (k : Int)] w fun e w' => e = .returned (.int .i64 (upN 65536 k : Int)) ∧ w = w' := fun w => up_any 65536 k w (by omega) (by omega) (by omega)
  have hul := upN_le 65536 k (by omega)
  obtain ⟨m, hm⟩ : ∃ m : Nat, m = seg % k := ⟨_, rfl⟩
  obtain ⟨q, hq⟩ : ∃ q : Nat, q = seg / k := ⟨_, rfl⟩
  have e1 : (seg : Int) % (k : Int) = (m : Int) := by rw [hm]; rfl
  have e2 : (seg : Int) / (k : Int) = (q : Int) := by rw [hq]; rfl
  have e3 : (seg : Int).tmod (k : Int) = (m : Int) := by rw [hm]; rfl
  have e4 : (seg : Int).tdiv (k : Int) = (q : Int) := by rw [hq]; rfl
  have hm2 : m < k := by rw [hm]; exact Nat.mod_lt _ (by omega)
  have hq2 : q ≤ seg := by rw [hq]; exact Nat.div_le_self _ _
  have e5 : ¬ k = 0 := by omega
  have e6 : ¬ (k : Int) = 0 := by omega
  rw [← hm, ← hq] at hok
  have hS := hide hs
  unfold shapeV at hs
  have hQ := upN_le size seg (by omega)
  have HS : Hid (∀ w, Calls Tryz.prog 210 #[.int .i64 (k : Int), .int .i64 (n : Int), .int .i64 (seg : Int), .int .i64 (size : Int)] w fun e w' => ∃ z5 z6 z7 : Int, e = .returned (.agg #[.int .i64 (k : Int), .int .i64 (n : Int), .int .i64 (seg : Int), .int .i64 (size : Int), .int .i64 (upN size seg : Int), .int .i64 z5, .int .i64 z6, .int .i64 z7]) ∧ Below w.heap.size w w' ∧ shapeV k n seg size = .agg #[.int .i64 (k : Int), .int .i64 (n : Int), .int .i64 (seg : Int), .int .i64 (size : Int), .int .i64 (upN size seg : Int), .int .i64 z5, .int .i64 z6, .int .i64 z7]) := fun w =>
    (hs w).mono fun e w' ⟨h1, h2⟩ => ⟨_, _, _, h1, h2, rfl⟩
  clear hs hS
  generalize upN 65536 k = U at *
  generalize upN size seg = Z at *
  have i1 : decide ((n : Int) < 1) = false := decide_eq_false (by omega)
  have i2 : decide ((255 : Int) < (n : Int)) = false := decide_eq_false (by omega)
  have i3 : decide ((k : Int) < 1) = false := decide_eq_false (by omega)
  have i4 : decide ((n : Int) < (k : Int)) = false := decide_eq_false (by omega)
  have i6 : decide (n < k) = false := decide_eq_false (by omega)
  have wq : IntKind.i64.wrap (q : Int) = (q : Int) := IntWalk.i64_in _ (by omega)
  have i5 : decide ((seg : Int) < 1) = false := decide_eq_false (by omega)
  have c1 : m = 0 := hok.1
  have c1' : ((m : Int) == 0) = true := beq_iff_eq.2 (by omega)
  have c2' : decide ((U : Int) < (q : Int)) = false := decide_eq_false (by omega)
  have c2n : decide (U < q) = false := decide_eq_false (by omega)
  have c3n : decide (size ≤ 32) = false := decide_eq_false (by omega)
  have c4n : decide (16777216 < size) = false := decide_eq_false (by omega)
  have c3 : decide ((size : Int) ≤ 32) = false := decide_eq_false (by omega)
  have c4 : decide ((16777216 : Int) < (size : Int)) = false := decide_eq_false (by omega)
  clear hm hq hok
  by_cases c5 : Z ≤ 512
  · rw [if_pos c5]
    have c5' : ¬ (512 : Int) < (Z : Int) := by omega
    go_enter Tryz.func206, Tryz.ntmps206
    go_wp2_with fail
    go_quiet ((go_at_call 209; exact Calls.quiet_of_same ((hu _).mono fun e w' ⟨h1, h2⟩ => ⟨h1, h2.symm⟩)))
    go_wp2_with fail
    refine (HS.out _).mono ?_
    rintro e w2 ⟨z5, z6, z7, rfl, b2, hz⟩
    have hzz := hide hz
    have hbl : Blk w2 w.heap.size 100 #[.int .i64 0, .int .i64 0, .int .i64 0, .int .i64 0, .int .i64 0, .int .i64 0, .int .i64 0, .int .i64 0] := Blk.below' (Blk.drewN (Blk.new w _ _) _) b2
    have B2 : Hid (Below w.heap.size w w2) := (below_drewN ((Below.refl _ w).alloc (Nat.le_refl _) _) _).trans (b2.mono (by simp))
    have f0 : ∀ o, (w2.alloc o).cell? ⟨w.heap.size, 0, none⟩ = some (.int .i64 0) := fun o => (hbl.alloc o).cell 0
    have g0 := fun o => (hbl.alloc o).frozen 0
    have f1 : ∀ o, (w2.alloc o).cell? ⟨w.heap.size, 1, none⟩ = some (.int .i64 0) := fun o => (hbl.alloc o).cell 1
    have g1 := fun o => (hbl.alloc o).frozen 1
    have f2 : ∀ o, (w2.alloc o).cell? ⟨w.heap.size, 2, none⟩ = some (.int .i64 0) := fun o => (hbl.alloc o).cell 2
    have g2 := fun o => (hbl.alloc o).frozen 2
    have f3 : ∀ o, (w2.alloc o).cell? ⟨w.heap.size, 3, none⟩ = some (.int .i64 0) := fun o => (hbl.alloc o).cell 3
    have g3 := fun o => (hbl.alloc o).frozen 3
    have f4 : ∀ o, (w2.alloc o).cell? ⟨w.heap.size, 4, none⟩ = some (.int .i64 0) := fun o => (hbl.alloc o).cell 4
    have g4 := fun o => (hbl.alloc o).frozen 4
    have f5 : ∀ o, (w2.alloc o).cell? ⟨w.heap.size, 5, none⟩ = some (.int .i64 0) := fun o => (hbl.alloc o).cell 5
    have g5 := fun o => (hbl.alloc o).frozen 5
    have f6 : ∀ o, (w2.alloc o).cell? ⟨w.heap.size, 6, none⟩ = some (.int .i64 0) := fun o => (hbl.alloc o).cell 6
    have g6 := fun o => (hbl.alloc o).frozen 6
    have f7 : ∀ o, (w2.alloc o).cell? ⟨w.heap.size, 7, none⟩ = some (.int .i64 0) := fun o => (hbl.alloc o).cell 7
    have g7 := fun o => (hbl.alloc o).frozen 7
    have hc : ∀ o, _ := fun o => set8_cells (hbl.alloc o) (.int .i64 (k : Int)) (.int .i64 (n : Int)) (.int .i64 (seg : Int)) (.int .i64 (size : Int)) (.int .i64 (Z : Int)) (.int .i64 z5) (.int .i64 z6) (.int .i64 z7)
    unfold set8 at hc
    have HC := hide hc
    clear hc
    clear hz hbl b2
    go_wp2
    try simp only [Exit.inBlock, Exit.then]
    refine bodyPost_ret (v := .tuple #[.agg #[.int .i64 (k : Int), .int .i64 (n : Int), .int .i64 (seg : Int), .int .i64 (size : Int), .int .i64 (Z : Int), .int .i64 z5, .int .i64 z6, .int .i64 z7], .int .i64 0]) (by simp [results, Tryz.results206, go_sem, HC.out]) rfl ?_
    refine ⟨?_, by rw [hzz.out]⟩
    have hB2 := B2.out
    have hsz2 : w.heap.size ≤ w2.heap.size := hB2.size
    go_grown
  · rw [if_neg c5]
    have c5' : (512 : Int) < (Z : Int) := by omega
    go_enter Tryz.func206, Tryz.ntmps206
    go_wp2_with fail
    go_quiet ((go_at_call 209; exact Calls.quiet_of_same ((hu _).mono fun e w' ⟨h1, h2⟩ => ⟨h1, h2.symm⟩)))
    go_wp2_with fail
    refine (HS.out _).mono ?_
    rintro e w2 ⟨z5, z6, z7, rfl, b2, hz⟩
    have hzz := hide hz
    have hbl : Blk w2 w.heap.size 100 #[.int .i64 0, .int .i64 0, .int .i64 0, .int .i64 0, .int .i64 0, .int .i64 0, .int .i64 0, .int .i64 0] := Blk.below' (Blk.drewN (Blk.new w _ _) _) b2
    have B2 : Hid (Below w.heap.size w w2) := (below_drewN ((Below.refl _ w).alloc (Nat.le_refl _) _) _).trans (b2.mono (by simp))
    have f0 : ∀ o, (w2.alloc o).cell? ⟨w.heap.size, 0, none⟩ = some (.int .i64 0) := fun o => (hbl.alloc o).cell 0
    have g0 := fun o => (hbl.alloc o).frozen 0
    have f1 : ∀ o, (w2.alloc o).cell? ⟨w.heap.size, 1, none⟩ = some (.int .i64 0) := fun o => (hbl.alloc o).cell 1
    have g1 := fun o => (hbl.alloc o).frozen 1
    have f2 : ∀ o, (w2.alloc o).cell? ⟨w.heap.size, 2, none⟩ = some (.int .i64 0) := fun o => (hbl.alloc o).cell 2
    have g2 := fun o => (hbl.alloc o).frozen 2
    have f3 : ∀ o, (w2.alloc o).cell? ⟨w.heap.size, 3, none⟩ = some (.int .i64 0) := fun o => (hbl.alloc o).cell 3
    have g3 := fun o => (hbl.alloc o).frozen 3
    have f4 : ∀ o, (w2.alloc o).cell? ⟨w.heap.size, 4, none⟩ = some (.int .i64 0) := fun o => (hbl.alloc o).cell 4
    have g4 := fun o => (hbl.alloc o).frozen 4
    have f5 : ∀ o, (w2.alloc o).cell? ⟨w.heap.size, 5, none⟩ = some (.int .i64 0) := fun o => (hbl.alloc o).cell 5
    have g5 := fun o => (hbl.alloc o).frozen 5
    have f6 : ∀ o, (w2.alloc o).cell? ⟨w.heap.size, 6, none⟩ = some (.int .i64 0) := fun o => (hbl.alloc o).cell 6
    have g6 := fun o => (hbl.alloc o).frozen 6
    have f7 : ∀ o, (w2.alloc o).cell? ⟨w.heap.size, 7, none⟩ = some (.int .i64 0) := fun o => (hbl.alloc o).cell 7
    have g7 := fun o => (hbl.alloc o).frozen 7
    have hc : ∀ o, _ := fun o => set8_cells (hbl.alloc o) (.int .i64 0) (.int .i64 0) (.int .i64 0) (.int .i64 0) (.int .i64 0) (.int .i64 0) (.int .i64 0) (.int .i64 0)
    unfold set8 at hc
    have HC := hide hc
    clear hc
    clear hz hbl b2
    go_wp2
    try simp only [Exit.inBlock, Exit.then]
    refine bodyPost_ret (v := .tuple #[.agg #[.int .i64 0, .int .i64 0, .int .i64 0, .int .i64 0, .int .i64 0, .int .i64 0, .int .i64 0, .int .i64 0], .int .i64 92]) (by simp [results, Tryz.results206, go_sem, HC.out]) rfl ?_
    refine ⟨?_, rfl⟩
    have hB2 := B2.out
    have hsz2 : w.heap.size ≤ w2.heap.size := hB2.size
    go_grown
end Go.Proofs.YtcpceaflnnkhnaaGreatDoor

/- The contract of the program's Again at whatever numbers, and of Check. -/
namespace Go.Proofs.YtcpceaflnnkhnaaGreatDoor
open Go.RowKit

instance (k n seg size : Int) : Decidable (agOK k n seg size) := by unfold agOK; infer_instance

theorem again_any (k n seg size : Int) (w : World) (hk : -9223372036854775808 ≤ k ∧ k ≤ 9223372036854775807) (hn : -9223372036854775808 ≤ n ∧ n ≤ 9223372036854775807) (hs : -9223372036854775808 ≤ seg ∧ seg ≤ 9223372036854775807) (hz : -9223372036854775808 ≤ size ∧ size ≤ 9223372036854775807) :
    Calls Tryz.prog 206 #[.int .i64 k, .int .i64 n, .int .i64 seg, .int .i64 size] w fun e w' => Below w.heap.size w w' ∧
      e = .returned (if agOK k n seg size then .tuple #[shapeV k.toNat n.toNat seg.toNat size.toNat, .int .i64 0] else .tuple #[zeroShape, .int .i64 92]) := by
  by_cases h : 1 ≤ n ∧ n ≤ 255 ∧ 1 ≤ k ∧ k ≤ n ∧ 1 ≤ seg
  · obtain ⟨k, rfl⟩ : ∃ k' : Nat, k = (k' : Int) := ⟨k.toNat, by omega⟩
    obtain ⟨n, rfl⟩ : ∃ k' : Nat, n = (k' : Int) := ⟨n.toNat, by omega⟩
    obtain ⟨seg, rfl⟩ : ∃ k' : Nat, seg = (k' : Int) := ⟨seg.toNat, by omega⟩
    have hh : 1 ≤ n ∧ n ≤ 255 ∧ 1 ≤ k ∧ k ≤ n ∧ 1 ≤ seg := by omega
    have e1 : (seg : Int) % (k : Int) = ((seg % k : Nat) : Int) := rfl
    have e2 : (seg : Int) / (k : Int) = ((seg / k : Nat) : Int) := rfl
    by_cases hok : seg % k = 0 ∧ seg / k ≤ upN 65536 k ∧ 32 < size ∧ size ≤ 16777216
    · obtain ⟨z, rfl⟩ : ∃ k' : Nat, size = (k' : Int) := ⟨size.toNat, by omega⟩
      refine (again_shape k n seg z w hh (by omega)).mono ?_
      rintro e w' ⟨h1, h2⟩
      refine ⟨h1, ?_⟩
      rw [h2]
      have hag : agOK k n seg z ↔ upN z seg ≤ 512 := by
        unfold agOK
        simp only [Int.toNat_natCast]
        rw [e1, e2]
        omega
      by_cases h5 : upN z seg ≤ 512
      · rw [if_pos h5, if_pos (hag.2 h5)]; simp
      · rw [if_neg h5, if_neg (fun h => h5 (hag.1 h))]
    · refine (again_late k n seg size w hh (by omega) hz hok).mono ?_
      rintro e w' ⟨h1, h2⟩
      refine ⟨h1, ?_⟩
      rw [h2, if_neg]
      intro hag
      unfold agOK at hag
      simp only [Int.toNat_natCast] at hag
      rw [e1, e2] at hag
      omega
  · refine (again_early k n seg size w h).mono ?_
    rintro e w' ⟨h1, h2⟩
    refine ⟨h1, ?_⟩
    rw [h2, if_neg (fun hag => h hag.1)]

/-- A Ueb's value. -/
def uebC (k n seg size : Int) (d : List Value) : Array Value := (.int .i64 k :: .int .i64 n :: .int .i64 seg :: .int .i64 size :: d).toArray

end Go.Proofs.YtcpceaflnnkhnaaGreatDoor

/- What the four numbers of a shape are at most. -/
namespace Go.Proofs.YtcpceaflnnkhnaaGreatDoor
open Go.RowKit
theorem agOK_bounds {k n seg size : Int} (h : agOK k n seg size) : (1 ≤ k ∧ k ≤ 255) ∧ (1 ≤ n ∧ n ≤ 255) ∧ (1 ≤ seg ∧ seg ≤ 65791) ∧ (32 < size ∧ size ≤ 16777216) := by
  obtain ⟨⟨h1, h2, h3, h4, h5⟩, h6, h7, h8, h9, -⟩ := h
  refine ⟨⟨h3, by omega⟩, ⟨h1, h2⟩, ⟨h5, ?_⟩, h8, h9⟩
  obtain ⟨K, rfl⟩ : ∃ K : Nat, k = (K : Int) := ⟨k.toNat, by omega⟩
  obtain ⟨S, rfl⟩ : ∃ K : Nat, seg = (K : Int) := ⟨seg.toNat, by omega⟩
  rw [Int.toNat_natCast] at h7
  have hd : (S : Int) = (K : Int) * ((S : Int) / (K : Int)) := by
    have := Int.mul_ediv_add_emod (S : Int) (K : Int)
    omega
  have hu := upN_spec 65536 K (by omega) (by omega)
  have hk : K ≤ 255 := by omega
  have h7' : S / K ≤ upN 65536 K := by exact_mod_cast h7
  have hS : S = K * (S / K) := by exact_mod_cast hd
  have hm : K * (S / K) ≤ K * upN 65536 K := Nat.mul_le_mul_left _ h7'
  have h1 : (upN 65536 K - 1) * K < 65536 := hu.2.1
  have h2 : upN 65536 K = (upN 65536 K - 1) + 1 := by omega
  have h3 : K * upN 65536 K = (upN 65536 K - 1) * K + K := by
    rw [h2, Nat.add_sub_cancel, Nat.mul_add, Nat.mul_one, Nat.mul_comm]
  omega
end Go.Proofs.YtcpceaflnnkhnaaGreatDoor

/- Capabilities in plain words: which may be, their texts, how texts are read, and that the two go together. -/
namespace Go.Proofs.YtcpceaflnnkhnaaGreatDoor
open Go.RowKit

/-- Sixteen bytes, thirty-two bytes, four numbers: what is needed to read, or to verify. -/
structure RV where
  key : List UInt8
  ueb : List UInt8
  k : Int
  n : Int
  seg : Int
  size : Int
deriving DecidableEq
def RV.zero : RV := ⟨List.replicate 16 0, List.replicate 32 0, 0, 0, 0, 0⟩
def RV.wf (r : RV) : Prop := r.key.length = 16 ∧ r.ueb.length = 32
def RV.in64 (r : RV) : Prop := (-9223372036854775808 ≤ r.k ∧ r.k ≤ 9223372036854775807) ∧ (-9223372036854775808 ≤ r.n ∧ r.n ≤ 9223372036854775807) ∧ (-9223372036854775808 ≤ r.seg ∧ r.seg ≤ 9223372036854775807) ∧ (-9223372036854775808 ≤ r.size ∧ r.size ≤ 9223372036854775807)
def RV.may (r : RV) : Prop := agOK r.k r.n r.seg r.size
instance (r : RV) : Decidable r.may := by unfold RV.may agOK; infer_instance
theorem RV.zero_wf : RV.zero.wf := by unfold RV.wf RV.zero; simp
theorem RV.zero_in : RV.zero.in64 := by unfold RV.in64 RV.zero; simp
/-- A capability. -/
structure CP where
  kind : Nat
  dir : Bool
  rd : RV
  vf : RV
  lit : List UInt8
deriving DecidableEq
def CP.zero : CP := ⟨0, false, RV.zero, RV.zero, []⟩
def CP.wf (c : CP) : Prop := c.rd.wf ∧ c.vf.wf ∧ c.kind < 256
def CP.in64 (c : CP) : Prop := c.rd.in64 ∧ c.vf.in64
def CP.may (c : CP) : Prop := (c.kind = 1 ∧ c.vf = RV.zero ∧ c.lit = [] ∧ c.rd.may) ∨ (c.kind = 2 ∧ c.rd = RV.zero ∧ c.lit = [] ∧ c.vf.may) ∨ (c.kind = 3 ∧ c.rd = RV.zero ∧ c.vf = RV.zero ∧ c.lit.length ≤ 32)
instance (c : CP) : Decidable c.may := by unfold CP.may; infer_instance

/-! ### Texts -/
def tRoom : List UInt8 := [115, 116, 114, 111, 110, 103, 114, 111, 111, 109]
def tRead : List UInt8 := [114, 101, 97, 100]
def tVerify : List UInt8 := [118, 101, 114, 105, 102, 121]
def tLit : List UInt8 := [108, 105, 116]
def tDir : List UInt8 := [100, 105, 114, 45]
def numL (x : Int) : List UInt8 := lst (numS x)
def wordK (kind : Nat) : List UInt8 := if kind = 1 then tRead else if kind = 2 then tVerify else tLit
def wordL (kind : Nat) (dir : Bool) : List UInt8 := (if dir = true then tDir else []) ++ wordK kind
def RV.parts (r : RV) : List (List UInt8) := [letters r.key, letters r.ueb, numL r.k, numL r.n, numL r.seg, numL r.size]
def CP.body (c : CP) : List (List UInt8) := if c.kind = 1 then c.rd.parts else if c.kind = 2 then c.vf.parts else [letters c.lit]
def CP.parts (c : CP) : List (List UInt8) := tRoom :: wordL c.kind c.dir :: c.body
def CP.text (c : CP) : List UInt8 := joinC c.parts

/-! ### Reading -/
def kindL (w : List UInt8) : Option (Nat × Bool) :=
  if w = wordL 1 false then some (1, false) else if w = wordL 1 true then some (1, true) else if w = wordL 2 false then some (2, false) else if w = wordL 2 true then some (2, true) else if w = wordL 3 false then some (3, false) else if w = wordL 3 true then some (3, true) else none
def place (ps : List (List UInt8)) (i : Nat) : Nat := ((ps.take i).map fun p => p.length + 1).sum
def part_ (ps : List (List UInt8)) (i : Nat) : List UInt8 := ps.getD i []
/-- The error of a part of letters; 0: none. -/
def ltrE (p : List UInt8) (lo hi : Nat) : Nat := if (decode p).2.2 ≠ 0 then (decode p).2.2 else if (decode p).1.length < lo ∨ hi < (decode p).1.length then 150 else 0
/-- Where in the part the error is. -/
def ltrO (p : List UInt8) : Nat := if (decode p).2.2 ≠ 0 then (decode p).2.1 else 0
def ltrF (ps : List (List UInt8)) (i lo hi : Nat) : Option (Nat × Nat) := if ltrE (part_ ps i) lo hi ≠ 0 then some (place ps i + ltrO (part_ ps i), ltrE (part_ ps i) lo hi) else none
def numF (ps : List (List UInt8)) (i : Nat) (most : Int) : Option (Nat × Nat) := if rd (part_ ps i) most = none then some (place ps i, 102) else none
def first_ (a b : Option (Nat × Nat)) : Option (Nat × Nat) := match a with
  | some x => some x
  | none => b
def rvF (ps : List (List UInt8)) : Option (Nat × Nat) := first_ (ltrF ps 2 16 16) (first_ (ltrF ps 3 32 32) (first_ (numF ps 4 255) (first_ (numF ps 5 255) (first_ (numF ps 6 65791) (numF ps 7 16777216)))))
def rvOf (ps : List (List UInt8)) : RV := ⟨(decode (part_ ps 2)).1, (decode (part_ ps 3)).1, rdN (part_ ps 4) 255, rdN (part_ ps 5) 255, rdN (part_ ps 6) 65791, rdN (part_ ps 7) 16777216⟩
def want (kind : Nat) : Nat := if kind = 3 then 3 else 8
def capOf (ps : List (List UInt8)) (kind : Nat) (dir : Bool) : CP := if kind = 1 then ⟨1, dir, rvOf ps, RV.zero, []⟩ else if kind = 2 then ⟨2, dir, RV.zero, rvOf ps, []⟩ else ⟨3, dir, RV.zero, RV.zero, (decode (part_ ps 2)).1⟩
def bodyF (ps : List (List UInt8)) (kind : Nat) : Option (Nat × Nat) := if kind = 3 then ltrF ps 2 0 32 else rvF ps
def mayF (c : CP) : Option (Nat × Nat) := if c.may then none else some (0, 5)
def capF (s : List UInt8) : Option (Nat × Nat) :=
  if 256 < s.length then some (256, 151) else
  if part_ (flds s) 0 ≠ tRoom then some (0, 150) else
  if (flds s).length < 2 then some (s.length, 150) else
  match kindL (part_ (flds s) 1) with
  | none => some (place (flds s) 1, 150)
  | some (k, d) =>
    if (flds s).length < want k then some (s.length, 150) else
    if want k < (flds s).length then some (place (flds s) (want k), 150) else
    first_ (bodyF (flds s) k) (mayF (capOf (flds s) k d))
def capC (s : List UInt8) : CP := match kindL (part_ (flds s) 1) with
  | none => CP.zero
  | some (k, d) => capOf (flds s) k d
def parseC (s : List UInt8) : CP × Nat × Nat := match capF s with
  | some (a, e) => (CP.zero, a, e)
  | none => (capC s, 0, 0)

/-! ### The two go together -/
theorem flds_join : ∀ (ps : List (List UInt8)), ps ≠ [] → (∀ p ∈ ps, (58 : UInt8) ∉ p) → flds (joinC ps) = ps
  | [], h, _ => absurd rfl h
  | [p], _, hc => flds_one p (hc p (by simp))
  | p :: q :: r, _, hc => by
    have := flds_step p (joinC (q :: r)) (hc p (by simp))
    rw [flds_join (q :: r) (by simp) (fun x hx => hc x (by simp [hx]))] at this
    exact this
theorem okc_58 {l : List UInt8} (h : ∀ c ∈ l, okc c = true) : (58 : UInt8) ∉ l := fun hm => by
  have := h _ hm
  exact absurd this (by decide)
theorem numL_nat (x : Int) (h : 0 ≤ x) : numL x = Lib.itoa x := by
  unfold numL numS
  rw [if_neg (by omega)]
  exact lst_itoaS x
theorem numL_58 (x : Int) (h : 0 ≤ x) : (58 : UInt8) ∉ numL x := by rw [numL_nat x h]; exact okc_58 (itoa_okc x h)
theorem wordL_58 (kind : Nat) (dir : Bool) : (58 : UInt8) ∉ wordL kind dir := by
  unfold wordL wordK
  cases dir
  all_goals
    by_cases h1 : kind = 1
    · rw [if_pos h1]; decide
    · rw [if_neg h1]
      by_cases h2 : kind = 2
      · rw [if_pos h2]; decide
      · rw [if_neg h2]; decide
theorem RV.may_nat {r : RV} (h : r.may) : (1 ≤ r.k ∧ r.k ≤ 255) ∧ (1 ≤ r.n ∧ r.n ≤ 255) ∧ (1 ≤ r.seg ∧ r.seg ≤ 65791) ∧ (32 < r.size ∧ r.size ≤ 16777216) := by
  unfold RV.may at h
  exact agOK_bounds h
theorem CP.parts_58 {c : CP} (h : c.may) : ∀ p ∈ c.parts, (58 : UInt8) ∉ p := by
  have hrv : ∀ r : RV, r.may → ∀ p ∈ r.parts, (58 : UInt8) ∉ p := fun r hr p hp => by
    have hb := RV.may_nat hr
    unfold RV.parts at hp
    simp only [List.mem_cons, List.not_mem_nil, or_false] at hp
    rcases hp with rfl | rfl | rfl | rfl | rfl | rfl
    · exact okc_58 (letters_okc _)
    · exact okc_58 (letters_okc _)
    · exact numL_58 _ (by omega)
    · exact numL_58 _ (by omega)
    · exact numL_58 _ (by omega)
    · exact numL_58 _ (by omega)
  intro p hp
  unfold CP.parts at hp
  rw [List.mem_cons, List.mem_cons] at hp
  rcases hp with rfl | rfl | hp
  · decide
  · exact wordL_58 _ _
  · unfold CP.body at hp
    rcases h with ⟨h1, -, -, h2⟩ | ⟨h1, -, -, h2⟩ | ⟨h1, -, -, h2⟩
    · rw [if_pos h1] at hp
      exact hrv _ h2 p hp
    · rw [if_neg (by omega), if_pos h1] at hp
      exact hrv _ h2 p hp
    · rw [if_neg (by omega), if_neg (by omega)] at hp
      rw [List.mem_singleton.1 hp]
      exact okc_58 (letters_okc _)
theorem kind_word (kind : Nat) (dir : Bool) (h : kind = 1 ∨ kind = 2 ∨ kind = 3) : kindL (wordL kind dir) = some (kind, dir) := by
  rcases h with rfl | rfl | rfl <;> cases dir <;> decide
theorem word_kind {w : List UInt8} {kind : Nat} {dir : Bool} (h : kindL w = some (kind, dir)) : w = wordL kind dir ∧ (kind = 1 ∨ kind = 2 ∨ kind = 3) := by
  unfold kindL at h
  split at h
  · rename_i hw; injection h with h; injection h with h1 h2; subst h1 h2; exact ⟨hw, .inl rfl⟩
  split at h
  · rename_i hw; injection h with h; injection h with h1 h2; subst h1 h2; exact ⟨hw, .inl rfl⟩
  split at h
  · rename_i hw; injection h with h; injection h with h1 h2; subst h1 h2; exact ⟨hw, .inr (.inl rfl)⟩
  split at h
  · rename_i hw; injection h with h; injection h with h1 h2; subst h1 h2; exact ⟨hw, .inr (.inl rfl)⟩
  split at h
  · rename_i hw; injection h with h; injection h with h1 h2; subst h1 h2; exact ⟨hw, .inr (.inr rfl)⟩
  split at h
  · rename_i hw; injection h with h; injection h with h1 h2; subst h1 h2; exact ⟨hw, .inr (.inr rfl)⟩
  · cases h
theorem numL_len (x : Int) (k : Nat) (h0 : 0 ≤ x) (h : x < 10 ^ (k + 1)) : (numL x).length ≤ k + 1 := by
  rw [numL_nat x h0]
  obtain ⟨m, rfl⟩ := Int.eq_ofNat_of_zero_le h0
  rw [Lib.itoa_nonneg]
  exact digits_length_le k m (by exact_mod_cast h)
theorem joinC_cons2 (p q : List UInt8) (r : List (List UInt8)) : joinC (p :: q :: r) = p ++ 58 :: joinC (q :: r) := rfl
theorem wordL_len (kind : Nat) (dir : Bool) : (wordL kind dir).length ≤ 10 := by
  unfold wordL wordK
  cases dir
  all_goals
    by_cases h1 : kind = 1
    · rw [if_pos h1]; decide
    · rw [if_neg h1]
      by_cases h2 : kind = 2
      · rw [if_pos h2]; decide
      · rw [if_neg h2]; decide
theorem rv_len (w : List UInt8) (hw : w.length ≤ 10) {r : RV} (hf : r.wf) (hm : r.may) : (joinC (tRoom :: w :: r.parts)).length ≤ 124 := by
  have hb := RV.may_nat hm
  have e1 : (letters r.key).length = 26 := by rw [letters_length, hf.1]; rfl
  have e2 : (letters r.ueb).length = 52 := by rw [letters_length, hf.2]; rfl
  have e3 := numL_len r.k 2 (by omega) (by omega)
  have e4 := numL_len r.n 2 (by omega) (by omega)
  have e5 := numL_len r.seg 4 (by omega) (by omega)
  have e6 := numL_len r.size 7 (by omega) (by omega)
  have e7 : tRoom.length = 10 := rfl
  unfold RV.parts
  simp only [joinC_cons2, joinC, List.length_append, List.length_cons]
  omega
theorem text_len {c : CP} (hf : c.wf) (h : c.may) : c.text.length ≤ 124 := by
  unfold CP.text CP.parts CP.body
  rcases h with ⟨h1, -, -, h2⟩ | ⟨h1, -, -, h2⟩ | ⟨h1, -, -, h2⟩
  · rw [if_pos h1]
    exact rv_len _ (wordL_len _ _) hf.1 h2
  · rw [if_neg (by omega), if_pos h1]
    exact rv_len _ (wordL_len _ _) hf.2.1 h2
  · rw [if_neg (by omega), if_neg (by omega)]
    have e1 := wordL_len c.kind c.dir
    have e2 : (letters c.lit).length ≤ 52 := by rw [letters_length]; unfold lets; omega
    have e7 : tRoom.length = 10 := rfl
    simp only [joinC_cons2, joinC, List.length_append, List.length_cons]
    omega
theorem flds_text {c : CP} (h : c.may) : flds c.text = c.parts := flds_join _ (by unfold CP.parts; simp) (CP.parts_58 h)
theorem ltrE_ok (l : List UInt8) (lo hi : Nat) (h : lo ≤ l.length ∧ l.length ≤ hi) : ltrE (letters l) lo hi = 0 := by
  unfold ltrE
  rw [decode_letters]
  simp only [ne_eq, not_true_eq_false, if_false]
  rw [if_neg (by omega)]
theorem rd_num (x most : Int) (h0 : 0 ≤ x) (h1 : x ≤ most) (hm : most ≤ 9223372036854775807) : rd (numL x) most = some x.toNat := by
  rw [numL_nat x h0]
  exact rd_ok h0 h1 hm rfl
theorem rdN_num (x most : Int) (h0 : 0 ≤ x) (h1 : x ≤ most) (hm : most ≤ 9223372036854775807) : rdN (numL x) most = x := by
  unfold rdN
  rw [rd_num x most h0 h1 hm]
  simp only []
  omega
theorem rv_read (w : List UInt8) {r : RV} (hf : r.wf) (hm : r.may) : rvF (tRoom :: w :: r.parts) = none ∧ rvOf (tRoom :: w :: r.parts) = r := by
  have hb := RV.may_nat hm
  have p2 : part_ (tRoom :: w :: r.parts) 2 = letters r.key := rfl
  have p3 : part_ (tRoom :: w :: r.parts) 3 = letters r.ueb := rfl
  have p4 : part_ (tRoom :: w :: r.parts) 4 = numL r.k := rfl
  have p5 : part_ (tRoom :: w :: r.parts) 5 = numL r.n := rfl
  have p6 : part_ (tRoom :: w :: r.parts) 6 = numL r.seg := rfl
  have p7 : part_ (tRoom :: w :: r.parts) 7 = numL r.size := rfl
  constructor
  · unfold rvF ltrF numF
    rw [p2, p3, p4, p5, p6, p7, ltrE_ok _ 16 16 (by have := hf.1; omega), ltrE_ok _ 32 32 (by have := hf.2; omega), rd_num _ _ (by omega) (by omega) (by omega), rd_num _ _ (by omega) (by omega) (by omega), rd_num _ _ (by omega) (by omega) (by omega), rd_num _ _ (by omega) (by omega) (by omega)]
    simp [first_]
  · unfold rvOf
    rw [p2, p3, p4, p5, p6, p7, decode_letters, decode_letters, rdN_num _ _ (by omega) (by omega) (by omega), rdN_num _ _ (by omega) (by omega) (by omega), rdN_num _ _ (by omega) (by omega) (by omega), rdN_num _ _ (by omega) (by omega) (by omega)]
/-- A capability that may be comes back from its text. -/
theorem parse_text {c : CP} (hf : c.wf) (h : c.may) : parseC c.text = (c, 0, 0) := by
  have hl := text_len hf h
  have hk : c.kind = 1 ∨ c.kind = 2 ∨ c.kind = 3 := by
    rcases h with ⟨h1, -⟩ | ⟨h1, -⟩ | ⟨h1, -⟩
    · exact .inl h1
    · exact .inr (.inl h1)
    · exact .inr (.inr h1)
  have p1 : part_ c.parts 1 = wordL c.kind c.dir := rfl
  have p0 : part_ c.parts 0 = tRoom := rfl
  have hlen : c.parts.length = want c.kind := by
    unfold CP.parts CP.body want
    rcases hk with h1 | h1 | h1
    · rw [if_pos h1, if_neg (by omega)]; rfl
    · rw [if_neg (by omega), if_pos h1, if_neg (by omega)]; rfl
    · rw [if_neg (by omega), if_neg (by omega), if_pos h1]; rfl
  have hw : 3 ≤ want c.kind := by unfold want; split <;> omega
  have hcap : bodyF c.parts c.kind = none ∧ capOf c.parts c.kind c.dir = c := by
    obtain ⟨kind, dir, r, v, l⟩ := c
    unfold bodyF capOf
    rcases h with ⟨h1, h2, h3, h4⟩ | ⟨h1, h2, h3, h4⟩ | ⟨h1, h2, h3, h4⟩
    · simp only at h1 h2 h3 h4
      subst h1 h2 h3
      have := rv_read (wordL 1 dir) hf.1 h4
      simp only [CP.parts, CP.body, if_true]
      rw [if_neg (by omega), this.1, this.2]
      exact ⟨rfl, rfl⟩
    · simp only at h1 h2 h3 h4
      subst h1 h2 h3
      have := rv_read (wordL 2 dir) hf.2.1 h4
      simp only [CP.parts, CP.body, if_true]
      rw [if_neg (by omega), if_neg (by omega), if_neg (by omega), this.1, this.2]
      exact ⟨rfl, rfl⟩
    · simp only at h1 h2 h3 h4
      subst h1 h2 h3
      simp only [CP.parts, CP.body, if_true]
      rw [if_neg (by omega), if_neg (by omega), if_neg (by omega), if_neg (by omega)]
      have p2 : part_ [tRoom, wordL 3 dir, letters l] 2 = letters l := rfl
      unfold ltrF
      rw [p2, ltrE_ok _ 0 32 (by omega), decode_letters]
      exact ⟨by simp, rfl⟩
  have hF : capF c.text = none := by
    unfold capF
    rw [if_neg (by omega), flds_text h, p0, if_neg (by simp), if_neg (by omega), p1, kind_word _ _ hk]
    simp only []
    rw [if_neg (by omega), if_neg (by omega), hcap.1, hcap.2]
    simp [first_, mayF, h]
  unfold parseC
  rw [hF]
  unfold capC
  rw [flds_text h, p1, kind_word _ _ hk]
  simp only []
  rw [hcap.2]
theorem first_none {a b : Option (Nat × Nat)} (h : first_ a b = none) : a = none ∧ b = none := by
  cases a with
  | none => exact ⟨rfl, h⟩
  | some x => cases h
theorem ltrF_none {ps : List (List UInt8)} {i lo hi : Nat} (h : ltrF ps i lo hi = none) : letters (decode (part_ ps i)).1 = part_ ps i ∧ lo ≤ (decode (part_ ps i)).1.length ∧ (decode (part_ ps i)).1.length ≤ hi := by
  unfold ltrF at h
  split at h
  · cases h
  rename_i hz
  have hz : ltrE (part_ ps i) lo hi = 0 := by omega
  unfold ltrE at hz
  split at hz
  · omega
  rename_i h2
  split at hz
  · omega
  refine ⟨letters_decode _ _ (decode (part_ ps i)).2.1 ?_, by omega, by omega⟩
  have : (decode (part_ ps i)).2.2 = 0 := by omega
  rw [← this]
theorem numF_none {ps : List (List UInt8)} {i : Nat} {most : Int} (hm : most ≤ 9223372036854775807) (h : numF ps i most = none) : numL (rdN (part_ ps i) most) = part_ ps i := by
  unfold numF at h
  split at h
  · cases h
  rename_i h1
  cases hr : rd (part_ ps i) most with
  | none => exact absurd hr h1
  | some x =>
    unfold rdN
    rw [hr]
    simp only []
    rw [numL_nat _ (by omega)]
    exact (rd_some hr hm).2.2.symm
theorem list3 {α : Type} {l : List α} (h : l.length = 3) (d : α) : l = [l.getD 0 d, l.getD 1 d, l.getD 2 d] := by
  match l, h with
  | [a, b, c], _ => rfl
theorem list8 {α : Type} {l : List α} (h : l.length = 8) (d : α) : l = [l.getD 0 d, l.getD 1 d, l.getD 2 d, l.getD 3 d, l.getD 4 d, l.getD 5 d, l.getD 6 d, l.getD 7 d] := by
  match l, h with
  | [a, b, c, e, f, g, i, j], _ => rfl
/-- What is read is a capability that may be, and the text is its text. -/
theorem text_parse {s : List UInt8} (h : capF s = none) : (capC s).may ∧ (capC s).wf ∧ (capC s).text = s := by
  unfold capF at h
  split at h
  · cases h
  split at h
  · cases h
  rename_i h0
  split at h
  · cases h
  cases hk : kindL (part_ (flds s) 1) with
  | none => rw [hk] at h; cases h
  | some kd =>
    obtain ⟨k, d⟩ := kd
    rw [hk] at h
    simp only [] at h
    split at h
    · cases h
    split at h
    · cases h
    have hlen : (flds s).length = want k := by omega
    obtain ⟨hb, hm⟩ := first_none h
    have hmay : (capOf (flds s) k d).may := by
      unfold mayF at hm
      split at hm
      · assumption
      · cases hm
    have h0 : part_ (flds s) 0 = tRoom := by simpa using h0
    obtain ⟨hw, hk3⟩ := word_kind hk
    have hc : capC s = capOf (flds s) k d := by unfold capC; rw [hk]
    rw [hc]
    refine ⟨hmay, ?_, ?_⟩
    · unfold capOf
      unfold bodyF at hb
      rcases hk3 with rfl | rfl | rfl
      · rw [if_neg (by omega)] at hb
        rw [if_pos rfl]
        obtain ⟨a1, hb⟩ := first_none hb
        obtain ⟨a2, hb⟩ := first_none hb
        have b1 := ltrF_none a1
        have b2 := ltrF_none a2
        exact ⟨⟨by show (decode _).1.length = 16; omega, by show (decode _).1.length = 32; omega⟩, RV.zero_wf, by show (1 : Nat) < 256; omega⟩
      · rw [if_neg (by omega)] at hb
        rw [if_neg (by omega), if_pos rfl]
        obtain ⟨a1, hb⟩ := first_none hb
        obtain ⟨a2, hb⟩ := first_none hb
        have b1 := ltrF_none a1
        have b2 := ltrF_none a2
        exact ⟨RV.zero_wf, ⟨by show (decode _).1.length = 16; omega, by show (decode _).1.length = 32; omega⟩, by show (2 : Nat) < 256; omega⟩
      · rw [if_neg (by omega), if_neg (by omega)]
        exact ⟨RV.zero_wf, RV.zero_wf, by show (3 : Nat) < 256; omega⟩
    · have hp : (capOf (flds s) k d).parts = flds s := by
        unfold bodyF at hb
        have key : ∀ r, rvF (flds s) = none → r = rvOf (flds s) → (flds s).length = 8 → tRoom :: wordL k d :: r.parts = flds s := fun r hr hv h8 => by
          obtain ⟨a1, hr⟩ := first_none hr
          obtain ⟨a2, hr⟩ := first_none hr
          obtain ⟨a3, hr⟩ := first_none hr
          obtain ⟨a4, hr⟩ := first_none hr
          obtain ⟨a5, a6⟩ := first_none hr
          have hl := list8 h8 []
          rw [hv]
          unfold RV.parts rvOf
          simp only []
          rw [(ltrF_none a1).1, (ltrF_none a2).1, numF_none (by omega) a3, numF_none (by omega) a4, numF_none (by omega) a5, numF_none (by omega) a6, ← hw, ← h0]
          exact hl.symm
        unfold CP.parts CP.body capOf
        rcases hk3 with rfl | rfl | rfl
        · rw [if_neg (by omega)] at hb
          exact key _ hb rfl hlen
        · rw [if_neg (by omega)] at hb
          exact key _ hb rfl hlen
        · rw [if_pos rfl] at hb
          have hl := list3 hlen []
          show tRoom :: wordL 3 d :: [letters (decode (part_ (flds s) 2)).1] = flds s
          rw [(ltrF_none hb).1, ← hw, ← h0]
          exact hl.symm
      unfold CP.text
      rw [hp, join_flds]
/-- Two capabilities that may be with one text are one. -/
theorem text_inj {a b : CP} (ha : a.wf) (hb : b.wf) (ma : a.may) (mb : b.may) : a.text = b.text ↔ a = b := by
  constructor
  · intro h
    have h1 := parse_text ha ma
    have h2 := parse_text hb mb
    rw [h] at h1
    rw [h1] at h2
    injection h2
  · rintro rfl; rfl
end Go.Proofs.YtcpceaflnnkhnaaGreatDoor

/- Capabilities as cells: the values that the walks hand about. -/
namespace Go.Proofs.YtcpceaflnnkhnaaGreatDoor
open Go.RowKit

def RV.cells (r : RV) : List Value := bcells r.key ++ (bcells r.ueb ++ [.int .i64 r.k, .int .i64 r.n, .int .i64 r.seg, .int .i64 r.size])
theorem RV.cells_length {r : RV} (h : r.wf) : r.cells.length = 52 := by unfold RV.cells; simp [h.1, h.2]
theorem RV.one (r : RV) : ∀ v ∈ r.cells, v.oneCell' = true := by
  intro v hv
  unfold RV.cells bcells at hv
  simp only [List.mem_append, List.mem_map, List.mem_cons, List.not_mem_nil, or_false] at hv
  rcases hv with ⟨x, _, rfl⟩ | ⟨x, _, rfl⟩ | rfl | rfl | rfl | rfl <;> rfl
theorem bcells_inj {a b : List UInt8} (h : bcells a = bcells b) : a = b := by
  unfold bcells at h
  refine (List.map_inj_right (fun x y hxy => ?_)).1 h
  injection hxy with _ h2
  exact u8_int.1 h2
theorem RV.inj {r s : RV} (hr : r.wf) (hs : s.wf) (h : r.cells = s.cells) : r = s := by
  unfold RV.cells at h
  have h1 := List.append_inj h (by simp [hr.1, hs.1])
  have h2 := List.append_inj h1.2 (by simp [hr.2, hs.2])
  have e1 := bcells_inj h1.1
  have e2 := bcells_inj h2.1
  have e3 := h2.2
  simp only [List.cons.injEq, Value.int.injEq, true_and, and_true] at e3
  obtain ⟨a1, a2, a3, a4⟩ := e3
  cases r; cases s
  simp only at *
  subst e1 e2 a1 a2 a3 a4
  rfl
/-- The cells of a capability whose Lit is the value v. -/
def CP.cellsL (c : CP) (v : Value) : List Value := .int .u8 (c.kind : Int) :: .bool c.dir :: (c.rd.cells ++ (c.vf.cells ++ [v]))
def CP.cells (c : CP) (v : Value) : Array Value := (c.cellsL v).toArray
theorem CP.cellsL_length {c : CP} (h : c.wf) (v : Value) : (c.cellsL v).length = 107 := by unfold CP.cellsL; simp [RV.cells_length h.1, RV.cells_length h.2.1]
theorem CP.cells_size {c : CP} (h : c.wf) (v : Value) : (c.cells v).size = 107 := by unfold CP.cells; simp [CP.cellsL_length h v]
/-- A value that reads as a capability. -/
structure Capy (w : World) (cs : Array Value) (c : CP) (v : Value) : Prop where
  eq : cs = c.cells v
  wf : c.wf
  i64 : c.in64
  by_ : By w v c.lit
theorem Capy.below {w w' : World} {cs : Array Value} {c : CP} {v : Value} (h : Capy w cs c v) (hb : Below w.heap.size w w') : Capy w' cs c v := ⟨h.eq, h.wf, h.i64, h.by_.below hb⟩
theorem Capy.size {w : World} {cs : Array Value} {c : CP} {v : Value} (h : Capy w cs c v) : cs.size = 107 := by rw [h.eq]; exact CP.cells_size h.wf v
theorem Capy.c0 {w : World} {cs : Array Value} {c : CP} {v : Value} (h : Capy w cs c v) : cs[0]? = some (.int .u8 (c.kind : Int)) := by rw [h.eq]; rfl
theorem Capy.c1 {w : World} {cs : Array Value} {c : CP} {v : Value} (h : Capy w cs c v) : cs[1]? = some (.bool c.dir) := by rw [h.eq]; rfl
theorem Capy.rd {w : World} {cs : Array Value} {c : CP} {v : Value} (h : Capy w cs c v) (j : Nat) (hj : j < 52) : cs[2 + j]? = c.rd.cells[j]? := by
  rw [h.eq]
  unfold CP.cells CP.cellsL
  rw [List.getElem?_toArray, Nat.add_comm 2 j, List.getElem?_cons_succ, List.getElem?_cons_succ, List.getElem?_append_left (by rw [RV.cells_length h.wf.1]; omega)]
theorem Capy.vf {w : World} {cs : Array Value} {c : CP} {v : Value} (h : Capy w cs c v) (j : Nat) (hj : j < 52) : cs[54 + j]? = c.vf.cells[j]? := by
  rw [h.eq]
  unfold CP.cells CP.cellsL
  rw [List.getElem?_toArray, show 54 + j = (52 + j) + 1 + 1 by omega, List.getElem?_cons_succ, List.getElem?_cons_succ, List.getElem?_append_right (by rw [RV.cells_length h.wf.1]; omega), RV.cells_length h.wf.1, show 52 + j - 52 = j by omega, List.getElem?_append_left (by rw [RV.cells_length h.wf.2.1]; omega)]
theorem Capy.lit {w : World} {cs : Array Value} {c : CP} {v : Value} (h : Capy w cs c v) : cs[106]? = some v := by
  rw [h.eq]
  unfold CP.cells CP.cellsL
  rw [List.getElem?_toArray, show 106 = (52 + 52) + 1 + 1 from rfl, List.getElem?_cons_succ, List.getElem?_cons_succ, List.getElem?_append_right (by rw [RV.cells_length h.wf.1]; omega), RV.cells_length h.wf.1, List.getElem?_append_right (by rw [RV.cells_length h.wf.2.1]; omega), RV.cells_length h.wf.2.1]
  rfl
theorem CP.zero_wf : CP.zero.wf := ⟨RV.zero_wf, RV.zero_wf, by show (0 : Nat) < 256; omega⟩
theorem CP.zero_in : CP.zero.in64 := ⟨RV.zero_in, RV.zero_in⟩
theorem Capy.zero (w : World) : Capy w (CP.zero.cells (.slice none 0 0)) CP.zero (.slice none 0 0) := ⟨rfl, CP.zero_wf, CP.zero_in, By.nil w⟩
end Go.Proofs.YtcpceaflnnkhnaaGreatDoor

/- What single operations on capabilities yield: parts are loaded, compared, put together. -/
namespace Go.Proofs.YtcpceaflnnkhnaaGreatDoor
open Go.RowKit

section
variable {P : Program} {ops : Array Oper} {rest : List Oper} {o : Oper} {a : Act} {w : World}
/-- An operation that is known to yield v. -/
theorem wpList_yields {Q : Exit → Act → World → Prop} (hw : Region.wanted o (yielded ops a.tmps) = true) (v : Value) (h : (execOp a.eval o).run P w = .ok (.value v) w) (hk : wpList P ops Q rest (a.put o.dst v) w) : wpList P ops Q (o :: rest) a w :=
  wpList_step fun K hK => by
    rw [if_pos hw]
    unfold Oper.wp
    rw [h]
    exact hK _ _ hk
theorem wpQuiet_yields {C : World → Prop} {Q : Act → Prop} (hw : Region.wanted o (yielded ops a.tmps) = true) (v : Value) (h : ∀ w, C w → (execOp a.eval o).run P w = .ok (.value v) w) (hk : wpQuiet P ops C Q rest (a.put o.dst v)) : wpQuiet P ops C Q (o :: rest) a :=
  wpQuiet_step fun K hK => by
    rw [if_pos hw]
    refine ⟨v, fun W hW => ?_, hK _ hk⟩
    unfold Oper.quietAt
    rw [h W hW]
    exact ⟨rfl, rfl⟩
theorem ex_load (ty : TypeId) (x : Operand) (ho : o.op = .load ty x) (b k : Nat) (hx : a.eval x = .pointer (some ⟨b, k, none⟩)) (cs : List Value) (d : TypeDesc) (hc : w.rangeAt b k cs)
    (hu : P.underlying ty = some d) (hd : d.isRow = true) (hi : (P.info? ty).map (·.size) = some cs.length) : (execOp a.eval o).run P w = .ok (.value (.agg cs.toArray)) w := by
  unfold execOp
  simp only [ho, hx, Sem.run_bind, Sem.run_pure, Result.andThen_ok, run_loadAt_mid w b k ty cs d hc hu hd hi]
theorem ex_eql (t : TypeId) (x y : Operand) (ho : o.op = .binOp .eql t x y t) (xs ys : Array Value) (hx : a.eval x = .agg xs) (hy : a.eval y = .agg ys) (hm : P.eqGuardType P.depth t = false) (r : Bool) (hr : (binOp .eql t (.agg xs) (.agg ys)).run P w = .ok (.bool r) w) : (execOp a.eval o).run P w = .ok (.value (.bool r)) w := by
  unfold execOp
  simp only [ho, hx, hy, Sem.run_bind, Sem.run_pure, run_eqGuard_agg w _ _ _ _ _ _ hm, Result.andThen_ok, hr]
theorem ex_build (t : TypeId) (ps : Array (Nat × Operand)) (ho : o.op = .build t ps) (vs : Array (Nat × Value)) (hv : ps.map (fun x => (x.1, a.eval x.2)) = vs) (v : Value) (hr : (Instr.build t vs).run P w = .ok v w) : (execOp a.eval o).run P w = .ok (.value v) w := by
  unfold execOp
  simp only [ho]
  have : (ps.map fun (i, x) => (i, a.eval x)) = vs := hv
  rw [this]
  simp only [Sem.run_bind, Sem.run_pure, Result.andThen_ok, hr]
theorem ex_s2a (t : TypeId) (x : Operand) (ho : o.op = .sliceToArrayPointer t x) (u v : Value) (hx : a.eval x = u) (hr : (Instr.arrayAt t u).run P w = .ok v w) : (execOp a.eval o).run P w = .ok (.value v) w := by
  unfold execOp
  simp only [ho, hx, Sem.run_bind, Sem.run_pure, Result.andThen_ok, hr]
theorem drewN_range {b k n : Nat} {cs : List Value} (h : w.rangeAt b k cs) : (w.drewN n).rangeAt b k cs := h
end

/-! ### Read and Verify are compared -/
theorem size_of {T : TypeId} {n : Nat} (h : (Tryz.prog.info? T).map (·.size) = some n) (w : World) : (sizeOf T).run Tryz.prog w = .ok n w := by
  rcases hi : Tryz.prog.info? T with _ | i
  · rw [hi] at h; cases h
  · rw [hi] at h
    simp only [Option.map_some, Option.some.injEq] at h
    simp [sizeOf, typeInfo, run_program, hi, h]
theorem part_rv (K : TypeId) (hK : Tryz.prog.underlying K = some (.array 16 5)) (hi : (Tryz.prog.info? K).map (·.size) = some 16) (r : RV) (hr : r.wf) (w : World) :
    (Go.part K r.cells.toArray 0).run Tryz.prog w = .ok (.agg (r.key.map Extern.Stop.cell).toArray) w ∧ (Go.part 26 r.cells.toArray 16).run Tryz.prog w = .ok (.agg (r.ueb.map Extern.Stop.cell).toArray) w := by
  have e1 : List.take 16 r.cells = r.key.map Extern.Stop.cell := by
    unfold RV.cells
    rw [List.take_append_of_le_length (by simp [hr.1]), List.take_of_length_le (by simp [hr.1])]
    rfl
  have e2 : List.take 32 (List.drop 16 r.cells) = r.ueb.map Extern.Stop.cell := by
    unfold RV.cells
    rw [List.drop_append_of_le_length (by simp [hr.1]), List.drop_eq_nil_of_le (by simp [hr.1]), List.nil_append, List.take_append_of_le_length (by simp [hr.2]), List.take_of_length_le (by simp [hr.2])]
    rfl
  constructor
  · simp [Go.part, isAgg, run_underlying hK, size_of hi, e1]
  · simp [Go.part, isAgg, run_underlying Tryz.underlying26, size_of (show (Tryz.prog.info? 26).map (·.size) = some 32 by kernel_rfl), e2]
theorem cells_at (r : RV) (hr : r.wf) (j : Nat) : r.cells[48 + j]? = ([.int .i64 r.k, .int .i64 r.n, .int .i64 r.seg, .int .i64 r.size] : List Value)[j]? := by
  unfold RV.cells
  rw [List.getElem?_append_right (by simp [hr.1]; omega), List.getElem?_append_right (by simp [hr.1, hr.2]; omega)]
  congr 1
  simp [hr.1, hr.2]
  omega
theorem part_rvi (r : RV) (hr : r.wf) (w : World) :
    (Go.part 3 r.cells.toArray 48).run Tryz.prog w = .ok (.int .i64 r.k) w ∧ (Go.part 3 r.cells.toArray 49).run Tryz.prog w = .ok (.int .i64 r.n) w ∧ (Go.part 3 r.cells.toArray 50).run Tryz.prog w = .ok (.int .i64 r.seg) w ∧ (Go.part 3 r.cells.toArray 51).run Tryz.prog w = .ok (.int .i64 r.size) w := by
  have c0 := cells_at r hr 0
  have c1 := cells_at r hr 1
  have c2 := cells_at r hr 2
  have c3 := cells_at r hr 3
  refine ⟨?_, ?_, ?_, ?_⟩
  · simp only [Go.part, isAgg, run_underlying Tryz.underlying3, Sem.run_bind, Sem.run_pure, Result.andThen_ok, List.getElem?_toArray, c0]; rfl
  · simp only [Go.part, isAgg, run_underlying Tryz.underlying3, Sem.run_bind, Sem.run_pure, Result.andThen_ok, List.getElem?_toArray, c1]; rfl
  · simp only [Go.part, isAgg, run_underlying Tryz.underlying3, Sem.run_bind, Sem.run_pure, Result.andThen_ok, List.getElem?_toArray, c2]; rfl
  · simp only [Go.part, isAgg, run_underlying Tryz.underlying3, Sem.run_bind, Sem.run_pure, Result.andThen_ok, List.getElem?_toArray, c3]; rfl
theorem fields_rv {l : List Field} {a b c d e f : TypeId} (h : (l.map fun f => (f.name == "_", f.type, f.offset)) = [(false, a, 0), (false, b, 16), (false, c, 48), (false, d, 49), (false, e, 50), (false, f, 51)]) :
    ∃ x0 x1 x2 x3 x4 x5 : Field, l = [x0, x1, x2, x3, x4, x5] ∧ (x0.name ≠ "_" ∧ x1.name ≠ "_" ∧ x2.name ≠ "_" ∧ x3.name ≠ "_" ∧ x4.name ≠ "_" ∧ x5.name ≠ "_") ∧ (x0.type = a ∧ x1.type = b ∧ x2.type = c ∧ x3.type = d ∧ x4.type = e ∧ x5.type = f) ∧ (x0.offset = 0 ∧ x1.offset = 16 ∧ x2.offset = 48 ∧ x3.offset = 49 ∧ x4.offset = 50 ∧ x5.offset = 51) := by
  have hl : l.length = 6 := by simpa using congrArg List.length h
  match l, hl with
  | [x0, x1, x2, x3, x4, x5], _ =>
    simp only [List.map_cons, List.map_nil, List.cons.injEq, Prod.mk.injEq, and_true, beq_eq_false_iff_ne] at h
    exact ⟨x0, x1, x2, x3, x4, x5, rfl, by simp [h], by simp [h], by simp [h]⟩
theorem eqFields_stepC {P : Program} {w : World} {d : Nat} {xs ys : Array Value} {f : Field} {fs : List Field} {a b : Value} {r : Bool} {t : TypeId} {o : Nat} (hn : f.name ≠ "_") (ht : f.type = t) (ho : f.offset = o)
    (ha : (Go.part t xs o).run P w = .ok a w) (hb : (Go.part t ys o).run P w = .ok b w) (he : (Op.equalIn d t a b).run P w = .ok r w) :
    (Op.eqFields d xs ys (f :: fs)).run P w = if r = true then (Op.eqFields d xs ys fs).run P w else .ok false w := by
  subst ht ho
  simp only [Op.eqFields, ne_eq, hn, not_false_eq_true, if_true, Sem.run_bind, ha, hb, he, Result.andThen_ok]
  cases r <;> simp
theorem eqFields_nilC {P : Program} {w : World} {d : Nat} {xs ys : Array Value} : (Op.eqFields d xs ys []).run P w = .ok true w := by simp [Op.eqFields]
theorem rv_eqlF (K : TypeId) (hK : Tryz.prog.underlying K = some (.array 16 5)) (hi : (Tryz.prog.info? K).map (·.size) = some 16) (l : List Field)
    (hl : (l.map fun f => (f.name == "_", f.type, f.offset)) = [(false, K, 0), (false, 26, 16), (false, 3, 48), (false, 3, 49), (false, 3, 50), (false, 3, 51)]) (d : Nat) (u v : RV) (hu : u.wf) (hv : v.wf) (w : World) :
    (Op.eqFields (d + 2) u.cells.toArray v.cells.toArray l).run Tryz.prog w = .ok (decide (u = v)) w := by
  obtain ⟨x0, x1, x2, x3, x4, x5, hl, ⟨n0, n1, n2, n3, n4, n5⟩, ⟨t0, t1, t2, t3, t4, t5⟩, o0, o1, o2, o3, o4, o5⟩ := fields_rv hl
  obtain ⟨p0, p1⟩ := part_rv K hK hi u hu w
  obtain ⟨q0, q1⟩ := part_rv K hK hi v hv w
  obtain ⟨p2, p3, p4, p5⟩ := part_rvi u hu w
  obtain ⟨q2, q3, q4, q5⟩ := part_rvi v hv w
  have bs := fun w => size_of (show (Tryz.prog.info? 5).map (·.size) = some 1 by kernel_rfl) w
  have e0 := run_equalIn_bytes w d K 5 16 hK Tryz.underlying5 bs u.key v.key hu.1 hv.1
  have e1 := run_equalIn_bytes w d 26 5 32 Tryz.underlying26 Tryz.underlying5 bs u.ueb v.ueb hu.2 hv.2
  have ei := fun a b => run_equalIn_int (P := Tryz.prog) w (d + 1) 3 .i64 .i64 a b Tryz.underlying3
  rw [hl, eqFields_stepC n0 t0 o0 p0 q0 e0, eqFields_stepC n1 t1 o1 p1 q1 e1, eqFields_stepC n2 t2 o2 p2 q2 (ei _ _), eqFields_stepC n3 t3 o3 p3 q3 (ei _ _), eqFields_stepC n4 t4 o4 p4 q4 (ei _ _), eqFields_stepC n5 t5 o5 p5 q5 (ei _ _), eqFields_nilC]
  clear hl n0 n1 n2 n3 n4 n5 t0 t1 t2 t3 t4 t5 o0 o1 o2 o3 o4 o5 p0 p1 p2 p3 p4 p5 q0 q1 q2 q3 q4 q5 e0 e1 ei hu hv bs
  obtain ⟨key, ueb, k, n, seg, size⟩ := u
  obtain ⟨key', ueb', k', n', seg', size'⟩ := v
  simp only [RV.mk.injEq, beq_iff_eq]
  by_cases h0 : key = key'
  rotate_left
  · simp [h0]
  by_cases h1 : ueb = ueb'
  rotate_left
  · simp [h1]
  by_cases h2 : k = k'
  rotate_left
  · simp [h2]
  by_cases h3 : n = n'
  rotate_left
  · simp [h3]
  by_cases h4 : seg = seg'
  rotate_left
  · simp [h4]
  by_cases h5 : size = size'
  rotate_left
  · simp [h5]
  simp [h0, h1, h2, h3, h4, h5]
theorem read_eql (u v : RV) (hu : u.wf) (hv : v.wf) (w : World) : (binOp .eql 28 (.agg u.cells.toArray) (.agg v.cells.toArray)).run Tryz.prog w = .ok (.bool (decide (u = v))) w := by
  rw [run_eql_struct, run_equalIn_agg w 9999 28 _ _ (by kernel_rfl) (by kernel_rfl), rv_eqlF 24 Tryz.underlying24 (by kernel_rfl) _ (by kernel_rfl) 9997 u v hu hv w]
  rfl
theorem verify_eql (u v : RV) (hu : u.wf) (hv : v.wf) (w : World) : (binOp .eql 31 (.agg u.cells.toArray) (.agg v.cells.toArray)).run Tryz.prog w = .ok (.bool (decide (u = v))) w := by
  rw [run_eql_struct, run_equalIn_agg w 9999 31 _ _ (by kernel_rfl) (by kernel_rfl), rv_eqlF 29 Tryz.underlying29 (by kernel_rfl) _ (by kernel_rfl) 9997 u v hu hv w]
  rfl

/-! ### They are put together -/
theorem build_read0 (w : World) : (Instr.build 28 #[]).run Tryz.prog w = .ok (.agg RV.zero.cells.toArray) w := by kernel_rfl
theorem build_verify0 (w : World) : (Instr.build 31 #[]).run Tryz.prog w = .ok (.agg RV.zero.cells.toArray) w := by kernel_rfl
theorem build_cap0 (w : World) : (Instr.build 34 #[]).run Tryz.prog w = .ok (.agg (CP.zero.cells (.slice none 0 0))) w := by kernel_rfl
theorem build_cap3 (A : Option Addr) (n c : Nat) (w : World) : (Instr.build 34 #[(0, .int .u8 3), (4, .slice A n c)]).run Tryz.prog w = .ok (.agg (CP.cells ⟨3, false, RV.zero, RV.zero, []⟩ (.slice A n c))) w := by kernel_rfl
theorem list16 {α : Type} {l : List α} (h : l.length = 16) : ∃ a0 a1 a2 a3 a4 a5 a6 a7 a8 a9 a10 a11 a12 a13 a14 a15 : α, l = [a0, a1, a2, a3, a4, a5, a6, a7, a8, a9, a10, a11, a12, a13, a14, a15] := by
  match l, h with
  | [a0, a1, a2, a3, a4, a5, a6, a7, a8, a9, a10, a11, a12, a13, a14, a15], _ => exact ⟨_, _, _, _, _, _, _, _, _, _, _, _, _, _, _, _, rfl⟩
theorem list32 {α : Type} {l : List α} (h : l.length = 32) : ∃ a b : List α, l = a ++ b ∧ a.length = 16 ∧ b.length = 16 := ⟨l.take 16, l.drop 16, by simp, by simp [h], by simp [h]⟩
end Go.Proofs.YtcpceaflnnkhnaaGreatDoor

/- Contracts of the letters' functions, the program's and the document's. -/
namespace Go.Proofs.YtcpceaflnnkhnaaGreatDoor
open Go.RowKit

/-- How many letters, as the program reckons it. -/
def blen (n : Int) : Int := if n < 1 then 0 else n / 5 * 8 + (n % 5 * 8 + 4) / 5
theorem blen_lets (n : Nat) : blen n = lets n := by
  unfold blen lets
  split <;> omega
set_option maxHeartbeats 400000 in
theorem rlength_any (n : Nat) (w : World) (hn : n ≤ 1152921504606846975) :
    Calls Tryz.prog 99 #[.int .i64 n] w fun e w' => e = .returned (.int .i64 (lets n : Nat)) ∧ w = w' := by
  by_cases h : n < 1
  · go_enter Tryz.func99, Tryz.ntmps99
    go_wp2
    go_ret
    exact ⟨ret_int (by rw [show n = 0 by omega]; rfl), rfl⟩
  · have h1 : (1 : Int) ≤ n := by omega
    go_enter Tryz.func99, Tryz.ntmps99
    go_wp2
    go_ret
    exact ⟨ret_int (by unfold lets; omega), rfl⟩

def worthI (c : UInt8) : Int := match worthN c with
  | some n => (n : Int)
  | none => -1
theorem worthI_eq (c : UInt8) : worthI c = if 97 ≤ (c.toNat : Int) ∧ (c.toNat : Int) ≤ 122 then (c.toNat : Int) - 97 else if 50 ≤ (c.toNat : Int) ∧ (c.toNat : Int) ≤ 55 then (c.toNat : Int) - 50 + 26 else -1 := by
  unfold worthI worthN
  split
  · rename_i n h
    split at h
    · injection h with h; rw [if_pos (by omega)]; omega
    · split at h
      · injection h with h; rw [if_neg (by omega), if_pos (by omega)]; omega
      · cases h
  · rename_i h
    split at h
    · cases h
    · split at h
      · cases h
      · rw [if_neg (by omega), if_neg (by omega)]
set_option maxHeartbeats 400000 in
theorem worth_any (c : UInt8) (w : World) :
    Calls Tryz.prog 111 #[.int .u8 (c.toNat : Int)] w fun e w' => e = .returned (.int .i64 (worthI c)) ∧ w = w' := by
  have hc := c.toNat_lt
  go_enter Tryz.func111, Tryz.ntmps111
  go_wp2
  all_goals go_ret
  all_goals refine ⟨ret_int ?_, rfl⟩
  all_goals rw [worthI_eq]
  all_goals repeat' split
  all_goals omega

def alph : List UInt8 := (List.range 32).map letterN
/-- The array while it is being filled. -/
def filled (k : Nat) : Array Value := (bcells (alph.take k) ++ List.replicate (32 - k) (Value.int .u8 0)).toArray
theorem filled_set (k : Nat) (h : k < 32) : (filled k).setIfInBounds k (Value.int .u8 ((letterN k).toNat : Int)) = filled (k + 1) := by
  have ha : alph[k]? = some (letterN k) := by simp [alph, h]
  unfold filled
  rw [take_snoc alph k _ ha, show 32 - k = (32 - (k + 1)) + 1 by omega, List.replicate_succ]
  have hl : (bcells (alph.take k)).length = k := by simp [alph]; omega
  simp only [List.setIfInBounds_toArray, bcells_append, bcells_one]
  rw [List.set_append_right _ _ (by omega), hl, Nat.sub_self, List.set_cons_zero, List.append_assoc]
  rfl
theorem filled_size (k : Nat) (h : k ≤ 32) : (filled k).size = 32 := by simp [filled, alph]; omega

set_option maxHeartbeats 800000 in
set_option maxRecDepth 100000 in
theorem alphabet_any (w : World) :
    Calls Tryz.prog 207 #[] w fun e w' => e = .returned (.agg (filled 32)) ∧ Below w.heap.size w w' := by
  have hn1 := (Blk.new w 25 (filled 0)).alloc (.cells (filled 0) 25)
  have hn2 := Blk.new (w.alloc (.cells (filled 0) 25)) 25 (filled 0)
  rw [World.size_alloc] at hn2
  have hn3 := ((Below.refl w.heap.size w).alloc (Nat.le_refl _) (.cells (filled 0) 25)).alloc (by simp) (.cells (filled 0) 25)
  have H := hide (And.intro hn1 (And.intro hn2 hn3))
  clear hn1 hn2 hn3
  go_enter Tryz.func207, Tryz.ntmps207
  go_wp2
  go_loopw [2, 4] (fun _ u4 wr => ∃ k : Nat, k ≤ 26 ∧ u4 = .int .i64 (k : Int) ∧ Blk wr w.heap.size 25 (filled 0) ∧ Blk wr (w.heap.size + 1) 25 (filled k) ∧ Below w.heap.size w wr) (fun _ i _ => 26 - (intOf i).toNat)
  case atStart =>
    exact ⟨0, by omega, rfl, H.out.1, H.out.2.1, H.out.2.2⟩
  case round =>
    clear H
    obtain ⟨k, hk, rfl, hb0, hb1, hbel⟩ := hrel
    have h0 := hide hb0
    have h1 := hide hb1
    by_cases hlt : k < 26
    · obtain ⟨y, hy⟩ : ∃ y, wr.cell? ⟨w.heap.size + 1, k, none⟩ = some y := by rw [hb1.cell]; exact ⟨_, Array.getElem?_eq_getElem (by rw [filled_size k (by omega)]; omega)⟩
      have hf := hb1.frozen k
      clear hb0 hb1
      go_wp2
      go_roundw
      case rel =>
        refine ⟨k + 1, by omega, by go_num, h0.out.far (by simp) _, ?_, hbel.setCell (by simp) _⟩
        have := h1.out.set_ k (.int .u8 ((letterN k).toNat : Int))
        rw [filled_set k (by omega), letterN_toNat k (by omega), if_pos hlt] at this
        exact this
      case measure => simp [intOf]; omega
    · have hk26 : k = 26 := by omega
      subst hk26
      clear hb0 hb1
      go_wp2
      go_loopw [3, 13] (fun _ u4 wr => ∃ k : Nat, k ≤ 6 ∧ u4 = .int .i64 (k : Int) ∧ Blk wr w.heap.size 25 (filled 0) ∧ Blk wr (w.heap.size + 1) 25 (filled (26 + k)) ∧ Below w.heap.size w wr) (fun _ i _ => 6 - (intOf i).toNat)
      case atStart => exact ⟨0, by omega, rfl, h0.out, h1.out, hbel⟩
      case round =>
        clear h0 h1 hbel
        obtain ⟨k, hk, rfl, hb0, hb1, hbel⟩ := hrel
        have h0 := hide hb0
        have h1 := hide hb1
        by_cases hlt : k < 6
        · obtain ⟨y, hy⟩ : ∃ y, wr.cell? ⟨w.heap.size + 1, 26 + k, none⟩ = some y := by rw [hb1.cell]; exact ⟨_, Array.getElem?_eq_getElem (by rw [filled_size (26 + k) (by omega)]; omega)⟩
          have hf := hb1.frozen (26 + k)
          clear hb0 hb1
          go_wp2
          go_roundw
          case rel =>
            refine ⟨k + 1, by omega, by go_num, h0.out.far (by simp) _, ?_, hbel.setCell (by simp) _⟩
            have := h1.out.set_ (26 + k) (.int .u8 ((letterN (26 + k)).toNat : Int))
            rw [filled_set (26 + k) (by omega), letterN_toNat (26 + k) (by omega), if_neg (by omega)] at this
            rw [show ((24 + (26 + k) : Nat) : Int) = 50 + (k : Int) by omega] at this
            exact this
          case measure => simp [intOf]; omega
        · have hk6 : k = 6 := by omega
          subst hk6
          clear hb0 hb1
          have hfl := h1.out
          rw [show 26 + 6 = 32 from rfl] at hfl
          clear h1
          have h1 := hide hfl
          clear hfl
          go_wp2_with (first
            | (refine wpList_load_row (o := ⟨some 23, .load _ _, _, _, _, _⟩) rfl 25 _ rfl (w.heap.size + 1) rfl 25 (filled 32) (0, 0) _ h1.out Tryz.underlying25 rfl (by kernel_rfl) ?_)
            | (refine wpList_store_row (o := ⟨none, .store _ _ _, _, _, _, _⟩) h0.out (filled 32) rfl (by decide +kernel) rfl 25 _ _ rfl (by kernel_rfl) rfl rfl ?_; intro w1 hb1 hg1))
          exact bodyPost_ret (results_cell_row rfl _ _ w.heap.size 25 (filled 32) (0, 0) _ rfl hb1 Tryz.underlying25 rfl (by kernel_rfl)) rfl ⟨rfl, hbel.grown hg1 hbel.size fun k hk => by injection hk with hk; omega⟩

end Go.Proofs.YtcpceaflnnkhnaaGreatDoor

/- Contract of the program's Letters. -/
namespace Go.Proofs.YtcpceaflnnkhnaaGreatDoor
open Go.RowKit

theorem u32_and31 (a : Nat) (ha : a < 4294967296) : bits .and .u32 (a : Int) 31 = ((a % 32 : Nat) : Int) := by
  have := u32_and_nat a 31 ha (by omega)
  rw [show (31 : Nat) = 2 ^ 5 - 1 from rfl, Nat.and_two_pow_sub_one_eq_mod] at this
  exact this
theorem div_pow_cast (a h : Nat) : (a : Int) / 2 ^ h = ((a / 2 ^ h : Nat) : Int) := by rw [Int.natCast_ediv, Int.natCast_pow]; rfl
theorem mul_pow_cast (a h m : Nat) : (a : Int) * 2 ^ h % (m : Int) = ((a * 2 ^ h % m : Nat) : Int) := by rw [Int.natCast_emod, Int.natCast_mul, Int.natCast_pow]; rfl
theorem filled_get (d : Nat) (h : d < 32) : (filled 32)[d]? = some (Value.int .u8 ((letterN d).toNat : Int)) := by
  simp [filled, bcells, alph, h]
theorem m32_top (M h : Nat) (hh : h ≤ 5) : m32 M * 2 ^ h % 4294967296 % 32 = M * 2 ^ h % 32 := by
  rw [Nat.mod_mod_of_dvd _ (by decide : 32 ∣ 4294967296), Nat.mul_mod, ← show (2 : Nat) ^ 5 = 32 from rfl, m32_low M 5 (by omega), ← Nat.mul_mod]

set_option maxRecDepth 100000 in
set_option maxHeartbeats 1000000 in
theorem bletters_any (v : Value) (l : List UInt8) (w : World) (ha : By w v l) (hl : l.length ≤ 87960930222000) :
    Calls Tryz.prog 204 #[v] w fun e w' => ∃ s : ByteArray, e = .returned (.string s) ∧ s.data.toList = letters l ∧ Below w.heap.size w w' := by
  obtain ⟨A, c, rfl, hc, hm, hca⟩ := ha.form
  unfold maxLen at hm
  go_enter Tryz.func204, Tryz.ntmps204
  go_wp2_with fail
  refine (alphabet_any w).mono ?_
  rintro e w1 ⟨rfl, hb1⟩
  have hn := Blk.new w1 25 (filled 0)
  have hbl1 : Below w.heap.size w (w1.alloc (.cells (filled 0) 25)) := hb1.alloc hb1.size _
  go_wp2_with (refine wpList_store_row (o := ⟨none, .store _ _ _, _, _, _, _⟩) hn (filled 32) rfl (by decide +kernel) rfl 25 _ _ rfl (by kernel_rfl) rfl rfl ?_; intro w2 hb2 hg2)
  have hbl2 : Below w.heap.size w w2 := hbl1.grown hg2 (by have := hb1.size; simp; omega) fun k hk => by injection hk with hk; have := hb1.size; omega
  obtain ⟨g, hg⟩ : ∃ g, g = w1.heap.size := ⟨_, rfl⟩
  have hgw : w.heap.size ≤ g := by rw [hg]; exact hb1.size
  rw [← hg] at hb2 ⊢
  clear hn hbl1 hg2 hb1 hg
  have hlen : (l.length : Int) ≤ 87960930222000 := by omega
  go_loopw [4, 5, 6, 8, 12] (fun u4 u5 u6 _ u12 wr => ∃ k e h N : Nat, k ≤ l.length ∧ 5 * e + h = 8 * k ∧ h < 5 ∧ u12 = .int .i64 (k : Int) ∧ u6 = .int .i64 (h : Int) ∧ u5 = .int .u32 (N : Int) ∧
      N = m32 (val 256 (nats (l.take k))) ∧ Own wr w.heap.size 5 u4 (part l k e) ∧ Blk wr g 25 (filled 32) ∧ Below w.heap.size w wr) (fun _ _ _ _ u12 _ => l.length - (intOf u12).toNat)
  case atStart => exact ⟨0, 0, 0, 0, by omega, by omega, by omega, rfl, rfl, rfl, by simp [nats, m32_eq], by simpa [part, dig] using Own.nil w2 w.heap.size 5, hb2, hbl2⟩
  case round =>
    clear hb2 hbl2
    obtain ⟨k, e, h, N, hk, heh, hh, rfl, rfl, rfl, hN, hown, hblk, hbel⟩ := hrel
    have HN := hide hN
    have HO := hide hown
    have HE := hide heh
    have HB := hide hblk
    have hN32 : (N : Int) ≤ 4294967295 := by have := m32_lt (val 256 (nats (l.take k))); omega
    clear hN hown heh hblk
    by_cases hlt : k < l.length
    · obtain ⟨x, hx⟩ : ∃ x, l[k]? = some x := ⟨_, List.getElem?_eq_getElem hlt⟩
      obtain ⟨b, o, rfl, hbl, hcell⟩ := hca k x hx
      have hcx : wr.cell? ⟨b, o + k, none⟩ = some (.int .u8 (x.toNat : Int)) := (hbel.cell (p := ⟨b, o + k, none⟩) hbl).trans hcell
      have HX := hide hx
      clear hx hcell hca
      have hx8 := x.toNat_lt
      obtain ⟨NB, hNB⟩ : ∃ NB : Nat, NB = (N * 256) % 4294967296 + x.toNat := ⟨_, rfl⟩
      have hor : bits .or .u32 ((N : Int) * 256 % 4294967296) (x.toNat : Int) = (NB : Int) := by
        rw [show ((N : Int) * 256 % 4294967296) = ((N * 256 % 4294967296 : Nat) : Int) by omega, u32_or_nat _ _ (by omega) (by omega), or_byte32 _ _ (by omega), hNB]
      have hNB2 : NB = m32 (val 256 (nats (l.take (k + 1)))) := by
        rw [hNB, HN.out, m32_byte _ _ (by omega), take_snoc l k x HX.out, nats_snoc, val_snoc]
      have hNB3 : (NB : Int) ≤ 4294967295 := by have := m32_lt (val 256 (nats (l.take (k + 1)))); omega
      have HNB := hide hNB2
      clear hNB2 hNB
      go_wp2
      clear hor
      go_loopw [4, 6] (fun u4 u6 wr => ∃ e h : Nat, 5 * e + h = 8 * (k + 1) ∧ h ≤ 12 ∧ u6 = .int .i64 (h : Int) ∧ Own wr w.heap.size 5 u4 (part l (k + 1) e) ∧ Blk wr g 25 (filled 32) ∧ Below w.heap.size w wr) (fun _ u6 _ => (intOf u6).toNat)
      case atStart => exact ⟨e, h + 8, by have := HE.out; omega, by omega, by go_num, by rw [part_byte l k e x HX.out (by have := HE.out; omega)]; exact HO.out, HB.out, hbel⟩
      case round =>
        clear HO HE HB hcx hh hbel
        obtain ⟨e, h, heh, hh, rfl, hown, hblk, hbel⟩ := hrel
        have HO := hide hown
        have HE := hide heh
        have HB := hide hblk
        clear hown heh hblk
        by_cases h5 : 5 ≤ h
        · obtain ⟨d, hd⟩ : ∃ d : Nat, d = NB / 2 ^ (h - 5) % 32 := ⟨_, rfl⟩
          have hd32 : d < 32 := by rw [hd]; omega
          have hand : bits .and .u32 ((NB : Int) / 2 ^ (h - 5)) 31 = (d : Int) := by
            rw [div_pow_cast, u32_and31 _ (Nat.lt_of_le_of_lt (Nat.div_le_self _ _) (by omega)), hd]
          have hcd : wr.cell? ⟨g, d, none⟩ = some (.int .u8 ((letterN d).toNat : Int)) := by rw [HB.out.cell, filled_get d hd32]
          have HD := hide hd
          clear hd
          go_wp2_with (at_builtin; go_loud (refine wpList_pushB elem8 HO.out hbel hbel.size (by rw [part_length]; have := HE.out; omega) (letterN d) rfl _ _ rfl rfl rfl ?_); intro v1 w1 hown1 hbel1 hgr1 _)
          go_roundw
          case rel =>
            refine ⟨e + 1, h - 5, by have := HE.out; omega, by omega, by go_num, ?_, HB.out.grown hgr1 (by
              have := own_blk_ne HO.out HB.out (by decide)
              rcases this with h0 | h0
              · rw [h0]; simp
              · exact Ne.symm h0), hbel1⟩
            rw [part_letter l (k + 1) e (by have := HE.out; omega), show 8 * (k + 1) - 5 * (e + 1) = h - 5 by have := HE.out; omega]
            have : val 256 (nats (l.take (k + 1))) / 2 ^ (h - 5) % 32 = d := by
              rw [HD.out, HNB.out]
              exact (m32_bits _ (h - 5) 5 (by omega)).symm
            rw [this]
            exact hown1
          case measure => simp [intOf]; omega
        · go_wp2
          go_roundw
          case rel => exact ⟨k + 1, e, h, NB, by omega, HE.out, by omega, by go_num, rfl, rfl, HNB.out, HO.out, HB.out, hbel⟩
          case measure => simp [intOf]; omega
    · have hkl : k = l.length := by omega
      have HK := hide hkl
      clear hkl
      by_cases h0 : h = 0
      · subst h0
        obtain ⟨s, hs, hcv⟩ := run_str (P := Tryz.prog) (By.keep HO.out.by_ (Nat.le_refl _) fun _ _ => rfl) 32 9 5 Tryz.underlying32 Tryz.underlying5 Tryz.underlying9
        have HS := hide hs
        clear hs
        go_wp2
        go_ret
        refine ⟨s, rfl, ?_, hbel⟩
        rw [HS.out, HK.out, part_end l e (by have := HE.out; have := HK.out; omega) (by have := HE.out; have := HK.out; omega), if_pos (by have := HE.out; have := HK.out; omega)]
      · obtain ⟨d, hd⟩ : ∃ d : Nat, d = N * 2 ^ (5 - h) % 4294967296 % 32 := ⟨_, rfl⟩
        have hd32 : d < 32 := by rw [hd]; omega
        have hand : bits .and .u32 ((N : Int) * 2 ^ (5 - h) % 4294967296) 31 = (d : Int) := by
          rw [show (4294967296 : Int) = ((4294967296 : Nat) : Int) from rfl, mul_pow_cast, u32_and31 _ (Nat.mod_lt _ (by omega)), hd]
        have hcd : wr.cell? ⟨g, d, none⟩ = some (.int .u8 ((letterN d).toNat : Int)) := by rw [HB.out.cell, filled_get d hd32]
        have HD := hide hd
        clear hd
        have h1 : 1 ≤ h := by omega
        go_wp2_with (at_builtin; go_loud (refine wpList_pushB elem8 HO.out hbel hbel.size (by rw [part_length]; have := HE.out; omega) (letterN d) rfl _ _ rfl rfl rfl ?_); intro v1 w1 hown1 hbel1 hgr1 _; obtain ⟨s, hs, hcv⟩ := run_str (P := Tryz.prog) hown1.by_ 32 9 5 Tryz.underlying32 Tryz.underlying5 Tryz.underlying9; have HS := hide hs; clear hs)
        go_ret
        refine ⟨s, rfl, ?_, hbel1⟩
        rw [HS.out, HK.out, part_end l e (by have := HE.out; have := HK.out; omega) (by have := HE.out; have := HK.out; omega), if_neg (by have := HE.out; have := HK.out; omega)]
        congr 3
        rw [HD.out, HN.out, m32_top _ _ (by omega), HK.out, List.take_length]
        congr 3
        have := HE.out
        have := HK.out
        omega
end Go.Proofs.YtcpceaflnnkhnaaGreatDoor

/- Contract of the document's Letters. -/
namespace Go.Proofs.YtcpceaflnnkhnaaGreatDoor
open Go.RowKit

def alphS : ByteArray := ⟨#[97, 98, 99, 100, 101, 102, 103, 104, 105, 106, 107, 108, 109, 110, 111, 112, 113, 114, 115, 116, 117, 118, 119, 120, 121, 122, 50, 51, 52, 53, 54, 55]⟩
theorem alphS_all : ∀ d : Fin 32, alphS[d.1]? = some (letterN d.1) := by decide +kernel
theorem alphS_at (X : Nat) (h : X < 32) (h' : X < alphS.size) : alphS[X]'h' = letterN X := by
  have := alphS_all ⟨X, h⟩
  rw [getElem?_pos alphS X h'] at this
  injection this


set_option maxRecDepth 100000 in
set_option maxHeartbeats 1000000 in
theorem rletters_any (v : Value) (l : List UInt8) (w : World) (ha : By w v l) (hl : l.length ≤ 87960930222000) :
    Calls Tryz.prog 47 #[v] w fun e w' => ∃ s : ByteArray, e = .returned (.string s) ∧ s.data.toList = letters l ∧ Below w.heap.size w w' := by
  obtain ⟨A, c, rfl, hc, hm, hca⟩ := ha.form
  unfold maxLen at hm
  go_enter Tryz.func47, Tryz.ntmps47
  go_wp2
  go_loopw [3, 4, 5, 6, 7, 8] (fun u3 u4 _ _ _ _ wr => ∃ i : Nat, i ≤ lets l.length ∧ u4 = .int .i64 (i : Int) ∧ Own wr w.heap.size 5 u3 ((letters l).take i) ∧ Below w.heap.size w wr) (fun _ u4 _ _ _ _ _ => lets l.length - (intOf u4).toNat)
  case atStart => exact ⟨0, by omega, rfl, Own.nil _ _ _, Below.refl _ _⟩
  case round =>
    obtain ⟨i, hi, rfl, hown, hbel⟩ := hrel
    have HO := hide hown
    clear hown
    have hlets : lets l.length = (8 * l.length + 4) / 5 := rfl
    have HL := hide hlets
    clear hlets
    by_cases hlt : i < lets l.length
    · have hi5 : 5 * i < 8 * l.length := by have := HL.out; omega
      go_wp2
      go_loopw [5, 6, 7, 8] (fun u5 u6 _ _ wx => ∃ k X : Nat, k ≤ 5 ∧ u6 = .int .i64 (k : Int) ∧ u5 = .int .i64 (X : Int) ∧ X = big l / 2 ^ (5 * lets l.length - 5 * i - k) % 2 ^ k ∧ wx = wr) (fun _ u6 _ _ _ => 5 - (intOf u6).toNat)
      case atStart => exact ⟨0, 0, by omega, rfl, rfl, by simp [Nat.mod_one], rfl⟩
      case round =>
        obtain ⟨k, X, hk, rfl, rfl, hX, rfl⟩ := hrel
        have HX := hide hX
        have hX32 : X < 32 := by
          rw [hX]
          exact Nat.lt_of_lt_of_le (Nat.mod_lt _ (Nat.two_pow_pos _)) (by rw [show 32 = 2 ^ 5 from rfl]; exact Nat.pow_le_pow_right (by omega) hk)
        clear hX
        by_cases hk5 : k < 5
        · have hn5 : 5 * i + k < 5 * lets l.length := by omega
          have hbit := bit_big l (5 * i + k) hn5
          have hstep := bits_step (big l) (5 * lets l.length - 5 * i - k) k (by omega)
          rw [show 5 * lets l.length - 5 * i - k - 1 = 5 * lets l.length - 1 - (5 * i + k) by omega, ← hbit] at hstep
          have HS := hide hstep
          clear hbit hstep
          by_cases hn : 5 * i + k < 8 * l.length
          · obtain ⟨x, hx⟩ : ∃ x, l[(5 * i + k) / 8]? = some x := ⟨_, List.getElem?_eq_getElem (by omega)⟩
            obtain ⟨b, o, rfl, hbl, hcell⟩ := hca _ x hx
            have hcx : wr.cell? ⟨b, o + (5 * i + k) / 8, none⟩ = some (.int .u8 (x.toNat : Int)) := (hbel.cell (p := ⟨b, o + (5 * i + k) / 8, none⟩) hbl).trans hcell
            have HX2 := hide hx
            clear hx hcell hca
            have hx8 := x.toNat_lt
            obtain ⟨B, hB⟩ : ∃ B : Nat, B = bitAt l (5 * i + k) := ⟨_, rfl⟩
            have hB2 : B ≤ 1 := by rw [hB]; unfold bitAt; omega
            have hshift : ((x.toNat : Int) / 2 ^ (7 - (5 * i + k) % 8)).tmod 2 = (B : Int) := by
              rw [div_pow_cast, hB]
              unfold bitAt
              rw [List.getD_eq_getElem?_getD, HX2.out]
              rfl
            have HB := hide hB
            clear hB
            go_wp2
            go_roundw
            case rel =>
              refine ⟨k + 1, 2 * X + B, by omega, by go_num, by go_num, ?_, by trivial⟩
              have := HS.out
              rw [if_pos hn, ← HX.out, ← HB.out, show 5 * lets l.length - 1 - (5 * i + k) = 5 * lets l.length - 5 * i - (k + 1) by omega] at this
              exact this
            case measure => simp [intOf]; omega
          · go_wp2
            go_roundw
            case rel =>
              refine ⟨k + 1, 2 * X, by omega, by go_num, by go_num, ?_, by trivial⟩
              have := HS.out
              rw [if_neg hn, ← HX.out, show 5 * lets l.length - 1 - (5 * i + k) = 5 * lets l.length - 5 * i - (k + 1) by omega] at this
              simpa using this
            case measure => simp [intOf]; omega
        · have hk5' : k = 5 := by omega
          subst hk5'
          have hX' : X < alphS.size := by show X < 32; omega
          go_wp2_with (at_builtin; go_loud (refine wpList_pushB elem8 HO.out hbel hbel.size (by rw [List.length_take, letters_length]; have := HL.out; omega) (alphS[X]'hX') rfl _ _ rfl rfl rfl ?_); intro v1 w1 hown1 hbel1 hgr1 _)
          go_roundw
          case rel =>
            refine ⟨i + 1, by omega, by go_num, ?_, hbel1⟩
            rw [take_snoc _ i _ (letters_get l i hlt)]
            rw [alphS_at X hX32, HX.out] at hown1
            exact hown1
          case measure => simp [intOf]; have := HL.out; omega
    · have hil : i = lets l.length := by omega
      have hi5 : 8 * (l.length : Int) ≤ (i : Int) * 5 := by have := HL.out; omega
      have hi6 : (i : Int) ≤ 140737488355201 := by have := HL.out; omega
      have hO := HO.out
      rw [List.take_of_length_le (by rw [letters_length]; omega)] at hO
      obtain ⟨s, hs, hcv⟩ := run_str (P := Tryz.prog) hO.by_ 32 9 5 Tryz.underlying32 Tryz.underlying5 Tryz.underlying9
      have HS := hide hs
      have HI := hide hil
      clear hs hO hil
      go_wp2
      go_ret
      exact ⟨s, rfl, HS.out, hbel⟩
end Go.Proofs.YtcpceaflnnkhnaaGreatDoor

/- Contract of the program's Bytes. -/
namespace Go.Proofs.YtcpceaflnnkhnaaGreatDoor
open Go.RowKit


theorem pow_small (h : Nat) (hh : h ≤ 8) : 2 ^ h ≤ 256 := by
  have := Nat.pow_le_pow_right (n := 2) (by omega) hh
  omega
theorem mask_cast (h : Nat) (hh : h ≤ 8) : ((2 : Int) ^ h - 1) % 4294967296 = ((2 ^ h - 1 : Nat) : Int) := by
  have h1 := pow_small h hh
  have h2 := Nat.two_pow_pos h
  have h3 : (2 : Int) ^ h = ((2 ^ h : Nat) : Int) := by rw [Int.natCast_pow]; rfl
  rw [h3]
  omega
theorem worthI_none (c : UInt8) (h : worthN c = none) : worthI c = -1 := by unfold worthI; rw [h]
theorem worthI_some (c : UInt8) (d : Nat) (h : worthN c = some d) : worthI c = (d : Int) := by unfold worthI; rw [h]

/-- Where the run jumps to the label: the place of the fault stands in slot 8. -/
def AtLetter (s : ByteArray) (w0 : World) (a : Act) (w : World) : Prop :=
  ∃ (k : Nat) (u0 u1 u2 u3 u4 u5 u6 u7 u8 u9 u10 u11 u12 u13 u14 u15 u16 u17 u18 u19 u20 u21 u22 u23 u24 u25 u26 u27 u28 u29 u30 u31 u32 u33 u34 u35 u36 u37 u38 u39 u40 u41 u42 u43 u44 u45 u46 u47 u48 u49 u50 u51 u52 u53 u54 : Value), bad (lst s) = some k ∧ u8 = .int .i64 (k : Int) ∧ Below w0.heap.size w0 w ∧ a = ⟨#[u0, u1, u2, u3, u4, u5, u6, u7, u8, u9, u10, u11, u12, u13, u14, u15, u16, u17, u18, u19, u20, u21, u22, u23, u24, u25, u26, u27, u28, u29, u30, u31, u32, u33, u34, u35, u36, u37, u38, u39, u40, u41, u42, u43, u44, u45, u46, u47, u48, u49, u50, u51, u52, u53, u54], []⟩

set_option maxRecDepth 100000 in
set_option maxHeartbeats 1000000 in
theorem bbytes_any (s : ByteArray) (w : World) (hs : s.size ≤ 140737488355328) :
    Calls Tryz.prog 95 #[.string s] w fun e w' => ∃ v, e = .returned (.tuple #[v, .int .i64 ((decode (lst s)).2.1 : Int), .int .i64 ((decode (lst s)).2.2 : Int)]) ∧
      Own w' w.heap.size 5 v (decode (lst s)).1 ∧ Below w.heap.size w w' := by
  have hlen := lst_len s
  have HLEN := hide hlen
  clear hlen
  go_enter Tryz.func95, Tryz.ntmps95
  go_wp2
  refine wp_scope_jumps 0 (AtLetter s w) (fun _ _ => 0) rfl ?_ ?_
  rotate_left
  · rintro a w1 ⟨k, u0, u1, u2, u3, u4, u5, u6, u7, u8, u9, u10, u11, u12, u13, u14, u15, u16, u17, u18, u19, u20, u21, u22, u23, u24, u25, u26, u27, u28, u29, u30, u31, u32, u33, u34, u35, u36, u37, u38, u39, u40, u41, u42, u43, u44, u45, u46, u47, u48, u49, u50, u51, u52, u53, u54, hbad, rfl, hbel, rfl⟩
    have HB := hide hbad
    clear hbad
    go_wp2
    simp only [Exit.jump]
    go_ret3
    refine ⟨.slice none 0 0, ?_, ?_, hbel⟩
    · unfold decode; rw [HB.out]; rfl
    · unfold decode; rw [HB.out]; exact Own.nil _ _ _
  go_wp2
  go_loopw [5, 6, 7, 8, 9, 12] (fun u5 u6 u7 _ _ u12 wr => ∃ k e h N : Nat, k ≤ s.size ∧ 8 * e + h = 5 * k ∧ h < 8 ∧ u12 = .int .i64 (k : Int) ∧ u7 = .int .i64 (h : Int) ∧ u6 = .int .u32 (N : Int) ∧
      N = m32 (val 32 (worths ((lst s).take k))) ∧ Own wr w.heap.size 5 u5 (part8 (lst s) k e) ∧ good (lst s) k ∧ Below w.heap.size w wr) (fun _ _ _ _ _ u12 _ => s.size - (intOf u12).toNat)
  case atStart => exact ⟨0, 0, 0, 0, by omega, by omega, by omega, rfl, rfl, rfl, by simp [worths, m32_eq], by simpa [part8, bytesN, dig] using Own.nil w w.heap.size 5, good_zero _, Below.refl _ _⟩
  case round =>
    obtain ⟨k, e, h, N, hk, heh, hh, rfl, rfl, rfl, hN, hown, hgood, hbel⟩ := hrel
    have HN := hide hN
    have HO := hide hown
    have HE := hide heh
    have HG := hide hgood
    have hN32 : (N : Int) ≤ 4294967295 := by have := m32_lt (val 32 (worths ((lst s).take k))); omega
    clear hN hown heh hgood
    by_cases hlt : k < s.size
    · have hx := lst_get s k hlt
      have HX := hide hx
      clear hx
      have hwc := worth_any (s[k]'hlt)
      rcases hwn : worthN (s[k]'hlt) with _ | d
      · rw [worthI_none _ hwn] at hwc
        have HW := hide hwn
        clear hwn
        go_wp2_with (go_at_call 111; ((with_reducible refine (hwc _).mono ?_)); rintro e w' ⟨rfl, rfl⟩)
        go_step3
        simp only [Exit.then, Exit.inBlock, Exit.jump]
        refine ⟨rfl, k, _, _, _, _, _, _, _, _, _, _, _, _, _, _, _, _, _, _, _, _, _, _, _, _, _, _, _, _, _, _, _, _, _, _, _, _, _, _, _, _, _, _, _, _, _, _, _, _, _, _, _, _, _, _, _, bad_some _ k _ HG.out HX.out HW.out, rfl, hbel, rfl⟩
      · rw [worthI_some _ _ hwn] at hwc
        have hd32 := (letter_worth _ _ hwn).2
        have HW := hide hwn
        clear hwn
        obtain ⟨NB, hNB⟩ : ∃ NB : Nat, NB = (N * 32) % 4294967296 + d := ⟨_, rfl⟩
        have hor : bits .or .u32 ((N : Int) * 32 % 4294967296) (d : Int) = (NB : Int) := by
          rw [show ((N : Int) * 32 % 4294967296) = ((N * 32 % 4294967296 : Nat) : Int) by omega, u32_or_nat _ _ (by omega) (by omega), or_five32 _ _ hd32, hNB]
        have hNB2 : NB = m32 (val 32 (worths ((lst s).take (k + 1)))) := by
          rw [hNB, HN.out, m32_five _ _ hd32, val_take_snoc _ k _ HX.out, HW.out]; rfl
        have hNB3 : (NB : Int) ≤ 4294967295 := by have := m32_lt (val 32 (worths ((lst s).take (k + 1)))); omega
        have HNB := hide hNB2
        clear hNB2 hNB
        have hh8 : (h : Int) < 8 := by omega
        by_cases h3 : 3 ≤ h
        · obtain ⟨y, hy⟩ : ∃ y : UInt8, y = UInt8.ofNat (NB / 2 ^ (h - 3) % 256) := ⟨_, rfl⟩
          have hyi : (NB : Int) / 2 ^ (h - 3) % 256 = (y.toNat : Int) := by
            rw [div_pow_cast, hy, UInt8.toNat_ofNat']; omega
          have HY := hide hy
          clear hy
          go_wp2_with (first
            | (go_at_call 111; ((with_reducible refine (hwc _).mono ?_)); rintro e w' ⟨rfl, rfl⟩)
            | (at_builtin; go_loud (refine wpList_pushB elem8 HO.out hbel hbel.size (by rw [part8_length]; have := HE.out; omega) y rfl _ _ rfl rfl rfl ?_); intro v1 w1 hown1 hbel1 hgr1 _))
          go_roundw
          case rel =>
            refine ⟨k + 1, e + 1, h - 3, NB, by omega, by have := HE.out; omega, by omega, by go_num, by go_num, rfl, HNB.out, ?_, good_succ _ k _ HG.out HX.out (by rw [HW.out]; rfl), hbel1⟩
            rw [part8_byte _ (k + 1) e (by have := HE.out; omega), part8_letter _ k e _ HX.out (by have := HE.out; omega), show 5 * (k + 1) - 8 * (e + 1) = h - 3 by have := HE.out; omega]
            have hyv : UInt8.ofNat (val 32 (worths ((lst s).take (k + 1))) / 2 ^ (h - 3) % 256) = y := by
              rw [HY.out, HNB.out, show (256 : Nat) = 2 ^ 8 from rfl, m32_bits _ _ 8 (by omega)]
            rw [hyv]
            exact hown1
          case measure => simp [intOf]; omega
        · go_wp2_with (go_at_call 111; ((with_reducible refine (hwc _).mono ?_)); rintro e w' ⟨rfl, rfl⟩)
          go_roundw
          case rel =>
            refine ⟨k + 1, e, h + 5, NB, by omega, by have := HE.out; omega, by omega, by go_num, by go_num, rfl, HNB.out, ?_, good_succ _ k _ HG.out HX.out (by rw [HW.out]; rfl), hbel⟩
            rw [part8_letter _ k e _ HX.out (by have := HE.out; omega)]
            exact HO.out
          case measure => simp [intOf]; omega
    · have hks : k = s.size := by omega
      subst hks
      have hend := part8_end (lst s) e h (by have := HE.out; have := HLEN.out; omega) hh
      have h8 : 5 * (lst s).length % 8 = h := by have := HE.out; have := HLEN.out; omega
      have H8 := hide h8
      clear h8
      by_cases h5 : 5 ≤ h
      · have g1 : decide ((5 : Int) ≤ (h : Int)) = true := by simp; omega
        go_wp2
        simp only [Exit.jump]
        go_ret3
        have hd : decode (lst s) = ([], s.size - 1, 101) := by
          unfold decode
          rw [bad_none _ (by have := HG.out; rwa [HLEN.out])]
          simp only []
          rw [if_pos (.inl (by rw [H8.out]; exact h5)), HLEN.out]
        have h0 : 1 ≤ s.size := by have := HE.out; omega
        rw [hd]
        refine ⟨.slice none 0 0, ?_, Own.nil _ _ _, hbel⟩
        rw [show ((s.size - 1 : Nat) : Int) = (s.size : Int) - 1 by omega]
        rfl
      · have g1 : decide ((5 : Int) ≤ (h : Int)) = false := by simp; omega
        obtain ⟨T, hT⟩ : ∃ T : Nat, T = N % 2 ^ h := ⟨_, rfl⟩
        have hmask : bits .and .u32 (N : Int) ((2 ^ h - 1) % 4294967296) = (T : Int) := by
          rw [mask_cast h (by omega), u32_and_nat _ _ (by omega) (by have := pow_small h (by omega); omega), Nat.and_two_pow_sub_one_eq_mod, hT]
        have hTv : T = val 32 (worths (lst s)) % 2 ^ (5 * (lst s).length % 8) := by
          rw [hT, HN.out, m32_low _ _ (by omega), ← HLEN.out, List.take_length, show 5 * (lst s).length % 8 = h by have := HE.out; have := HLEN.out; omega]
        have hgood : bad (lst s) = none := bad_none _ (by have := HG.out; rwa [HLEN.out])
        have HT := hide hTv
        have HB := hide hgood
        clear hT hTv hgood
        by_cases hT0 : T = 0
        · have g2 : ((T : Int) != 0) = false := by rw [hT0]; rfl
          have hd : decode (lst s) = (part8 (lst s) s.size e, 0, 0) := by
            unfold decode
            rw [HB.out]
            simp only []
            rw [if_neg (by rw [← HT.out, H8.out]; omega)]
            rw [HLEN.out] at hend
            rw [hend, HLEN.out]
          have HD := hide hd
          clear hd hend hT0
          go_wp2
          simp only [Exit.jump]
          go_ret3
          rw [HD.out]
          exact ⟨u5, rfl, HO.out, hbel⟩
        · have g2 : ((T : Int) != 0) = true := by rw [bne_iff_ne]; omega
          have hd : decode (lst s) = ([], s.size - 1, 101) := by
            unfold decode
            rw [HB.out]
            simp only []
            rw [if_pos (.inr (by rw [← HT.out]; exact hT0)), HLEN.out]
          have h0 : 1 ≤ s.size := by
            rcases Nat.eq_zero_or_pos s.size with h0 | h0
            · have h1 := HT.out
              rw [← HLEN.out] at h0
              rw [List.eq_nil_of_length_eq_zero h0] at h1
              exact absurd h1 hT0
            · exact h0
          have HD := hide hd
          clear hd hend hT0
          go_wp2
          simp only [Exit.jump]
          go_ret3
          rw [HD.out]
          refine ⟨.slice none 0 0, ?_, Own.nil _ _ _, hbel⟩
          rw [show ((s.size - 1 : Nat) : Int) = (s.size : Int) - 1 by omega]
          rfl
end Go.Proofs.YtcpceaflnnkhnaaGreatDoor

/- The contract of the program's letters: a part of letters is read, or its fault told. -/
namespace Go.Proofs.YtcpceaflnnkhnaaGreatDoor
open Go.RowKit

theorem decode_place (s : ByteArray) : (decode (lst s)).2.1 ≤ s.size := by
  rw [← lst_len]
  unfold decode
  cases hb : bad (lst s) with
  | some i =>
    unfold bad at hb
    have := (List.findIdx?_eq_some_iff_findIdx_eq.1 hb).1
    simp only []
    omega
  | none =>
    simp only []
    split <;> simp
/-- An error at a place, as the program hands it about. -/
def faultV (e a : Int) : Value := .iface 67 (.agg #[.int .i64 e, .int .i64 a])
set_option maxRecDepth 100000 in
set_option maxHeartbeats 2000000 in
theorem letters_any (s : ByteArray) (a lo hi : Nat) (w : World) (hs : s.size ≤ 1000000) (ha : a ≤ 1000000) (hlo : lo ≤ 1000) (hhi : hi ≤ 1000) :
    Calls Tryz.prog 79 #[.string s, .int .i64 (a : Int), .int .i64 (lo : Int), .int .i64 (hi : Int)] w fun e w' => Below w.heap.size w w' ∧
      ((ltrE (lst s) lo hi = 0 → ∃ A c, e = .returned (.tuple #[.slice A (decode (lst s)).1.length c, .nilIface]) ∧ Own w' w.heap.size 5 (.slice A (decode (lst s)).1.length c) (decode (lst s)).1) ∧
       (ltrE (lst s) lo hi ≠ 0 → e = .returned (.tuple #[.slice none 0 0, faultV (ltrE (lst s) lo hi : Nat) ((a + ltrO (lst s) : Nat) : Int)]))) := by
  have q := fun w => bbytes_any s w (by omega)
  have hlen := decode_len (lst s)
  rw [lst_len] at hlen
  have hplace : (decode (lst s)).2.1 ≤ s.size := decode_place s
  obtain ⟨l, hl⟩ : ∃ l, l = (decode (lst s)).1 := ⟨_, rfl⟩
  obtain ⟨p, hp⟩ : ∃ p, p = (decode (lst s)).2.1 := ⟨_, rfl⟩
  obtain ⟨er, her⟩ : ∃ p, p = (decode (lst s)).2.2 := ⟨_, rfl⟩
  have hE : ltrE (lst s) lo hi = if er ≠ 0 then er else if l.length < lo ∨ hi < l.length then 150 else 0 := by rw [her, hl]; rfl
  have hO : ltrO (lst s) = if er ≠ 0 then p else 0 := by rw [her, hp]; rfl
  rw [hE, hO]
  rw [← hl, ← hp, ← her] at q
  rw [← hl] at hlen ⊢
  rw [← hp] at hplace
  have Q := hide q
  clear q hE hO hl hp her
  by_cases h1 : er = 0
  · subst h1
    obtain ⟨n, hn⟩ : ∃ n, n = l.length := ⟨_, rfl⟩
    have HN := hide hn
    simp only [ne_eq, not_true_eq_false, if_false]
    rw [← hn] at hlen ⊢
    by_cases h2 : n < lo
    · rw [if_pos (.inl h2)]
      have g1 : decide ((n : Int) < (lo : Int)) = true := by simp; omega
      clear hn
      go_enter Tryz.func79, Tryz.ntmps79
      go_wp2_with (go_at_call 95; refine (Q.out _).mono ?_; rintro e w1 ⟨v, rfl, o1, b1⟩; go_loud (obtain ⟨A, c, rfl, -, -, -⟩ := o1.by_.form; rw [← HN.out]; have HB := hide b1; clear b1 o1))
      go_ret2
      exact ⟨HB.out, fun h => absurd h (by omega), fun _ => by simp [faultV]⟩
    by_cases h3 : hi < n
    · rw [if_pos (.inr h3)]
      have g1 : decide ((n : Int) < (lo : Int)) = false := by simp; omega
      have g2 : decide ((hi : Int) < (n : Int)) = true := by simp; omega
      clear hn
      go_enter Tryz.func79, Tryz.ntmps79
      go_wp2_with (go_at_call 95; refine (Q.out _).mono ?_; rintro e w1 ⟨v, rfl, o1, b1⟩; go_loud (obtain ⟨A, c, rfl, -, -, -⟩ := o1.by_.form; rw [← HN.out]; have HB := hide b1; clear b1 o1))
      go_ret2
      exact ⟨HB.out, fun h => absurd h (by omega), fun _ => by simp [faultV]⟩
    · rw [if_neg (by omega)]
      have g1 : decide ((n : Int) < (lo : Int)) = false := by simp; omega
      have g2 : decide ((hi : Int) < (n : Int)) = false := by simp; omega
      clear hn
      go_enter Tryz.func79, Tryz.ntmps79
      go_wp2_with (go_at_call 95; refine (Q.out _).mono ?_; rintro e w1 ⟨v, rfl, o1, b1⟩; go_loud (obtain ⟨A, c, rfl, -, -, -⟩ := o1.by_.form; rw [← HN.out] at o1 ⊢; have HB := hide (And.intro b1 o1); clear b1 o1))
      go_ret2
      exact ⟨HB.out.1, fun _ => ⟨A, c, rfl, HB.out.2⟩, fun h => by simp at h⟩
  · have g0 : ((er : Int) != 0) = true := by rw [bne_iff_ne]; omega
    have H1 := hide h1
    rw [if_pos h1, if_pos h1]
    clear h1
    go_enter Tryz.func79, Tryz.ntmps79
    go_wp2_with (go_at_call 95; refine (Q.out _).mono ?_; rintro e w1 ⟨v, rfl, o1, b1⟩; go_loud (obtain ⟨A, c, rfl, -, -, -⟩ := o1.by_.form; have HB := hide b1; clear b1 o1))
    go_ret2
    exact ⟨HB.out, fun h => absurd h H1.out, fun _ => by simp [faultV]⟩
end Go.Proofs.YtcpceaflnnkhnaaGreatDoor
