/- Memory for the contract of the law's apartRows: tables of rows that are written over, appended to and looked at. -/
import Derived.Test.YteaagngikiaokaaDoorApK
import Derived.Test.YteaagngikiaokaaDoorUnpA
namespace Go.Proofs.YteaagngikiaokaaDoor.Apr
open Go.RowKit
open Go.Proofs.YteaagngikiaokaaDoor.Apk (Apt Dist KeepT apt_new)

/-- The text of place i of table k, and the row that bears it. -/
def mkS (k i : Nat) : ByteArray := ⟨#[UInt8.ofNat k, UInt8.ofNat i]⟩
def mkc (k i : Nat) : List Value := [.string (mkS k i), .slice none 0 0]
def mks (k n : Nat) : List Value := (List.range n).flatMap (mkc k)
theorem mks_succ (k n : Nat) : mks k (n + 1) = mks k n ++ mkc k n := by simp [mks, List.range_succ]
@[simp] theorem mks_length (k n : Nat) : (mks k n).length = n * 2 := by
  induction n with
  | zero => rfl
  | succ n ih => rw [mks_succ, List.length_append, ih]; simp [mkc]; omega
theorem mks_get (k n i : Nat) (h : i < n) : (mks k n)[i * 2]? = some (.string (mkS k i)) := by
  induction n with
  | zero => omega
  | succ n ih =>
    rw [mks_succ]
    by_cases hi : i < n
    · rw [List.getElem?_append_left (by rw [mks_length]; omega)]; exact ih hi
    · obtain rfl : i = n := by omega
      rw [List.getElem?_append_right (by rw [mks_length]; omega), mks_length, Nat.sub_self]; rfl
theorem mks_take (k n m : Nat) (h : m ≤ n) : (mks k n).take (m * 2) = mks k m := by
  induction n with
  | zero => obtain rfl : m = 0 := by omega
            rfl
  | succ n ih =>
    by_cases hm : m ≤ n
    · rw [mks_succ, List.take_append_of_le_length (by rw [mks_length]; omega)]; exact ih hm
    · obtain rfl : m = n + 1 := by omega
      rw [List.take_of_length_le (by rw [mks_length]; omega)]

/-- What table j holds when the tables before k are written over, and i places of table k. -/
def st1 (X : Nat → List Value) (ln : Nat → Nat) (k i j : Nat) : List Value :=
  if j < k then mks j (ln j) else if j = k then mks k i ++ (X j).drop (i * 2) else X j
theorem st1_next (X : Nat → List Value) (ln : Nat → Nat) (k j : Nat) (h : ∀ j, (X j).length = ln j * 2) : st1 X ln k (ln k) j = st1 X ln (k + 1) 0 j := by
  unfold st1
  rcases Nat.lt_trichotomy j k with hlt | heq | hgt
  · rw [if_pos hlt, if_pos (by omega)]
  · subst heq
    rw [if_neg (by omega), if_pos rfl, if_pos (by omega), List.drop_of_length_le (by rw [h j]; omega), List.append_nil]
  · rw [if_neg (by omega), if_neg (by omega), if_neg (by omega)]
    split
    · simp [mks]
    · rfl
theorem st1_set (X : Nat → List Value) (ln : Nat → Nat) (k i : Nat) (h : ∀ j, (X j).length = ln j * 2) (hi : i < ln k) :
    ((st1 X ln k i k).set (i * 2) (.string (mkS k i))).set (i * 2 + 1) (.slice none 0 0) = st1 X ln k (i + 1) k := by
  unfold st1
  rw [if_neg (by omega), if_pos rfl, if_neg (by omega), if_pos rfl, mks_succ]
  rw [List.set_append_right _ _ (by simp), mks_length, Nat.sub_self]
  rw [List.drop_eq_getElem_cons (show i * 2 < (X k).length by rw [h k]; omega), List.drop_eq_getElem_cons (show i * 2 + 1 < (X k).length by rw [h k]; omega)]
  rw [List.set_cons_zero, List.set_append_right _ _ (by rw [mks_length]; omega), mks_length, show i * 2 + 1 - i * 2 = 1 by omega, List.set_cons_succ, List.set_cons_zero, show i * 2 + 1 + 1 = (i + 1) * 2 by omega]
  simp [mkc]
theorem st1_other (X : Nat → List Value) (ln : Nat → Nat) (k i j : Nat) (hj : j ≠ k) : st1 X ln k i j = st1 X ln k (i + 1) j := by
  unfold st1
  rw [if_neg (c := j = k) hj, if_neg (c := j = k) hj]

/-- What stands during the writing over. -/
def Ph1 (w0 : World) (base : Nat) (vls : Value) (n : Nat) (vs : Nat → Value) (ln : Nat → Nat) (X : Nat → List Value) (k i : Nat) (wr : World) : Prop :=
  wr.ownsRow base 22 1 vls n ((List.range n).map vs) ∧ (∀ j, j < n → wr.ownsRow base 55 2 (vs j) (ln j) (st1 X ln k i j)) ∧ Below base w0 wr
section
variable {w0 : World} {base : Nat} {vls : Value} {n : Nat} {vs : Nat → Value} {ln : Nat → Nat} {X : Nat → List Value} {k i : Nat} {wr : World}
theorem Ph1.alloc (h : Ph1 w0 base vls n vs ln X k i wr) (o : Obj) (hb : base ≤ wr.heap.size) : Ph1 w0 base vls n vs ln X k i (wr.alloc o) :=
  ⟨h.1.alloc o, fun j hj => (h.2.1 j hj).alloc o, h.2.2.alloc hb o⟩
theorem Ph1.drew (h : Ph1 w0 base vls n vs ln X k i wr) : Ph1 w0 base vls n vs ln X k i wr.drew := ⟨h.1, h.2.1, h.2.2.drew⟩
theorem Ph1.store (hX : ∀ j, (X j).length = ln j * 2) (h : Ph1 w0 base vls n vs ln X k i wr) (hd : Dist n vs) (hk : k < n) (hi : i < ln k) {g cap : Nat} (hv : vs k = .slice (some ⟨g, 0, none⟩) (ln k) cap) :
    Ph1 w0 base vls n vs ln X k (i + 1) ((wr.setCell ⟨g, i * 2, none⟩ (.string (mkS k i))).setCell ⟨g, i * 2 + 1, none⟩ (.slice none 0 0)) := by
  obtain ⟨h1, h2, h3⟩ := h
  have hk2 := h2 k hk
  have hk3 := h2 k hk
  rw [hv] at hk2
  have hb : base ≤ g := (hk2.lt g rfl).1
  obtain ⟨hs1, hg1⟩ := hk2.stored (i * 2) (.string (mkS k i))
  obtain ⟨hs2, hg2⟩ := hs1.stored (i * 2 + 1) (.slice none 0 0)
  have hg := hg1.trans_ hg2
  refine ⟨?_, fun j hj => ?_, ?_⟩
  · have := Apk.own_ne h1 hk3 (by decide)
    rw [hv] at this
    exact h1.kept hg this
  · by_cases hjk : j = k
    · subst hjk
      rw [st1_set X ln j i hX hi, ← hv] at hs2
      exact hs2
    · rw [← st1_other X ln k i j hjk]
      have := hd j k hj hk hjk
      rw [hv] at this
      exact (h2 j hj).kept hg this
  · exact (h3.setCell hb _).setCell hb _
end

/-- A value that owns a beginning of what another one in the same block owns goes on owning it. -/
theorem own_prefix {w w1 : World} {base : Nat} {e : TypeId} {v g : Value} {n m : Nat} {xs ys : List Value} (h : w.ownsRow base e 2 v n xs) (hg : w.ownsRow base e 2 g m ys) (hb : v.ownBlock = g.ownBlock)
    (hp : ys.take (n * 2) = xs) (hnm : n ≤ m) (hg1 : w1.ownsRow base e 2 g m ys) : w1.ownsRow base e 2 v n xs := by
  rcases h.2 with ⟨rfl, rfl⟩ | ⟨b, cap, cur, rfl, hbb, hh, hnc, hcm, hcs, ht⟩
  · exact ⟨h.1, .inl ⟨rfl, rfl⟩⟩
  · rcases hg.2 with ⟨rfl, _⟩ | ⟨b', cap', cur', rfl, _, hh', hmc, _, hcs', _⟩
    · simp [Value.ownBlock] at hb
    · have hbe : b = b' := by simpa [Value.ownBlock] using hb
      subst hbe
      rw [hh] at hh'
      injection hh' with hh'
      injection hh' with hc
      subst hc
      have hcap : cap = cap' := by omega
      rcases hg1.2 with ⟨h0, _⟩ | ⟨b2, cap2, cur2, hv2, _, hh2, _, _, hcs2, ht2⟩
      · cases h0
      · injection hv2 with hA _ hC
        injection hA with hA
        injection hA with hA
        subst hA hC
        refine ⟨h.1, .inr ⟨b, cap, cur2, rfl, hbb, hh2, hnc, hcm, by omega, ?_⟩⟩
        rw [← hp, ← ht2, List.take_take]
        congr 1
        omega

/-- What stands while marks are appended: Gs are the tables with marks behind them, so far. -/
structure Ph2 (w0 : World) (base : Nat) (vls vgs : Value) (n : Nat) (vs : Nat → Value) (ln : Nat → Nat) (Gs : List Value) (wr : World) : Prop where
  ls : wr.ownsRow base 22 1 vls n ((List.range n).map vs)
  gs : wr.ownsRow base 22 1 vgs Gs.length Gs
  old : ∀ j, j < n → wr.ownsRow base 55 2 (vs j) (ln j) (mks j (ln j))
  new : ∀ (j : Nat) (g : Value), Gs[j]? = some g → wr.ownsRow base 55 2 g (ln j + 70) (mks j (ln j + 70))
  apt : ∀ (i j : Nat) (g : Value), Gs[i]? = some g → j < n → i ≠ j → Apt g (vs j)
  aptg : ∀ (i j : Nat) (g h : Value), Gs[i]? = some g → Gs[j]? = some h → i ≠ j → Apt g h
  apto : Apt vgs vls
  dist : Dist n vs
  below : Below base w0 wr
/-- The table that is being appended to. -/
structure Cur (base : Nat) (n : Nat) (vs : Nat → Value) (ln : Nat → Nat) (Gs : List Value) (k i : Nat) (g : Value) (wr : World) : Prop where
  own : wr.ownsRow base 55 2 g (ln k + i) (mks k (ln k + i))
  apt : ∀ j, j < n → k ≠ j → Apt g (vs j)
  aptg : ∀ (i' : Nat) (h : Value), Gs[i']? = some h → Apt g h
section
variable {w0 : World} {base : Nat} {vls vgs vgs' : Value} {n : Nat} {vs : Nat → Value} {ln : Nat → Nat} {Gs : List Value} {wr w1 : World} {k i : Nat} {g g' : Value}
theorem Ph2.alloc (h : Ph2 w0 base vls vgs n vs ln Gs wr) (o : Obj) (hb : base ≤ wr.heap.size) : Ph2 w0 base vls vgs n vs ln Gs (wr.alloc o) :=
  ⟨h.ls.alloc o, h.gs.alloc o, fun j hj => (h.old j hj).alloc o, fun j g hg => (h.new j g hg).alloc o, h.apt, h.aptg, h.apto, h.dist, h.below.alloc hb o⟩
theorem Cur.alloc (h : Cur base n vs ln Gs k i g wr) (o : Obj) : Cur base n vs ln Gs k i g (wr.alloc o) := ⟨h.own.alloc o, h.apt, h.aptg⟩
/-- One mark more behind the table that is being appended to. -/
theorem Ph2.push (h : Ph2 w0 base vls vgs n vs ln Gs wr) (c : Cur base n vs ln Gs k i g wr) (hk : k < n) (hown : w1.ownsRow base 55 2 g' (ln k + i + 1) (mks k (ln k + i) ++ mkc k (ln k + i)))
    (hold : w1.ownsRow base 55 2 g (ln k + i) (mks k (ln k + i))) (hg : wr.grownBy w1 g.ownBlock) (hb : g'.ownBlock = g.ownBlock ∨ ∀ x, g'.ownBlock = some x → wr.heap.size ≤ x) (hbel : Below base w0 w1) :
    Ph2 w0 base vls vgs n vs ln Gs w1 ∧ Cur base n vs ln Gs k (i + 1) g' w1 := by
  refine ⟨⟨h.ls.kept hg (Apk.own_ne h.ls c.own (by decide)), h.gs.kept hg (Apk.own_ne h.gs c.own (by decide)), fun j hj => ?_, fun j x hx => (h.new j x hx).kept hg (c.aptg j x hx).symm, h.apt, h.aptg, h.apto, h.dist, hbel⟩,
    ⟨by rw [← Nat.add_assoc, mks_succ]; exact hown, fun j hj hkj => apt_new (h.old j hj) (c.apt j hj hkj) hb, fun j x hx => apt_new (h.new j x hx) (c.aptg j x hx) hb⟩⟩
  by_cases hkj : k = j
  · subst hkj
    by_cases hs : (vs k).ownBlock = g.ownBlock
    · exact own_prefix (h.old k hk) c.own hs (mks_take _ _ _ (by omega)) (by omega) hold
    · exact (h.old k hk).kept hg (.inr hs)
  · exact (h.old j hj).kept hg (c.apt j hj hkj).symm
/-- The table with its marks is laid to the others. -/
theorem Ph2.lay (h : Ph2 w0 base vls vgs n vs ln Gs wr) (c : Cur base n vs ln Gs Gs.length 70 g wr) (hown : w1.ownsRow base 22 1 vgs' (Gs.length + 1) (Gs ++ [g]))
    (hg : wr.grownBy w1 vgs.ownBlock) (hb : vgs'.ownBlock = vgs.ownBlock ∨ ∀ x, vgs'.ownBlock = some x → wr.heap.size ≤ x) (hbel : Below base w0 w1) :
    Ph2 w0 base vls vgs' n vs ln (Gs ++ [g]) w1 := by
  have key : ∀ (i : Nat) (x : Value), (Gs ++ [g])[i]? = some x → Gs[i]? = some x ∨ (i = Gs.length ∧ x = g) := fun i x hx => by
    rcases Nat.lt_trichotomy i Gs.length with hl | he | hgt
    · left; rwa [List.getElem?_append_left hl] at hx
    · right; subst he; simp at hx; exact ⟨rfl, hx.symm⟩
    · rw [List.getElem?_append_right (by omega)] at hx
      rw [List.getElem?_eq_none (by simp; omega)] at hx
      cases hx
  refine ⟨h.ls.kept hg h.apto.symm, by simpa using hown, fun j hj => (h.old j hj).kept hg (Apk.own_ne (h.old j hj) h.gs (by decide)), fun j x hx => ?_, fun i j x hx hj hij => ?_, fun i j x y hx hy hij => ?_, apt_new h.ls h.apto hb, h.dist, hbel⟩
  · rcases key j x hx with hx | ⟨rfl, rfl⟩
    · exact (h.new j x hx).kept hg (Apk.own_ne (h.new j x hx) h.gs (by decide))
    · exact c.own.kept hg (Apk.own_ne c.own h.gs (by decide))
  · rcases key i x hx with hx | ⟨rfl, rfl⟩
    · exact h.apt i j x hx hj hij
    · exact c.apt j hj hij
  · rcases key i x hx with hx1 | ⟨hi1, hx1⟩ <;> rcases key j y hy with hy1 | ⟨hj1, hy1⟩
    · exact h.aptg i j x y hx1 hy1 hij
    · rw [hy1]; exact (c.aptg i x hx1).symm
    · rw [hx1]; exact c.aptg j y hy1
    · exact absurd (hi1.trans hj1.symm) hij
end

/-- 'append(rows, row)', rows of the call's own: the old value owns what it owned. -/
theorem wpList_push2h {P : Program} {t e : TypeId} {i : TypeInfo} {z : Value} {bytes : Nat} (ht : P.underlying t = some (.slice e)) (hi : P.info? e = some i) (hz : i.zero = some z) (hs : i.size = 2) (hby : i.bytes = bytes) (hzs : z.cells.size = 2)
    {w : World} {base : Nat} {v : Value} {n : Nat} {xs : List Value} (hown : w.ownsRow base e 2 v n xs)
    {w0 : World} (hb : Below base w0 w) (hbase : base ≤ w.heap.size) (c1 c2 : Value) (h1 : c1.oneCell' = true) (h2 : c2.oneCell' = true) (hn : n + 1 ≤ maxLen) (hbytes : (n + 1) * bytes ≤ 140737488355328)
    {ops : Array Oper} {rest : List Oper} {o : Oper} {a : Act} {Q : Exit → Act → World → Prop} (hgd : o.guard = none) (s y : Operand)
    (ho : o.op = .call { callee := .builtin .append, args := #[s, y], argTypes := #[t, t] }) (hs' : a.eval s = v) (hx : a.eval y = .slice (some ⟨w.heap.size, 0, none⟩) 1 1)
    (h : ∀ v' w', w'.ownsRow base e 2 v' (n + 1) (xs ++ [c1, c2]) → Below base w0 w' → w'.ownsRow base e 2 v n xs → w.grownBy w' v.ownBlock → (v'.ownBlock = v.ownBlock ∨ ∀ g, v'.ownBlock = some g → w.heap.size ≤ g) → wpList P ops Q rest (a.put o.dst v') w') :
    wpList P ops Q (o :: rest) a (w.alloc (.cells #[c1, c2] e)) := by
  refine wpList_plain hgd fun K hK => ?_
  have hn1 : ∀ j u, [c1, c2][j]? = some u → (w.alloc (.cells #[c1, c2] e)).cell? ((⟨w.heap.size, 0, none⟩ : Addr).add j) = some u :=
    World.news_of_block (w := w.alloc (.cells #[c1, c2] e)) (B := w.heap.size) (cs := #[c1, c2]) (t := e) (fr := (0, 0)) (heap_alloc_new w _)
  have hu : ∀ u ∈ [c1, c2], u.oneCell' = true := fun u hu => by
    simp only [List.mem_cons, List.mem_nil_iff, or_false] at hu
    rcases hu with rfl | rfl
    · exact h1
    · exact h2
  have ho1 := hown.alloc (.cells #[c1, c2] e)
  obtain ⟨v', w', hrun, h3, h4, _, h6⟩ := run_append_own_at (P := P) (w.alloc (.cells #[c1, c2] e)) base t o.type e i z 2 bytes ht hi hz hs hby hzs (by omega) v n xs ho1 ⟨w.heap.size, 0, none⟩ 1 1 [c1, c2] (by simp) hn1 hu hn hbytes (by simp; omega)
  have gb : w.grownBy w' v.ownBlock := ⟨h4.os, h4.tape, h4.output, Nat.le_trans (by simp) h4.size, fun k hk hne => (h4.block k (by simp; omega) hne).trans (Below.heap_alloc w _ k hk)⟩
  have hold : w'.ownsRow base e 2 v n xs := by
    have hbig : n + 1 ≤ 9223372036854775807 := by simp only [maxLen] at hn; omega
    have hnl : ([c1, c2] : List Value).length = 1 * i.size := by simp [hs]
    rcases ho1.2 with ⟨rfl, rfl⟩ | ⟨g, cap, cur, rfl, hbg, hg, hnc, hcm, hcs, htake⟩
    · have hx : xs = [] := List.eq_nil_of_length_eq_zero (by simpa using hown.1)
      subst hx
      exact World.ownsRow_nil w' base e 2
    · by_cases hroom : n + 1 ≤ cap
      · have hfit : n * i.size + [c1, c2].length ≤ cur.size := by rw [hcs, hs]; simp; omega
        have hr := run_append_room (P := P) (w.alloc (.cells #[c1, c2] e)) t o.type e i ht hi g n cap cur hg ⟨w.heap.size, 0, none⟩ 1 1 [c1, c2] hnl hn1 hu hroom hfit
        rw [hr] at hrun
        injection hrun with _ hw
        subst hw
        refine ⟨hown.1, .inr ⟨g, cap, _, rfl, hbg, setRow_heap _ g cur _ e _ hg, hnc, hcm, ?_, ?_⟩⟩
        · simp only [List.size_toArray, List.length_append, List.length_take, List.length_drop, Array.length_toList]
          have := hfit
          simp only [List.length_cons, List.length_nil] at *
          omega
        · have hl : (cur.toList.take (n * 2)).length = n * 2 := by rw [htake]; simpa using hown.1
          rw [hs, List.append_assoc, List.take_append_of_le_length (by omega), List.take_take, Nat.min_self, htake]
      · have holds : ∀ j y, xs[j]? = some y → (w.alloc (.cells #[c1, c2] e)).cell? ((⟨g, 0, none⟩ : Addr).add j) = some y := ho1.cells (g := g) rfl
        have hr := run_append_grow (P := P) (w.alloc (.cells #[c1, c2] e)) t o.type e i z ht hi hz ⟨g, 0, none⟩ n cap xs (by rw [hs]; exact hown.1) holds ⟨w.heap.size, 0, none⟩ 1 1 [c1, c2] hnl hn1 (by omega) (by omega) (growslice_fits (by omega) (by rw [hby]; exact hbytes))
        rw [hr] at hrun
        injection hrun with _ hw
        subst hw
        exact World.ownsRow.alloc (w := (w.alloc (.cells #[c1, c2] e)).drew) ho1 _
  unfold Oper.wp execOp
  simp only [ho, resolve, invoke, builtin, Sem.run_bind, Sem.run_pure, Result.andThen_ok, List.map_toArray, List.map_cons, List.map_nil, hs', hx, hrun]
  refine hK _ _ (h v' w' h3 (hb.grown gb hbase fun k hk => (hown.lt k hk).1) hold gb ?_)
  rcases h6 with h6 | h6
  · exact .inl h6
  · refine .inr fun g hg => ?_
    rw [h6] at hg
    injection hg with hg
    simp at hg
    omega

/-- 'string([]byte{k, i})', the list just laid. -/
theorem conv2 (k i : Nat) (hk : k < 256) (hi : i < 256) {W : World} {g : Nat} (hb : Blk W g 5 #[.int .u8 (k : Int), .int .u8 (i : Int)]) :
    (convert 27 9 (.slice (some ⟨g, 0, none⟩) 2 2)).run Tryd.prog W = .ok (.string (mkS k i)) W := by
  have e1 : ((UInt8.ofNat k).toNat : Int) = (k : Int) := by rw [UInt8.toNat_ofNat']; omega
  have e2 : ((UInt8.ofNat i).toNat : Int) = (i : Int) := by rw [UInt8.toNat_ofNat']; omega
  refine run_convert_bytes_back W 27 9 5 ⟨g, 0, none⟩ 2 [UInt8.ofNat k, UInt8.ofNat i] Tryd.underlying27 Tryd.underlying5 Tryd.underlying9 fun j hj => ?_
  have hc : j = 0 ∨ j = 1 := by simp at hj; omega
  rcases hc with rfl | rfl
  · exact (hb.cell 0).trans (by simp; omega)
  · exact (hb.cell 1).trans (by simp; omega)

theorem own_keepT {w w' : World} {e E t : TypeId} {base sz n : Nat} {v : Value} {xs : List Value} (h : w.ownsRow base t sz v n xs) (hk : KeepT e E w w') (h1 : t ≠ e) (h2 : t ≠ E) : w'.ownsRow base t sz v n xs := by
  refine ⟨h.1, ?_⟩
  rcases h.2 with h0 | ⟨g, cap, cur, hv, hb, hh, r⟩
  · exact .inl h0
  · exact .inr ⟨g, cap, cur, hv, hb, (hk g cur t (0, 0) hh h1 h2).trans hh, r⟩
end Go.Proofs.YteaagngikiaokaaDoor.Apr
