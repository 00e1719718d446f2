/- The contract of the statements' helper that asks whether lists of texts that were handed out have memory of their own, spare room too: it writes over them, appends behind them, and finds all as it left it. -/
import Derived.Test.YtghobbbmoeijbaaDoorFld
import Derived.Laws.BitsAll
import Derived.Deep.RegionHeld3
import Derived.Deep.DrawnRows
import Derived.Deep.DeepCutAuto
namespace Go.Proofs.YtghobbbmoeijbaaDoor
open Go.RowKit
attribute [local go_sem ↓] Go.wp_at_zero Go.wp_at_succ

/-- Value i of the marks of list k. -/
def mks8 (k i : Nat) : List UInt8 := [33, UInt8.ofNat k, UInt8.ofNat i, UInt8.ofNat (i / 256)]
def mkS (k i : Nat) : ByteArray := ⟨(mks8 k i).toArray⟩
def mkv (k i : Nat) : Value := .string (mkS k i)

def mks (k n : Nat) : List Value := (List.range n).map (mkv k)
@[simp] theorem mks_length (k n : Nat) : (mks k n).length = n := by simp [mks]
theorem mks_succ (k n : Nat) : mks k (n + 1) = mks k n ++ [mkv k n] := by simp [mks, List.range_succ]
theorem mks_get (k n i : Nat) (h : i < n) : (mks k n)[i]? = some (mkv k i) := by simp [mks, h]
theorem mks_take (k n m : Nat) (h : m ≤ n) : (mks k n).take m = mks k m := by
  rw [mks, ← List.map_take, List.take_range, Nat.min_eq_left h]; rfl

/-- What list j holds when the lists before k are written over, and i places of list k. -/
def st1 (X : Nat → List Value) (ln : Nat → Nat) (k i j : Nat) : List Value :=
  if j < k then mks (j + 1) (ln j) else if j = k then mks (k + 1) i ++ (X j).drop i else X j
theorem st1_next (X : Nat → List Value) (ln : Nat → Nat) (k j : Nat) (h : ∀ j, (X j).length = ln j) : st1 X ln k (ln k) j = st1 X ln (k + 1) 0 j := by
  unfold st1
  rcases Nat.lt_trichotomy j k with hlt | heq | hgt
  · rw [if_pos hlt, if_pos (by omega)]
  · subst heq
    rw [if_neg (by omega), if_pos rfl, if_pos (by omega), List.drop_of_length_le (by rw [h j]; omega), List.append_nil]
  · rw [if_neg (by omega), if_neg (by omega), if_neg (by omega)]
    split
    · simp [mks]
    · rfl
theorem st1_set (X : Nat → List Value) (ln : Nat → Nat) (k i : Nat) (h : ∀ j, (X j).length = ln j) (hi : i < ln k) :
    (st1 X ln k i k).set i (mkv (k + 1) i) = st1 X ln k (i + 1) k := by
  unfold st1
  rw [if_neg (by omega), if_pos rfl, if_neg (by omega), if_pos rfl, mks_succ]
  rw [List.set_append_right _ _ (by simp), mks_length, Nat.sub_self]
  rw [List.drop_eq_getElem_cons (by rw [h k]; omega)]
  simp only [List.append_assoc, List.set_cons_zero, List.cons_append, List.nil_append]
theorem st1_other (X : Nat → List Value) (ln : Nat → Nat) (k i j : Nat) (hj : j ≠ k) : st1 X ln k i j = st1 X ln k (i + 1) j := by
  unfold st1
  rw [if_neg (c := j = k) hj, if_neg (c := j = k) hj]

theorem lst_inj2 {a : ByteArray} {l : List UInt8} (h : a.data.toList = l) : a = ⟨l.toArray⟩ := by
  cases a
  simp only at h
  rw [← h]
theorem own_ne {w : World} {b1 b2 : Nat} {e1 e2 : TypeId} {s1 s2 : Nat} {v1 v2 : Value} {n1 n2 : Nat} {x1 x2 : List Value} (h1 : w.ownsRow b1 e1 s1 v1 n1 x1) (h2 : w.ownsRow b2 e2 s2 v2 n2 x2) (he : e1 ≠ e2) :
    v1.ownBlock = none ∨ v1.ownBlock ≠ v2.ownBlock := by
  rcases h1.2 with ⟨rfl, _⟩ | ⟨g, cap, cur, rfl, _, hh, _⟩
  · exact .inl rfl
  · refine .inr ?_
    rcases h2.2 with ⟨rfl, _⟩ | ⟨g', cap', cur', rfl, _, hh', _⟩
    · simp [Value.ownBlock]
    · intro hg
      have : g = g' := by simpa [Value.ownBlock] using hg
      subst this
      rw [hh] at hh'
      injection hh' with hh'
      injection hh' with _ ht
      exact he ht

/-- What stands during the writing over. -/
def Ph1 (w0 : World) (base : Nat) (e E : TypeId) (vls : Value) (n : Nat) (vs : Nat → Value) (ln : Nat → Nat) (X : Nat → List Value) (k i : Nat) (wr : World) : Prop :=
  wr.ownsRow base E 1 vls n ((List.range n).map vs) ∧ (∀ j, j < n → wr.ownsRow base e 1 (vs j) (ln j) (st1 X ln k i j)) ∧ Below base w0 wr

def Dist (n : Nat) (vs : Nat → Value) : Prop := ∀ i j, i < n → j < n → i ≠ j → (vs i).ownBlock = none ∨ (vs i).ownBlock ≠ (vs j).ownBlock

theorem Ph1.store {w0 : World} {base : Nat} {e E : TypeId} {vls : Value} {n : Nat} {vs : Nat → Value} {ln : Nat → Nat} {X : Nat → List Value} {k i : Nat} {wr : World} (heE : e ≠ E) (hX : ∀ j, (X j).length = ln j)
    (h : Ph1 w0 base e E vls n vs ln X k i wr) (hd : Dist n vs) (hk : k < n) (hi : i < ln k) {g cap : Nat} (hv : vs k = .slice (some ⟨g, 0, none⟩) (ln k) cap) :
    Ph1 w0 base e E vls n vs ln X k (i + 1) (wr.setCell ⟨g, i, none⟩ (mkv (k + 1) i)).drew := by
  obtain ⟨h1, h2, h3⟩ := h
  have hk2 := h2 k hk
  have hk3 := h2 k hk
  rw [hv] at hk2
  obtain ⟨hs, hg⟩ := hk2.stored i (mkv (k + 1) i)
  have hb : base ≤ g := (hk2.lt g rfl).1
  have hg' : wr.grownBy (wr.setCell ⟨g, i, none⟩ (mkv (k + 1) i)).drew (some g) := ⟨hg.os, hg.tape, hg.output, hg.size, hg.block⟩
  refine ⟨?_, fun j hj => ?_, ?_⟩
  · have := own_ne h1 hk3 (Ne.symm heE)
    rw [hv] at this
    exact h1.kept hg' this
  · by_cases hjk : j = k
    · subst hjk
      rw [st1_set X ln j i hX hi, ← hv] at hs
      exact hs
    · rw [← st1_other X ln k i j hjk]
      have := hd j k hj hk hjk
      rw [hv] at this
      exact (h2 j hj).kept hg' this
  · exact (h3.setCell hb _).drew

theorem own_oneCell {w : World} {base : Nat} {e : TypeId} {sz n : Nat} {v : Value} {xs : List Value} (h : w.ownsRow base e sz v n xs) : v.oneCell' = true := by
  rcases h.2 with ⟨rfl, _⟩ | ⟨g, cap, cur, rfl, _⟩ <;> rfl

/-- Two values that don't share a block. -/
def Apt (a b : Value) : Prop := a.ownBlock = none ∨ a.ownBlock ≠ b.ownBlock
theorem Apt.symm {a b : Value} (h : Apt a b) : Apt b a := by
  unfold Apt at *
  rcases hb : b.ownBlock with _ | x
  · exact .inl rfl
  · rcases h with h | h
    · right; rw [h]; simp
    · right; rw [hb] at h; exact Ne.symm h

/-- A value that owns a beginning of what another one in the same block owns goes on owning it. -/
theorem own_prefix {w w1 : World} {base : Nat} {e : TypeId} {v g : Value} {n m : Nat} {xs ys : List Value} (h : w.ownsRow base e 1 v n xs) (hg : w.ownsRow base e 1 g m ys) (hb : v.ownBlock = g.ownBlock)
    (hp : ys.take n = xs) (hnm : n ≤ m) (hg1 : w1.ownsRow base e 1 g m ys) : w1.ownsRow base e 1 v n xs := by
  rcases h.2 with ⟨rfl, rfl⟩ | ⟨b, cap, cur, rfl, hbb, hh, hnc, hcm, hcs, ht⟩
  · exact ⟨h.1, .inl ⟨rfl, rfl⟩⟩
  · rcases hg.2 with ⟨rfl, _⟩ | ⟨b', cap', cur', rfl, _, hh', hmc, _, hcs', _⟩
    · simp [Value.ownBlock] at hb
    · have hbe : b = b' := by simpa [Value.ownBlock] using hb
      subst hbe
      rw [hh] at hh'
      injection hh' with hh'
      injection hh' with hc
      subst hc
      have hcap : cap = cap' := by omega
      rcases hg1.2 with ⟨h0, _⟩ | ⟨b2, cap2, cur2, hv2, _, hh2, _, _, hcs2, ht2⟩
      · cases h0
      · injection hv2 with hA _ hC
        injection hA with hA
        injection hA with hA
        subst hA hC
        refine ⟨h.1, .inr ⟨b, cap, cur2, rfl, hbb, hh2, hnc, hcm, by omega, ?_⟩⟩
        rw [← hp, ← ht2, List.take_take]
        congr 1
        omega

/-- What stands while marks are appended: Gs are the lists with marks behind them, so far. -/
structure Ph2 (w0 : World) (base : Nat) (e E : TypeId) (vls vgs : Value) (n : Nat) (vs : Nat → Value) (ln : Nat → Nat) (Gs : List Value) (wr : World) : Prop where
  ls : wr.ownsRow base E 1 vls n ((List.range n).map vs)
  gs : wr.ownsRow base E 1 vgs Gs.length Gs
  old : ∀ j, j < n → wr.ownsRow base e 1 (vs j) (ln j) (mks (j + 1) (ln j))
  new : ∀ (j : Nat) (g : Value), Gs[j]? = some g → wr.ownsRow base e 1 g (ln j + 70) (mks (j + 1) (ln j + 70))
  apt : ∀ (i j : Nat) (g : Value), Gs[i]? = some g → j < n → i ≠ j → Apt g (vs j)
  aptg : ∀ (i j : Nat) (g h : Value), Gs[i]? = some g → Gs[j]? = some h → i ≠ j → Apt g h
  apto : Apt vgs vls
  dist : Dist n vs
  below : Below base w0 wr

/-- The list that is being appended to. -/
structure Cur (base : Nat) (e : TypeId) (n : Nat) (vs : Nat → Value) (ln : Nat → Nat) (Gs : List Value) (k i : Nat) (g : Value) (wr : World) : Prop where
  own : wr.ownsRow base e 1 g (ln k + i) (mks (k + 1) (ln k + i))
  apt : ∀ j, j < n → k ≠ j → Apt g (vs j)
  aptg : ∀ (i' : Nat) (h : Value), Gs[i']? = some h → Apt g h

theorem apt_new {w : World} {base : Nat} {e : TypeId} {s : Nat} {g g' h : Value} {n : Nat} {xs : List Value} (ho : w.ownsRow base e s h n xs) (ha : Apt g h)
    (hb : g'.ownBlock = g.ownBlock ∨ ∀ x, g'.ownBlock = some x → w.heap.size ≤ x) : Apt g' h := by
  rcases hb with hb | hb
  · unfold Apt at *
    rw [hb]; exact ha
  · rcases hg : g'.ownBlock with _ | x
    · exact .inl hg
    · refine .inr ?_
      rw [hg]
      intro he
      have h1 := (ho.lt x he.symm).2
      have h2 := hb x hg
      omega

theorem Ph2.drewN {w0 : World} {base : Nat} {e E : TypeId} {vls vgs : Value} {n : Nat} {vs : Nat → Value} {ln : Nat → Nat} {Gs : List Value} {wr : World} (h : Ph2 w0 base e E vls vgs n vs ln Gs wr) (q : Nat) :
    Ph2 w0 base e E vls vgs n vs ln Gs (wr.drewN q) := ⟨h.ls, h.gs, h.old, h.new, h.apt, h.aptg, h.apto, h.dist, below_drewN h.below q⟩

/-- One mark more behind the list that is being appended to. -/
theorem Ph2.push {w0 : World} {base : Nat} {e E : TypeId} {vls vgs : Value} {n : Nat} {vs : Nat → Value} {ln : Nat → Nat} {Gs : List Value} {wr w1 : World} {k i : Nat} {g g' : Value} (heE : e ≠ E)
    (h : Ph2 w0 base e E vls vgs n vs ln Gs wr) (c : Cur base e n vs ln Gs k i g wr) (hk : k < n) (hown : w1.ownsRow base e 1 g' (ln k + i + 1) (mks (k + 1) (ln k + i) ++ [mkv (k + 1) (ln k + i)]))
    (hold : w1.ownsRow base e 1 g (ln k + i) (mks (k + 1) (ln k + i))) (hg : wr.grownBy w1 g.ownBlock) (hb : g'.ownBlock = g.ownBlock ∨ ∀ x, g'.ownBlock = some x → wr.heap.size ≤ x) (hbel : Below base w0 w1) :
    Ph2 w0 base e E vls vgs n vs ln Gs w1 ∧ Cur base e n vs ln Gs k (i + 1) g' w1 := by
  refine ⟨⟨h.ls.kept hg (own_ne h.ls c.own (Ne.symm heE)), h.gs.kept hg (own_ne h.gs c.own (Ne.symm heE)), fun j hj => ?_, fun j x hx => (h.new j x hx).kept hg (c.aptg j x hx).symm, h.apt, h.aptg, h.apto, h.dist, hbel⟩,
    ⟨by rw [← Nat.add_assoc, mks_succ]; exact hown, fun j hj hkj => apt_new (h.old j hj) (c.apt j hj hkj) hb, fun j x hx => apt_new (h.new j x hx) (c.aptg j x hx) hb⟩⟩
  by_cases hkj : k = j
  · subst hkj
    by_cases hs : (vs k).ownBlock = g.ownBlock
    · exact own_prefix (h.old k hk) c.own hs (mks_take _ _ _ (by omega)) (by omega) hold
    · exact (h.old k hk).kept hg (.inr hs)
  · exact (h.old j hj).kept hg (c.apt j hj hkj).symm

/-- The list with its marks is laid to the others. -/
theorem Ph2.lay {w0 : World} {base : Nat} {e E : TypeId} {vls vgs vgs' : Value} {n : Nat} {vs : Nat → Value} {ln : Nat → Nat} {Gs : List Value} {wr w1 : World} {g : Value} (heE : e ≠ E)
    (h : Ph2 w0 base e E vls vgs n vs ln Gs wr) (c : Cur base e n vs ln Gs Gs.length 70 g wr) (hown : w1.ownsRow base E 1 vgs' (Gs.length + 1) (Gs ++ [g]))
    (hg : wr.grownBy w1 vgs.ownBlock) (hb : vgs'.ownBlock = vgs.ownBlock ∨ ∀ x, vgs'.ownBlock = some x → wr.heap.size ≤ x) (hbel : Below base w0 w1) :
    Ph2 w0 base e E vls vgs' n vs ln (Gs ++ [g]) w1 := by
  have key : ∀ (i : Nat) (x : Value), (Gs ++ [g])[i]? = some x → Gs[i]? = some x ∨ (i = Gs.length ∧ x = g) := fun i x hx => by
    rcases Nat.lt_trichotomy i Gs.length with hl | he | hgt
    · left; rwa [List.getElem?_append_left hl] at hx
    · right; subst he; simp at hx; exact ⟨rfl, hx.symm⟩
    · rw [List.getElem?_append_right (by omega)] at hx
      rw [List.getElem?_eq_none (by simp; omega)] at hx
      cases hx
  refine ⟨h.ls.kept hg h.apto.symm, by simpa using hown, fun j hj => (h.old j hj).kept hg (own_ne (h.old j hj) h.gs heE), fun j x hx => ?_, fun i j x hx hj hij => ?_, fun i j x y hx hy hij => ?_, apt_new h.ls h.apto hb, h.dist, hbel⟩
  · rcases key j x hx with hx | ⟨rfl, rfl⟩
    · exact (h.new j x hx).kept hg (own_ne (h.new j x hx) h.gs heE)
    · exact c.own.kept hg (own_ne c.own h.gs heE)
  · rcases key i x hx with hx | ⟨rfl, rfl⟩
    · exact h.apt i j x hx hj hij
    · exact c.apt j hj hij
  · rcases key i x hx with hx1 | ⟨hi1, hx1⟩ <;> rcases key j y hy with hy1 | ⟨hj1, hy1⟩
    · exact h.aptg i j x y hx1 hy1 hij
    · rw [hy1]; exact (c.aptg i x hx1).symm
    · rw [hx1]; exact c.aptg j y hy1
    · exact absurd (hi1.trans hj1.symm) hij

theorem elemTT : Elem1 Tryd.prog 26 22 (.slice none 0 0) 24 := ⟨Tryd.underlying26, by kernel_rfl, rfl⟩

/-- Nothing below has turned. -/
theorem Ph1.below {w0 : World} {base : Nat} {e E : TypeId} {vls : Value} {n : Nat} {vs : Nat → Value} {ln : Nat → Nat} {X : Nat → List Value} {k i : Nat} {wr w1 : World} (h : Ph1 w0 base e E vls n vs ln X k i wr) (hb : Below wr.heap.size wr w1) (hbase : base ≤ wr.heap.size) :
    Ph1 w0 base e E vls n vs ln X k i w1 := ⟨own_below' h.1 hb, fun j hj => own_below' (h.2.1 j hj) hb, h.2.2.trans (hb.mono hbase)⟩
theorem Ph2.belowB {w0 : World} {base : Nat} {e E : TypeId} {vls vgs : Value} {n : Nat} {vs : Nat → Value} {ln : Nat → Nat} {Gs : List Value} {wr w1 : World} (h : Ph2 w0 base e E vls vgs n vs ln Gs wr) (hb : Below wr.heap.size wr w1) (hbase : base ≤ wr.heap.size) :
    Ph2 w0 base e E vls vgs n vs ln Gs w1 := ⟨own_below' h.ls hb, own_below' h.gs hb, fun j hj => own_below' (h.old j hj) hb, fun j g hg => own_below' (h.new j g hg) hb, h.apt, h.aptg, h.apto, h.dist, h.below.trans (hb.mono hbase)⟩
theorem Cur.belowB {base : Nat} {e : TypeId} {n : Nat} {vs : Nat → Value} {ln : Nat → Nat} {Gs : List Value} {k i : Nat} {g : Value} {wr w1 : World} (h : Cur base e n vs ln Gs k i g wr) (hb : Below wr.heap.size wr w1) :
    Cur base e n vs ln Gs k i g w1 := ⟨own_below' h.own hb, h.apt, h.aptg⟩

theorem wrap8 (k : Nat) : IntKind.u8.wrap (k : Int) = ((UInt8.ofNat k).toNat : Int) := by
  rw [IntKind.wrap_u8', UInt8.toNat_ofNat']
  omega
set_option maxRecDepth 100000 in
set_option maxHeartbeats 800000 in
theorem markT_any (k i : Nat) (w : World) (hk : k ≤ 1000000001) (hi : i ≤ 140737488355400) :
    Calls Tryd.prog 25 #[.int .i64 (k : Int), .int .i64 (i : Int)] w fun e w' => e = .returned (mkv k i) ∧ Below w.heap.size w w' := by
  have hd : (i : Int).tdiv 256 = ((i / 256 : Nat) : Int) := rfl
  have hd2 : (i : Int) / 256 = ((i / 256 : Nat) : Int) := by omega
  have n1 := Blk.new w 5 (bcells (mks8 k i)).toArray
  have n2 := (Below.refl w.heap.size w).alloc (Nat.le_refl _) (.cells (bcells (mks8 k i)).toArray 5)
  have hby : By (w.alloc (.cells (bcells (mks8 k i)).toArray 5)) (.slice (some ⟨w.heap.size, 0, none⟩) 4 4) (mks8 k i) := by
    refine ⟨rfl, some ⟨w.heap.size, 0, none⟩, 4, rfl, Nat.le_refl 4, by unfold maxLen; omega, fun _ => ⟨w.heap.size, 0, rfl, n1.lt, fun j _ => ?_⟩⟩
    rw [Nat.zero_add, n1.cell, List.getElem?_toArray]
  obtain ⟨t, ht, hrun⟩ := run_str (P := Tryd.prog) hby 36 9 5 Tryd.underlying36 Tryd.underlying5 Tryd.underlying9
  have het : t = mkS k i := lst_inj2 ht
  subst het
  clear n1 hby ht
  unfold mks8 at hrun n2
  simp only [bcells, List.map_cons, List.map_nil] at hrun n2
  have e0 : ∀ x : Nat, ((UInt8.ofNat x).toNat : Int) = (x : Int) % 256 := fun x => by rw [UInt8.toNat_ofNat']; omega
  have e4 : ((UInt8.toNat 33 : Nat) : Int) = 33 := rfl
  rw [e0, e0, e0, e4] at hrun n2
  have HB := hide n2
  clear n2 e0 e4
  generalize i / 256 = q at *
  go_enter Tryd.func25, Tryd.ntmps25
  go_wp2
  go_ret
  exact ⟨rfl, HB.out⟩



end Go.Proofs.YtghobbbmoeijbaaDoor
