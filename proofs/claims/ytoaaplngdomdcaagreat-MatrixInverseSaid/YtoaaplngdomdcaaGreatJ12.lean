/- Joined texts: AptB. -/
import Derived.Test.YtoaaplngdomdcaaGreatJ1
import Derived.Deep.RegionHeld3
import Derived.Deep.DrawnRows
import Derived.Deep.DeepCutAuto

/- The contract of the statements' helper that asks whether lists of bytes that were handed out have memory of their own, spare room too: it writes over them, appends behind them, and finds all as it left it. -/
namespace Go.Proofs.YtoaaplngdomdcaaGreat.AB
open Go.RowKit
attribute [local go_sem ↓] Go.wp_at_zero Go.wp_at_succ

/-- Value i of the marks of list k. -/
def mkv (k i : Nat) : Value := .int .u8 ((mark (k : Int) (i : Int)).toNat : Int)
def mks (k n : Nat) : List Value := (List.range n).map (mkv k)
@[simp] theorem mks_length (k n : Nat) : (mks k n).length = n := by simp [mks]
theorem mks_succ (k n : Nat) : mks k (n + 1) = mks k n ++ [mkv k n] := by simp [mks, List.range_succ]
theorem mks_get (k n i : Nat) (h : i < n) : (mks k n)[i]? = some (mkv k i) := by simp [mks, h]
theorem mks_take (k n m : Nat) (h : m ≤ n) : (mks k n).take m = mks k m := by
  rw [mks, ← List.map_take, List.take_range, Nat.min_eq_left h]; rfl

/-- What list j holds when the lists before k are written over, and i places of list k. -/
def st1 (X : Nat → List Value) (ln : Nat → Nat) (k i j : Nat) : List Value :=
  if j < k then mks (j + 1) (ln j) else if j = k then mks (k + 1) i ++ (X j).drop i else X j
theorem st1_next (X : Nat → List Value) (ln : Nat → Nat) (k j : Nat) (h : ∀ j, (X j).length = ln j) : st1 X ln k (ln k) j = st1 X ln (k + 1) 0 j := by
  unfold st1
  rcases Nat.lt_trichotomy j k with hlt | heq | hgt
  · rw [if_pos hlt, if_pos (by omega)]
  · subst heq
    rw [if_neg (by omega), if_pos rfl, if_pos (by omega), List.drop_of_length_le (by rw [h j]; omega), List.append_nil]
  · rw [if_neg (by omega), if_neg (by omega), if_neg (by omega)]
    split
    · simp [mks]
    · rfl
theorem st1_set (X : Nat → List Value) (ln : Nat → Nat) (k i : Nat) (h : ∀ j, (X j).length = ln j) (hi : i < ln k) :
    (st1 X ln k i k).set i (mkv (k + 1) i) = st1 X ln k (i + 1) k := by
  unfold st1
  rw [if_neg (by omega), if_pos rfl, if_neg (by omega), if_pos rfl, mks_succ]
  rw [List.set_append_right _ _ (by simp), mks_length, Nat.sub_self]
  rw [List.drop_eq_getElem_cons (by rw [h k]; omega)]
  simp only [List.append_assoc, List.set_cons_zero, List.cons_append, List.nil_append]
theorem st1_other (X : Nat → List Value) (ln : Nat → Nat) (k i j : Nat) (hj : j ≠ k) : st1 X ln k i j = st1 X ln k (i + 1) j := by
  unfold st1
  rw [if_neg (c := j = k) hj, if_neg (c := j = k) hj]

theorem own_ne {w : World} {b1 b2 : Nat} {e1 e2 : TypeId} {s1 s2 : Nat} {v1 v2 : Value} {n1 n2 : Nat} {x1 x2 : List Value} (h1 : w.ownsRow b1 e1 s1 v1 n1 x1) (h2 : w.ownsRow b2 e2 s2 v2 n2 x2) (he : e1 ≠ e2) :
    v1.ownBlock = none ∨ v1.ownBlock ≠ v2.ownBlock := by
  rcases h1.2 with ⟨rfl, _⟩ | ⟨g, cap, cur, rfl, _, hh, _⟩
  · exact .inl rfl
  · refine .inr ?_
    rcases h2.2 with ⟨rfl, _⟩ | ⟨g', cap', cur', rfl, _, hh', _⟩
    · simp [Value.ownBlock]
    · intro hg
      have : g = g' := by simpa [Value.ownBlock] using hg
      subst this
      rw [hh] at hh'
      injection hh' with hh'
      injection hh' with _ ht
      exact he ht

/-- Rows of other kinds stay. -/
def Oth (e E : TypeId) (w0 wr : World) : Prop := ∀ (b sz n : Nat) (o : TypeId) (v : Value) (xs : List Value), o ≠ e → o ≠ E → w0.ownsRow b o sz v n xs → wr.ownsRow b o sz v n xs
/-- What stands during the writing over. -/
def Ph1 (w0 : World) (base : Nat) (e E : TypeId) (vls : Value) (n : Nat) (vs : Nat → Value) (ln : Nat → Nat) (X : Nat → List Value) (k i : Nat) (wr : World) : Prop :=
  wr.ownsRow base E 1 vls n ((List.range n).map vs) ∧ (∀ j, j < n → wr.ownsRow base e 1 (vs j) (ln j) (st1 X ln k i j)) ∧ Below base w0 wr ∧ Oth e E w0 wr

def Dist (n : Nat) (vs : Nat → Value) : Prop := ∀ i j, i < n → j < n → i ≠ j → (vs i).ownBlock = none ∨ (vs i).ownBlock ≠ (vs j).ownBlock

theorem Ph1.store {w0 : World} {base : Nat} {e E : TypeId} {vls : Value} {n : Nat} {vs : Nat → Value} {ln : Nat → Nat} {X : Nat → List Value} {k i : Nat} {wr : World} (heE : e ≠ E) (hX : ∀ j, (X j).length = ln j)
    (h : Ph1 w0 base e E vls n vs ln X k i wr) (hd : Dist n vs) (hk : k < n) (hi : i < ln k) {g cap : Nat} (hv : vs k = .slice (some ⟨g, 0, none⟩) (ln k) cap) :
    Ph1 w0 base e E vls n vs ln X k (i + 1) (wr.setCell ⟨g, i, none⟩ (mkv (k + 1) i)).drew := by
  obtain ⟨h1, h2, h3, h4⟩ := h
  have hk2 := h2 k hk
  have hk3 := h2 k hk
  rw [hv] at hk2
  obtain ⟨hs, hg⟩ := hk2.stored i (mkv (k + 1) i)
  have hb : base ≤ g := (hk2.lt g rfl).1
  have hg' : wr.grownBy (wr.setCell ⟨g, i, none⟩ (mkv (k + 1) i)).drew (some g) := ⟨hg.os, hg.tape, hg.output, hg.size, hg.block⟩
  refine ⟨?_, fun j hj => ?_, ?_⟩
  · have := own_ne h1 hk3 (Ne.symm heE)
    rw [hv] at this
    exact h1.kept hg' this
  · by_cases hjk : j = k
    · subst hjk
      rw [st1_set X ln j i hX hi, ← hv] at hs
      exact hs
    · rw [← st1_other X ln k i j hjk]
      have := hd j k hj hk hjk
      rw [hv] at this
      exact (h2 j hj).kept hg' this
  · refine ⟨(h3.setCell hb _).drew, fun b sz n o v xs ho hO h => ?_⟩
    have := own_ne (h4 b sz n o v xs ho hO h) hk3 ho
    rw [hv] at this
    exact (h4 b sz n o v xs ho hO h).kept hg' this

theorem own_oneCell {w : World} {base : Nat} {e : TypeId} {sz n : Nat} {v : Value} {xs : List Value} (h : w.ownsRow base e sz v n xs) : v.oneCell' = true := by
  rcases h.2 with ⟨rfl, _⟩ | ⟨g, cap, cur, rfl, _⟩ <;> rfl

/-- Two values that don't share a block. -/
def Apt (a b : Value) : Prop := a.ownBlock = none ∨ a.ownBlock ≠ b.ownBlock
theorem Apt.symm {a b : Value} (h : Apt a b) : Apt b a := by
  unfold Apt at *
  rcases hb : b.ownBlock with _ | x
  · exact .inl rfl
  · rcases h with h | h
    · right; rw [h]; simp
    · right; rw [hb] at h; exact Ne.symm h

/-- A value that owns a beginning of what another one in the same block owns goes on owning it. -/
theorem own_prefix {w w1 : World} {base : Nat} {e : TypeId} {v g : Value} {n m : Nat} {xs ys : List Value} (h : w.ownsRow base e 1 v n xs) (hg : w.ownsRow base e 1 g m ys) (hb : v.ownBlock = g.ownBlock)
    (hp : ys.take n = xs) (hnm : n ≤ m) (hg1 : w1.ownsRow base e 1 g m ys) : w1.ownsRow base e 1 v n xs := by
  rcases h.2 with ⟨rfl, rfl⟩ | ⟨b, cap, cur, rfl, hbb, hh, hnc, hcm, hcs, ht⟩
  · exact ⟨h.1, .inl ⟨rfl, rfl⟩⟩
  · rcases hg.2 with ⟨rfl, _⟩ | ⟨b', cap', cur', rfl, _, hh', hmc, _, hcs', _⟩
    · simp [Value.ownBlock] at hb
    · have hbe : b = b' := by simpa [Value.ownBlock] using hb
      subst hbe
      rw [hh] at hh'
      injection hh' with hh'
      injection hh' with hc
      subst hc
      have hcap : cap = cap' := by omega
      rcases hg1.2 with ⟨h0, _⟩ | ⟨b2, cap2, cur2, hv2, _, hh2, _, _, hcs2, ht2⟩
      · cases h0
      · injection hv2 with hA _ hC
        injection hA with hA
        injection hA with hA
        subst hA hC
        refine ⟨h.1, .inr ⟨b, cap, cur2, rfl, hbb, hh2, hnc, hcm, by omega, ?_⟩⟩
        rw [← hp, ← ht2, List.take_take]
        congr 1
        omega

/-- What stands while marks are appended: Gs are the lists with marks behind them, so far. -/
structure Ph2 (w0 : World) (base : Nat) (e E : TypeId) (vls vgs : Value) (n : Nat) (vs : Nat → Value) (ln : Nat → Nat) (Gs : List Value) (wr : World) : Prop where
  ls : wr.ownsRow base E 1 vls n ((List.range n).map vs)
  gs : wr.ownsRow base E 1 vgs Gs.length Gs
  old : ∀ j, j < n → wr.ownsRow base e 1 (vs j) (ln j) (mks (j + 1) (ln j))
  new : ∀ (j : Nat) (g : Value), Gs[j]? = some g → wr.ownsRow base e 1 g (ln j + 70) (mks (j + 1) (ln j + 70))
  apt : ∀ (i j : Nat) (g : Value), Gs[i]? = some g → j < n → i ≠ j → Apt g (vs j)
  aptg : ∀ (i j : Nat) (g h : Value), Gs[i]? = some g → Gs[j]? = some h → i ≠ j → Apt g h
  apto : Apt vgs vls
  dist : Dist n vs
  below : Below base w0 wr
  oth : Oth e E w0 wr

/-- The list that is being appended to. -/
structure Cur (base : Nat) (e : TypeId) (n : Nat) (vs : Nat → Value) (ln : Nat → Nat) (Gs : List Value) (k i : Nat) (g : Value) (wr : World) : Prop where
  own : wr.ownsRow base e 1 g (ln k + i) (mks (k + 1) (ln k + i))
  apt : ∀ j, j < n → k ≠ j → Apt g (vs j)
  aptg : ∀ (i' : Nat) (h : Value), Gs[i']? = some h → Apt g h

theorem apt_new {w : World} {base : Nat} {e : TypeId} {s : Nat} {g g' h : Value} {n : Nat} {xs : List Value} (ho : w.ownsRow base e s h n xs) (ha : Apt g h)
    (hb : g'.ownBlock = g.ownBlock ∨ ∀ x, g'.ownBlock = some x → w.heap.size ≤ x) : Apt g' h := by
  rcases hb with hb | hb
  · unfold Apt at *
    rw [hb]; exact ha
  · rcases hg : g'.ownBlock with _ | x
    · exact .inl hg
    · refine .inr ?_
      rw [hg]
      intro he
      have h1 := (ho.lt x he.symm).2
      have h2 := hb x hg
      omega

theorem Ph2.drewN {w0 : World} {base : Nat} {e E : TypeId} {vls vgs : Value} {n : Nat} {vs : Nat → Value} {ln : Nat → Nat} {Gs : List Value} {wr : World} (h : Ph2 w0 base e E vls vgs n vs ln Gs wr) (q : Nat) :
    Ph2 w0 base e E vls vgs n vs ln Gs (wr.drewN q) := ⟨h.ls, h.gs, h.old, h.new, h.apt, h.aptg, h.apto, h.dist, below_drewN h.below q, h.oth⟩

/-- One mark more behind the list that is being appended to. -/
theorem Ph2.push {w0 : World} {base : Nat} {e E : TypeId} {vls vgs : Value} {n : Nat} {vs : Nat → Value} {ln : Nat → Nat} {Gs : List Value} {wr w1 : World} {k i : Nat} {g g' : Value} (heE : e ≠ E)
    (h : Ph2 w0 base e E vls vgs n vs ln Gs wr) (c : Cur base e n vs ln Gs k i g wr) (hk : k < n) (hown : w1.ownsRow base e 1 g' (ln k + i + 1) (mks (k + 1) (ln k + i) ++ [mkv (k + 1) (ln k + i)]))
    (hold : w1.ownsRow base e 1 g (ln k + i) (mks (k + 1) (ln k + i))) (hg : wr.grownBy w1 g.ownBlock) (hb : g'.ownBlock = g.ownBlock ∨ ∀ x, g'.ownBlock = some x → wr.heap.size ≤ x) (hbel : Below base w0 w1) :
    Ph2 w0 base e E vls vgs n vs ln Gs w1 ∧ Cur base e n vs ln Gs k (i + 1) g' w1 := by
  refine ⟨⟨h.ls.kept hg (own_ne h.ls c.own (Ne.symm heE)), h.gs.kept hg (own_ne h.gs c.own (Ne.symm heE)), fun j hj => ?_, fun j x hx => (h.new j x hx).kept hg (c.aptg j x hx).symm, h.apt, h.aptg, h.apto, h.dist, hbel, fun b sz n o v xs ho hO hh => (h.oth b sz n o v xs ho hO hh).kept hg (own_ne (h.oth b sz n o v xs ho hO hh) c.own ho)⟩,
    ⟨by rw [← Nat.add_assoc, mks_succ]; exact hown, fun j hj hkj => apt_new (h.old j hj) (c.apt j hj hkj) hb, fun j x hx => apt_new (h.new j x hx) (c.aptg j x hx) hb⟩⟩
  by_cases hkj : k = j
  · subst hkj
    by_cases hs : (vs k).ownBlock = g.ownBlock
    · exact own_prefix (h.old k hk) c.own hs (mks_take _ _ _ (by omega)) (by omega) hold
    · exact (h.old k hk).kept hg (.inr hs)
  · exact (h.old j hj).kept hg (c.apt j hj hkj).symm

/-- The list with its marks is laid to the others. -/
theorem Ph2.lay {w0 : World} {base : Nat} {e E : TypeId} {vls vgs vgs' : Value} {n : Nat} {vs : Nat → Value} {ln : Nat → Nat} {Gs : List Value} {wr w1 : World} {g : Value} (heE : e ≠ E)
    (h : Ph2 w0 base e E vls vgs n vs ln Gs wr) (c : Cur base e n vs ln Gs Gs.length 70 g wr) (hown : w1.ownsRow base E 1 vgs' (Gs.length + 1) (Gs ++ [g]))
    (hg : wr.grownBy w1 vgs.ownBlock) (hb : vgs'.ownBlock = vgs.ownBlock ∨ ∀ x, vgs'.ownBlock = some x → wr.heap.size ≤ x) (hbel : Below base w0 w1) :
    Ph2 w0 base e E vls vgs' n vs ln (Gs ++ [g]) w1 := by
  have key : ∀ (i : Nat) (x : Value), (Gs ++ [g])[i]? = some x → Gs[i]? = some x ∨ (i = Gs.length ∧ x = g) := fun i x hx => by
    rcases Nat.lt_trichotomy i Gs.length with hl | he | hgt
    · left; rwa [List.getElem?_append_left hl] at hx
    · right; subst he; simp at hx; exact ⟨rfl, hx.symm⟩
    · rw [List.getElem?_append_right (by omega)] at hx
      rw [List.getElem?_eq_none (by simp; omega)] at hx
      cases hx
  refine ⟨h.ls.kept hg h.apto.symm, by simpa using hown, fun j hj => (h.old j hj).kept hg (own_ne (h.old j hj) h.gs heE), fun j x hx => ?_, fun i j x hx hj hij => ?_, fun i j x y hx hy hij => ?_, apt_new h.ls h.apto hb, h.dist, hbel, fun b sz n o v xs ho hO hh => (h.oth b sz n o v xs ho hO hh).kept hg (own_ne (h.oth b sz n o v xs ho hO hh) h.gs hO)⟩
  · rcases key j x hx with hx | ⟨rfl, rfl⟩
    · exact (h.new j x hx).kept hg (own_ne (h.new j x hx) h.gs heE)
    · exact c.own.kept hg (own_ne c.own h.gs heE)
  · rcases key i x hx with hx | ⟨rfl, rfl⟩
    · exact h.apt i j x hx hj hij
    · exact c.apt j hj hij
  · rcases key i x hx with hx1 | ⟨hi1, hx1⟩ <;> rcases key j y hy with hy1 | ⟨hj1, hy1⟩
    · exact h.aptg i j x y hx1 hy1 hij
    · rw [hy1]; exact (c.aptg i x hx1).symm
    · rw [hx1]; exact c.aptg j y hy1
    · exact absurd (hi1.trans hj1.symm) hij

theorem elem88 : Elem1 Tryz.prog 93 85 (.slice none 0 0) 24 := ⟨Tryz.underlying93, by kernel_rfl, rfl⟩

set_option maxHeartbeats 800000 in
theorem apart_any (base : Nat) (vls : Value) (n : Nat) (vs : Nat → Value) (ln : Nat → Nat) (X : Nat → List Value) (w : World) (hbase : base ≤ w.heap.size) (hX : ∀ j, (X j).length = ln j)
    (hlen : ∀ j, j < n → ln j ≤ 140737488355000) (hn : n ≤ 1000000000)
    (h0 : w.ownsRow base 85 1 vls n ((List.range n).map vs)) (h1 : ∀ j, j < n → w.ownsRow base 5 1 (vs j) (ln j) (X j)) (hd : Dist n vs) (hn0 : n ≠ 0) :
    Calls Tryz.prog 50 #[vls] w fun e w' => e = .returned (.bool true) ∧ Below base w w' ∧ Oth 5 85 w w' := by
  have hp : Ph1 w base 5 85 vls n vs ln X 0 0 w := ⟨h0, fun j hj => by have := h1 j hj; unfold st1; rw [if_neg (by omega)]; split <;> simpa [mks] using this, Below.refl _ _, fun _ _ _ _ _ _ _ _ h => h⟩
  have HP := hide hp
  have HX := hide hX
  have HD := hide hd
  clear hp h0 h1 hX hd
  obtain ⟨G, capG, hvls, _, _⟩ := HP.out.1.form (by omega)
  subst hvls
  go_enter Tryz.func50, Tryz.ntmps50
  go_wp2
  go_loopw [3] (fun u3 wr => ∃ k : Nat, k ≤ n ∧ u3 = .int .i64 k ∧ Ph1 w base 5 85 (.slice (some ⟨G, 0, none⟩) n capG) n vs ln X k 0 wr) (fun i _ => n - (intOf i).toNat)
  case atStart => exact ⟨0, by omega, rfl, HP.out⟩
  case round =>
    clear HP
    obtain ⟨k, hk, rfl, hp⟩ := hrel
    have HP := hide hp
    clear hp
    obtain ⟨wo, rfl⟩ : ∃ wo : World, wo = wr := ⟨_, rfl⟩
    by_cases hlt : k < n
    · go_wp2
      go_loopw [4] (fun u4 wr => ∃ i : Nat, i ≤ ln k ∧ u4 = .int .i64 i ∧ Ph1 w base 5 85 (.slice (some ⟨G, 0, none⟩) n capG) n vs ln X k i wr) (fun i _ => ln k - (intOf i).toNat)
      case atStart => exact ⟨0, by omega, rfl, HP.out⟩
      case round =>
        clear HP
        obtain ⟨i, hi, rfl, hp⟩ := hrel
        have HP := hide hp
        clear hp
        have hlk := hlen k hlt
        have i1 : (0 : Int) ≤ (k : Int) := by omega
        have i2 : (k : Int) < (n : Int) := by omega
        have i3 : (0 : Int) ≤ (i : Int) := by omega
        have hcG : wr.cell? ⟨G, k, none⟩ = some (vs k) := by
          rw [HP.out.1.cellAt k (by omega)]; simp [hlt]
        by_cases hli : i < ln k
        · obtain ⟨g, cap, hvk, hbg, _⟩ := (HP.out.2.1 k hlt).form (by omega)
          have hcg := (HP.out.2.1 k hlt)
          rw [hvk] at hcg
          have hfz := hcg.frozenAt i
          have hcc := hcg.cellAt i (by omega)
          have hcv : ∃ y, wr.cell? ⟨g, i, none⟩ = some y := by
            rw [hcc]; exact ⟨_, List.getElem?_eq_getElem (by have := hcg.1; omega)⟩
          obtain ⟨y, hcy⟩ := hcv
          rw [hvk] at hcG
          have i4 : (i : Int) < (ln k : Int) := by omega
          have hgG : g ≠ G := by
            have := own_ne hcg HP.out.1 (by decide)
            simpa [Value.ownBlock] using this
          have hGg : G ≠ g := Ne.symm hgG
          have HV := hide hvk
          clear hcg hcc hvk
          have hmk := mark_any ((k : Int) + 1) (i : Int)
          go_wp2
          have hw1 : IntKind.i64.wrap ((k : Int) + 1) = (k : Int) + 1 := IntWalk.i64_in _ (by omega)
          go_region_held3 (fun w' => w'.cell? ⟨G, k, none⟩ = some (.slice (some ⟨g, 0, none⟩) (ln k) cap)) (go_keep) (first | (go_at_call 99; ((with_reducible refine (hmk _).mono ?_)); rintro e w' ⟨rfl, rfl⟩))
          clear hw1
          go_wp2
          go_roundw
          case rel => exact ⟨i + 1, by omega, by go_num, HP.out.store (by decide) HX.out HD.out hlt hli HV.out⟩
          case measure => simp [intOf]; omega
        · have hil : i = ln k := by omega
          obtain ⟨_, A, c, hvk, _, _, _⟩ := Sl.of_own (HP.out.2.1 k hlt)
          rw [hvk] at hcG
          clear hvk
          have i4 : (ln k : Int) ≤ (i : Int) := by omega
          have HI := hide hil
          clear hil
          go_wp2
          go_roundw
          case rel =>
            refine ⟨k + 1, by omega, by go_num, ?_⟩
            have h := HP.out
            rw [HI.out] at h
            exact ⟨h.1, fun j hj => by rw [← st1_next X ln k j HX.out]; exact h.2.1 j hj, h.2.2⟩
          case measure => simp [intOf]; omega
    · have hkn : k = n := by omega
      subst hkn
      have hp2 : Ph2 w base 5 85 (.slice (some ⟨G, 0, none⟩) k capG) (.slice none 0 0) k vs ln [] wo := by
        obtain ⟨h1, h2, h3⟩ := HP.out
        refine ⟨h1, World.ownsRow_nil _ _ _ _, fun j hj => ?_, fun j g hg => by simp at hg, fun i j g hg => by simp at hg, fun i j g h hg => by simp at hg, .inl rfl, HD.out, h3.1, h3.2⟩
        have := h2 j hj
        unfold st1 at this
        rwa [if_pos hj] at this
      clear HP
      have HP := hide hp2
      clear hp2
      go_wp2
      go_loopw [5, 6] (fun u5 u6 wr => ∃ Gs : List Value, Gs.length ≤ k ∧ u6 = .int .i64 (Gs.length : Int) ∧ Ph2 w base 5 85 (.slice (some ⟨G, 0, none⟩) k capG) u5 k vs ln Gs wr) (fun _ i _ => k - (intOf i).toNat)
      case atStart => exact ⟨[], by simp, rfl, HP.out⟩
      case round =>
        clear HP
        obtain ⟨Gs, hGs, rfl, hp⟩ := hrel
        have HP := hide hp
        clear hp
        obtain ⟨q, hq⟩ : ∃ q, q = Gs.length := ⟨_, rfl⟩
        rw [← hq] at hGs ⊢
        have HQ := hide hq
        clear hq
        obtain ⟨wp, rfl⟩ : ∃ wp : World, wp = wr := ⟨_, rfl⟩
        by_cases hql : q < k
        · have hcG : wp.cell? ⟨G, q, none⟩ = some (vs q) := by
            rw [HP.out.ls.cellAt q (by omega)]; simp [hql]
          have i1 : (0 : Int) ≤ (q : Int) := by omega
          go_wp2
          go_loopw [7, 8] (fun u7 u8 wr => ∃ i : Nat, i ≤ 70 ∧ u8 = .int .i64 (i : Int) ∧ Ph2 w base 5 85 (.slice (some ⟨G, 0, none⟩) k capG) u5 k vs ln Gs wr ∧ Cur base 5 k vs ln Gs q i u7 wr) (fun _ i _ => 70 - (intOf i).toNat)
          case atStart => exact ⟨0, by omega, rfl, HP.out, HP.out.old q hql, fun j hj hne => HP.out.dist q j hql hj hne, fun j h hh => (HP.out.apt j q h hh hql (by have := (List.getElem?_eq_some_iff.1 hh).1; have := HQ.out; omega)).symm⟩
          case round =>
            clear HP hcG
            obtain ⟨i, hi, rfl, hp, hc⟩ := hrel
            have HP := hide hp
            have HC := hide hc
            clear hp hc
            have hcG : wr.cell? ⟨G, q, none⟩ = some (vs q) := by
              rw [HP.out.ls.cellAt q (by omega)]; simp [hql]
            obtain ⟨_, A, c, hvk, _, _, _⟩ := Sl.of_own (HP.out.old q hql)
            rw [hvk] at hcG
            clear hvk
            have hlq := hlen q hql
            by_cases hi70 : i < 70
            · have hmk := mark_any ((q : Int) + 1) ((ln q : Int) + (i : Int))
              go_wp2_with (first
                | (go_at_call 99; ((with_reducible refine (hmk _).mono ?_)); rintro e w' ⟨rfl, rfl⟩)
                | (at_builtin; go_loud (refine wpList_push1 elem8 HC.out.own HP.out.below (Nat.le_trans hbase HP.out.below.size) (by unfold maxLen; omega) (by omega) (mkv (q + 1) (ln q + i)) rfl rfl _ _ rfl rfl rfl ?_); intro v1 w1 hown1 hbel1 hold1 hgr1 hblk1))
              go_roundw
              case rel => exact ⟨i + 1, by omega, by go_num, HP.out.push (by decide) HC.out hql hown1 hold1 hgr1 hblk1 hbel1⟩
              case measure => simp [intOf]; omega
            · have hi0 : i = 70 := by omega
              subst hi0
              have hqG := HQ.out
              subst hqG
              obtain ⟨ub, uc, hu7, _, _⟩ := HC.out.own.form (by omega)
              subst hu7
              go_wp2_with (at_builtin; go_loud (refine wpList_push1 elem88 HP.out.gs HP.out.below (Nat.le_trans hbase HP.out.below.size) (by unfold maxLen; omega) (by omega) (.slice (some ⟨ub, 0, none⟩) (ln Gs.length + 70) uc) rfl rfl _ _ rfl rfl rfl ?_); intro v1 w1 hown1 hbel1 hold1 hgr1 hblk1)
              go_roundw
              case rel => exact ⟨_, by simp; omega, by simp, HP.out.lay (by decide) HC.out hown1 hgr1 hblk1 hbel1⟩
              case measure => simp [intOf]; omega
        · have hqk : q = k := by omega
          subst hqk
          obtain ⟨H, capH, hvgs, _, _⟩ := HP.out.gs.form (by have := HQ.out; omega)
          subst hvgs
          go_wp2
          go_loopw [9, 2, 10, 11] (fun u9 _ _ _ wr => ∃ p : Nat, p ≤ q ∧ u9 = .int .i64 (p : Int) ∧ Ph2 w base 5 85 (.slice (some ⟨G, 0, none⟩) q capG) (.slice (some ⟨H, 0, none⟩) Gs.length capH) q vs ln Gs wr) (fun i _ _ _ _ => q - (intOf i).toNat)
          case atStart => exact ⟨0, by omega, rfl, HP.out⟩
          case round =>
            obtain ⟨p, hp, rfl, h2⟩ := hrel
            clear HP
            have HP := hide h2
            clear h2
            obtain ⟨wz, rfl⟩ : ∃ wz : World, wz = wr := ⟨_, rfl⟩
            by_cases hpq : p < q
            · obtain ⟨g, hg⟩ : ∃ g, Gs[p]? = some g := ⟨_, List.getElem?_eq_getElem (by have := HQ.out; omega)⟩
              have hog := HP.out.new p g hg
              obtain ⟨gb, gc, hgv, _, _⟩ := hog.form (by omega)
              subst hgv
              have hlp := hlen p hpq
              go_wp2
              go_loopw [10, 2, 11] (fun u10 _ _ wr => ∃ i : Nat, i ≤ ln p + 70 ∧ u10 = .int .i64 (i : Int) ∧ Ph2 w base 5 85 (.slice (some ⟨G, 0, none⟩) q capG) (.slice (some ⟨H, 0, none⟩) Gs.length capH) q vs ln Gs wr) (fun i _ _ _ => ln p + 70 - (intOf i).toNat)
              case atStart => exact ⟨0, by omega, rfl, HP.out⟩
              case round =>
                obtain ⟨i, hi, rfl, h2⟩ := hrel
                clear HP hog
                have HP := hide h2
                clear h2
                have hcH : wr.cell? ⟨H, p, none⟩ = some (.slice (some ⟨gb, 0, none⟩) (ln p + 70) gc) := by
                  rw [HP.out.gs.cellAt p (by have := HQ.out; omega)]; exact hg
                have hog := HP.out.new p _ hg
                have HG := hide hg
                clear hg
                have i3 : (0 : Int) ≤ (i : Int) := by omega
                have i4 : (0 : Int) ≤ (p : Int) := by omega
                have i5 : (p : Int) < (q : Int) := by omega
                have i6 : (p : Int) < (Gs.length : Int) := by have := HQ.out; omega
                by_cases hi7 : i < ln p + 70
                · obtain ⟨m, hm⟩ : ∃ m, m = mark ((p : Int) + 1) (i : Int) := ⟨_, rfl⟩
                  have hcg : wr.cell? ⟨gb, i, none⟩ = some (.int .u8 (m.toNat : Int)) := by
                    rw [hog.cellAt i (by omega), mks_get _ _ _ hi7, hm]; rfl
                  have hmk : ∀ w, Calls Tryz.prog 99 #[.int .i64 ((p : Int) + 1), .int .i64 (i : Int)] w fun e w' => e = .returned (.int .u8 (m.toNat : Int)) ∧ w = w' := by
                    rw [hm]; exact mark_any _ _
                  have hcG : wr.cell? ⟨G, p, none⟩ = some (vs p) := by
                    rw [HP.out.ls.cellAt p (by omega)]; simp [hpq]
                  have hov := HP.out.old p hpq
                  have hmm : ((m.toNat : Int) != (m.toNat : Int)) = false := by simp
                  have i8 : (i : Int) < (ln p : Int) + 70 := by omega
                  by_cases hil : i < ln p
                  · obtain ⟨vb, vc, hvp, _, _⟩ := hov.form (by omega)
                    rw [hvp] at hcG hov
                    have hcv : wr.cell? ⟨vb, i, none⟩ = some (.int .u8 (m.toNat : Int)) := by
                      rw [hov.cellAt i (by omega), mks_get _ _ _ hil, hm]; rfl
                    have i9 : (i : Int) < (ln p : Int) := by omega
                    clear hov hog hvp hm
                    go_wp2_with (go_at_call 99; ((with_reducible refine (hmk _).mono ?_)); rintro e w' ⟨rfl, rfl⟩)
                    go_roundw
                    case rel => exact ⟨i + 1, by omega, by go_num, HP.out⟩
                    case measure => simp [intOf]; omega
                  · obtain ⟨_, A, c, hvp, _, _, _⟩ := Sl.of_own hov
                    rw [hvp] at hcG
                    have i9 : decide ((i : Int) < (ln p : Int)) = false := by simp; omega
                    clear hov hog hvp hm
                    go_wp2_with (go_at_call 99; ((with_reducible refine (hmk _).mono ?_)); rintro e w' ⟨rfl, rfl⟩)
                    go_roundw
                    case rel => exact ⟨i + 1, by omega, by go_num, HP.out⟩
                    case measure => simp [intOf]; omega
                · have i8 : (ln p : Int) + 70 ≤ (i : Int) := by omega
                  go_wp2
                  go_roundw
                  case rel => exact ⟨p + 1, by omega, by go_num, HP.out⟩
                  case measure => simp [intOf]; omega
            · go_wp2
              go_ret
              exact ⟨rfl, HP.out.below, HP.out.oth⟩
theorem own_base {w : World} {base base' : Nat} {e : TypeId} {sz n : Nat} {v : Value} {xs : List Value} (h : w.ownsRow base e sz v n xs) (hb : base' ≤ base) : w.ownsRow base' e sz v n xs := by
  obtain ⟨h1, h2 | ⟨g, cap, cur, hv, hg, r⟩⟩ := h
  · exact ⟨h1, .inl h2⟩
  · exact ⟨h1, .inr ⟨g, cap, cur, hv, by omega, r⟩⟩
theorem Own.base {w : World} {base base' : Nat} {e : TypeId} {v : Value} {l : List UInt8} (h : Own w base e v l) (hb : base' ≤ base) : Own w base' e v l := own_base h hb

/-- What was made earlier and what was made later share no block. -/
theorem apt_later {w1 w2 : World} {b1 b2 : Nat} {e1 e2 : TypeId} {s1 s2 n1 n2 : Nat} {a b : Value} {xs ys : List Value} (ha : w1.ownsRow b1 e1 s1 a n1 xs) (hb : w2.ownsRow b2 e2 s2 b n2 ys) (h : w1.heap.size ≤ b2) : Apt a b := by
  unfold Apt
  rcases hg : a.ownBlock with _ | g
  · exact .inl rfl
  · refine .inr ?_
    intro he
    have h1 := (ha.lt g hg).2
    have h2 := (hb.lt g he.symm).1
    omega

/-- Two rows of bytes that share no block lie apart. -/
theorem apart2 {w : World} (base : Nat) {a b : Value} {la lb : List UInt8} (hbase : base ≤ w.heap.size) (ha : Own w base 5 a la) (hb : Own w base 5 b lb)
    (hab : Apt a b) (h1 : la.length ≤ 140737488355000) (h2 : lb.length ≤ 140737488355000) :
    Calls Tryz.prog 50 #[.slice (some ⟨w.heap.size, 0, none⟩) 2 2] (w.alloc (.cells #[a, b] 85)) fun e w' => e = .returned (.bool true) ∧ Below base w w' ∧ Oth 5 85 w w' := by
  have hblk := Blk.new w 85 #[a, b]
  have hown := hblk.own (base := base) (n := 2) (cap := 2) (sz := 1) rfl hbase rfl (Nat.le_refl _) (by simp [maxLen])
  have := apart_any base (.slice (some ⟨w.heap.size, 0, none⟩) 2 2) 2 (fun j => match j with | 0 => a | _ => b) (fun j => match j with | 0 => la.length | _ => lb.length)
    (fun j => match j with | 0 => bcells la | _ => bcells lb) (w.alloc (.cells #[a, b] 85)) (by simp; omega) (fun j => by split <;> simp) (fun j _ => by split <;> assumption) (by omega) hown
    (fun j hj => by
      match j, hj with
      | 0, _ => exact World.ownsRow.alloc ha _
      | 1, _ => exact World.ownsRow.alloc hb _)
    (fun i j hi hj hne => by
      match i, hi, j, hj with
      | 0, _, 0, _ => exact absurd rfl hne
      | 1, _, 1, _ => exact absurd rfl hne
      | 0, _, 1, _ => exact hab
      | 1, _, 0, _ => exact hab.symm) (by omega)
  exact this.mono fun e w' ⟨he, hb, ho⟩ => ⟨he, ((Below.refl base w).alloc hbase _).trans hb, fun b sz n o v xs h1 h2 h => ho b sz n o v xs h1 h2 (World.ownsRow.alloc h _)⟩

end Go.Proofs.YtoaaplngdomdcaaGreat.AB
