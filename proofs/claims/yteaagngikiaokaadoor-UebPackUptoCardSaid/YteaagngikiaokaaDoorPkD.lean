/- The contract of the law's over: what was lent is written over. -/
import Derived.Test.YteaagngikiaokaaDoorPkC
namespace Go.Proofs.YteaagngikiaokaaDoor
open Go.RowKit

theorem apts_get {E : List Ent} (h : apts E) {i j : Nat} {a b : Ent} (ha : E[i]? = some a) (hb : E[j]? = some b) (hne : i ≠ j) : ∀ g, a.1.ownBlock = some g → b.1.ownBlock ≠ some g := by
  intro g hg hgb
  obtain ⟨hi, rfl⟩ := List.getElem?_eq_some_iff.1 ha
  obtain ⟨hj, rfl⟩ := List.getElem?_eq_some_iff.1 hb
  have hp := List.pairwise_iff_getElem.1 h
  rcases Nat.lt_or_gt_of_ne hne with hlt | hlt
  · rcases hp i j hi hj hlt with h0 | h0
    · rw [h0] at hg; cases hg
    · exact h0 (hg.trans hgb.symm)
  · rcases hp j i hj hi hlt with h0 | h0
    · rw [h0] at hgb; cases hgb
    · exact h0 (hgb.trans hg.symm)
theorem own_blk {w : World} {base n g c : Nat} {e : TypeId} {sz : Nat} {xs : List Value} (h : w.ownsRow base e sz (.slice (some ⟨g, 0, none⟩) n c) n xs) : ∃ cur, Blk w g e cur ∧ n * sz ≤ cur.size := by
  rcases h.2 with ⟨h0, _⟩ | ⟨g', cap', cur, hv, _, hh, h3, _, h5, _⟩
  · cases h0
  · injection hv with e1 _ _
    injection e1 with e1
    injection e1 with e1
    subst e1
    exact ⟨cur, hh, by rw [h5]; exact Nat.mul_le_mul_right _ h3⟩

set_option maxRecDepth 100000 in
set_option maxHeartbeats 8000000 in
theorem overRows_any (va ve : Value) (LA : List RowV) (E : List Ent) (base hi : Nat) (w : World) (hlnt : Lnt w base va ve LA E) (hlen : E.length ≤ LA.length) (hn : E.length ≤ 1048576) (hl : ∀ z ∈ E, z.2.length ≤ 140737488355328)
    (hhi : ∀ g, va.ownBlock = some g → g < hi) (hhe : ∀ z ∈ E, ∀ g, z.1.ownBlock = some g → g < hi) (hhw : hi ≤ w.heap.size) (hbase : base ≤ w.heap.size) :
    Calls Tryd.prog 15 #[.agg #[va, ve]] w fun e w' => e = .returned (.tuple #[]) ∧ Below base w w' ∧ w.heap.size ≤ w'.heap.size ∧ ∀ g, hi ≤ g → g < w.heap.size → w'.heap[g]? = w.heap[g]? := by
  have HLN := hide hlnt
  have HL := hide hl
  have HHI := hide (And.intro hhi hhe)
  have hva : ∃ Aa ca, va = .slice Aa LA.length ca := by
    obtain ⟨A, c, h0, _⟩ := hlnt.rows.rws_.form
    exact ⟨A, c, h0⟩
  obtain ⟨Aa, ca, rfl⟩ := hva
  have hve : ∃ Ae ce, ve = .slice Ae E.length ce := by
    rcases hlnt.each.2 with ⟨h0, h1⟩ | ⟨g, cap, cur, h0, _⟩
    · exact ⟨none, 0, by rw [h0, h1]⟩
    · exact ⟨_, _, h0⟩
  obtain ⟨Ae, ce, rfl⟩ := hve
  have HOWN := hide (show ∀ (i : Nat) (z : Ent), E[i]? = some z → ∃ l, Own w base 5 z.1 l ∧ l.length = z.2.length from fun i z hz => ⟨_, hlnt.own z (List.mem_of_getElem? hz), rfl⟩)
  have i1 : (E.length : Int) ≤ (LA.length : Int) := by omega
  clear hlnt hl hhi hhe
  go_enter Tryd.func15, Tryd.ntmps15
  go_wp2
  go_loopw [2] (fun u2 wr => ∃ (i : Nat) (xs : List Value), u2 = .int .i64 (i : Int) ∧ i ≤ E.length ∧ Blk wr w.heap.size 25 #[.slice Aa LA.length ca, .slice Ae E.length ce] ∧ wr.ownsRow base 55 2 (.slice Aa LA.length ca) LA.length xs ∧ wr.ownsRow base 27 1 (.slice Ae E.length ce) E.length (E.map (·.1)) ∧
    (∀ (i : Nat) (z : Ent), E[i]? = some z → ∃ l, Own wr base 5 z.1 l ∧ l.length = z.2.length) ∧ Below base w wr ∧ w.heap.size ≤ wr.heap.size ∧ (∀ g, hi ≤ g → g < w.heap.size → wr.heap[g]? = w.heap[g]?)) (fun u2 _ => E.length + 1 - (intOf u2).toNat)
  case atStart =>
    exact ⟨0, _, rfl, by omega, Blk.new w _ _, HLN.out.rows.1.alloc _, HLN.out.each.alloc _, fun i z hz => by obtain ⟨l, h1, h2⟩ := HOWN.out i z hz; exact ⟨l, World.ownsRow.alloc h1 _, h2⟩, (Below.refl _ w).alloc hbase _, by simp, fun g _ hg => Below.heap_alloc w _ g hg⟩
  case round =>
    obtain ⟨i, xs, rfl, hi', hblk, hrow, heach, hown, hbel, hsz, hkeep⟩ := hrel
    have c0 : wr.cell? ⟨w.heap.size, 0, none⟩ = some (.slice Aa LA.length ca) := hblk.cell 0
    have c1 : wr.cell? ⟨w.heap.size, 1, none⟩ = some (.slice Ae E.length ce) := hblk.cell 1
    by_cases hlt : i < E.length
    · obtain ⟨z, hz⟩ : ∃ z, E[i]? = some z := ⟨_, List.getElem?_eq_getElem hlt⟩
      obtain ⟨ge, cg, hvg, hgl, hcg⟩ := own_cell1 heach (k := i) (u := z.1) (by simp [hz])
      obtain ⟨rfl, _⟩ : Ae = some ⟨ge, 0, none⟩ ∧ True := by injection hvg with e1 _ _; exact ⟨e1, trivial⟩
      obtain ⟨ga, rfl, hgal⟩ : ∃ ga, Aa = some ⟨ga, 0, none⟩ ∧ ga < wr.heap.size := by
        rcases hrow.2 with ⟨_, h1⟩ | ⟨g, cap, cur, h0, _⟩
        · omega
        · injection h0 with e1 _ _
          exact ⟨g, e1, (hrow.lt g (by rw [e1]; rfl)).2⟩
      obtain ⟨cur, hcur, hcs⟩ := own_blk hrow
      obtain ⟨l, hol, hll⟩ := hown i z hz
      have hzl := HL.out z (List.mem_of_getElem? hz)
      have hover := over_any base z.1 l wr hol (by omega)
      obtain ⟨A5, c5, hv5, _⟩ := hol.by_.form
      rw [hll] at hv5
      rw [hv5] at hcg
      have hover' := hover
      rw [hv5] at hover'
      have Q := hide hover'
      have i3 : (i : Int) < (E.length : Int) := by omega
      have i4 : (0 : Int) ≤ (i : Int) := by omega
      have i5 : (i : Int) < (LA.length : Int) := by omega
      have HA := hide (And.intro hblk (And.intro hrow (And.intro heach (And.intro hown (And.intro hbel (And.intro hsz (And.intro hkeep (And.intro hcur hol))))))))
      have HV5 := hide hv5
      have HLL := hide hll
      have HZ := hide hz
      clear hblk hrow heach hown hbel hkeep hcur hol hover hover' hv5 hz hvg hll
      go_wp2_with fail
      refine Q.out.mono ?_
      rintro e w1 ⟨rfl, b1, g1, l1, o1, ll1⟩
      rw [← HV5.out] at g1 o1
      obtain ⟨hblk, hrow, heach, hown, hbel, hsz2, hkeep, hcur, hol⟩ := HA.out
      have hblk1 := hblk.grown g1 (fun e' => (own_blk_ne hol hblk (by decide)).elim (fun h0 => by rw [h0] at e'; cases e') (fun h0 => h0 e'.symm))
      have hrow1 := own_grown hrow g1 fun g hg he => own_ne hrow hol (by decide) g hg he
      have heach1 := own_grown heach g1 fun g hg he => own_ne heach hol (by decide) g hg he
      have hcur1 := hcur.grown g1 (fun e' => (own_blk_ne hol hcur (by decide)).elim (fun h0 => by rw [h0] at e'; cases e') (fun h0 => h0 e'.symm))
      have hown1 : ∀ (j : Nat) (y : Ent), E[j]? = some y → ∃ l, Own w1 base 5 y.1 l ∧ l.length = y.2.length := fun j y hy => by
        by_cases hij : j = i
        · subst hij
          rw [HZ.out] at hy
          cases hy
          exact ⟨l1, o1, by have := HLL.out; omega⟩
        · obtain ⟨ly, hoy, hly⟩ := hown j y hy
          exact ⟨ly, own_grown hoy g1 fun g hg he => apts_get HLN.out.apt hy HZ.out hij g hg he, hly⟩
      have hb1 : Below base w w1 := hbel.trans b1
      have hkeep1 : ∀ g, hi ≤ g → g < w.heap.size → w1.heap[g]? = w.heap[g]? := fun g h1 h2 => (g1.block g (by omega) (fun e' => by have := HHI.out.2 z (List.mem_of_getElem? HZ.out) g e'.symm; omega)).trans (hkeep g h1 h2)
      have hs1 : w.heap.size ≤ w1.heap.size := Nat.le_trans hsz g1.size
      have d0 : w1.cell? ⟨w.heap.size, 0, none⟩ = some (.slice (some ⟨ga, 0, none⟩) LA.length ca) := hblk1.cell 0
      obtain ⟨u, hu⟩ : ∃ u, cur[i * 2]? = some u := ⟨_, Array.getElem?_eq_getElem (by omega)⟩
      have d1 : w1.cell? ⟨ga, i * 2, none⟩ = some u := (hcur1.cell (i * 2)).trans hu
      have d2 : w1.frozen? ⟨ga, i * 2, none⟩ = false := hcur1.frozen (i * 2)
      have hblk2 : Blk (w1.setCell ⟨ga, i * 2, none⟩ (.string ⟨#[111, 118, 101, 114]⟩)) w.heap.size 25 #[.slice (some ⟨ga, 0, none⟩) LA.length ca, .slice (some ⟨ge, 0, none⟩) E.length ce] := hblk1.far (p := ⟨ga, i * 2, none⟩) (fun e' => (own_blk_ne hrow1 hblk1 (by decide)).elim (fun h0 => by cases h0) (fun h0 => h0 (by rw [e']; rfl))) _
      have hrow2 := (hrow1.stored (i * 2) (.string ⟨#[111, 118, 101, 114]⟩)).1
      have heach2 : (w1.setCell ⟨ga, i * 2, none⟩ (.string ⟨#[111, 118, 101, 114]⟩)).ownsRow base _ _ _ _ _ := own_far heach1 hcur1 (by decide)
      have hown2 : ∀ (j : Nat) (y : Ent), E[j]? = some y → ∃ l, Own (w1.setCell ⟨ga, i * 2, none⟩ (.string ⟨#[111, 118, 101, 114]⟩)) base 5 y.1 l ∧ l.length = y.2.length := fun j y hy => by
        obtain ⟨ly, hoy, hly⟩ := hown1 j y hy
        exact ⟨ly, own_far hoy hcur1 (by decide), hly⟩
      have hgb : base ≤ ga := (hrow1.lt ga rfl).1
      have hb2 := hb1.setCell (p := ⟨ga, i * 2, none⟩) hgb (.string ⟨#[111, 118, 101, 114]⟩)
      have hkeep2 : ∀ g, hi ≤ g → g < w.heap.size → (w1.setCell ⟨ga, i * 2, none⟩ (.string ⟨#[111, 118, 101, 114]⟩)).heap[g]? = w.heap[g]? := fun g h1 h2 => (Below.heap_setCell w1 ⟨ga, i * 2, none⟩ _ g (fun e' => by have := HHI.out.1 ga rfl; simp at e'; omega)).trans (hkeep1 g h1 h2)
      have HB := hide (And.intro hblk2 (And.intro hrow2 (And.intro heach2 (And.intro hown2 (And.intro hb2 (And.intro hs1 hkeep2))))))
      clear hblk hrow heach hown hbel hsz2 hkeep hcur hol hblk1 hrow1 heach1 hcur1 hown1 hb1 hkeep1 hblk2 hrow2 heach2 hown2 hb2 hkeep2 b1 g1 o1 c0 c1 hcg hu hsz
      go_wp2
      go_roundw
      case rel => exact ⟨i + 1, _, by go_num, by omega, HB.out.1, HB.out.2.1, HB.out.2.2.1, HB.out.2.2.2.1, HB.out.2.2.2.2.1, by have := HB.out.2.2.2.2.2.1; simpa using this, HB.out.2.2.2.2.2.2⟩
      case measure => simp [intOf]; omega
    · have hi2 : i = E.length := by omega
      subst hi2
      have i3 : ¬ (E.length : Int) < (E.length : Int) := by omega
      have HA := hide (And.intro hbel (And.intro hsz hkeep))
      clear hbel hsz hkeep hown heach hrow hblk
      go_wp2
      go_end0
      exact ⟨rfl, HA.out⟩
end Go.Proofs.YteaagngikiaokaaDoor
