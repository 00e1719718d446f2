import Derived.Test.YtdohebhbiokljaaGreatDoorJ1
import Derived.OwnWalk
import Derived.Test.YtdohebhbiokljaaGreatDoorJ19
import Derived.Test.YtdohebhbiokljaaGreatDoorJ7
set_option linter.all false
namespace Go.Proofs.YtdohebhbiokljaaGreatDoor
open Go.RowKit
theorem own_ne' {w : World} {b1 b2 : Nat} {e1 e2 : TypeId} {s1 s2 : Nat} {v1 v2 : Value} {n1 n2 : Nat} {x1 x2 : List Value} (h1 : w.ownsRow b1 e1 s1 v1 n1 x1) (h2 : w.ownsRow b2 e2 s2 v2 n2 x2) (he : e1 ≠ e2) :
  v1.ownBlock = none ∨ v1.ownBlock ≠ v2.ownBlock := by
 rcases h1.2 with ⟨rfl, _⟩ | ⟨g, cap, cur, rfl, _, hh, _⟩
 ·exact .inl rfl
 ·refine .inr ?_
  rcases h2.2 with ⟨rfl, _⟩ | ⟨g', cap', cur', rfl, _, hh', _⟩
  ·simp [Value.ownBlock]
  ·intro hg
   have : g = g' := by simpa [Value.ownBlock] using hg
   subst this
   rw [hh] at hh'
   injection hh' with hh'
   injection hh' with _ ht
   exact he ht
theorem Own.mono_ {w : World} {b b' : Nat} {e : TypeId} {v : Value} {l : List UInt8} (h : Own w b e v l) (hb : b' ≤ b) : Own w b' e v l := by
 refine ⟨h.1, h.2.imp id ?_⟩
 rintro ⟨g, cap, cur, hv, hg, r⟩
 exact ⟨g, cap, cur, hv, by omega, r⟩
def OwnL (w : World) (base : Nat) (e E : TypeId) (v : Value) (L : List (List UInt8)) : Prop :=
 ∃ xs, w.ownsRow base E 1 v L.length xs ∧ ∀ (i : Nat) (l : List UInt8), L[i]? = some l → ∃ x, xs[i]? = some x ∧ Own w base e x l
theorem OwnL.nil (w : World) (base : Nat) (e E : TypeId) : OwnL w base e E (.slice none 0 0) [] := ⟨[], World.ownsRow_nil w base E 1, fun i l h => by simp at h⟩
theorem OwnL.below {w w' : World} {base : Nat} {e E : TypeId} {v : Value} {L : List (List UInt8)} (h : OwnL w base e E v L) (hb : Below w.heap.size w w') : OwnL w' base e E v L := by
 obtain ⟨xs, h1, h2⟩ := h
 refine ⟨xs, own_below' h1 hb, fun i l hl => ?_⟩
 obtain ⟨x, hx, ho⟩ := h2 i l hl
 exact ⟨x, hx, ho.below hb⟩
theorem OwnL.kept {w w' : World} {base : Nat} {e E : TypeId} {v : Value} {L : List (List UInt8)} (h : OwnL w base e E v L) {g : Nat} {t : TypeId} {cs : Array Value} (hb : Blk w g t cs) (he : e ≠ t) (hE : E ≠ t)
  (hg : w.grownBy w' (some g)) : OwnL w' base e E v L := by
 obtain ⟨xs, h1, h2⟩ := h
 refine ⟨xs, h1.kept hg (own_blk_ne h1 hb hE), fun i l hl => ?_⟩
 obtain ⟨x, hx, ho⟩ := h2 i l hl
 exact ⟨x, hx, World.ownsRow.kept ho hg (own_blk_ne ho hb he)⟩
theorem OwnL.pushed {w w' : World} {base : Nat} {e E : TypeId} (he : e ≠ E) {v v' u : Value} {L : List (List UInt8)} {l : List UInt8} {xs : List Value} (h1 : w.ownsRow base E 1 v L.length xs)
  (h2 : ∀ (i : Nat) (l : List UInt8), L[i]? = some l → ∃ x, xs[i]? = some x ∧ Own w base e x l) (hu : Own w base e u l) (h' : w'.ownsRow base E 1 v' (L.length + 1) (xs ++ [u])) (hg : w.grownBy w' v.ownBlock) : OwnL w' base e E v' (L ++ [l]) := by
 have hl := h1.1
 refine ⟨xs ++ [u], by simpa using h', fun i m hm => ?_⟩
 by_cases hi : i < L.length
 ·rw [List.getElem?_append_left hi] at hm
  obtain ⟨x, hx, ho⟩ := h2 i m hm
  exact ⟨x, by rw [List.getElem?_append_left (by omega)]; exact hx, World.ownsRow.kept ho hg (own_ne' ho h1 he)⟩
 ·rw [List.getElem?_append_right (by omega)] at hm
  have hi2 : i = L.length := by
   rcases Nat.lt_or_ge L.length i with h | h
   ·rw [List.getElem?_eq_none (by simp; omega)] at hm; cases hm
   ·omega
  subst hi2
  rw [Nat.sub_self] at hm
  injection hm with hm
  subst hm
  exact ⟨u, by rw [List.getElem?_append_right (by omega), show L.length - xs.length = 0 by omega]; rfl, World.ownsRow.kept hu hg (own_ne' hu h1 he)⟩
theorem step_push1 {P : Program} {t e : TypeId} {z : Value} {bytes : Nat} (T : Elem1 P t e z bytes) {w : World} {base : Nat} {v : Value} {n : Nat} {xs : List Value} (hown : w.ownsRow base e 1 v n xs)
  {w0 : World} (hb : Below base w0 w) (hbase : base ≤ w.heap.size) (hn : n + 1 ≤ maxLen) (hbytes : (n + 1) * bytes ≤ 140737488355328) {g : Nat} {u : Value} (hu : u.oneCell' = true) (hg : Blk w g e #[u])
  {ops : Array Oper} {o : Oper} {a : Act} {K : Act → World → Prop} {Q : Exit → Act → World → Prop} {E : Prop} (hgd : o.guard = none) (s y : Operand)
  (ho : o.op = .call { callee := .builtin .append, args := #[s, y], argTypes := #[t, t] }) (hs : a.eval s = v) (hx : a.eval y = .slice (some ⟨g, 0, none⟩) 1 1)
  (h : ∀ v' w', w'.ownsRow base e 1 v' (n + 1) (xs ++ [u]) → Below base w0 w' → w.grownBy w' v.ownBlock → K (a.put o.dst v') w') :
  if Region.wanted o (yielded ops a.tmps) = true then Oper.wp P o a w K Q else E := by
 have hw : Region.wanted o (yielded ops a.tmps) = true := by simp [Region.wanted, hgd]
 rw [if_pos hw]
 obtain ⟨i, hi, hz, h1, h2⟩ := info_parts T.hi
 have hn1 : ∀ j y, [u][j]? = some y → w.cell? ((⟨g, 0, none⟩ : Addr).add j) = some y := fun j y hj =>
  World.news_of_block (w := w) (B := g) (cs := #[u]) (t := e) (fr := (0, 0)) hg j y (by simpa using hj)
 obtain ⟨v', w', hrun, h3, h4, _, _⟩ := run_append_own_at (P := P) w base t o.type e i z 1 bytes T.ht hi hz h1 h2 T.hz (by omega) v n xs hown ⟨g, 0, none⟩ 1 1 [u] (by simp) hn1 (by simpa using hu) hn hbytes hbase
 unfold Oper.wp execOp
 simp only [ho, resolve, invoke, builtin, Sem.run_bind, Sem.run_pure, Result.andThen_ok, List.map_toArray, List.map_cons, List.map_nil, hs, hx, hrun]
 exact h v' w' h3 (hb.grown h4 hbase fun k hk => (hown.lt k hk).1) h4
def Ls (w : World) (v : Value) (L : List (List UInt8)) : Prop :=
 ∃ xs, Sl w 1 v L.length xs ∧ ∀ (i : Nat) (l : List UInt8), L[i]? = some l → ∃ x, xs[i]? = some x ∧ By w x l
theorem Ls.below {w w' : World} {v : Value} {L : List (List UInt8)} (h : Ls w v L) (hb : Below w.heap.size w w') : Ls w' v L := by
 obtain ⟨xs, h1, h2⟩ := h
 refine ⟨xs, h1.below hb, fun i l hl => ?_⟩
 obtain ⟨x, hx, ho⟩ := h2 i l hl
 exact ⟨x, hx, ho.below hb⟩
theorem OwnL.ls {w : World} {base : Nat} {e E : TypeId} {v : Value} {L : List (List UInt8)} (h : OwnL w base e E v L) : Ls w v L := by
 obtain ⟨xs, h1, h2⟩ := h
 refine ⟨xs, Sl.of_own h1, fun i l hl => ?_⟩
 obtain ⟨x, hx, ho⟩ := h2 i l hl
 exact ⟨x, hx, ho.by_⟩
theorem Ls.form {w : World} {v : Value} {L : List (List UInt8)} (h : Ls w v L) :
  ∃ A c, v = .slice A L.length c ∧ L.length ≤ c ∧ c ≤ maxLen ∧
   (∀ k l, L[k]? = some l → ∃ b o x, A = some ⟨b, o, none⟩ ∧ b < w.heap.size ∧ w.cell? ⟨b, o + k, none⟩ = some x ∧ By w x l) := by
 obtain ⟨xs, h1, h2⟩ := h
 obtain ⟨A, c, hv, hn, hc, h3⟩ := Sl.form h1
 refine ⟨A, c, hv, hn, hc, fun k l hl => ?_⟩
 have hk : k < L.length := (List.getElem?_eq_some_iff.1 hl).1
 obtain ⟨b, o, hA, hlt, hcell⟩ := h3 (by omega)
 obtain ⟨x, hx, hb⟩ := h2 k l hl
 exact ⟨b, o, x, hA, hlt, by rw [hcell k (by omega), hx], hb⟩
end Go.Proofs.YtdohebhbiokljaaGreatDoor
namespace Go.Proofs.YtdohebhbiokljaaGreatDoor
open Go.RowKit
theorem results_three {P : Program} {fn : Func} {p u v : Tmp} {ty : TypeId} (h : fn.results = #[.cell p ty, .tmp u, .tmp v]) (tmps : Array Value) (w : World) (g : Nat) (t : TypeId) (cs : Array Value) (fr : Nat × Nat) (d : TypeDesc)
  (hp : tmps.getD p undef = .pointer (some ⟨g, 0, none⟩)) (hg : w.heap[g]? = some (.cells cs t fr))
  (hu : P.underlying ty = some d) (hd : (match d with | .struct _ | .array _ _ => true | _ => false) = true) (hi : (P.info? ty).map (·.size) = some cs.size) {x y : Value} (hx : tmps.getD u undef = x) (hy : tmps.getD v undef = y) :
  (results fn tmps).run P w = .ok (.tuple #[.agg cs, x, y]) w := by
 subst hx hy
 have hp' : tmps[p]?.getD undef = .pointer (some ⟨g, 0, none⟩) := by simpa using hp
 simp only [results, h]
 simp [Sem.run_bind, Result.andThen, hp', asAddr, run_loadVar_row w g t ty cs fr d hg hu hd hi]
theorem plA_one (u : US) (L : Nat) : (plA u L).all (·.oneCell') = true := by simp [plA, Value.oneCell']
end Go.Proofs.YtdohebhbiokljaaGreatDoor
