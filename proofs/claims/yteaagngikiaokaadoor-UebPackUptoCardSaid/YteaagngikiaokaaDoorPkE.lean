/- The law UebPack. -/
import Derived.Test.YteaagngikiaokaaDoorPkD
import Derived.Test.YteaagngikiaokaaDoorApN
namespace Go.Proofs.YteaagngikiaokaaDoor
open Go.RowKit

/-- What a table is packed as. -/
def PackOf (rs : List Rw) (l : List UInt8) (er : Int) : Prop := (may rs ∧ l = encs rs ∧ er = 0) ∨ (¬ may rs ∧ l = [] ∧ er = 130)
theorem packOf_ex (rs : List Rw) : ∃ l er, PackOf rs l er := by
  by_cases h : may rs
  · exact ⟨_, _, .inl ⟨h, rfl, rfl⟩⟩
  · exact ⟨_, _, .inr ⟨h, rfl, rfl⟩⟩
theorem pack_of (v : Value) (L : List RowV) (l : List UInt8) (er : Int) (w : World) (h : Rws w v L) (ht : Tab w) (hp : PackOf (rws L) l er) :
    Calls Tryd.prog 13 #[v] w fun e w' => Below w.heap.size w w' ∧ ∃ A c, e = .returned (.tuple #[.slice A l.length c, .int .i64 er]) ∧ Own w' w.heap.size 5 (.slice A l.length c) l := by
  refine (pack_any v L w h ht).mono ?_
  rintro e w' ⟨hb, ⟨hm, v', rfl, ho⟩ | ⟨hm, rfl⟩⟩
  · rcases hp with ⟨_, rfl, rfl⟩ | ⟨hn, _⟩
    · obtain ⟨A, c, hv, _⟩ := ho.by_.form
      subst hv
      exact ⟨hb, A, c, rfl, ho⟩
    · exact absurd hm hn
  · rcases hp with ⟨hn, _⟩ | ⟨_, rfl, rfl⟩
    · exact absurd hn hm
    · exact ⟨hb, none, 0, rfl, Own.nil _ _ _⟩
theorem rpack_of (v : Value) (L : List RowV) (l : List UInt8) (er : Int) (w : World) (h : Rws w v L) (hp : PackOf (rws L) l er) :
    Calls Tryd.prog 16 #[v] w fun e w' => Below w.heap.size w w' ∧ ∃ A c, e = .returned (.tuple #[.slice A l.length c, .int .i64 er]) ∧ Own w' w.heap.size 5 (.slice A l.length c) l := by
  refine (rpack_any v L w h).mono ?_
  rintro e w' ⟨hb, ⟨hm, v', rfl, ho⟩ | ⟨hm, rfl⟩⟩
  · rcases hp with ⟨_, rfl, rfl⟩ | ⟨hn, _⟩
    · obtain ⟨A, c, hv, _⟩ := ho.by_.form
      subst hv
      exact ⟨hb, A, c, rfl, ho⟩
    · exact absurd hm hn
  · rcases hp with ⟨hn, _⟩ | ⟨_, rfl, rfl⟩
    · exact absurd hn hm
    · exact ⟨hb, none, 0, rfl, Own.nil _ _ _⟩

theorem Lnt.keep {w w' : World} {base : Nat} {va ve : Value} {LA : List RowV} {E : List Ent} (h : Lnt w base va ve LA E) (hb : ∀ g, base ≤ g → g < w.heap.size → w'.heap[g]? = w.heap[g]?) : Lnt w' base va ve LA E :=
  ⟨⟨own_same h.rows.1 fun g hg => hb g (h.rows.1.lt g hg).1 (h.rows.1.lt g hg).2, fun x hx => own_same (h.rows.2 x hx) fun g hg => hb g (World.ownsRow.lt (h.rows.2 x hx) g hg).1 (World.ownsRow.lt (h.rows.2 x hx) g hg).2⟩,
    own_same h.each fun g hg => hb g (h.each.lt g hg).1 (h.each.lt g hg).2, fun x hx => own_same (h.own x hx) fun g hg => hb g (World.ownsRow.lt (h.own x hx) g hg).1 (World.ownsRow.lt (h.own x hx) g hg).2, h.apt⟩

/-- What lentRows hands back, in the forms that a walk reads. -/
structure Lent (w : World) (base : Nat) (L : List RowV) (Aa : Option Addr) (na ca : Nat) (Ae : Option Addr) (ne ce : Nat) : Prop where
  ex : ∃ LA E, Lnt w base (.slice Aa na ca) (.slice Ae ne ce) LA E ∧ rws LA = rws L ++ mks70 70 ∧ E.map (·.2) = lentOf L
theorem Lent.below {w w' : World} {base : Nat} {L : List RowV} {Aa : Option Addr} {na ca : Nat} {Ae : Option Addr} {ne ce : Nat} (h : Lent w base L Aa na ca Ae ne ce) (hb : Below w.heap.size w w') : Lent w' base L Aa na ca Ae ne ce := by
  obtain ⟨LA, E, h1, h2⟩ := h.ex
  exact ⟨LA, E, h1.below hb, h2⟩
theorem Lent.keep {w w' : World} {base : Nat} {L : List RowV} {Aa : Option Addr} {na ca : Nat} {Ae : Option Addr} {ne ce : Nat} (h : Lent w base L Aa na ca Ae ne ce) (hb : ∀ g, base ≤ g → g < w.heap.size → w'.heap[g]? = w.heap[g]?) : Lent w' base L Aa na ca Ae ne ce := by
  obtain ⟨LA, E, h1, h2⟩ := h.ex
  exact ⟨LA, E, h1.keep hb, h2⟩
theorem Lent.cap {w : World} {base : Nat} {L : List RowV} {Aa : Option Addr} {na ca : Nat} {Ae : Option Addr} {ne ce : Nat} (h : Lent w base L Aa na ca Ae ne ce) : L.length ≤ ca := by
  obtain ⟨LA, E, h1, h2, h3⟩ := h.ex
  obtain ⟨A, c, hv, hc, _⟩ := h1.rows.rws_.form
  injection hv with e1 e2 e3
  have := congrArg List.length h2
  simp at this
  omega
theorem Lent.front {w : World} {base : Nat} {L : List RowV} {Aa : Option Addr} {na ca : Nat} {Ae : Option Addr} {ne ce : Nat} (h : Lent w base L Aa na ca Ae ne ce) : ∃ L2, Rws w (.slice Aa L.length ca) L2 ∧ rws L2 = rws L := by
  obtain ⟨LA, E, h1, h2, h3⟩ := h.ex
  have hl := congrArg List.length h2
  simp at hl
  refine ⟨LA.take L.length, h1.rows.rws_.take_ L.length (by omega), ?_⟩
  have : (rws LA).take L.length = rws L := by rw [h2, List.take_left' (by simp)]
  rw [← this]
  simp [rws, List.map_take]
theorem lent_of (v : Value) (L : List RowV) (w : World) (h : Rws w v L) (hn : L.length ≤ 1048576) (hl : ∀ x ∈ L, x.2.2.length ≤ 1048576) :
    Calls Tryd.prog 12 #[v] w fun e w' => ∃ Aa na ca Ae ne ce, e = .returned (.agg #[.slice Aa na ca, .slice Ae ne ce]) ∧ Below w.heap.size w w' ∧ Lent w' w.heap.size L Aa na ca Ae ne ce := by
  refine (lentRows_any v L w h hn hl).mono ?_
  rintro e w' ⟨va, ve, LA, E, rfl, hb, hlnt, h2, h3⟩
  obtain ⟨A, c, rfl, _⟩ := hlnt.rows.rws_.form
  have hve : ∃ Ae ne ce, ve = .slice Ae ne ce := by
    rcases hlnt.each.2 with ⟨h0, h1⟩ | ⟨g, cap, cur, h0, _⟩
    · exact ⟨none, 0, 0, h0⟩
    · exact ⟨_, _, _, h0⟩
  obtain ⟨Ae, ne, ce, rfl⟩ := hve
  exact ⟨_, _, _, _, _, _, rfl, hb, ⟨LA, E, hlnt, h2, h3⟩⟩
theorem kept_of {w : World} {base : Nat} {L : List RowV} {Aa : Option Addr} {na ca : Nat} {Ae : Option Addr} {ne ce : Nat} (v : Value) (h : Lent w base L Aa na ca Ae ne ce) (hr : Rws w v L) (hn : L.length ≤ 1048576) (hl : ∀ x ∈ L, x.2.2.length ≤ 1048576) :
    Calls Tryd.prog 14 #[.agg #[.slice Aa na ca, .slice Ae ne ce], v] w fun e w' => e = .returned (.bool true) ∧ Below w.heap.size w w' := by
  obtain ⟨LA, E, h1, h2, h3⟩ := h.ex
  exact keptRows_any _ _ v L LA E base w hr h1 h2 h3 hn hl
theorem over_of {w0 w : World} {base : Nat} {L : List RowV} {Aa : Option Addr} {na ca : Nat} {Ae : Option Addr} {ne ce : Nat} (h0 : Lent w0 base L Aa na ca Ae ne ce) (hs : base ≤ w0.heap.size) (hb : Below w0.heap.size w0 w ∨ ((∀ g, base ≤ g → g < w0.heap.size → w.heap[g]? = w0.heap[g]?) ∧ w0.heap.size ≤ w.heap.size)) (hn : L.length ≤ 1048576) (hl : ∀ x ∈ L, x.2.2.length ≤ 1048576) :
    Calls Tryd.prog 15 #[.agg #[.slice Aa na ca, .slice Ae ne ce]] w fun e w' => e = .returned (.tuple #[]) ∧ Below base w w' ∧ w.heap.size ≤ w'.heap.size ∧ ∀ g, w0.heap.size ≤ g → g < w.heap.size → w'.heap[g]? = w.heap[g]? := by
  obtain ⟨LA, E, h1, h2, h3⟩ := h0.ex
  have hsz : w0.heap.size ≤ w.heap.size := by
    rcases hb with hb | hb
    · exact hb.size
    · exact hb.2
  have h1w : Lnt w base (.slice Aa na ca) (.slice Ae ne ce) LA E := by
    rcases hb with hb | hb
    · exact h1.below hb
    · exact h1.keep hb.1
  have hl1 := congrArg List.length h2
  have hl2 := congrArg List.length h3
  simp [lentOf] at hl1 hl2
  refine overRows_any _ _ LA E base w0.heap.size w h1w (by omega) (by omega) (fun z hz => ?_) (fun g hg => (h1.rows.1.lt g hg).2) (fun z hz g hg => (World.ownsRow.lt (h1.own z hz) g hg).2) hsz (by omega)
  have hz2 : z.2 ∈ lentOf L := by rw [← h3]; exact List.mem_map_of_mem hz
  obtain ⟨x, hx, he⟩ := List.mem_map.1 hz2
  have := hl x hx
  rw [← he]
  simp [marks]
  omega
end Go.Proofs.YteaagngikiaokaaDoor
