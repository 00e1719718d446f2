/- Joined texts: MbYA. -/
import Derived.Test.YtoaaplngdomdcaaGreatJ7
import Derived.Test.YtoaaplngdomdcaaGreatJ10
import Derived.Test.YtoaaplngdomdcaaGreatJ6
import Derived.Test.YtoaaplngdomdcaaGreatJ13

/- Steps of the statements' walks over bytes, each as it is asked for there. -/
namespace Go.Proofs.YtoaaplngdomdcaaGreat.MB
open Go.RowKit
section

def MC (W : World) (G g n : Nat) (M : Nat → Nat → UInt8) : Prop := W.cell? ⟨G, 0, none⟩ = some (.pointer (some ⟨g, 0, none⟩)) ∧ W.cell? ⟨G, 1, none⟩ = some (.pointer none) ∧ Mtx W g n n M
theorem MC.below {W W' : World} {G g n : Nat} {M : Nat → Nat → UInt8} (h : MC W G g n M) (hb : Below W.heap.size W W') : MC W' G g n M :=
  ⟨(hb.cell (World.block_lt_of_cell? _ _ h.1)).trans h.1, (hb.cell (World.block_lt_of_cell? _ _ h.2.1)).trans h.2.1, h.2.2.below hb⟩
theorem MC.new {W : World} {G g n : Nat} {M : Nat → Nat → UInt8} (h : Blk W G 32 #[.pointer (some ⟨g, 0, none⟩), .pointer none]) (hm : Mtx W g n n M) : MC W G g n M :=
  ⟨by rw [h.cell]; rfl, by rw [h.cell]; rfl, hm⟩
theorem sq_e (n : Nat) (ve : Value) (es : List Nat) (w : World) (hk : Fk w) (hn : 1 ≤ n ∧ n ≤ 256) (he : Ny w .u32 ve es) (hbd : ∀ (i x : Nat), es[i]? = some x → (x : Int) ≤ 4294967295) :
    Calls Tryz.prog 9 #[.int .u32 0, .pointer none, .int .i64 (n : Int), ve] w fun e w' => ∃ (g : Nat) (M : Nat → Nat → UInt8), e = .returned (.tuple #[.agg #[.pointer (some ⟨g, 0, none⟩), .pointer none], .bool true]) ∧ Mtx w' g n n M ∧ Below w.heap.size w w' :=
  (square_c n ve es w hk hn he hbd).mono fun _ _ ⟨g, a, b, c⟩ => ⟨g, _, a, b, c⟩
theorem minv_ok (x n : Nat) {M : Nat → Nat → UInt8} {w : World} (h : Mtx w x n n M) (hk : Fk w) (hn : 1 ≤ n ∧ n ≤ 256) (hr : F8.rank n M = n) :
    Calls Tryz.prog 12 #[.agg #[.pointer (some ⟨x, 0, none⟩), .pointer none]] w fun e w' => ∃ z, e = .returned (.tuple #[.agg #[.pointer (some ⟨z, 0, none⟩), .pointer none], .int .i64 0]) ∧ Mtx w' z n n (F8.invM n M) ∧ Below w.heap.size w w' := by
  refine (minv_c h hk hn).mono ?_
  rintro e w' ⟨hb, ⟨_, z, rfl, hz⟩ | ⟨h2, _⟩⟩
  · exact ⟨z, rfl, hz, hb⟩
  · exact absurd hr h2
theorem minv_bad (x n : Nat) {M : Nat → Nat → UInt8} {w : World} (h : Mtx w x n n M) (hk : Fk w) (hn : 1 ≤ n ∧ n ≤ 256) (hr : F8.rank n M ≠ n) :
    Calls Tryz.prog 12 #[.agg #[.pointer (some ⟨x, 0, none⟩), .pointer none]] w fun e w' => e = .returned (.tuple #[.agg #[.pointer none, .pointer none], .int .i64 71]) ∧ Below w.heap.size w w' := by
  refine (minv_c h hk hn).mono ?_
  rintro e w' ⟨hb, ⟨h2, _⟩ | ⟨_, rfl⟩⟩
  · exact absurd h2 hr
  · exact ⟨rfl, hb⟩
theorem msame_yes (x y n : Nat) {M N : Nat → Nat → UInt8} {w : World} (h1 : Mtx w x n n M) (h2 : Mtx w y n n N) (hn : n ≤ 4096) (he : ∀ i j, i < n → j < n → M i j = N i j) :
    Calls Tryz.prog 17 #[.agg #[.pointer (some ⟨x, 0, none⟩), .pointer none], .agg #[.pointer (some ⟨y, 0, none⟩), .pointer none]] w fun e w' => e = .returned (.bool true) ∧ Below w.heap.size w w' := by
  have q := msame_c x y h1 h2 hn hn
  rw [soB_true he] at q
  exact q
end

def NC (W : World) (G : Nat) : Prop := W.cell? ⟨G, 0, none⟩ = some (.pointer none) ∧ W.cell? ⟨G, 1, none⟩ = some (.pointer none)
theorem NC.below {W W' : World} {G : Nat} (h : NC W G) (hb : Below W.heap.size W W') : NC W' G :=
  ⟨(hb.cell (World.block_lt_of_cell? _ _ h.1)).trans h.1, (hb.cell (World.block_lt_of_cell? _ _ h.2)).trans h.2⟩
theorem NC.new {W : World} {G : Nat} (h : Blk W G 32 #[.pointer none, .pointer none]) : NC W G := ⟨by rw [h.cell]; rfl, by rw [h.cell]; rfl⟩
theorem nyat {w : World} {A : Option Addr} {c : Nat} {l : List Nat} {k x : Nat} (h : Ny w .u32 (.slice A l.length c) l) (hx : l[k]? = some x) : ∃ b o, A = some ⟨b, o, none⟩ ∧ w.cell? ⟨b, o + k, none⟩ = some (.int .u32 (x : Int)) := by
  obtain ⟨A', c', hv, _, _, hca⟩ := h.form
  obtain ⟨b, o, hA, _, hcx⟩ := hca k x hx
  injection hv with hv1 _ _
  exact ⟨b, o, hv1.trans hA, hcx⟩
section

theorem one_e (x : Nat) (z : Int) (hz : z = (x : Int)) (w : World) (hk : Fk w) (hx : (x : Int) ≤ 4294967295) :
    Calls Tryz.prog 9 #[.int .u32 0, .pointer none, .int .i64 1, .slice (some ⟨w.heap.size, 0, none⟩) 1 1] (w.alloc (.cells #[.int .u32 z] 22)) fun e w' =>
      ∃ (g : Nat) (M : Nat → Nat → UInt8), e = .returned (.tuple #[.agg #[.pointer (some ⟨g, 0, none⟩), .pointer none], .bool true]) ∧ Mtx w' g 1 1 M ∧ M 0 0 = UInt8.ofNat x ∧ Below w.heap.size w w' := by
  subst hz
  have n2 := Blk.new w 22 #[.int .u32 (x : Int)]
  have b2 := (Below.refl w.heap.size w).alloc (Nat.le_refl _) (.cells #[.int .u32 (x : Int)] 22)
  have hny : Ny (w.alloc (.cells #[.int .u32 (x : Int)] 22)) .u32 (.slice (some ⟨w.heap.size, 0, none⟩) 1 1) [x] := n2.ny [x] rfl (by simp [maxLen])
  refine (square_c 1 _ [x] _ (hk.below b2) (by omega) hny (fun i y h => by have := List.mem_of_getElem? h; simp at this; omega)).mono ?_
  rintro e w' ⟨g, rfl, hm, hb⟩
  exact ⟨g, _, rfl, hm, rfl, Below.step b2 hb⟩
theorem at00 (x : Nat) {M : Nat → Nat → UInt8} {z : UInt8} {w : World} (h : Mtx w x 1 1 M) (hz : M 0 0 = z) :
    Calls Tryz.prog 14 #[.agg #[.pointer (some ⟨x, 0, none⟩), .pointer none], .int .i64 0, .int .i64 0] w fun e w' => e = .returned (.tuple #[.int .u32 ((UInt8.toNat z : Nat) : Int), .int .i64 0]) ∧ Below w.heap.size w w' := by
  subst hz
  exact mat_at_c x 0 0 h (by omega) (by omega)
theorem sizes_ok (x n : Nat) {M : Nat → Nat → UInt8} {w : World} (h : Mtx w x n n M) (hk : Fk w) (hn : 1 ≤ n ∧ n ≤ 256) (hr : F8.rank n M = n) :
    Calls Tryz.prog 13 #[.agg #[.pointer (some ⟨x, 0, none⟩), .pointer none]] w fun e w' => e = .returned (.tuple #[.int .i64 (n : Int), .int .i64 (n : Int), .int .i64 (n : Int)]) ∧ Below w.heap.size w w' := by
  have q := sizes_c x h hk hn
  rw [hr] at q
  exact q
theorem sizes_bad (x n : Nat) {M : Nat → Nat → UInt8} {w : World} (h : Mtx w x n n M) (hk : Fk w) (hn : 1 ≤ n ∧ n ≤ 256) (hr : F8.rank n M ≠ n) :
    Calls Tryz.prog 13 #[.agg #[.pointer (some ⟨x, 0, none⟩), .pointer none]] w fun e w' => ∃ r : Nat, (r : Int) ≠ (n : Int) ∧ e = .returned (.tuple #[.int .i64 (n : Int), .int .i64 (n : Int), .int .i64 (r : Int)]) ∧ Below w.heap.size w w' :=
  (sizes_c x h hk hn).mono fun e w' ⟨he, hb⟩ => ⟨_, fun h2 => hr (by omega), he, hb⟩
theorem times_g (x n : Nat) (ve : Value) (y : Nat → UInt8) {M : Nat → Nat → UInt8} {w : World} (h : Mtx w x n n M) (hk : Fk w) (hn : 1 ≤ n ∧ n ≤ 256) (hv : Ny w .u32 ve ((List.range n).map fun i => UInt8.toNat (y i))) :
    Calls Tryz.prog 18 #[.agg #[.pointer (some ⟨x, 0, none⟩), .pointer none], ve] w fun e w' => ∃ (u : Value) (b : Bool), e = .returned (.tuple #[u, .int .i64 0, .bool b]) ∧ OwnN w' w.heap.size 22 .u32 u ((List.range n).map fun i => UInt8.toNat (F8.dot n (M i) y)) ∧ Below w.heap.size w w' := by
  refine (mtimes_c x ve y h hk hn hv).mono ?_
  rintro e w' ⟨u, _, b, _, rfl, ho, hb, rfl, rfl⟩
  rw [List.map_map] at ho
  exact ⟨u, b, rfl, ho, hb⟩
theorem solve_ok (x n : Nat) (ve : Value) (y : Nat → UInt8) {M : Nat → Nat → UInt8} {w : World} (h : Mtx w x n n M) (hk : Fk w) (hn : 1 ≤ n ∧ n ≤ 256) (hv : Ny w .u32 ve ((List.range n).map fun i => UInt8.toNat (y i))) (hr : F8.rank n M = n) :
    Calls Tryz.prog 15 #[.agg #[.pointer (some ⟨x, 0, none⟩), .pointer none], ve] w fun e w' => ∃ (u : Value) (b : Bool), e = .returned (.tuple #[u, .int .i64 0, .bool b]) ∧ OwnN w' w.heap.size 22 .u32 u ((List.range n).map fun i => UInt8.toNat (F8.sol n M y i)) ∧ Below w.heap.size w w' := by
  refine (msolve_c x ve y h hk hn hv).mono ?_
  rintro e w' ⟨u, _, b, _, rfl, ho, hb, ⟨_, rfl, rfl⟩ | ⟨h2, _⟩⟩
  · rw [List.map_map] at ho
    exact ⟨u, b, rfl, ho, hb⟩
  · exact absurd hr h2
theorem solve_bad (x n : Nat) (ve : Value) (y : Nat → UInt8) {M : Nat → Nat → UInt8} {w : World} (h : Mtx w x n n M) (hk : Fk w) (hn : 1 ≤ n ∧ n ≤ 256) (hv : Ny w .u32 ve ((List.range n).map fun i => UInt8.toNat (y i))) (hr : F8.rank n M ≠ n) :
    Calls Tryz.prog 15 #[.agg #[.pointer (some ⟨x, 0, none⟩), .pointer none], ve] w fun e w' => ∃ (u : Value) (b : Bool), e = .returned (.tuple #[u, .int .i64 71, .bool b]) ∧ Below w.heap.size w w' := by
  refine (msolve_c x ve y h hk hn hv).mono ?_
  rintro e w' ⟨u, _, b, _, rfl, ho, hb, ⟨h2, _⟩ | ⟨_, rfl, _⟩⟩
  · exact absurd h2 hr
  · exact ⟨u, b, rfl, hb⟩
end
end Go.Proofs.YtoaaplngdomdcaaGreat.MB
