/- The law's awake: its length, and a table of one row. -/
import Derived.Test.YteaagngikiaokaaDoorAwkA
import Derived.Test.YteaagngikiaokaaDoorUebM
namespace Go.Proofs.YteaagngikiaokaaDoor
open Go.RowKit

def z32 : List UInt8 := List.replicate 32 0
set_option maxRecDepth 100000 in
set_option maxHeartbeats 400000 in
theorem known_cells : ((((Tryd.zeroCells44.setIfInBounds 0 (Value.int IntKind.i64 3)).setIfInBounds 1 (Value.int IntKind.i64 10)).setIfInBounds 2 (Value.int IntKind.i64 66)).setIfInBounds 3 (Value.int IntKind.i64 1000)) = uebC 3 10 66 1000 (bcells z32 ++ bcells z32) := by kernel_rfl
theorem known_one : (uebC 3 10 66 1000 (bcells z32 ++ bcells z32)).all (·.oneCell') = true := by kernel_rfl
theorem known_size : (uebC 3 10 66 1000 (bcells z32 ++ bcells z32)).size = (Tryd.zeroCells44).size := by kernel_rfl
theorem known_info : (Tryd.prog.info? 44).map (·.size) = some (uebC 3 10 66 1000 (bcells z32 ++ bcells z32)).size := by kernel_rfl
set_option maxRecDepth 100000 in
set_option maxHeartbeats 400000 in
theorem known_any (w : World) : Calls Tryd.prog 32 #[] w fun e w' => e = .returned (.agg (uebC 3 10 66 1000 (bcells z32 ++ bcells z32))) ∧ Below w.heap.size w w' := by
  have hkc := known_cells
  have h1 := known_one
  have h2 := known_size
  have h3 := known_info
  have H := hide (And.intro h1 (And.intro h2 h3))
  clear h1 h2 h3
  generalize uebC 3 10 66 1000 (bcells z32 ++ bcells z32) = cs at *
  go_enter Tryd.func32, Tryd.ntmps32
  go_wp2_with (refine wpList_store_row (o := ⟨none, .store _ _ _, _, _, _, _⟩) (Blk.new w _ _) cs H.out.2.1 H.out.1 rfl 44 _ _ rfl H.out.2.2 rfl (by first | rfl | exact congrArg Value.agg hkc) ?_; intro w1 hb1 hg1)
  exact bodyPost_ret (results_cell_row rfl _ _ w.heap.size 44 cs (0, 0) _ rfl hb1 Tryd.underlying44 rfl H.out.2.2) rfl ⟨rfl, ((Below.refl _ w).alloc (Nat.le_refl _) _).grown hg1 (by simp) (fun k hk => by cases hk; exact Nat.le_refl _)⟩

theorem known_ok : agOK 3 10 66 1000 := by unfold agOK upN; decide
theorem known_len : uebLen 3 10 66 1000 z32 z32 = 134 := by unfold uebLen; decide +kernel
def tOne : List RowV → List Rw := rws
theorem one_may : may [([97], [120, 121, 122])] := by
  intro i hi
  simp only [List.length_cons, List.length_nil] at hi
  obtain rfl : i = 0 := by omega
  decide
theorem one_encs : encs [([97], [120, 121, 122])] = [49, 58, 97, 44, 51, 58, 120, 121, 122, 44] := by decide +kernel

set_option maxRecDepth 100000 in
set_option maxHeartbeats 4000000 in
theorem awake_yes (w : World) (ht : Tab w) : Calls Tryd.prog 28 #[] w fun e w' => e = .returned (.bool true) ∧ Below w.heap.size w w' := by
  have q1 := known_any w
  have q2 := fun w ht => length_any 3 10 66 1000 z32 z32 w (by omega) (by omega) (by omega) (by omega) rfl rfl ht
  simp only [if_pos known_ok, known_len] at q2
  have HT := hide ht
  have Q1 := hide q1
  have Q2 := hide q2
  clear q1 q2 ht
  generalize uebC 3 10 66 1000 (bcells z32 ++ bcells z32) = cs at *
  have kc := fun (w : World) (C : Array Value) (n c : Nat) => Lib.run_convert_bytes_const (P := Tryd.prog) w 27 5 C n c Tryd.underlying27 Tryd.underlying5
  go_enter Tryd.func28, Tryd.ntmps28
  go_wp2_with fail
  refine Q1.out.mono ?_
  rintro e w0 ⟨rfl, b0⟩
  have B0 := hide b0
  clear b0
  go_wp2_with fail
  refine (Q2.out w0 (HT.out.below B0.out)).mono ?_
  rintro e w1 ⟨b1, rfl⟩
  have B1 := hide (B0.out.trans (b1.mono B0.out.size))
  clear b1 Q1 Q2
  go_wp2_with fail
  have al1 : Below w1.heap.size w1 (w1.alloc (.cells #[.int .u8 120, .int .u8 121, .int .u8 122] 5 (3, 4))) := (Below.refl _ w1).alloc (Nat.le_refl _) _
  have al2 := al1.alloc (by simp) (.cells #[.string ⟨#[97]⟩, .slice (some ⟨w1.heap.size, 0, none⟩) 3 3] 55)
  have hrow : Rws ((w1.alloc (.cells #[.int .u8 120, .int .u8 121, .int .u8 122] 5 (3, 4))).alloc (.cells #[.string ⟨#[97]⟩, .slice (some ⟨w1.heap.size, 0, none⟩) 3 3] 55)) (.slice (some ⟨w1.heap.size + 1, 0, none⟩) 1 1) [(⟨#[97]⟩, .slice (some ⟨w1.heap.size, 0, none⟩) 3 3, [120, 121, 122])] := by
    have hb := blk_new' (w1.alloc (.cells #[.int .u8 120, .int .u8 121, .int .u8 122] 5 (3, 4))) (w1.heap.size + 1) 55 #[.string ⟨#[97]⟩, .slice (some ⟨w1.heap.size, 0, none⟩) 3 3] (by simp)
    have := hb.own (base := 0) (e := 55) (n := 1) (cap := 1) (sz := 2) rfl (Nat.zero_le _) rfl (Nat.le_refl _) (by unfold maxLen; omega)
    refine ⟨Sl.of_own this, fun x hx => ?_⟩
    simp only [List.mem_singleton] at hx
    subst hx
    exact (by_marked w1 5 (3, 4) [120, 121, 122] (by simp)).alloc _
  have q3 := pack_any _ _ _ hrow ((HT.out.below B1.out).below al2)
  have hrws : rws [((⟨#[97]⟩, .slice (some ⟨w1.heap.size, 0, none⟩) 3 3, [120, 121, 122]) : RowV)] = [([97], [120, 121, 122])] := rfl
  rw [hrws, one_encs] at q3
  have Q3 := hide q3
  have AL := hide (B1.out.trans (al2.mono B1.out.size))
  clear q3 hrow hrws al1 al2
  refine Q3.out.mono ?_
  rintro e w2 ⟨b2, ⟨-, v', rfl, o2⟩ | ⟨hno, -⟩⟩
  · have B2 := hide (AL.out.trans (b2.mono AL.out.size))
    obtain ⟨A2, c2, hv2, _⟩ := o2.by_.form
    subst hv2
    have O2 := hide o2
    clear Q3 AL b2 o2
    have q4 := same_any _ _ [49, 58, 97, 44, 51, 58, 120, 121, 122, 44] [49, 58, 97, 44, 51, 58, 120, 121, 122, 44] _ (O2.out.by_.alloc (.cells (bcells [49, 58, 97, 44, 51, 58, 120, 121, 122, 44]).toArray 5 (10, 11))) (by_marked w2 5 (10, 11) [49, 58, 97, 44, 51, 58, 120, 121, 122, 44] (by simp))
    rw [decide_eq_true rfl] at q4
    have Q4 := hide q4
    clear q4
    go_wp2_with fail
    refine Q4.out.mono ?_
    rintro e w3 ⟨rfl, b3⟩
    have B3 := hide ((B2.out.alloc B2.out.size (.cells (bcells [49, 58, 97, 44, 51, 58, 120, 121, 122, 44]).toArray 5 (10, 11))).trans (b3.mono (by have := B2.out.size; simp; omega)))
    clear b3
    go_wp2_with fail
    go_ret
    exact ⟨rfl, B3.out⟩
  · exact absurd one_may hno
end Go.Proofs.YteaagngikiaokaaDoor
