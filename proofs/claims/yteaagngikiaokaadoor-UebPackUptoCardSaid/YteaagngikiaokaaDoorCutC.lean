/- The contract of the program's Again at whatever numbers, and of Check. -/
import Derived.Test.YteaagngikiaokaaDoorCutB
namespace Go.Proofs.YteaagngikiaokaaDoor
open Go.RowKit

instance (k n seg size : Int) : Decidable (agOK k n seg size) := by unfold agOK; infer_instance

theorem again_any (k n seg size : Int) (w : World) (hk : -9223372036854775808 ≤ k ∧ k ≤ 9223372036854775807) (hn : -9223372036854775808 ≤ n ∧ n ≤ 9223372036854775807) (hs : -9223372036854775808 ≤ seg ∧ seg ≤ 9223372036854775807) (hz : -9223372036854775808 ≤ size ∧ size ≤ 9223372036854775807) :
    Calls Tryd.prog 54 #[.int .i64 k, .int .i64 n, .int .i64 seg, .int .i64 size] w fun e w' => Below w.heap.size w w' ∧
      e = .returned (if agOK k n seg size then .tuple #[shapeV k.toNat n.toNat seg.toNat size.toNat, .int .i64 0] else .tuple #[zeroShape, .int .i64 92]) := by
  by_cases h : 1 ≤ n ∧ n ≤ 255 ∧ 1 ≤ k ∧ k ≤ n ∧ 1 ≤ seg
  · obtain ⟨k, rfl⟩ : ∃ k' : Nat, k = (k' : Int) := ⟨k.toNat, by omega⟩
    obtain ⟨n, rfl⟩ : ∃ k' : Nat, n = (k' : Int) := ⟨n.toNat, by omega⟩
    obtain ⟨seg, rfl⟩ : ∃ k' : Nat, seg = (k' : Int) := ⟨seg.toNat, by omega⟩
    have hh : 1 ≤ n ∧ n ≤ 255 ∧ 1 ≤ k ∧ k ≤ n ∧ 1 ≤ seg := by omega
    have e1 : (seg : Int) % (k : Int) = ((seg % k : Nat) : Int) := rfl
    have e2 : (seg : Int) / (k : Int) = ((seg / k : Nat) : Int) := rfl
    by_cases hok : seg % k = 0 ∧ seg / k ≤ upN 65536 k ∧ 32 < size ∧ size ≤ 16777216
    · obtain ⟨z, rfl⟩ : ∃ k' : Nat, size = (k' : Int) := ⟨size.toNat, by omega⟩
      refine (again_shape k n seg z w hh (by omega)).mono ?_
      rintro e w' ⟨h1, h2⟩
      refine ⟨h1, ?_⟩
      rw [h2]
      have hag : agOK k n seg z ↔ upN z seg ≤ 512 := by
        unfold agOK
        simp only [Int.toNat_natCast]
        rw [e1, e2]
        omega
      by_cases h5 : upN z seg ≤ 512
      · rw [if_pos h5, if_pos (hag.2 h5)]; simp
      · rw [if_neg h5, if_neg (fun h => h5 (hag.1 h))]
    · refine (again_late k n seg size w hh (by omega) hz hok).mono ?_
      rintro e w' ⟨h1, h2⟩
      refine ⟨h1, ?_⟩
      rw [h2, if_neg]
      intro hag
      unfold agOK at hag
      simp only [Int.toNat_natCast] at hag
      rw [e1, e2] at hag
      omega
  · refine (again_early k n seg size w h).mono ?_
    rintro e w' ⟨h1, h2⟩
    refine ⟨h1, ?_⟩
    rw [h2, if_neg (fun hag => h hag.1)]

/-- A Ueb's value. -/
def uebC (k n seg size : Int) (d : List Value) : Array Value := (.int .i64 k :: .int .i64 n :: .int .i64 seg :: .int .i64 size :: d).toArray

set_option maxRecDepth 100000 in
set_option maxHeartbeats 1000000 in
theorem check_any_ueb (k n seg size : Int) (d : List Value) (w : World) (hk : -9223372036854775808 ≤ k ∧ k ≤ 9223372036854775807) (hn : -9223372036854775808 ≤ n ∧ n ≤ 9223372036854775807) (hs : -9223372036854775808 ≤ seg ∧ seg ≤ 9223372036854775807) (hz : -9223372036854775808 ≤ size ∧ size ≤ 9223372036854775807) :
    Calls Tryd.prog 31 #[.agg (uebC k n seg size d)] w fun e w' => Below w.heap.size w w' ∧ e = .returned (.int .i64 (if agOK k n seg size then 0 else 133)) := by
  have q := fun w => again_any k n seg size w hk hn hs hz
  have f0 : (uebC k n seg size d)[0]? = some (.int .i64 k) := rfl
  have f1 : (uebC k n seg size d)[1]? = some (.int .i64 n) := rfl
  have f2 : (uebC k n seg size d)[2]? = some (.int .i64 seg) := rfl
  have f3 : (uebC k n seg size d)[3]? = some (.int .i64 size) := rfl
  have hal := (Below.refl w.heap.size w).alloc (Nat.le_refl _) (.cells (uebC k n seg size d) 44)
  have Q := hide q
  have HAL := hide hal
  clear q hal
  generalize uebC k n seg size d = cs at *
  by_cases hag : agOK k n seg size
  · rw [if_pos hag]
    have HQ : Hid (∀ w, Calls Tryd.prog 54 #[.int .i64 k, .int .i64 n, .int .i64 seg, .int .i64 size] w fun e w' => Below w.heap.size w w' ∧ e = .returned (.tuple #[shapeV k.toNat n.toNat seg.toNat size.toNat, .int .i64 0])) := fun w => by have := Q.out w; rwa [if_pos hag] at this
    unfold shapeV at HQ
    clear Q
    go_enter Tryd.func31, Tryd.ntmps31
    go_wp2_with fail
    refine (HQ.out _).mono ?_
    rintro e w1 ⟨b1, rfl⟩
    have B1 := hide (HAL.out.trans (b1.mono HAL.out.size))
    clear b1 HQ
    go_wp2
    go_ret
    refine ⟨?_, rfl⟩
    have := B1.out
    have := B1.out.size
    go_grown
  · rw [if_neg hag]
    have HQ : Hid (∀ w, Calls Tryd.prog 54 #[.int .i64 k, .int .i64 n, .int .i64 seg, .int .i64 size] w fun e w' => Below w.heap.size w w' ∧ e = .returned (.tuple #[zeroShape, .int .i64 92])) := fun w => by have := Q.out w; rwa [if_neg hag] at this
    unfold zeroShape at HQ
    clear Q
    go_enter Tryd.func31, Tryd.ntmps31
    go_wp2_with fail
    refine (HQ.out _).mono ?_
    rintro e w1 ⟨b1, rfl⟩
    have B1 := hide (HAL.out.trans (b1.mono HAL.out.size))
    clear b1 HQ
    go_wp2
    go_ret
    refine ⟨?_, rfl⟩
    have := B1.out
    have := B1.out.size
    go_grown
end Go.Proofs.YteaagngikiaokaaDoor
