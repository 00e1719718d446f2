/- The document's number and Check. -/
import Derived.Test.YteaagngikiaokaaDoorRdA
import Derived.Test.YteaagngikiaokaaDoorShpG
namespace Go.Proofs.YteaagngikiaokaaDoor
open Go.RowKit

set_option maxRecDepth 100000 in
set_option maxHeartbeats 1000000 in
theorem rnum_row (s : ByteArray) (v : Value) (l : List UInt8) (w : World) (h : By w v l) (hl : l.length ≤ 1048576) :
    Calls Tryd.prog 49 #[.agg #[.string s, v]] w fun e w' => Below w.heap.size w w' ∧ e = .returned (.tuple #[.int .i64 (rdN l 2147483647), .bool (decide (rdE l 2147483647 = 0))]) := by
  obtain ⟨A, c, rfl, _⟩ := h.form
  obtain ⟨s', hs, hcv⟩ := run_str (P := Tryd.prog) (h.alloc (.cells #[.string s, .slice A l.length c] 55)) 27 9 5 Tryd.underlying27 Tryd.underlying5 Tryd.underlying9
  have hls : lst s' = l := hs
  have hsz : s'.size = l.length := by rw [← hls]; exact (lst_len s').symm
  have Q := hide (fun W => rread_any s' 2147483647 W (by omega) (by omega))
  rw [hls] at Q
  generalize rdN l 2147483647 = x at *
  obtain ⟨y, hy⟩ : ∃ y, y = rdE l 2147483647 := ⟨_, rfl⟩
  rw [← hy] at Q ⊢
  have hyb : (decide (y = 0)) = (y == 0) := by
    by_cases h0 : y = 0
    · simp [h0]
    · simp [h0]
  clear h hs hls hsz hy
  go_enter Tryd.func49, Tryd.ntmps49
  go_wp2_with fail
  refine (Q.out _).mono ?_
  rintro e w1 ⟨rfl, rfl⟩
  go_wp2
  go_ret2
  exact ⟨(Below.refl _ _).alloc (Nat.le_refl _) _, by rw [hyb]; rfl⟩

set_option maxRecDepth 100000 in
set_option maxHeartbeats 1000000 in
theorem rcheck_u (u : US) (hin : u.in) (w : World) :
    Calls Tryd.prog 50 #[.agg u.cells] w fun e w' => Below w.heap.size w w' ∧ e = .returned (.int .i64 (if agOK u.k u.n u.seg u.size then 0 else 133)) := by
  obtain ⟨k, n, seg, size, sh, sg⟩ := u
  unfold US.in at hin
  simp only at hin
  obtain ⟨k, rfl⟩ : ∃ K : Nat, k = (K : Int) := ⟨k.toNat, by omega⟩
  obtain ⟨n, rfl⟩ : ∃ K : Nat, n = (K : Int) := ⟨n.toNat, by omega⟩
  obtain ⟨seg, rfl⟩ : ∃ K : Nat, seg = (K : Int) := ⟨seg.toNat, by omega⟩
  obtain ⟨size, rfl⟩ : ∃ K : Nat, size = (K : Int) := ⟨size.toNat, by omega⟩
  simp only
  have f0 : (US.cells ⟨k, n, seg, size, sh, sg⟩)[0]? = some (.int .i64 k) := rfl
  have f1 : (US.cells ⟨k, n, seg, size, sh, sg⟩)[1]? = some (.int .i64 n) := rfl
  have f2 : (US.cells ⟨k, n, seg, size, sh, sg⟩)[2]? = some (.int .i64 seg) := rfl
  have f3 : (US.cells ⟨k, n, seg, size, sh, sg⟩)[3]? = some (.int .i64 size) := rfl
  have hal := (Below.refl w.heap.size w).alloc (Nat.le_refl _) (.cells (US.cells ⟨k, n, seg, size, sh, sg⟩) 44)
  have HAL := hide hal
  clear hal hin
  generalize US.cells ⟨k, n, seg, size, sh, sg⟩ = cs at *
  by_cases hag : agOK k n seg size
  · rw [if_pos hag]
    have HQ := hide (fun w => ragain_ok k n seg size w hag)
    unfold shapeC at HQ
    go_enter Tryd.func50, Tryd.ntmps50
    go_wp2_with fail
    refine (HQ.out _).mono ?_
    rintro e w1 ⟨b1, rfl⟩
    have B1 := hide (HAL.out.trans (b1.mono HAL.out.size))
    clear b1 HQ
    go_wp2
    go_ret
    refine ⟨?_, rfl⟩
    have := B1.out
    have := B1.out.size
    go_grown
  · rw [if_neg hag]
    have HQ := hide (fun w => ragain_no k n seg size w hag)
    go_enter Tryd.func50, Tryd.ntmps50
    go_wp2_with fail
    refine (HQ.out _).mono ?_
    rintro e w1 ⟨b1, rfl⟩
    have B1 := hide (HAL.out.trans (b1.mono HAL.out.size))
    clear b1 HQ
    go_wp2
    go_ret
    refine ⟨?_, rfl⟩
    have := B1.out
    have := B1.out.size
    go_grown
end Go.Proofs.YteaagngikiaokaaDoor
