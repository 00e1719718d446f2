/- The contract of the program's Chain for leaf 0: a range over a function. -/
import Derived.Test.YteaagngikiaokaaDoorShrA
namespace Go.Proofs.YteaagngikiaokaaDoor
open Go.RowKit Go.Shelf
attribute [local go_sem] Oper.semAt_some

def ups : Nat → Nat → List Nat
  | 0, _ => []
  | f + 1, x => if 1 ≤ x then x :: ups f (x / 2) else []
theorem ups_length : ∀ (f x : Nat), (ups f x).length ≤ f
  | 0, _ => Nat.le_refl _
  | f + 1, x => by
    unfold ups
    split
    · have := ups_length f (x / 2)
      simp only [List.length_cons]
      omega
    · simp

set_option maxRecDepth 100000 in
set_option maxHeartbeats 1000000 in
theorem up1_in (F : Fence) (n : Nat) (h6 : F.fn 100) (hro : F.round = none) (hn : 1 ≤ n) (l Bn n₀ : Nat) (from_ : Nat) (hfrom : from_ < 2 ^ 10) (U : List Nat) (hU : U = ups 10 from_) (J Jx : List Nat → World → Prop)
    (hY : ∀ (pre : List Nat) (x : Nat) (W : World), J pre W → pre.length < (U).length → YieldAt F (n - 1) Tryd.prog l #[.int .i64 (x : Int)] W fun e W' =>
      (e = .returned (.bool true) ∧ J (pre ++ [x]) W' ∧ Below n₀ W W') ∨ (e = .returned (.bool false) ∧ Jx (pre ++ [x]) W'))
    (W : World) (hBn : W.cell? ⟨Bn, 0, none⟩ = some (.int .i64 (from_ : Int))) (h0 : J [] W) :
    CallsIn F n Tryd.prog 100 #[.func (.yield l) #[] #[], .pointer (some ⟨Bn, 0, none⟩)] W fun e W' => (∃ v, e = .returned v) ∧
      ((∃ ys, ys = U ∧ J ys W') ∨ (∃ pre, pre <+: U ∧ Jx pre W')) := by
  refine callsIn_of_wp Tryd.func100 rfl h6 ?_ hro
  simp only [Tryd.ntmps100, List.size_toArray, List.length_cons, List.length_nil, Nat.reduceAdd, Nat.reduceSub, Array.replicate_succ, Array.replicate_zero, List.push_toArray, List.append_toArray, List.nil_append, List.cons_append]
  gi_wp2
  gi_loopw [3] (fun p wr => ∃ (pre : List Nat) (f x : Nat), p = .int .i64 (x : Int) ∧ U = pre ++ ups f x ∧ x < 2 ^ f ∧ f ≤ 10 ∧ J pre wr)
    (fun p _ => (intOf p).toNat)
  case atStart =>
    exact ⟨[], 10, from_, rfl, by rw [List.nil_append]; exact hU, hfrom, Nat.le_refl _, h0⟩
  case round =>
    obtain ⟨pre, f, x, rfl, hx, hxf, hf10, hJs⟩ := hrel
    by_cases h1 : 1 ≤ x
    · obtain ⟨g, rfl⟩ : ∃ g, f = g + 1 := by
        rcases f with _ | g
        · rw [Nat.pow_zero] at hxf; omega
        · exact ⟨g, rfl⟩
      have hx2 : U = (pre ++ [x]) ++ ups g (x / 2) := by
        rw [hx, show ups (g + 1) x = x :: ups g (x / 2) by simp [ups, h1], List.append_assoc]; rfl
      have hx3 : x / 2 < 2 ^ g := by rw [Nat.pow_succ] at hxf; omega
      have hx4 : 2 ^ (g + 1) ≤ 2 ^ 10 := Nat.pow_le_pow_right (by omega) hf10
      have i1 : 1 ≤ (x : Int) := by omega
      have e2 : wrap64 ((x : Int) / 2) = ((x / 2 : Nat) : Int) := by
        rw [show (x : Int) / 2 = ((x / 2 : Nat) : Int) by omega]
        exact wrap64_nat (x / 2) (by omega)
      have HE := hide e2
      obtain ⟨fn, tmps, assign, body, hy, hR⟩ := hY pre x wr hJs (by rw [hx2]; simp)
      have HX := hide (And.intro hx (And.intro hx2 (And.intro hx3 (And.intro hxf hx4))))
      clear hx hx2 hx3 hxf hx4
      gi_wp2
      refine hR.mono ?_
      rintro e W3 (⟨rfl, hJ3, hk3⟩ | ⟨rfl, hJx3⟩)
      · gi_wp2
        go_roundw
        case rel => exact ⟨pre ++ [x], g, x / 2, by simp only [HE.out], HX.out.2.1, HX.out.2.2.1, by omega, hJ3⟩
        case measure =>
          have HM : ∀ y : Int, y = ((x / 2 : Nat) : Int) → (intOf (.int .i64 y)).toNat < (intOf (.int .i64 (x : Int))).toNat := fun y hy => by
            subst hy
            simp only [intOf]
            omega
          exact HM _ HE.out
      · gi_wp2
        refine bodyPost_ret (results_none rfl _ _ _) rfl ?_
        exact ⟨⟨_, rfl⟩, .inr ⟨pre ++ [x], ⟨ups g (x / 2), HX.out.2.1.symm⟩, hJx3⟩⟩
    · have i1 : ¬ 1 ≤ (x : Int) := by omega
      have hx0 : x = 0 := by omega
      subst hx0
      clear hY
      have hnil : ups f 0 = [] := by rcases f with _ | f <;> simp [ups]
      rw [hnil, List.append_nil] at hx
      gi_wp2
      go_end0
      exact ⟨⟨_, rfl⟩, .inl (by rw [← hU, hx]; exact hJs)⟩

theorem up1_stops (F : Fence) (n : Nat) (h6 : F.fn 100) (hro : F.round = none) (hn : 1 ≤ n) (Bn n₀ : Nat) (from_ : Nat) (hfrom : from_ < 2 ^ 10) (w : World) (hBn : Bn < w.heap.size)
    (hc : w.cell? ⟨Bn, 0, none⟩ = some (.int .i64 (from_ : Int))) :
    SeqStopsK F n Tryd.prog 100 #[.pointer (some ⟨Bn, 0, none⟩)] (fun x : Nat => #[Value.int .i64 (x : Int)]) (Below n₀) (fun ys => ys = ups 10 from_) (fun pre => pre <+: ups 10 from_) (ups 10 from_).length w := fun l J Jx W hW _ _ hY h0 =>
  up1_in F n h6 hro hn l Bn n₀ from_ hfrom _ rfl J Jx hY W ((hW.cell (p := ⟨Bn, 0, none⟩) hBn).trans hc) h0
end Go.Proofs.YteaagngikiaokaaDoor
