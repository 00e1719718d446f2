/- Contracts of the library's Grow and Concat, of Clone and IndexByte, at lists of bytes. -/
import Derived.Test.YteaagngikiaokaaDoorKit
import Derived.Test.YteaagngikiaokaaDoorMem3
import Derived.Test.YteaagngikiaokaaDoorConB
import Derived.Test.YteaagngikiaokaaDoorLst
namespace Go.Proofs.YteaagngikiaokaaDoor
open Go.RowKit

theorem own_zero (w : World) (n c : Nat) (h1 : n ≤ c) (h2 : c ≤ maxLen) :
    Own (w.alloc (.cells (Builtin.zeroCells #[.int .u8 0] n ++ Builtin.zeroCells #[.int .u8 0] (c - n)) 5)).drew w.heap.size 5 (.slice (some ⟨w.heap.size, 0, none⟩) 0 c) [] := by
  have := (Blk.new w 5 (Builtin.zeroCells #[.int .u8 0] n ++ Builtin.zeroCells #[.int .u8 0] (c - n))).drew.own (base := w.heap.size) (e := 5) (n := 0) (cap := c) (sz := 1) rfl (Nat.le_refl _) (by simp [size_zeroCells]; omega) (Nat.zero_le _) h2
  simpa [Own, bcells] using this

set_option maxRecDepth 100000 in
set_option maxHeartbeats 1000000 in
theorem grow_any (n : Nat) (w : World) (hn : n ≤ 1099511627776) :
    Calls Tryd.prog 60 #[.slice none 0 0, .int .i64 (n : Int)] w fun e w' => ∃ v, e = .returned v ∧ Own w' w.heap.size 5 v [] ∧ Below w.heap.size w w' := by
  by_cases h0 : n = 0
  · have g1 : (n : Int) = 0 := by omega
    rw [g1]
    go_enter Tryd.func60, Tryd.ntmps60
    go_wp2
    go_ret
    exact ⟨_, rfl, Own.nil _ _ _, Below.refl _ _⟩
  · have g1 : ¬ (n : Int) < 0 := by omega
    have g2 : (0 : Int) < (n : Int) := by omega
    have g3 : ¬ (281474976710656 : Int) < (n : Int) * ((Tryd.t5).bytes : Int) := by
      have : ((Tryd.t5).bytes : Int) = 1 := by kernel_rfl
      rw [this]; omega
    have g4 : ¬ 281474976710656 < Builtin.nextslicecap n 0 * (Tryd.t5).bytes := by
      have h1 : (Tryd.t5).bytes = 1 := by kernel_rfl
      have h2 : Builtin.nextslicecap n 0 = n := by unfold Builtin.nextslicecap; simp; omega
      rw [h1, h2]; omega
    go_enter Tryd.func60, Tryd.ntmps60
    go_wp2
    go_ret
    refine ⟨_, rfl, ?_, ?_⟩
    · exact own_zero w n _ (grownCap_ge w n 0 5) (grownCap_le_maxLen w n 0 5 (by unfold maxLen; omega))
    · exact ((Below.refl _ w).alloc (Nat.le_refl _) _).drew

/-- A list of lists of bytes, by their values. -/
def Lsts (w : World) (v : Value) (L : List (Value × List UInt8)) : Prop := Sl w 1 v L.length (L.map (·.1)) ∧ ∀ x ∈ L, By w x.1 x.2
theorem Lsts.below {w w' : World} {v : Value} {L : List (Value × List UInt8)} (h : Lsts w v L) (hb : Below w.heap.size w w') : Lsts w' v L := ⟨h.1.below hb, fun x hx => (h.2 x hx).below hb⟩
def total (L : List (Value × List UInt8)) : Nat := (L.map (·.2.length)).sum
def cat (L : List (Value × List UInt8)) : List UInt8 := L.flatMap (·.2)
theorem total_snoc (L : List (Value × List UInt8)) (x : Value × List UInt8) : total (L ++ [x]) = total L + x.2.length := by simp [total]
theorem cat_snoc (L : List (Value × List UInt8)) (x : Value × List UInt8) : cat (L ++ [x]) = cat L ++ x.2 := by simp [cat]
theorem cat_length (L : List (Value × List UInt8)) : (cat L).length = total L := by
  induction L with
  | nil => rfl
  | cons x L ih => simp only [cat, total, List.flatMap_cons, List.length_append, List.map_cons, List.sum_cons] at ih ⊢; omega
theorem total_take (L : List (Value × List UInt8)) (k : Nat) : total (L.take k) ≤ total L := by
  have : total L = total (L.take k) + total (L.drop k) := by
    unfold total
    conv => lhs; rw [← List.take_append_drop k L, List.map_append, List.sum_append]
  omega

set_option maxRecDepth 100000 in
set_option maxHeartbeats 1000000 in
theorem concat_any (v : Value) (L : List (Value × List UInt8)) (w : World) (h : Lsts w v L) (ht : total L ≤ 1099511627776) :
    Calls Tryd.prog 40 #[v] w fun e w' => ∃ v', e = .returned v' ∧ Own w' w.heap.size 5 v' (cat L) ∧ Below w.heap.size w w' := by
  have HL := hide h
  obtain ⟨A, c, rfl, hc, hm, hcell⟩ := h.1.form
  have HC := hide hcell
  have HT := hide ht
  unfold maxLen at hm
  clear h hcell ht
  go_enter Tryd.func40, Tryd.ntmps40
  go_wp2
  go_loopw [3, 11] (fun u3 u11 wr => ∃ k t : Nat, k ≤ L.length ∧ u11 = .int .i64 k ∧ u3 = .int .i64 (t : Int) ∧ t = total (L.take k) ∧ w = wr) (fun _ i _ => L.length - (intOf i).toNat)
  case atStart => exact ⟨0, 0, by omega, rfl, rfl, by simp [total], rfl⟩
  case round =>
    obtain ⟨k, t, hk, rfl, rfl, ht, rfl⟩ := hrel
    have hle := total_take L k
    rw [← ht] at hle
    have HT2 := hide ht
    have hle2 : t ≤ 1099511627776 := Nat.le_trans hle HT.out
    clear ht hle
    by_cases hlt : k < L.length
    · obtain ⟨x, hx⟩ : ∃ x, L[k]? = some x := ⟨_, List.getElem?_eq_getElem hlt⟩
      obtain ⟨b, o, rfl, hbl, hcs⟩ := HC.out (by omega)
      have hcx : w.cell? ⟨b, o + k, none⟩ = some x.1 := by rw [hcs k (by omega)]; simp [hx]
      have hby := HL.out.2 x (List.mem_of_getElem? hx)
      have hsum : total (L.take (k + 1)) = t + x.2.length := by rw [take_snoc L k x hx, total_snoc, HT2.out]
      have hle3 := total_take L (k + 1)
      rw [hsum] at hle3
      have hle4 : t + x.2.length ≤ 1099511627776 := Nat.le_trans hle3 HT.out
      obtain ⟨A2, c2, hv2, _⟩ := hby.form
      rw [hv2] at hcx
      have HS := hide hsum
      clear hby hcs hx hv2 hsum hle3
      obtain ⟨y, hy⟩ : ∃ y : Nat, y = x.2.length := ⟨_, rfl⟩
      rw [← hy] at hcx hle4
      have HY := hide hy
      have i1 : (k : Int) < (L.length : Int) := by omega
      have i2 : (0 : Int) ≤ (k : Int) := by omega
      clear hy
      go_wp2
      go_roundw
      case rel => exact ⟨k + 1, t + y, by omega, by go_num, by go_num, by rw [HS.out, HY.out], trivial⟩
      case measure => simp [intOf]; omega
    · have hge : ¬ (k : Int) < (L.length : Int) := by omega
      have hks : k = L.length := by omega
      have htl : t = total L := by rw [HT2.out, hks, List.take_length]
      have HQ := hide (grow_any t w (by omega))
      have HK := hide htl
      clear hks htl HT2
      go_wp2_with fail
      refine HQ.out.mono ?_
      rintro e w1 ⟨v0, rfl, o1, b1⟩
      have HO1 := hide o1
      clear HQ o1 hge hlt hk
      go_wp2_with fail
      go_loopw [6, 27] (fun u6 u27 wr => ∃ k : Nat, k ≤ L.length ∧ u27 = .int .i64 k ∧ Own wr w.heap.size 5 u6 (cat (L.take k)) ∧ Below w.heap.size w wr) (fun _ i _ => L.length - (intOf i).toNat)
      case atStart => exact ⟨0, by omega, rfl, HO1.out, b1⟩
      case round =>
        obtain ⟨k, hk, rfl, ho, hb⟩ := hrel
        have HO := hide ho
        clear ho
        by_cases hlt : k < L.length
        · obtain ⟨x, hx⟩ : ∃ x, L[k]? = some x := ⟨_, List.getElem?_eq_getElem hlt⟩
          obtain ⟨b, o, rfl, hbl, hcs⟩ := HC.out (by omega)
          have hcx : wr.cell? ⟨b, o + k, none⟩ = some x.1 := by rw [hb.cell (p := ⟨b, o + k, none⟩) hbl, hcs k (by omega)]; simp [hx]
          have hby := (HL.out.2 x (List.mem_of_getElem? hx)).below hb
          have hsum : total (L.take (k + 1)) = total (L.take k) + x.2.length := by rw [take_snoc L k x hx, total_snoc]
          have hle3 := total_take L (k + 1)
          have hlen : (cat (L.take k)).length + x.2.length ≤ 140737488355328 := by
            rw [cat_length, ← hsum]
            have := HT.out
            omega
          have hcat : cat (L.take (k + 1)) = cat (L.take k) ++ x.2 := by rw [take_snoc L k x hx, cat_snoc]
          have HCAT := hide hcat
          have HY := hide hby
          obtain ⟨A2, c2, hv2, _⟩ := hby.form
          rw [hv2] at hcx
          have HV := hide hv2
          have HLEN := hide hlen
          clear hby hcs hx hv2 hsum hle3 hcat hlen
          obtain ⟨y, hy⟩ : ∃ y : Nat, y = x.2.length := ⟨_, rfl⟩
          rw [← hy] at hcx
          have HY2 := hide hy
          have i1 : (k : Int) < (L.length : Int) := by omega
          have i2 : (0 : Int) ≤ (k : Int) := by omega
          clear hy
          go_wp2_with (at_builtin; go_loud (refine wpList_pushV elem8 HO.out hb hb.size HY.out HLEN.out rfl _ _ rfl rfl (by rw [HV.out, ← HY2.out]; rfl) ?_); intro v1 w1 hown1 hbel1 hgr1 _)
          go_roundw
          case rel => exact ⟨k + 1, by omega, by go_num, by rw [HCAT.out]; exact hown1, hbel1⟩
          case measure => simp [intOf]; omega
        · have hge : ¬ (k : Int) < (L.length : Int) := by omega
          have hks : k = L.length := by omega
          have hend := HO.out
          rw [hks, List.take_length] at hend
          have HE := hide hend
          clear hks hend HO
          go_wp2
          go_ret
          exact ⟨_, rfl, HE.out, hb⟩
end Go.Proofs.YteaagngikiaokaaDoor
