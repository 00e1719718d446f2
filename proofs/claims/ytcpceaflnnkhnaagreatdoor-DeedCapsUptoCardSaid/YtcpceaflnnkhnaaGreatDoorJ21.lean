/- Joined texts: ShaE. -/
import Derived.Test.YtcpceaflnnkhnaaGreatDoorJ20

/- The digest's constants and its first words: the program's, the document's. (Printed.) -/
namespace Go.Proofs.YtcpceaflnnkhnaaGreatDoor
open Go.RowKit

def kList : List UInt32 := [1116352408, 1899447441, 3049323471, 3921009573, 961987163, 1508970993, 2453635748, 2870763221, 3624381080, 310598401, 607225278, 1426881987, 1925078388, 2162078206, 2614888103, 3248222580, 3835390401, 4022224774, 264347078, 604807628, 770255983, 1249150122, 1555081692, 1996064986, 2554220882, 2821834349, 2952996808, 3210313671, 3336571891, 3584528711, 113926993, 338241895, 666307205, 773529912, 1294757372, 1396182291, 1695183700, 1986661051, 2177026350, 2456956037, 2730485921, 2820302411, 3259730800, 3345764771, 3516065817, 3600352804, 4094571909, 275423344, 430227734, 506948616, 659060556, 883997877, 958139571, 1322822218, 1537002063, 1747873779, 1955562222, 2024104815, 2227730452, 2361852424, 2428436474, 2756734187, 3204031479, 3329325298]
def kc (t : Nat) : UInt32 := kList.getD t 0
def h0 : H8 := ⟨1779033703, 3144134277, 1013904242, 2773480762, 1359893119, 2600822924, 528734635, 1541459225⟩
theorem fw_kc : fw 64 kc = #[.int .u32 1116352408, .int .u32 1899447441, .int .u32 3049323471, .int .u32 3921009573, .int .u32 961987163, .int .u32 1508970993, .int .u32 2453635748, .int .u32 2870763221, .int .u32 3624381080, .int .u32 310598401, .int .u32 607225278, .int .u32 1426881987, .int .u32 1925078388, .int .u32 2162078206, .int .u32 2614888103, .int .u32 3248222580, .int .u32 3835390401, .int .u32 4022224774, .int .u32 264347078, .int .u32 604807628, .int .u32 770255983, .int .u32 1249150122, .int .u32 1555081692, .int .u32 1996064986, .int .u32 2554220882, .int .u32 2821834349, .int .u32 2952996808, .int .u32 3210313671, .int .u32 3336571891, .int .u32 3584528711, .int .u32 113926993, .int .u32 338241895, .int .u32 666307205, .int .u32 773529912, .int .u32 1294757372, .int .u32 1396182291, .int .u32 1695183700, .int .u32 1986661051, .int .u32 2177026350, .int .u32 2456956037, .int .u32 2730485921, .int .u32 2820302411, .int .u32 3259730800, .int .u32 3345764771, .int .u32 3516065817, .int .u32 3600352804, .int .u32 4094571909, .int .u32 275423344, .int .u32 430227734, .int .u32 506948616, .int .u32 659060556, .int .u32 883997877, .int .u32 958139571, .int .u32 1322822218, .int .u32 1537002063, .int .u32 1747873779, .int .u32 1955562222, .int .u32 2024104815, .int .u32 2227730452, .int .u32 2361852424, .int .u32 2428436474, .int .u32 2756734187, .int .u32 3204031479, .int .u32 3329325298] := by rfl
theorem zeros_size : (List.replicate 64 (Value.int .u32 0)).toArray.size = 64 := by simp
theorem fw_one (f : Nat → UInt32) : (fw 64 f).all (·.oneCell') = true := by
  rw [Array.all_eq_true']
  intro x hx
  have hx := Array.mem_toList_iff.2 hx
  simp only [fw, Nat.sub_self, List.replicate_zero, List.append_nil, List.mem_map] at hx
  obtain ⟨_, _, rfl⟩ := hx
  rfl
set_option maxRecDepth 100000 in
set_option maxHeartbeats 4000000 in
theorem constants_any (w : World) : Calls Tryz.prog 162 #[] w fun e w' => e = .returned (.agg (fw 64 kc)) ∧ Below w.heap.size w w' := by
  have hb := Blk.new w 202 (List.replicate 64 (Value.int .u32 0)).toArray
  have HB := hide (And.intro hb ((Below.refl w.heap.size w).alloc (Nat.le_refl _) (.cells (List.replicate 64 (Value.int .u32 0)).toArray 202)))
  have HS := hide (And.intro (fw_size kc (show 64 ≤ 64 by omega)) (And.intro zeros_size (fw_one kc)))
  have HK := hide fw_kc
  clear hb
  go_enter Tryz.func162, Tryz.ntmps162
  go_wp2_with ((with_reducible show wpList _ _ _ (⟨none, _, _, _, _, _⟩ :: _) _ _); refine wpList_store_row (o := ⟨none, .store _ _ _, _, _, _, _⟩) HB.out.1 (fw 64 kc) (by rw [HS.out.1, HS.out.2.1]) HS.out.2.2 rfl 202 _ _ rfl (by rw [HS.out.1]; kernel_rfl) rfl (by rw [HK.out]; rfl) ?_; intro w1 hb1 hg1)
  exact bodyPost_ret (results_cell_row rfl _ _ w.heap.size 202 (fw 64 kc) (0, 0) _ rfl hb1 Tryz.underlying202 rfl (by rw [HS.out.1]; kernel_rfl)) rfl ⟨rfl, HB.out.2.grown hg1 (by simp) fun k hk => by injection hk with hk; omega⟩
set_option maxRecDepth 100000 in
set_option maxHeartbeats 4000000 in
theorem rconstants_any (w : World) : Calls Tryz.prog 124 #[] w fun e w' => e = .returned (.agg (fw 64 kc)) ∧ Below w.heap.size w w' := by
  have hb := Blk.new w 202 (List.replicate 64 (Value.int .u32 0)).toArray
  have HB := hide (And.intro hb ((Below.refl w.heap.size w).alloc (Nat.le_refl _) (.cells (List.replicate 64 (Value.int .u32 0)).toArray 202)))
  have HS := hide (And.intro (fw_size kc (show 64 ≤ 64 by omega)) (And.intro zeros_size (fw_one kc)))
  have HK := hide fw_kc
  clear hb
  go_enter Tryz.func124, Tryz.ntmps124
  go_wp2_with ((with_reducible show wpList _ _ _ (⟨none, _, _, _, _, _⟩ :: _) _ _); refine wpList_store_row (o := ⟨none, .store _ _ _, _, _, _, _⟩) HB.out.1 (fw 64 kc) (by rw [HS.out.1, HS.out.2.1]) HS.out.2.2 rfl 202 _ _ rfl (by rw [HS.out.1]; kernel_rfl) rfl (by rw [HK.out]; rfl) ?_; intro w1 hb1 hg1)
  exact bodyPost_ret (results_cell_row rfl _ _ w.heap.size 202 (fw 64 kc) (0, 0) _ rfl hb1 Tryz.underlying202 rfl (by rw [HS.out.1]; kernel_rfl)) rfl ⟨rfl, HB.out.2.grown hg1 (by simp) fun k hk => by injection hk with hk; omega⟩
end Go.Proofs.YtcpceaflnnkhnaaGreatDoor
