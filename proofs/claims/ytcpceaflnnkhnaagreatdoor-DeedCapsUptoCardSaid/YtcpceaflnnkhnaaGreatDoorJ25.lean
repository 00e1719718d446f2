/- Joined texts: TagE, TagG. -/
import Derived.Test.YtcpceaflnnkhnaaGreatDoorJ20
import Derived.Test.YtcpceaflnnkhnaaGreatDoorJ24
import Derived.Laws.ResultCell
import Derived.Test.YtcpceaflnnkhnaaGreatDoorJ2

/- Tagged digests of one part: the program's, the document's. -/
namespace Go.Proofs.YtcpceaflnnkhnaaGreatDoor
open Go.RowKit

/-- A tag's digest of one part. -/
def tagD (t : Nat) (l : List UInt8) : List UInt8 := shaL (framedL [lst (tagB t), l])
@[simp] theorem tagD_length (t : Nat) (l : List UInt8) : (tagD t l).length = 32 := shaL_length _
theorem tagM_len (t : Nat) (l : List UInt8) (ht : okT t l.length) (hl : l.length ≤ 1099511627000) : (framedL [lst (tagB t), l]).length ≤ 1099511627776 := by
  have htl : (tagB t).size ≤ 20 := tag_len (okT_in ht)
  rw [framedL_length]
  simp [lst_len]
  omega
theorem dig_cells (l : List UInt8) (h : l.length = 32) : (bcells l).toArray.size = 32 ∧ (bcells l).toArray.all (·.oneCell') = true := ⟨by simp [h], by simp [bcells, Value.oneCell']⟩
set_option maxRecDepth 10000 in
set_option maxHeartbeats 4000000 in
theorem rdigest_one (t : Nat) (l : List UInt8) (ht : okT t l.length) (b o c : Nat) (Ap : Option Addr) (cp : Nat) (w : World) (hb : b < w.heap.size) (hc : w.cell? ⟨b, o, none⟩ = some (.slice Ap l.length cp)) (hv : By w (.slice Ap l.length cp) l) (hl : l.length ≤ 1099511627000) :
    Calls Tryz.prog 70 #[.int .u8 (t : Int), .slice (some ⟨b, o, none⟩) 1 c] w fun e w' => e = .returned (.agg (bcells (tagD t l)).toArray) ∧ Below w.heap.size w w' := by
  have QB := hide (fun W (hW : Below w.heap.size w W) => rbytes_one t l ht b o c Ap cp W (Nat.lt_of_lt_of_le hb hW.size) ((hW.cell (p := ⟨b, o, none⟩) hb).trans hc) (hv.below hW) hl)
  obtain ⟨M, hM⟩ : ∃ M, M = framedL [lst (tagB t), l] := ⟨_, rfl⟩
  have hml := tagM_len t l ht hl
  rw [← hM] at QB hml
  obtain ⟨F, hF⟩ : ∃ F, F = (bcells (shaL M)).toArray := ⟨_, rfl⟩
  have HF := hide (show F.size = 32 ∧ F.all (·.oneCell') = true ∧ F = (bcells (tagD t l)).toArray from by
    rw [hF]
    exact ⟨(dig_cells _ (by simp)).1, (dig_cells _ (by simp)).2, by rw [hM]; rfl⟩)
  have QS := hide (fun v W (h : By W v M) => rsum_any v M W h hml)
  rw [← hF] at QS
  clear hF hM hml hb hc hv hl
  go_enter Tryz.func70, Tryz.ntmps70
  go_wp2_with fail
  refine (QB.out _ ((Below.refl _ w).alloc (Nat.le_refl _) _)).mono ?_
  rintro e w1 ⟨v1, rfl, o1, b1⟩
  obtain ⟨Z, hZ⟩ : ∃ Z : Array Value, Z = (bcells (List.replicate 32 0)).toArray := ⟨_, rfl⟩
  have H1 := hide (show Blk w1 w.heap.size 26 Z ∧ Below w.heap.size w w1 ∧ Z.size = 32 ∧ By w1 v1 M from ⟨by rw [hZ]; exact Blk.below' (Blk.new w 26 _) b1, ((Below.refl _ w).alloc (Nat.le_refl _) _).trans (b1.mono (by simp)), by rw [hZ]; rfl, o1.by_⟩)
  clear hZ o1 b1
  go_wp2_with first
    | (go_at_call 88; refine (QS.out _ _ H1.out.2.2.2).mono ?_; rintro e w2 ⟨rfl, b2⟩; go_loud (have H2 := hide (And.intro (H1.out.2.1.trans (b2.mono H1.out.2.1.size)) (H1.out.1.below' b2)); clear b2))
    | ((with_reducible change wpList _ _ _ (⟨none, .store _ (.tmp 4) _, _, _, _, _⟩ :: _) _ _); refine wpList_store_row (o := ⟨none, .store _ (.tmp 4) _, _, _, _, _⟩) H2.out.2 F (by rw [HF.out.1, H1.out.2.2.1]) HF.out.2.1 rfl 26 _ _ rfl (by rw [HF.out.1]; kernel_rfl) rfl rfl ?_; intro w7 hb7 hg7)
  refine bodyPost_ret (results_cell_row rfl _ _ w.heap.size 26 F (0, 0) _ rfl hb7 Tryz.underlying26 rfl (by rw [HF.out.1]; kernel_rfl)) rfl ⟨by rw [HF.out.2.2], H2.out.1.grown hg7 H2.out.1.size fun k hk => by injection hk with hk; omega⟩
theorem two_new (w : World) (zs : Array Value) (t u : TypeId) (v : Value) : Below w.heap.size w ((w.alloc (.cells zs t)).alloc (.cells #[v] u)) ∧ Blk ((w.alloc (.cells zs t)).alloc (.cells #[v] u)) (w.heap.size + 1) u #[v] ∧ Blk ((w.alloc (.cells zs t)).alloc (.cells #[v] u)) w.heap.size t zs := by
  refine ⟨((Below.refl _ w).alloc (Nat.le_refl _) _).alloc (by simp) _, ?_, (Blk.new _ _ _).alloc _⟩
  have := Blk.new (w.alloc (.cells zs t)) u #[v]
  simpa using this
set_option maxRecDepth 10000 in
set_option maxHeartbeats 4000000 in
theorem digest_one (t : Nat) (l : List UInt8) (ht : okT t l.length) (b o c : Nat) (Ap : Option Addr) (cp : Nat) (w : World) (hb : b < w.heap.size) (h1c : 1 ≤ c ∧ c ≤ maxLen) (hc : w.cell? ⟨b, o, none⟩ = some (.slice Ap l.length cp)) (hv : By w (.slice Ap l.length cp) l) (hl : l.length ≤ 1099511627000) :
    Calls Tryz.prog 86 #[.int .u8 (t : Int), .slice (some ⟨b, o, none⟩) 1 c] w fun e w' => e = .returned (.tuple #[.agg (bcells (tagD t l)).toArray, .int .i64 0]) ∧ Below w.heap.size w w' := by
  have QB := hide (fun W (hW : Below w.heap.size w W) => bytes_one t l ht b o c Ap cp W (Nat.lt_of_lt_of_le hb hW.size) h1c ((hW.cell (p := ⟨b, o, none⟩) hb).trans hc) (hv.below hW) hl)
  obtain ⟨M, hM⟩ : ∃ M, M = framedL [lst (tagB t), l] := ⟨_, rfl⟩
  have hml := tagM_len t l ht hl
  rw [← hM] at QB hml
  obtain ⟨F, hF⟩ : ∃ F, F = (bcells (shaL M)).toArray := ⟨_, rfl⟩
  have HF := hide (show F.size = 32 ∧ F.all (·.oneCell') = true ∧ F = (bcells (tagD t l)).toArray from by
    rw [hF]
    exact ⟨(dig_cells _ (by simp)).1, (dig_cells _ (by simp)).2, by rw [hM]; rfl⟩)
  have QS := hide (fun g A c W h1 h2 h3 => sum_any g A c M W h1 h2 h3 hml)
  rw [← hF] at QS
  obtain ⟨m, hm⟩ : ∃ m, m = M.length := ⟨_, rfl⟩
  rw [← hm] at QS
  have HM := hide hm
  clear hF hM hml hb hc hv hl hm
  go_enter Tryz.func86, Tryz.ntmps86
  go_wp2_with fail
  refine (QB.out _ ((Below.refl _ w).alloc (Nat.le_refl _) _)).mono ?_
  rintro e w1 ⟨v1, rfl, o1, b1⟩
  obtain ⟨A1, c1, rfl, -, -, -⟩ := o1.by_.form
  obtain ⟨Z, hZ⟩ : ∃ Z : Array Value, Z = (bcells (List.replicate 32 0)).toArray := ⟨_, rfl⟩
  rw [← HM.out] at o1 ⊢
  have H1 := hide (show Blk w1 w.heap.size 26 Z ∧ Below w.heap.size w w1 ∧ Z.size = 32 ∧ By w1 (.slice A1 m c1) M from ⟨by rw [hZ]; exact Blk.below' (Blk.new w 26 _) b1, ((Below.refl _ w).alloc (Nat.le_refl _) _).trans (b1.mono (by simp)), by rw [hZ]; rfl, o1.by_⟩)
  clear hZ o1 b1
  go_wp2_with fail
  have k1 := Blk.new w1 32 #[.slice A1 m c1]
  have ha := (Below.refl w1.heap.size w1).alloc (Nat.le_refl _) (.cells #[.slice A1 m c1] 32)
  have QS2 := hide (QS.out w1.heap.size A1 c1 _ ((k1.cell 0).trans rfl) k1.lt (H1.out.2.2.2.below ha))
  have HA := hide ha
  clear k1 ha
  with_reducible refine QS2.out.mono ?_
  rintro e w2 ⟨rfl, b2⟩
  have b3 := HA.out.trans (b2.mono HA.out.size)
  have H2 := hide (And.intro (H1.out.2.1.trans (b3.mono H1.out.2.1.size)) (H1.out.1.below' b3))
  clear b2 b3 QS2
  go_wp2_with (refine wpList_store_row (o := ⟨none, .store _ (.tmp 4) _, _, _, _, _⟩) H2.out.2 F (by rw [HF.out.1, H1.out.2.2.1]) HF.out.2.1 rfl 26 _ _ rfl (by rw [HF.out.1]; kernel_rfl) rfl rfl ?_; intro w7 hb7 hg7)
  refine bodyPost_ret (v := .tuple #[.agg F, .int .i64 0]) ?_ rfl ⟨by rw [HF.out.2.2], H2.out.1.grown hg7 H2.out.1.size fun k hk => by injection hk with hk; omega⟩
  rw [results_cell_tmp rfl]
  have hlv := run_loadVar_row w7 w.heap.size 26 26 F (0, 0) _ hb7 Tryz.underlying26 rfl (by rw [HF.out.1]; kernel_rfl)
  simp [asAddr, hlv, Result.andThen]
set_option maxRecDepth 10000 in
set_option maxHeartbeats 4000000 in
theorem made_one (t : Nat) (l : List UInt8) (ht : okT t l.length) (b o c : Nat) (Ap : Option Addr) (cp : Nat) (w : World) (hb : b < w.heap.size) (h1c : 1 ≤ c ∧ c ≤ maxLen) (hc : w.cell? ⟨b, o, none⟩ = some (.slice Ap l.length cp)) (hv : By w (.slice Ap l.length cp) l) (hl : l.length ≤ 1099511627000) :
    Calls Tryz.prog 68 #[.int .u8 (t : Int), .slice (some ⟨b, o, none⟩) 1 c] w fun e w' => e = .returned (.agg (bcells (tagD t l)).toArray) ∧ Below w.heap.size w w' := by
  have QB := hide (fun W (hW : Below w.heap.size w W) => digest_one t l ht b o c Ap cp W (Nat.lt_of_lt_of_le hb hW.size) h1c ((hW.cell (p := ⟨b, o, none⟩) hb).trans hc) (hv.below hW) hl)
  obtain ⟨F, hF⟩ : ∃ F, F = (bcells (tagD t l)).toArray := ⟨_, rfl⟩
  have HF := hide (show F.size = 32 ∧ F.all (·.oneCell') = true from by rw [hF]; exact dig_cells _ (by simp))
  rw [← hF] at QB ⊢
  clear hF hb hc hv hl
  go_enter Tryz.func68, Tryz.ntmps68
  go_wp2_with fail
  refine (QB.out _ ((Below.refl _ w).alloc (Nat.le_refl _) _)).mono ?_
  rintro e w1 ⟨rfl, b1⟩
  obtain ⟨Z, hZ⟩ : ∃ Z : Array Value, Z = (bcells (List.replicate 32 0)).toArray := ⟨_, rfl⟩
  have H1 := hide (show Blk w1 w.heap.size 26 Z ∧ Below w.heap.size w w1 ∧ Z.size = 32 ∧ Blk (w1.alloc (.cells Z 26)) w1.heap.size 26 Z from ⟨by rw [hZ]; exact Blk.below' (Blk.new w 26 _) b1, ((Below.refl _ w).alloc (Nat.le_refl _) _).trans (b1.mono (by simp)), by rw [hZ]; rfl, Blk.new _ _ _⟩)
  have HZ := hide hZ
  clear hZ b1
  go_wp2_with first
    | ((with_reducible change wpList _ _ _ (⟨none, .store _ (.tmp 5) _, _, _, _, _⟩ :: _) _ _); refine wpList_store_row (o := ⟨none, .store _ (.tmp 5) _, _, _, _, _⟩) (g := w1.heap.size) (t := 26) (Blk.new w1 _ _) F (by rw [HF.out.1]; rfl) HF.out.2 rfl 26 _ _ rfl (by rw [HF.out.1]; kernel_rfl) rfl rfl ?_; intro w7 hb7 hg7; have H7 := hide (And.intro hb7 hg7); clear hb7 hg7)
    | ((with_reducible change wpList _ _ _ (⟨some 13, _, _, _, _, _⟩ :: _) _ _); refine wpList_load_row (o := ⟨some 13, .load _ _, _, _, _, _⟩) rfl 26 _ rfl w1.heap.size rfl 26 F (0, 0) _ H7.out.1 Tryz.underlying26 rfl (by rw [HF.out.1]; kernel_rfl) ?_)
    | ((with_reducible change wpList _ _ _ (⟨none, .store _ (.tmp 4) _, _, _, _, _⟩ :: _) _ _); refine wpList_store_row (o := ⟨none, .store _ (.tmp 4) _, _, _, _, _⟩) (((H1.out.1.alloc _).grown H7.out.2 (by have := H1.out.1.lt; simp; omega))) F (by rw [HF.out.1, H1.out.2.2.1]) HF.out.2 rfl 26 _ _ rfl (by rw [HF.out.1]; kernel_rfl) rfl rfl ?_; intro w8 hb8 hg8)
  have hl1 := H1.out.1.lt
  have h7 := (H1.out.2.1.alloc (by omega) (.cells Z 26))
  refine bodyPost_ret (results_cell_row rfl _ _ w.heap.size 26 F (0, 0) _ rfl hb8 Tryz.underlying26 rfl (by rw [HF.out.1]; kernel_rfl)) rfl ⟨rfl, ?_⟩
  have h8 : Below w.heap.size w _ := ((H1.out.2.1.alloc (by omega) _).grown H7.out.2 (by simp; omega) fun k hk => by injection hk with hk; omega)
  exact h8.grown hg8 h8.size fun k hk => by injection hk with hk; omega
end Go.Proofs.YtcpceaflnnkhnaaGreatDoor

/- The tagged digest of a key, cut to sixteen bytes: the program's Index, the document's. -/
namespace Go.Proofs.YtcpceaflnnkhnaaGreatDoor
open Go.RowKit

/-- What a key is digested to. -/
def indexL (k : List UInt8) : List UInt8 := (tagD 2 k).take 16
@[simp] theorem indexL_length (k : List UInt8) : (indexL k).length = 16 := by unfold indexL; simp
theorem bcells_take (l : List UInt8) (n : Nat) : (bcells l).take n = bcells (l.take n) := by unfold bcells; rw [List.map_take]
theorem arr_size (l : List UInt8) : (bcells l).toArray.size = l.length := by simp
theorem arr_one (l : List UInt8) : (bcells l).toArray.all (·.oneCell') = true := by simp [bcells, Value.oneCell']
theorem by_blk {W : World} {g : Nat} {t : TypeId} {l : List UInt8} {n : Nat} (h : Blk W g t (bcells l).toArray) (hn : n = l.length) (hm : n ≤ maxLen) : By W (.slice (some ⟨g, 0, none⟩) n n) l := by
  subst hn
  refine ⟨by simp, some ⟨g, 0, none⟩, l.length, rfl, Nat.le_refl _, hm, fun _ => ⟨g, 0, rfl, h.lt, fun j _ => ?_⟩⟩
  rw [Nat.zero_add, h.cell j, List.getElem?_toArray]
theorem three_new (w : World) (K Z V : Array Value) (t u x : TypeId) : Blk (((w.alloc (.cells K t)).alloc (.cells Z u)).alloc (.cells V x)) w.heap.size t K ∧ Blk (((w.alloc (.cells K t)).alloc (.cells Z u)).alloc (.cells V x)) (w.heap.size + 1) u Z ∧ Blk (((w.alloc (.cells K t)).alloc (.cells Z u)).alloc (.cells V x)) (w.heap.size + 1 + 1) x V ∧ Below w.heap.size w (((w.alloc (.cells K t)).alloc (.cells Z u)).alloc (.cells V x)) := by
  refine ⟨((Blk.new _ _ _).alloc _).alloc _, ?_, ?_, (((Below.refl _ w).alloc (Nat.le_refl _) _).alloc (by simp) _).alloc (by simp; omega) _⟩
  · have := (Blk.new (w.alloc (.cells K t)) u Z).alloc (.cells V x)
    simpa using this
  · have := Blk.new ((w.alloc (.cells K t)).alloc (.cells Z u)) x V
    simpa using this
theorem bel2 {w W W' : World} (h : Below w.heap.size w W) (h' : Below W.heap.size W W') : Below w.heap.size w W' := h.trans (h'.mono h.size)
theorem rng_take {W : World} {g : Nat} {t : TypeId} {F I : Array Value} {n : Nat} (h : Blk W g t F) (hi : F.toList.take n = I.toList) : W.rangeAt g 0 I.toList := fun j u hu => by
  rw [Nat.zero_add, h.cell j, ← Array.getElem?_toList]
  rw [← hi] at hu
  rw [List.getElem?_take] at hu
  split at hu
  · exact hu
  · cases hu
set_option maxRecDepth 100000 in
set_option maxHeartbeats 4000000 in
theorem index_any (key : List UInt8) (hk : key.length = 16) (w : World) :
    Calls Tryz.prog 45 #[.agg (bcells key).toArray] w fun e w' => e = .returned (.agg (bcells (indexL key)).toArray) ∧ Below w.heap.size w w' := by
  obtain ⟨K, hK⟩ : ∃ K : Array Value, K = (bcells key).toArray := ⟨_, rfl⟩
  obtain ⟨F, hF⟩ : ∃ F : Array Value, F = (bcells (tagD 2 key)).toArray := ⟨_, rfl⟩
  obtain ⟨I, hI⟩ : ∃ I : Array Value, I = (bcells (indexL key)).toArray := ⟨_, rfl⟩
  have HF := hide (show F.size = 32 ∧ F.all (·.oneCell') = true ∧ I.size = 16 ∧ I.all (·.oneCell') = true ∧ F.toList.take 16 = I.toList from ⟨by rw [hF, arr_size]; simp, by rw [hF]; exact arr_one _, by rw [hI, arr_size]; simp, by rw [hI]; exact arr_one _, by rw [hF, hI]; exact bcells_take _ _⟩)
  have Q : Hid (∀ W g, Blk W g 24 K → ∀ b, W.cell? ⟨b, 0, none⟩ = some (.slice (some ⟨g, 0, none⟩) 16 16) → Calls Tryz.prog 68 #[.int .u8 2, .slice (some ⟨b, 0, none⟩) 1 1] W fun e w' => e = .returned (.agg F) ∧ Below W.heap.size W w') := hide fun W g hg b hb => by
    have h := made_one 2 key (.inr (.inl ⟨rfl, hk⟩)) b 0 1 (some ⟨g, 0, none⟩) 16 W (World.block_lt_of_cell? _ _ hb) ⟨Nat.le_refl _, by unfold maxLen; omega⟩ (by rw [hk]; exact hb) (by rw [hk]; exact by_blk (by rw [← hK]; exact hg) hk.symm (by unfold maxLen; omega)) (by omega)
    rw [← hF] at h
    exact h
  rw [← hK, ← hI]
  clear hK hF hI hk
  go_enter Tryz.func45, Tryz.ntmps45
  go_wp2_with fail
  have HN := hide (fun Z => three_new w K Z #[.slice (some ⟨w.heap.size, 0, none⟩) 16 16] 24 29 32)
  with_reducible refine (Q.out _ w.heap.size (HN.out _).1 (w.heap.size + 1 + 1) (((HN.out _).2.2.1.cell 0).trans rfl)).mono ?_
  rintro e w1 ⟨rfl, b1⟩
  obtain ⟨Z, hZ⟩ : ∃ Z : Array Value, Z = (bcells (List.replicate 16 0)).toArray := ⟨_, rfl⟩
  have H1 := hide (show Blk w1 (w.heap.size + 1) 29 Z ∧ Below w.heap.size w w1 ∧ Z.size = 16 from ⟨by rw [hZ]; exact (HN.out _).2.1.below' b1, (HN.out _).2.2.2.trans (b1.mono (HN.out _).2.2.2.size), by rw [hZ]; rfl⟩)
  clear hZ b1 HN
  have hs2a : ∀ W : World, (Instr.arrayAt 29 (.slice (some ⟨w1.heap.size, 0, none⟩) 16 32)).run Tryz.prog W = .ok (.pointer (some ⟨w1.heap.size, 0, none⟩)) W := fun W => run_arrayAt W 29 5 16 _ 16 32 Tryz.underlying29 (Nat.le_refl _)
  go_wp2_with first
    | ((with_reducible change wpList _ _ _ (⟨none, .store _ (.tmp 3) _, _, _, _, _⟩ :: _) _ _); go_loud (refine wpList_store_row (o := ⟨none, .store _ (.tmp 3) _, _, _, _, _⟩) (g := w1.heap.size) (t := 26) (Blk.new w1 _ _) F (HF.out.1.trans (by kernel_rfl)) HF.out.2.1 rfl 26 _ _ rfl ((by kernel_rfl : (Tryz.prog.info? 26).map (·.size) = some 32).trans (by rw [HF.out.1])) rfl rfl ?_; intro w7 hb7 hg7; have H7 := hide (show Blk w7 w1.heap.size 26 F ∧ Below w1.heap.size w1 w7 from ⟨hb7, ((Below.refl w1.heap.size w1).alloc (Nat.le_refl _) _).grown hg7 (by simp) (fun k hk => by injection hk with hk; omega)⟩); clear hb7 hg7))
    | ((with_reducible change wpList _ _ _ (⟨some 9, _, _, _, _, _⟩ :: _) _ _); refine wpList_yields (by kernel_rfl) (.agg I) (ex_load 29 _ rfl w1.heap.size 0 (by kernel_rfl) I.toList _ (rng_take H7.out.1 HF.out.2.2.2.2) Tryz.underlying29 rfl ((by kernel_rfl : (Tryz.prog.info? 29).map (·.size) = some 16).trans (by rw [Array.length_toList, HF.out.2.2.1]))) ?_)
    | ((with_reducible change wpList _ _ _ (⟨none, .store _ (.tmp 2) _, _, _, _, _⟩ :: _) _ _); go_loud (refine wpList_store_row (o := ⟨none, .store _ (.tmp 2) _, _, _, _, _⟩) (H1.out.1.below' H7.out.2) I (by rw [HF.out.2.2.1, H1.out.2.2]) HF.out.2.2.2.1 rfl 29 _ _ rfl ((by kernel_rfl : (Tryz.prog.info? 29).map (·.size) = some 16).trans (by rw [HF.out.2.2.1])) rfl rfl ?_; intro w8 hb8 hg8))
  refine bodyPost_ret (results_cell_row rfl _ _ (w.heap.size + 1) 29 I (0, 0) _ rfl hb8 Tryz.underlying29 rfl ((by kernel_rfl : (Tryz.prog.info? 29).map (·.size) = some 16).trans (by rw [HF.out.2.2.1]))) rfl ⟨rfl, ?_⟩
  have h7 := bel2 H1.out.2.1 H7.out.2
  exact h7.grown hg8 h7.size fun k hk => (by injection hk with hk; omega)
/-- The first k of sixteen bytes, noughts behind. -/
def fill16 (L : List UInt8) (k : Nat) : Array Value := (bcells (L.take k ++ List.replicate (16 - k) 0)).toArray
theorem fill16_set (L : List UInt8) (k : Nat) (x : UInt8) (hk : k < 16) (hx : L[k]? = some x) : (fill16 L k).setIfInBounds k (.int .u8 (x.toNat : Int)) = fill16 L (k + 1) := by
  unfold fill16
  apply Array.toList_inj.1
  obtain ⟨hl, he⟩ := List.getElem?_eq_some_iff.1 hx
  rw [Array.toList_setIfInBounds]
  unfold bcells
  rw [← List.map_set]
  congr 1
  rw [List.set_append_right _ _ (by rw [List.length_take]; omega), List.length_take, Nat.min_eq_left (by omega), Nat.sub_self, show 16 - k = (16 - (k + 1)) + 1 by omega, List.replicate_succ, List.set_cons_zero, List.take_add_one, hx]
  simp
set_option maxRecDepth 100000 in
set_option maxHeartbeats 4000000 in
theorem rindex_any (key : List UInt8) (hk : key.length = 16) (w : World) :
    Calls Tryz.prog 49 #[.agg (bcells key).toArray] w fun e w' => e = .returned (.agg (bcells (indexL key)).toArray) ∧ Below w.heap.size w w' := by
  obtain ⟨K, hK⟩ : ∃ K : Array Value, K = (bcells key).toArray := ⟨_, rfl⟩
  obtain ⟨F, hF⟩ : ∃ F : Array Value, F = (bcells (tagD 2 key)).toArray := ⟨_, rfl⟩
  obtain ⟨I, hI⟩ : ∃ I : Array Value, I = (bcells (indexL key)).toArray := ⟨_, rfl⟩
  have HF := hide (show F.size = 32 ∧ F.all (·.oneCell') = true ∧ I.size = 16 ∧ I.all (·.oneCell') = true ∧ I = fill16 (tagD 2 key) 16 ∧ (tagD 2 key).length = 32 ∧ ∀ k, k < 16 → ∃ x : UInt8, (tagD 2 key)[k]? = some x ∧ F[k]? = some (.int .u8 (x.toNat : Int)) from ⟨by rw [hF, arr_size]; simp, by rw [hF]; exact arr_one _, by rw [hI, arr_size]; simp, by rw [hI]; exact arr_one _, by rw [hI]; unfold fill16 indexL; simp, by simp, fun k hk2 => ⟨_, List.getElem?_eq_getElem (by simp; omega), by rw [hF, List.getElem?_toArray, bcells_get, List.getElem?_eq_getElem (by simp; omega)]; rfl⟩⟩)
  have Q : Hid (∀ W g, Blk W g 24 K → ∀ b, W.cell? ⟨b, 0, none⟩ = some (.slice (some ⟨g, 0, none⟩) 16 16) → Calls Tryz.prog 70 #[.int .u8 2, .slice (some ⟨b, 0, none⟩) 1 1] W fun e w' => e = .returned (.agg F) ∧ Below W.heap.size W w') := hide fun W g hg b hb => by
    have h := rdigest_one 2 key (.inr (.inl ⟨rfl, hk⟩)) b 0 1 (some ⟨g, 0, none⟩) 16 W (World.block_lt_of_cell? _ _ hb) (by rw [hk]; exact hb) (by rw [hk]; exact by_blk (by rw [← hK]; exact hg) hk.symm (by unfold maxLen; omega)) (by omega)
    rw [← hF] at h
    exact h
  obtain ⟨L, hL⟩ : ∃ L, L = tagD 2 key := ⟨_, rfl⟩
  rw [← hL] at HF
  rw [← hK, ← hI]
  clear hK hF hI hk hL
  go_enter Tryz.func49, Tryz.ntmps49
  go_wp2_with fail
  have HN := hide (fun Z => three_new w K Z #[.slice (some ⟨w.heap.size, 0, none⟩) 16 16] 24 29 32)
  with_reducible refine (Q.out _ w.heap.size (HN.out _).1 (w.heap.size + 1 + 1) (((HN.out _).2.2.1.cell 0).trans rfl)).mono ?_
  rintro e w1 ⟨rfl, b1⟩
  obtain ⟨Z, hZ⟩ : ∃ Z : Array Value, Z = (bcells (List.replicate 16 0)).toArray := ⟨_, rfl⟩
  have H1 := hide (show Blk w1 (w.heap.size + 1) 29 Z ∧ Below w.heap.size w w1 ∧ Z.size = 16 from ⟨by rw [hZ]; exact (HN.out _).2.1.below' b1, (HN.out _).2.2.2.trans (b1.mono (HN.out _).2.2.2.size), by rw [hZ]; rfl⟩)
  clear hZ b1 HN
  go_wp2_with ((with_reducible change wpList _ _ _ (⟨none, .store _ (.tmp 3) _, _, _, _, _⟩ :: _) _ _); go_loud (refine wpList_store_row (o := ⟨none, .store _ (.tmp 3) _, _, _, _, _⟩) (g := w1.heap.size) (t := 26) (Blk.new w1 _ _) F (HF.out.1.trans (by kernel_rfl)) HF.out.2.1 rfl 26 _ _ rfl ((by kernel_rfl : (Tryz.prog.info? 26).map (·.size) = some 32).trans (by rw [HF.out.1])) rfl rfl ?_; intro w7 hb7 hg7; have H7 := hide (show Blk w7 w1.heap.size 26 F ∧ Below w1.heap.size w1 w7 from ⟨hb7, ((Below.refl w1.heap.size w1).alloc (Nat.le_refl _) _).grown hg7 (by simp) (fun k hk => by injection hk with hk; omega)⟩); clear hb7 hg7))
  have HS := hide (show Blk (w7.alloc (.cells (fill16 L 0) 29)) w7.heap.size 29 (fill16 L 0) from Blk.new _ _ _)
  go_loopw [5] (fun u5 wr => ∃ k : Nat, k ≤ 16 ∧ u5 = .int .i64 (k : Int) ∧ Blk wr w7.heap.size 29 (fill16 L k) ∧ Below w7.heap.size w7 wr) (fun u5 _ => 16 - (intOf u5).toNat)
  case atStart => exact ⟨0, by omega, rfl, HS.out, (Below.refl _ w7).alloc (Nat.le_refl _) _⟩
  case round =>
    clear HS
    obtain ⟨k, hk, rfl, hb, hbel⟩ := hrel
    by_cases hlt : k < 16
    · obtain ⟨x, hx, hfx⟩ := HF.out.2.2.2.2.2.2 k hlt
      have i1 : (k : Int) < 16 := by omega
      have i2 : (0 : Int) ≤ (k : Int) := by omega
      have cx : wr.cell? ⟨w1.heap.size, k, none⟩ = some (.int .u8 (x.toNat : Int)) := by rw [(H7.out.1.below' hbel).cell]; exact hfx
      have cy : ∃ y, wr.cell? ⟨w7.heap.size, k, none⟩ = some y := by
        rw [hb.cell]
        exact ⟨_, Array.getElem?_eq_getElem (by have := HF.out.2.2.2.2.2.1; unfold fill16; simp; omega)⟩
      obtain ⟨y, cy⟩ := cy
      have fy := hb.frozen k
      have HB := hide (show Blk (wr.setCell ⟨w7.heap.size, k, none⟩ (.int .u8 (x.toNat : Int))) w7.heap.size 29 (fill16 L (k + 1)) ∧ Below w7.heap.size w7 (wr.setCell ⟨w7.heap.size, k, none⟩ (.int .u8 (x.toNat : Int))) from ⟨by rw [← fill16_set L k x hlt hx]; exact hb.set_ k _, hbel.setCell (Nat.le_refl _) _⟩)
      clear hb hbel hx hfx
      go_wp2
      go_roundw
      case rel => exact ⟨k + 1, by omega, by go_num, HB.out.1, HB.out.2⟩
      case measure => simp [intOf]; omega
    · have hk16 : k = 16 := by omega
      subst hk16
      rw [← HF.out.2.2.2.2.1] at hb
      have HB := hide (And.intro hb hbel)
      clear hb hbel
      rw [show ((16 : Nat) : Int) = 16 from rfl]
      go_wp2_with first
        | ((with_reducible change wpList _ _ _ (⟨some 18, _, _, _, _, _⟩ :: _) _ _); refine wpList_load_row (o := ⟨some 18, .load _ _, _, _, _, _⟩) rfl 29 _ rfl w7.heap.size rfl 29 I (0, 0) _ HB.out.1 Tryz.underlying29 rfl ((by kernel_rfl : (Tryz.prog.info? 29).map (·.size) = some 16).trans (by rw [HF.out.2.2.1])) ?_)
        | ((with_reducible change wpList _ _ _ (⟨none, .store _ (.tmp 2) _, _, _, _, _⟩ :: _) _ _); go_loud (refine wpList_store_row (o := ⟨none, .store _ (.tmp 2) _, _, _, _, _⟩) (H1.out.1.below' (bel2 H7.out.2 HB.out.2)) I (by rw [HF.out.2.2.1, H1.out.2.2]) HF.out.2.2.2.1 rfl 29 _ _ rfl ((by kernel_rfl : (Tryz.prog.info? 29).map (·.size) = some 16).trans (by rw [HF.out.2.2.1])) rfl rfl ?_; intro w8 hb8 hg8))
      refine bodyPost_ret (results_cell_row rfl _ _ (w.heap.size + 1) 29 I (0, 0) _ rfl hb8 Tryz.underlying29 rfl ((by kernel_rfl : (Tryz.prog.info? 29).map (·.size) = some 16).trans (by rw [HF.out.2.2.1]))) rfl ⟨rfl, ?_⟩
      have h7 := bel2 H1.out.2.1 (bel2 H7.out.2 HB.out.2)
      exact h7.grown hg8 h7.size fun k hk => (by injection hk with hk; omega)
end Go.Proofs.YtcpceaflnnkhnaaGreatDoor
