/- Joined texts: TagE, UwB, UwC, Open, Bulk, OpnU. -/
import Derived.Test.YtkhlbpclfeakpaaDoorJ9
import Derived.Test.YtkhlbpclfeakpaaDoorJ15
import Derived.Laws.ResultCell
import Derived.Test.YtkhlbpclfeakpaaDoorJ8
import Derived.Stop.BytesEq
import Derived.Test.YtkhlbpclfeakpaaDoorJ1
import Derived.ProofKit
import Derived.OpenShut
import Derived.ShutString
import Derived.ChangeOld
import Derived.SizedLaws
import Derived.JoinedCond
import Derived.Deep.CondSized
import Derived.Test.YtkhlbpclfeakpaaDoorRows
import Derived.ChangeShapes
import Derived.WideShapes

/- Tagged digests of one part: the program's, the document's. -/
namespace Go.Proofs.YtkhlbpclfeakpaaDoor
open Go.RowKit

/-- A tag's digest of one part. -/
def tagD (t : Nat) (l : List UInt8) : List UInt8 := shaL (framedL [lst (tagB t), l])
@[simp] theorem tagD_length (t : Nat) (l : List UInt8) : (tagD t l).length = 32 := shaL_length _
theorem tagM_len (t : Nat) (l : List UInt8) (ht : okT t l.length) (hl : l.length ≤ 1099511627000) : (framedL [lst (tagB t), l]).length ≤ 1099511627776 := by
  have htl : (tagB t).size ≤ 20 := tag_len (okT_in ht)
  rw [framedL_length]
  simp [lst_len]
  omega
theorem dig_cells (l : List UInt8) (h : l.length = 32) : (bcells l).toArray.size = 32 ∧ (bcells l).toArray.all (·.oneCell') = true := ⟨by simp [h], by simp [bcells, Value.oneCell']⟩
set_option maxRecDepth 10000 in
set_option maxHeartbeats 4000000 in
theorem rdigest_one (t : Nat) (l : List UInt8) (ht : okT t l.length) (b o c : Nat) (Ap : Option Addr) (cp : Nat) (w : World) (hb : b < w.heap.size) (hc : w.cell? ⟨b, o, none⟩ = some (.slice Ap l.length cp)) (hv : By w (.slice Ap l.length cp) l) (hl : l.length ≤ 1099511627000) :
    Calls Tryd.prog 91 #[.int .u8 (t : Int), .slice (some ⟨b, o, none⟩) 1 c] w fun e w' => e = .returned (.agg (bcells (tagD t l)).toArray) ∧ Below w.heap.size w w' := by
  have QB := hide (fun W (hW : Below w.heap.size w W) => rbytes_one t l ht b o c Ap cp W (Nat.lt_of_lt_of_le hb hW.size) ((hW.cell (p := ⟨b, o, none⟩) hb).trans hc) (hv.below hW) hl)
  obtain ⟨M, hM⟩ : ∃ M, M = framedL [lst (tagB t), l] := ⟨_, rfl⟩
  have hml := tagM_len t l ht hl
  rw [← hM] at QB hml
  obtain ⟨F, hF⟩ : ∃ F, F = (bcells (shaL M)).toArray := ⟨_, rfl⟩
  have HF := hide (show F.size = 32 ∧ F.all (·.oneCell') = true ∧ F = (bcells (tagD t l)).toArray from by
    rw [hF]
    exact ⟨(dig_cells _ (by simp)).1, (dig_cells _ (by simp)).2, by rw [hM]; rfl⟩)
  have QS := hide (fun v W (h : By W v M) => rsum_any v M W h hml)
  rw [← hF] at QS
  clear hF hM hml hb hc hv hl
  go_enter Tryd.func91, Tryd.ntmps91
  go_wp2_with fail
  refine (QB.out _ ((Below.refl _ w).alloc (Nat.le_refl _) _)).mono ?_
  rintro e w1 ⟨v1, rfl, o1, b1⟩
  obtain ⟨Z, hZ⟩ : ∃ Z : Array Value, Z = (bcells (List.replicate 32 0)).toArray := ⟨_, rfl⟩
  have H1 := hide (show Blk w1 w.heap.size 47 Z ∧ Below w.heap.size w w1 ∧ Z.size = 32 ∧ By w1 v1 M from ⟨by rw [hZ]; exact Blk.below' (Blk.new w 47 _) b1, ((Below.refl _ w).alloc (Nat.le_refl _) _).trans (b1.mono (by simp)), by rw [hZ]; rfl, o1.by_⟩)
  clear hZ o1 b1
  go_wp2_with first
    | (go_at_call 113; refine (QS.out _ _ H1.out.2.2.2).mono ?_; rintro e w2 ⟨rfl, b2⟩; go_loud (have H2 := hide (And.intro (H1.out.2.1.trans (b2.mono H1.out.2.1.size)) (H1.out.1.below' b2)); clear b2))
    | ((with_reducible change wpList _ _ _ (⟨none, .store _ (.tmp 4) _, _, _, _, _⟩ :: _) _ _); refine wpList_store_row (o := ⟨none, .store _ (.tmp 4) _, _, _, _, _⟩) H2.out.2 F (by rw [HF.out.1, H1.out.2.2.1]) HF.out.2.1 rfl 47 _ _ rfl (by rw [HF.out.1]; kernel_rfl) rfl rfl ?_; intro w7 hb7 hg7)
  refine bodyPost_ret (results_cell_row rfl _ _ w.heap.size 47 F (0, 0) _ rfl hb7 Tryd.underlying47 rfl (by rw [HF.out.1]; kernel_rfl)) rfl ⟨by rw [HF.out.2.2], H2.out.1.grown hg7 H2.out.1.size fun k hk => by injection hk with hk; omega⟩
theorem two_new (w : World) (zs : Array Value) (t u : TypeId) (v : Value) : Below w.heap.size w ((w.alloc (.cells zs t)).alloc (.cells #[v] u)) ∧ Blk ((w.alloc (.cells zs t)).alloc (.cells #[v] u)) (w.heap.size + 1) u #[v] ∧ Blk ((w.alloc (.cells zs t)).alloc (.cells #[v] u)) w.heap.size t zs := by
  refine ⟨((Below.refl _ w).alloc (Nat.le_refl _) _).alloc (by simp) _, ?_, (Blk.new _ _ _).alloc _⟩
  have := Blk.new (w.alloc (.cells zs t)) u #[v]
  simpa using this

set_option maxRecDepth 10000 in
set_option maxHeartbeats 4000000 in
theorem rueb_any (A : Option Addr) (c : Nat) (l : List UInt8) (w : World) (hv : By w (.slice A l.length c) l) (hl : l.length ≤ 1099511627000) :
    Calls Tryd.prog 64 #[.slice A l.length c] w fun e w' => e = .returned (.agg (bcells (tagD 8 l)).toArray) ∧ Below w.heap.size w w' := by
  obtain ⟨F, hF⟩ : ∃ F, F = (bcells (tagD 8 l)).toArray := ⟨_, rfl⟩
  have HF := hide (show F.size = 32 ∧ F.all (·.oneCell') = true from by rw [hF]; exact dig_cells _ (by simp))
  have QD := hide (fun b o c' W (hb : b < W.heap.size) (hc : W.cell? ⟨b, o, none⟩ = some (.slice A l.length c)) (hW : Below w.heap.size w W) => rdigest_one 8 l (.inl (.inr (.inr rfl))) b o c' A c W hb hc (hv.below hW) hl)
  rw [← hF, show ((8 : Nat) : Int) = 8 from rfl] at QD
  rw [← hF]
  obtain ⟨n, hn⟩ : ∃ n, n = l.length := ⟨_, rfl⟩
  rw [← hn] at QD ⊢
  clear hF hn hv hl
  go_enter Tryd.func64, Tryd.ntmps64
  go_wp2_with fail
  have HN := hide (fun zs => two_new w zs 47 27 (.slice A n c))
  with_reducible refine (QD.out (w.heap.size + 1) 0 1 _ (HN.out _).2.1.lt (((HN.out _).2.1.cell 0).trans rfl) (HN.out _).1).mono ?_
  rintro e w1 ⟨rfl, b1⟩
  obtain ⟨Z, hZ⟩ : ∃ Z : Array Value, Z = (bcells (List.replicate 32 0)).toArray := ⟨_, rfl⟩
  have H1 := hide (show Blk w1 w.heap.size 47 Z ∧ Below w.heap.size w w1 ∧ Z.size = 32 from ⟨by rw [hZ]; exact (HN.out _).2.2.below' b1, (HN.out _).1.trans (b1.mono (HN.out _).1.size), by rw [hZ]; rfl⟩)
  clear hZ b1 HN
  go_wp2_with (refine wpList_store_row (o := ⟨none, .store _ (.tmp 2) _, _, _, _, _⟩) H1.out.1 F (by rw [HF.out.1, H1.out.2.2]) HF.out.2 rfl 47 _ _ rfl (by rw [HF.out.1]; kernel_rfl) rfl rfl ?_; intro w7 hb7 hg7)
  refine bodyPost_ret (results_cell_row rfl _ _ w.heap.size 47 F (0, 0) _ rfl hb7 Tryd.underlying47 rfl (by rw [HF.out.1]; kernel_rfl)) rfl ⟨rfl, H1.out.2.1.grown hg7 H1.out.2.1.size fun k hk => by injection hk with hk; omega⟩
set_option maxRecDepth 10000 in
set_option maxHeartbeats 4000000 in
theorem digest_one (t : Nat) (l : List UInt8) (ht : okT t l.length) (b o c : Nat) (Ap : Option Addr) (cp : Nat) (w : World) (hb : b < w.heap.size) (h1c : 1 ≤ c ∧ c ≤ maxLen) (hc : w.cell? ⟨b, o, none⟩ = some (.slice Ap l.length cp)) (hv : By w (.slice Ap l.length cp) l) (hl : l.length ≤ 1099511627000) :
    Calls Tryd.prog 115 #[.int .u8 (t : Int), .slice (some ⟨b, o, none⟩) 1 c] w fun e w' => e = .returned (.tuple #[.agg (bcells (tagD t l)).toArray, .int .i64 0]) ∧ Below w.heap.size w w' := by
  have QB := hide (fun W (hW : Below w.heap.size w W) => bytes_one t l ht b o c Ap cp W (Nat.lt_of_lt_of_le hb hW.size) h1c ((hW.cell (p := ⟨b, o, none⟩) hb).trans hc) (hv.below hW) hl)
  obtain ⟨M, hM⟩ : ∃ M, M = framedL [lst (tagB t), l] := ⟨_, rfl⟩
  have hml := tagM_len t l ht hl
  rw [← hM] at QB hml
  obtain ⟨F, hF⟩ : ∃ F, F = (bcells (shaL M)).toArray := ⟨_, rfl⟩
  have HF := hide (show F.size = 32 ∧ F.all (·.oneCell') = true ∧ F = (bcells (tagD t l)).toArray from by
    rw [hF]
    exact ⟨(dig_cells _ (by simp)).1, (dig_cells _ (by simp)).2, by rw [hM]; rfl⟩)
  have QS := hide (fun g A c W h1 h2 h3 => sum_any g A c M W h1 h2 h3 hml)
  rw [← hF] at QS
  obtain ⟨m, hm⟩ : ∃ m, m = M.length := ⟨_, rfl⟩
  rw [← hm] at QS
  have HM := hide hm
  clear hF hM hml hb hc hv hl hm
  go_enter Tryd.func115, Tryd.ntmps115
  go_wp2_with fail
  refine (QB.out _ ((Below.refl _ w).alloc (Nat.le_refl _) _)).mono ?_
  rintro e w1 ⟨v1, rfl, o1, b1⟩
  obtain ⟨A1, c1, rfl, -, -, -⟩ := o1.by_.form
  obtain ⟨Z, hZ⟩ : ∃ Z : Array Value, Z = (bcells (List.replicate 32 0)).toArray := ⟨_, rfl⟩
  rw [← HM.out] at o1 ⊢
  have H1 := hide (show Blk w1 w.heap.size 47 Z ∧ Below w.heap.size w w1 ∧ Z.size = 32 ∧ By w1 (.slice A1 m c1) M from ⟨by rw [hZ]; exact Blk.below' (Blk.new w 47 _) b1, ((Below.refl _ w).alloc (Nat.le_refl _) _).trans (b1.mono (by simp)), by rw [hZ]; rfl, o1.by_⟩)
  clear hZ o1 b1
  go_wp2_with fail
  have k1 := Blk.new w1 27 #[.slice A1 m c1]
  have ha := (Below.refl w1.heap.size w1).alloc (Nat.le_refl _) (.cells #[.slice A1 m c1] 27)
  have QS2 := hide (QS.out w1.heap.size A1 c1 _ ((k1.cell 0).trans rfl) k1.lt (H1.out.2.2.2.below ha))
  have HA := hide ha
  clear k1 ha
  with_reducible refine QS2.out.mono ?_
  rintro e w2 ⟨rfl, b2⟩
  have b3 := HA.out.trans (b2.mono HA.out.size)
  have H2 := hide (And.intro (H1.out.2.1.trans (b3.mono H1.out.2.1.size)) (H1.out.1.below' b3))
  clear b2 b3 QS2
  go_wp2_with (refine wpList_store_row (o := ⟨none, .store _ (.tmp 4) _, _, _, _, _⟩) H2.out.2 F (by rw [HF.out.1, H1.out.2.2.1]) HF.out.2.1 rfl 47 _ _ rfl (by rw [HF.out.1]; kernel_rfl) rfl rfl ?_; intro w7 hb7 hg7)
  refine bodyPost_ret (v := .tuple #[.agg F, .int .i64 0]) ?_ rfl ⟨by rw [HF.out.2.2], H2.out.1.grown hg7 H2.out.1.size fun k hk => by injection hk with hk; omega⟩
  rw [results_cell_tmp rfl]
  have hlv := run_loadVar_row w7 w.heap.size 47 47 F (0, 0) _ hb7 Tryd.underlying47 rfl (by rw [HF.out.1]; kernel_rfl)
  simp [asAddr, hlv, Result.andThen]
set_option maxRecDepth 10000 in
set_option maxHeartbeats 4000000 in
theorem made_one (t : Nat) (l : List UInt8) (ht : okT t l.length) (b o c : Nat) (Ap : Option Addr) (cp : Nat) (w : World) (hb : b < w.heap.size) (h1c : 1 ≤ c ∧ c ≤ maxLen) (hc : w.cell? ⟨b, o, none⟩ = some (.slice Ap l.length cp)) (hv : By w (.slice Ap l.length cp) l) (hl : l.length ≤ 1099511627000) :
    Calls Tryd.prog 93 #[.int .u8 (t : Int), .slice (some ⟨b, o, none⟩) 1 c] w fun e w' => e = .returned (.agg (bcells (tagD t l)).toArray) ∧ Below w.heap.size w w' := by
  have QB := hide (fun W (hW : Below w.heap.size w W) => digest_one t l ht b o c Ap cp W (Nat.lt_of_lt_of_le hb hW.size) h1c ((hW.cell (p := ⟨b, o, none⟩) hb).trans hc) (hv.below hW) hl)
  obtain ⟨F, hF⟩ : ∃ F, F = (bcells (tagD t l)).toArray := ⟨_, rfl⟩
  have HF := hide (show F.size = 32 ∧ F.all (·.oneCell') = true from by rw [hF]; exact dig_cells _ (by simp))
  rw [← hF] at QB ⊢
  clear hF hb hc hv hl
  go_enter Tryd.func93, Tryd.ntmps93
  go_wp2_with fail
  refine (QB.out _ ((Below.refl _ w).alloc (Nat.le_refl _) _)).mono ?_
  rintro e w1 ⟨rfl, b1⟩
  obtain ⟨Z, hZ⟩ : ∃ Z : Array Value, Z = (bcells (List.replicate 32 0)).toArray := ⟨_, rfl⟩
  have H1 := hide (show Blk w1 w.heap.size 47 Z ∧ Below w.heap.size w w1 ∧ Z.size = 32 ∧ Blk (w1.alloc (.cells Z 47)) w1.heap.size 47 Z from ⟨by rw [hZ]; exact Blk.below' (Blk.new w 47 _) b1, ((Below.refl _ w).alloc (Nat.le_refl _) _).trans (b1.mono (by simp)), by rw [hZ]; rfl, Blk.new _ _ _⟩)
  have HZ := hide hZ
  clear hZ b1
  go_wp2_with first
    | ((with_reducible change wpList _ _ _ (⟨none, .store _ (.tmp 5) _, _, _, _, _⟩ :: _) _ _); refine wpList_store_row (o := ⟨none, .store _ (.tmp 5) _, _, _, _, _⟩) (g := w1.heap.size) (t := 47) (Blk.new w1 _ _) F (by rw [HF.out.1]; rfl) HF.out.2 rfl 47 _ _ rfl (by rw [HF.out.1]; kernel_rfl) rfl rfl ?_; intro w7 hb7 hg7; have H7 := hide (And.intro hb7 hg7); clear hb7 hg7)
    | ((with_reducible change wpList _ _ _ (⟨some 13, _, _, _, _, _⟩ :: _) _ _); refine wpList_load_row (o := ⟨some 13, .load _ _, _, _, _, _⟩) rfl 47 _ rfl w1.heap.size rfl 47 F (0, 0) _ H7.out.1 Tryd.underlying47 rfl (by rw [HF.out.1]; kernel_rfl) ?_)
    | ((with_reducible change wpList _ _ _ (⟨none, .store _ (.tmp 4) _, _, _, _, _⟩ :: _) _ _); refine wpList_store_row (o := ⟨none, .store _ (.tmp 4) _, _, _, _, _⟩) (((H1.out.1.alloc _).grown H7.out.2 (by have := H1.out.1.lt; simp; omega))) F (by rw [HF.out.1, H1.out.2.2.1]) HF.out.2 rfl 47 _ _ rfl (by rw [HF.out.1]; kernel_rfl) rfl rfl ?_; intro w8 hb8 hg8)
  have hl1 := H1.out.1.lt
  have h7 := (H1.out.2.1.alloc (by omega) (.cells Z 47))
  refine bodyPost_ret (results_cell_row rfl _ _ w.heap.size 47 F (0, 0) _ rfl hb8 Tryd.underlying47 rfl (by rw [HF.out.1]; kernel_rfl)) rfl ⟨rfl, ?_⟩
  have h8 : Below w.heap.size w _ := ((H1.out.2.1.alloc (by omega) _).grown H7.out.2 (by simp; omega) fun k hk => by injection hk with hk; omega)
  exact h8.grown hg8 h8.size fun k hk => by injection hk with hk; omega

set_option maxRecDepth 10000 in
set_option maxHeartbeats 4000000 in
theorem ueb_dig (A : Option Addr) (c : Nat) (l : List UInt8) (w : World) (hv : By w (.slice A l.length c) l) (hl : l.length ≤ 1099511627000) :
    Calls Tryd.prog 67 #[.slice A l.length c] w fun e w' => e = .returned (.agg (bcells (tagD 8 l)).toArray) ∧ Below w.heap.size w w' := by
  obtain ⟨F, hF⟩ : ∃ F, F = (bcells (tagD 8 l)).toArray := ⟨_, rfl⟩
  have HF := hide (show F.size = 32 ∧ F.all (·.oneCell') = true from by rw [hF]; exact dig_cells _ (by simp))
  have QD := hide (fun b o (c' : Nat) W (hb : b < W.heap.size) (hc : W.cell? ⟨b, o, none⟩ = some (.slice A l.length c)) (hW : Below w.heap.size w W) (h1c : 1 ≤ c' ∧ c' ≤ maxLen) => made_one 8 l (.inl (.inr (.inr rfl))) b o c' A c W hb h1c hc (hv.below hW) hl)
  rw [← hF, show ((8 : Nat) : Int) = 8 from rfl] at QD
  rw [← hF]
  obtain ⟨n, hn⟩ : ∃ n, n = l.length := ⟨_, rfl⟩
  rw [← hn] at QD ⊢
  clear hF hn hv hl
  go_enter Tryd.func67, Tryd.ntmps67
  go_wp2_with fail
  have HN := hide (fun zs => two_new w zs 47 27 (.slice A n c))
  with_reducible refine (QD.out (w.heap.size + 1) 0 1 _ (HN.out _).2.1.lt (((HN.out _).2.1.cell 0).trans rfl) (HN.out _).1 ⟨Nat.le_refl _, by unfold maxLen; omega⟩).mono ?_
  rintro e w1 ⟨rfl, b1⟩
  obtain ⟨Z, hZ⟩ : ∃ Z : Array Value, Z = (bcells (List.replicate 32 0)).toArray := ⟨_, rfl⟩
  have H1 := hide (show Blk w1 w.heap.size 47 Z ∧ Below w.heap.size w w1 ∧ Z.size = 32 from ⟨by rw [hZ]; exact (HN.out _).2.2.below' b1, (HN.out _).1.trans (b1.mono (HN.out _).1.size), by rw [hZ]; rfl⟩)
  clear hZ b1 HN
  go_wp2_with (refine wpList_store_row (o := ⟨none, .store _ (.tmp 2) _, _, _, _, _⟩) H1.out.1 F (by rw [HF.out.1, H1.out.2.2]) HF.out.2 rfl 47 _ _ rfl (by rw [HF.out.1]; kernel_rfl) rfl rfl ?_; intro w7 hb7 hg7)
  refine bodyPost_ret (results_cell_row rfl _ _ w.heap.size 47 F (0, 0) _ rfl hb7 Tryd.underlying47 rfl (by rw [HF.out.1]; kernel_rfl)) rfl ⟨rfl, H1.out.2.1.grown hg7 H1.out.2.1.size fun k hk => by injection hk with hk; omega⟩
end Go.Proofs.YtkhlbpclfeakpaaDoor

/- The Digests of a Ueb: the program's, the document's. Printed by wip/uwb.py. -/
namespace Go.Proofs.YtkhlbpclfeakpaaDoor
open Go.RowKit

theorem pair_new (w : World) (cs : Array Value) (t u : TypeId) : ∀ zs : Array Value, Below w.heap.size w ((w.alloc (.cells cs t)).alloc (.cells zs u)) ∧ Blk ((w.alloc (.cells cs t)).alloc (.cells zs u)) w.heap.size t cs ∧ Blk ((w.alloc (.cells cs t)).alloc (.cells zs u)) (w.heap.size + 1) u zs := fun zs => by
  refine ⟨((Below.refl _ w).alloc (Nat.le_refl _) _).alloc (by simp) _, (Blk.new _ _ _).alloc _, ?_⟩
  have := Blk.new (w.alloc (.cells cs t)) u zs
  simpa using this
set_option maxRecDepth 100000 in
set_option maxHeartbeats 2000000 in
theorem rdigestU_ok (u : US) (hw : u.wf) (ha : u.may) (w : World) :
    Calls Tryd.prog 28 #[.agg u.cells] w fun e w' => Below w.heap.size w w' ∧ e = .returned (.tuple #[.agg (bcells (tagD 8 (writeU u))).toArray, .int .i64 0]) := by
  have hwr := fun W (hW : Below w.heap.size w W) => rwrite_ok u hw ha W
  have hl : (writeU u).length ≤ 1099511627000 := Nat.le_trans (writeU_len hw ha) (by omega)
  have hsz : u.cells.size = 68 := US.size_ hw
  obtain ⟨l, hll⟩ : ∃ l, l = writeU u := ⟨_, rfl⟩
  rw [← hll] at hwr hl ⊢
  obtain ⟨F, hF⟩ : ∃ F, F = (bcells (tagD 8 l)).toArray := ⟨_, rfl⟩
  have HF := hide (show F.size = 32 ∧ F.all (·.oneCell') = true from by rw [hF]; exact dig_cells _ (by simp))
  have QU := hide (fun A c W (h : By W (.slice A l.length c) l) => rueb_any A c l W h hl)
  rw [← hF] at QU ⊢
  have HW := hide hwr
  clear hwr hF hll hl hw ha
  obtain ⟨cs, hcs⟩ : ∃ cs, cs = u.cells := ⟨_, rfl⟩
  rw [← hcs] at HW hsz ⊢
  have HSZ := hide hsz
  have HB := hide (pair_new w cs 49 47)
  clear hsz hcs
  go_enter Tryd.func28, Tryd.ntmps28
  go_wp2_with ((with_reducible change wpList _ _ _ (⟨some 7, _, _, _, _, _⟩ :: _) _ _); refine wpList_load_row (o := ⟨some 7, .load _ _, _, _, _, _⟩) rfl 49 _ rfl w.heap.size rfl 49 cs (0, 0) _ (HB.out _).2.1 Tryd.underlying49 rfl (by rw [HSZ.out]; kernel_rfl) ?_)
  refine (HW.out _ (HB.out _).1).mono ?_
  rintro e w1 ⟨b1, A1, c1, rfl, o1⟩
  obtain ⟨Z, hZ⟩ : ∃ Z : Array Value, Z = (bcells (List.replicate 32 0)).toArray := ⟨_, rfl⟩
  have H1 := hide (show Blk w1 (w.heap.size + 1) 47 Z ∧ Below w.heap.size w w1 ∧ Z.size = 32 ∧ By w1 (.slice A1 l.length c1) l from ⟨by rw [hZ]; exact (HB.out _).2.2.below' b1, (HB.out _).1.trans (b1.mono (HB.out _).1.size), by rw [hZ]; rfl, o1.by_⟩)
  clear hZ b1 o1 HB
  obtain ⟨n, hn⟩ : ∃ n, n = l.length := ⟨_, rfl⟩
  rw [← hn] at QU H1 ⊢
  clear hn
  go_wp2_with first
    | (go_at_call 64; refine (QU.out _ _ _ H1.out.2.2.2).mono ?_; rintro e w2 ⟨rfl, b2⟩; go_loud (have H2 := hide (And.intro (H1.out.2.1.trans (b2.mono H1.out.2.1.size)) (H1.out.1.below' b2)); clear b2))
    | ((with_reducible change wpList _ _ _ (⟨none, .store _ (.tmp 2) _, _, _, _, _⟩ :: _) _ _); refine wpList_store_row (o := ⟨none, .store _ (.tmp 2) _, _, _, _, _⟩) H2.out.2 F (by rw [HF.out.1, H1.out.2.2.1]) HF.out.2 rfl 47 _ _ rfl (by rw [HF.out.1]; kernel_rfl) rfl rfl ?_; intro w7 hb7 hg7)
  refine bodyPost_ret (v := .tuple #[.agg F, .int .i64 0]) ?_ rfl ⟨H2.out.1.grown hg7 H2.out.1.size fun k hk => by injection hk with hk; omega, rfl⟩
  rw [results_cell_tmp rfl]
  have hlv := run_loadVar_row w7 (w.heap.size + 1) 47 47 F (0, 0) _ hb7 Tryd.underlying47 rfl (by rw [HF.out.1]; kernel_rfl)
  simp [asAddr, hlv, Result.andThen]
set_option maxRecDepth 100000 in
set_option maxHeartbeats 2000000 in
theorem rdigestU_bad (u : US) (hw : u.wf) (hn : ¬ u.may) (w : World) :
    Calls Tryd.prog 28 #[.agg u.cells] w fun e w' => Below w.heap.size w w' ∧ e = .returned (.tuple #[.agg (bcells (List.replicate 32 0)).toArray, .int .i64 133]) := by
  have HW := hide (fun W => rwrite_bad u hw hn W)
  have hsz : u.cells.size = 68 := US.size_ hw
  obtain ⟨cs, hcs⟩ : ∃ cs, cs = u.cells := ⟨_, rfl⟩
  rw [← hcs] at HW hsz ⊢
  have HSZ := hide hsz
  have HB := hide (pair_new w cs 49 47)
  clear hsz hcs hn hw
  obtain ⟨F, hF⟩ : ∃ F : Array Value, F = (bcells (List.replicate 32 0)).toArray := ⟨_, rfl⟩
  have HF := hide (And.intro (show F.size = 32 by rw [hF]; rfl) hF)
  rw [← hF]
  clear hF
  go_enter Tryd.func28, Tryd.ntmps28
  go_wp2_with ((with_reducible change wpList _ _ _ (⟨some 7, _, _, _, _, _⟩ :: _) _ _); refine wpList_load_row (o := ⟨some 7, .load _ _, _, _, _, _⟩) rfl 49 _ rfl w.heap.size rfl 49 cs (0, 0) _ (HB.out _).2.1 Tryd.underlying49 rfl (by rw [HSZ.out]; kernel_rfl) ?_)
  refine (HW.out _).mono ?_
  rintro e w1 ⟨b1, rfl⟩
  have H1 := hide (show Blk w1 (w.heap.size + 1) 47 F ∧ Below w.heap.size w w1 from ⟨by rw [HF.out.2]; exact (HB.out _).2.2.below' b1, (HB.out _).1.trans (b1.mono (HB.out _).1.size)⟩)
  clear b1 HB
  go_wp2_with (refine wpList_store_row (o := ⟨none, .store _ (.tmp 2) _, _, _, _, _⟩) H1.out.1 F rfl (by rw [HF.out.2]; exact (dig_cells _ (by simp)).2) rfl 47 _ _ rfl (by rw [HF.out.1]; kernel_rfl) rfl (by rw [HF.out.2]; rfl) ?_; intro w7 hb7 hg7)
  refine bodyPost_ret (v := .tuple #[.agg F, .int .i64 133]) ?_ rfl ⟨H1.out.2.grown hg7 H1.out.2.size fun k hk => by injection hk with hk; omega, rfl⟩
  rw [results_cell_tmp rfl]
  have hlv := run_loadVar_row w7 (w.heap.size + 1) 47 47 F (0, 0) _ hb7 Tryd.underlying47 rfl (by rw [HF.out.1]; kernel_rfl)
  simp [asAddr, hlv, Result.andThen]
set_option maxRecDepth 100000 in
set_option maxHeartbeats 2000000 in
theorem digestU_ok (u : US) (hw : u.wf) (ha : u.may) (w : World) (ht : Tab w) :
    Calls Tryd.prog 31 #[.agg u.cells] w fun e w' => Below w.heap.size w w' ∧ e = .returned (.tuple #[.agg (bcells (tagD 8 (writeU u))).toArray, .int .i64 0]) := by
  have hwr := fun W (hW : Below w.heap.size w W) => writeU_ok u hw ha W (ht.below hW)
  have hl : (writeU u).length ≤ 1099511627000 := Nat.le_trans (writeU_len hw ha) (by omega)
  have hsz : u.cells.size = 68 := US.size_ hw
  obtain ⟨l, hll⟩ : ∃ l, l = writeU u := ⟨_, rfl⟩
  rw [← hll] at hwr hl ⊢
  obtain ⟨F, hF⟩ : ∃ F, F = (bcells (tagD 8 l)).toArray := ⟨_, rfl⟩
  have HF := hide (show F.size = 32 ∧ F.all (·.oneCell') = true from by rw [hF]; exact dig_cells _ (by simp))
  have QU := hide (fun A c W (h : By W (.slice A l.length c) l) => ueb_dig A c l W h hl)
  rw [← hF] at QU ⊢
  have HW := hide hwr
  clear hwr hF hll hl hw ha ht
  obtain ⟨cs, hcs⟩ : ∃ cs, cs = u.cells := ⟨_, rfl⟩
  rw [← hcs] at HW hsz ⊢
  have HSZ := hide hsz
  have HB := hide (pair_new w cs 49 47)
  clear hsz hcs
  go_enter Tryd.func31, Tryd.ntmps31
  go_wp2_with ((with_reducible change wpList _ _ _ (⟨some 7, _, _, _, _, _⟩ :: _) _ _); refine wpList_load_row (o := ⟨some 7, .load _ _, _, _, _, _⟩) rfl 49 _ rfl w.heap.size rfl 49 cs (0, 0) _ (HB.out _).2.1 Tryd.underlying49 rfl (by rw [HSZ.out]; kernel_rfl) ?_)
  refine (HW.out _ (HB.out _).1).mono ?_
  rintro e w1 ⟨b1, A1, c1, rfl, o1⟩
  obtain ⟨Z, hZ⟩ : ∃ Z : Array Value, Z = (bcells (List.replicate 32 0)).toArray := ⟨_, rfl⟩
  have H1 := hide (show Blk w1 (w.heap.size + 1) 47 Z ∧ Below w.heap.size w w1 ∧ Z.size = 32 ∧ By w1 (.slice A1 l.length c1) l from ⟨by rw [hZ]; exact (HB.out _).2.2.below' b1, (HB.out _).1.trans (b1.mono (HB.out _).1.size), by rw [hZ]; rfl, o1.by_⟩)
  clear hZ b1 o1 HB
  obtain ⟨n, hn⟩ : ∃ n, n = l.length := ⟨_, rfl⟩
  rw [← hn] at QU H1 ⊢
  clear hn
  go_wp2_with first
    | (go_at_call 67; refine (QU.out _ _ _ H1.out.2.2.2).mono ?_; rintro e w2 ⟨rfl, b2⟩; go_loud (have H2 := hide (And.intro (H1.out.2.1.trans (b2.mono H1.out.2.1.size)) (H1.out.1.below' b2)); clear b2))
    | ((with_reducible change wpList _ _ _ (⟨none, .store _ (.tmp 2) _, _, _, _, _⟩ :: _) _ _); refine wpList_store_row (o := ⟨none, .store _ (.tmp 2) _, _, _, _, _⟩) H2.out.2 F (by rw [HF.out.1, H1.out.2.2.1]) HF.out.2 rfl 47 _ _ rfl (by rw [HF.out.1]; kernel_rfl) rfl rfl ?_; intro w7 hb7 hg7)
  refine bodyPost_ret (v := .tuple #[.agg F, .int .i64 0]) ?_ rfl ⟨H2.out.1.grown hg7 H2.out.1.size fun k hk => by injection hk with hk; omega, rfl⟩
  rw [results_cell_tmp rfl]
  have hlv := run_loadVar_row w7 (w.heap.size + 1) 47 47 F (0, 0) _ hb7 Tryd.underlying47 rfl (by rw [HF.out.1]; kernel_rfl)
  simp [asAddr, hlv, Result.andThen]
set_option maxRecDepth 100000 in
set_option maxHeartbeats 2000000 in
theorem digestU_bad (u : US) (hw : u.wf) (hi : u.in64) (hn : ¬ u.may) (w : World) :
    Calls Tryd.prog 31 #[.agg u.cells] w fun e w' => Below w.heap.size w w' ∧ e = .returned (.tuple #[.agg (bcells (List.replicate 32 0)).toArray, .int .i64 133]) := by
  have HW := hide (fun W => writeU_bad u hw hi hn W)
  have hsz : u.cells.size = 68 := US.size_ hw
  obtain ⟨cs, hcs⟩ : ∃ cs, cs = u.cells := ⟨_, rfl⟩
  rw [← hcs] at HW hsz ⊢
  have HSZ := hide hsz
  have HB := hide (pair_new w cs 49 47)
  clear hsz hcs hn hw hi
  obtain ⟨F, hF⟩ : ∃ F : Array Value, F = (bcells (List.replicate 32 0)).toArray := ⟨_, rfl⟩
  have HF := hide (And.intro (show F.size = 32 by rw [hF]; rfl) hF)
  rw [← hF]
  clear hF
  go_enter Tryd.func31, Tryd.ntmps31
  go_wp2_with ((with_reducible change wpList _ _ _ (⟨some 7, _, _, _, _, _⟩ :: _) _ _); refine wpList_load_row (o := ⟨some 7, .load _ _, _, _, _, _⟩) rfl 49 _ rfl w.heap.size rfl 49 cs (0, 0) _ (HB.out _).2.1 Tryd.underlying49 rfl (by rw [HSZ.out]; kernel_rfl) ?_)
  refine (HW.out _).mono ?_
  rintro e w1 ⟨b1, rfl⟩
  have H1 := hide (show Blk w1 (w.heap.size + 1) 47 F ∧ Below w.heap.size w w1 from ⟨by rw [HF.out.2]; exact (HB.out _).2.2.below' b1, (HB.out _).1.trans (b1.mono (HB.out _).1.size)⟩)
  clear b1 HB
  go_wp2_with (refine wpList_store_row (o := ⟨none, .store _ (.tmp 2) _, _, _, _, _⟩) H1.out.1 F rfl (by rw [HF.out.2]; exact (dig_cells _ (by simp)).2) rfl 47 _ _ rfl (by rw [HF.out.1]; kernel_rfl) rfl (by rw [HF.out.2]; rfl) ?_; intro w7 hb7 hg7)
  refine bodyPost_ret (v := .tuple #[.agg F, .int .i64 133]) ?_ rfl ⟨H1.out.2.grown hg7 H1.out.2.size fun k hk => by injection hk with hk; omega, rfl⟩
  rw [results_cell_tmp rfl]
  have hlv := run_loadVar_row w7 (w.heap.size + 1) 47 47 F (0, 0) _ hb7 Tryd.underlying47 rfl (by rw [HF.out.1]; kernel_rfl)
  simp [asAddr, hlv, Result.andThen]
end Go.Proofs.YtkhlbpclfeakpaaDoor

/- The law UebWrite. Printed by wip/uwc.py. -/
namespace Go.Proofs.YtkhlbpclfeakpaaDoor.Apx
open Go.RowKit

/-- Two rows of bytes that share no block lie apart. -/
theorem apart2 {w : World} (base : Nat) {a b : Value} {la lb : List UInt8} (hbase : base ≤ w.heap.size) (ha : Own w base 5 a la) (hb : Own w base 5 b lb)
    (hab : Apt a b) (h1 : la.length ≤ 140737488355000) (h2 : lb.length ≤ 140737488355000) :
    Calls Tryd.prog 20 #[.slice (some ⟨w.heap.size, 0, none⟩) 2 2] (w.alloc (.cells #[a, b] 27)) fun e w' => e = .returned (.bool true) ∧ Below base w w' := by
  have hblk := Blk.new w 27 #[a, b]
  have hown := hblk.own (base := base) (n := 2) (cap := 2) (sz := 1) rfl hbase rfl (Nat.le_refl _) (by simp [maxLen])
  have := apart_any base (.slice (some ⟨w.heap.size, 0, none⟩) 2 2) 2 (fun j => match j with | 0 => a | _ => b) (fun j => match j with | 0 => la.length | _ => lb.length)
    (fun j => match j with | 0 => bcells la | _ => bcells lb) (w.alloc (.cells #[a, b] 27)) (by simp; omega) (fun j => by split <;> simp) (fun j _ => by split <;> assumption) (by omega) hown
    (fun j hj => by
      match j, hj with
      | 0, _ => exact World.ownsRow.alloc ha _
      | 1, _ => exact World.ownsRow.alloc hb _)
    (fun i j hi hj hne => by
      match i, hi, j, hj with
      | 0, _, 0, _ => exact absurd rfl hne
      | 1, _, 1, _ => exact absurd rfl hne
      | 0, _, 1, _ => exact hab
      | 1, _, 0, _ => exact hab.symm)
  exact this.mono fun e w' ⟨he, hb⟩ => ⟨he, ((Below.refl base w).alloc hbase _).trans hb⟩
end Go.Proofs.YtkhlbpclfeakpaaDoor.Apx
namespace Go.Proofs.YtkhlbpclfeakpaaDoor
open Go.RowKit

/-- A whole array is loaded, by an operation that is asked for. -/
theorem wpList_load_rowW {P : Program} {ops : Array Oper} {rest : List Oper} {o : Oper} {a : Act} {w : World} {Q : Exit → Act → World → Prop} (hw : Region.wanted o (yielded ops a.tmps) = true) (ty : TypeId) (x : Operand) (ho : o.op = .load ty x)
    (g : Nat) (hx : a.eval x = .pointer (some ⟨g, 0, none⟩)) (t : TypeId) (cs : Array Value) (fr : Nat × Nat) (d : TypeDesc) (hg : w.heap[g]? = some (.cells cs t fr))
    (hu : P.underlying ty = some d) (hd : (match d with | .struct _ | .array _ _ => true | _ => false) = true) (hi : (P.info? ty).map (·.size) = some cs.size)
    (h : wpList P ops Q rest (a.put o.dst (.agg cs)) w) : wpList P ops Q (o :: rest) a w :=
  wpList_step fun K hK => by
    rw [if_pos hw]
    exact wp_load_row ty x ho g hx t cs fr d hg hu hd hi (hK _ _ h)
theorem d8_size (w : World) : (sizeOf 5).run Tryd.prog w = .ok 1 w := u8_size w
theorem digs_eq (l : List UInt8) (h : l.length = 32) (w : World) : (Op.equalIn 10000 47 (.agg (bcells l).toArray) (.agg (bcells l).toArray)).run Tryd.prog w = .ok true w := by
  have h1 := run_equalIn_bytes (P := Tryd.prog) w 9998 47 5 32 Tryd.underlying47 Tryd.underlying5 d8_size l l h h
  rw [beq_self_eq_true] at h1
  exact h1
theorem store_new {w w2 w3 : World} {zs : Array Value} {t : TypeId} (hb : Below w.heap.size w w2) (hg : (w2.alloc (.cells zs t)).grownBy w3 (some w2.heap.size)) : Below w.heap.size w w3 ∧ ∀ (g : Nat) (t' : TypeId) (cs : Array Value), Blk w2 g t' cs → Blk w3 g t' cs :=
  ⟨(hb.alloc hb.size _).grown hg (Nat.le_trans hb.size (by simp)) fun k hk => by injection hk with hk; rw [← hk]; exact hb.size, fun g t' cs h => (h.alloc _).grown hg (by have := h.lt; simp; omega)⟩
theorem store_by {w2 w3 : World} {zs : Array Value} {t : TypeId} {v : Value} {l : List UInt8} (h : By w2 v l) (hg : (w2.alloc (.cells zs t)).grownBy w3 (some w2.heap.size)) : By w3 v l :=
  h.keep (Nat.le_trans (by simp) hg.size) fun b hb => (hg.block b (by simp; omega) (by simp; omega)).trans (Below.heap_alloc w2 _ b hb)
theorem store_own {w2 w3 : World} {base : Nat} {zs : Array Value} {t e : TypeId} {v : Value} {l : List UInt8} (h : Own w2 base e v l) (hg : (w2.alloc (.cells zs t)).grownBy w3 (some w2.heap.size)) : Own w3 base e v l :=
  Own.below h ⟨hg.os, hg.tape, hg.output, Nat.le_trans (by simp) hg.size, fun b hb => (hg.block b (by simp; omega) (by simp; omega)).trans (Below.heap_alloc w2 _ b hb)⟩
/-- What all answer of a Ueb, whether it may be or not. -/
structure Ans (u : US) (w : World) (l : List UInt8) (er : Int) (d : List UInt8) : Prop where
  len : l.length ≤ 67108864
  dig : d.length = 32
  rw_ : ∀ W, Calls Tryd.prog 27 #[.agg u.cells] W fun e w' => Below W.heap.size W w' ∧ ∃ A c, e = .returned (.tuple #[.slice A l.length c, .int .i64 er]) ∧ Own w' W.heap.size 5 (.slice A l.length c) l
  rd_ : ∀ W, Calls Tryd.prog 28 #[.agg u.cells] W fun e w' => Below W.heap.size W w' ∧ e = .returned (.tuple #[.agg (bcells d).toArray, .int .i64 er])
  pw : ∀ W, Below w.heap.size w W → Calls Tryd.prog 29 #[.agg u.cells] W fun e w' => Below W.heap.size W w' ∧ ∃ A c, e = .returned (.tuple #[.slice A l.length c, .int .i64 er]) ∧ Own w' W.heap.size 5 (.slice A l.length c) l
  pl : ∀ W, Below w.heap.size w W → Calls Tryd.prog 30 #[.agg u.cells] W fun e w' => Below W.heap.size W w' ∧ e = .returned (.tuple #[.int .i64 (l.length : Int), .int .i64 er])
  pd : ∀ W, Below w.heap.size w W → Calls Tryd.prog 31 #[.agg u.cells] W fun e w' => Below W.heap.size W w' ∧ e = .returned (.tuple #[.agg (bcells d).toArray, .int .i64 er])
  pc : ∀ W, Calls Tryd.prog 32 #[.agg u.cells] W fun e w' => Below W.heap.size W w' ∧ e = .returned (.int .i64 er)
theorem ans_ex (u : US) (hw : u.wf) (hi : u.in64) (w : World) (ht : Tab w) : ∃ l er d, Ans u w l er d := by
  by_cases ha : u.may
  · refine ⟨writeU u, 0, tagD 8 (writeU u), writeU_len hw ha, by simp, fun W => rwrite_ok u hw ha W, fun W => rdigestU_ok u hw ha W, fun W hW => writeU_ok u hw ha W (ht.below hW), fun W hW => ?_, fun W hW => digestU_ok u hw ha W (ht.below hW), fun W => ?_⟩
    · have := length_any u.k u.n u.seg u.size u.sh u.sg W hi.1 hi.2.1 hi.2.2.1 hi.2.2.2 hw.1 hw.2 (ht.below hW)
      rw [if_pos (show agOK u.k u.n u.seg u.size from ha)] at this
      exact this
    · have := checkU u hi W
      rw [if_pos (show agOK u.k u.n u.seg u.size from ha)] at this
      exact this
  · refine ⟨[], 133, List.replicate 32 0, by simp, by simp, fun W => ?_, fun W => rdigestU_bad u hw ha W, fun W hW => ?_, fun W hW => ?_, fun W hW => digestU_bad u hw hi ha W, fun W => ?_⟩
    · exact (rwrite_bad u hw ha W).mono fun e w' ⟨h1, h2⟩ => ⟨h1, none, 0, h2, Own.nil _ _ _⟩
    · exact (writeU_bad u hw hi ha W).mono fun e w' ⟨h1, h2⟩ => ⟨h1, none, 0, h2, Own.nil _ _ _⟩
    · have := length_any u.k u.n u.seg u.size u.sh u.sg W hi.1 hi.2.1 hi.2.2.1 hi.2.2.2 hw.1 hw.2 (ht.below hW)
      rw [if_neg (show ¬ agOK u.k u.n u.seg u.size from ha)] at this
      exact this
    · have := checkU u hi W
      rw [if_neg (show ¬ agOK u.k u.n u.seg u.size from ha)] at this
      exact this
set_option maxRecDepth 100000 in
set_option maxHeartbeats 8000000 in
theorem law_uwrite (u : US) (w : World) (hw : u.wf) (hi : u.in64) (ht : Tab w) :
    Calls Tryd.prog 6 #[.agg u.cells] w fun e w' => e = .returned (.bool true) ∧ Below w.heap.size w w' := by
  obtain ⟨l, er, d, hans⟩ := ans_ex u hw hi w ht
  have hsz : u.cells.size = 68 := US.size_ hw
  obtain ⟨cs, hcs⟩ : ∃ cs, cs = u.cells := ⟨_, rfl⟩
  have HR := hide hans.rw_
  have HD := hide hans.rd_
  have HP := hide hans.pw
  have HLn := hide hans.pl
  have HG := hide hans.pd
  have HC := hide hans.pc
  have hcmp := digs_eq d hans.dig
  obtain ⟨F, hF⟩ : ∃ F, F = (bcells d).toArray := ⟨_, rfl⟩
  have HF := hide (show F.size = 32 ∧ F.all (·.oneCell') = true from by rw [hF]; exact dig_cells _ hans.dig)
  rw [← hcs, ← hF] at HD HG
  rw [← hcs] at HR HP HLn HC hsz ⊢
  rw [← hF] at hcmp
  have HLE := hide hans.len
  obtain ⟨n, hn⟩ : ∃ n, n = l.length := ⟨_, rfl⟩
  rw [← hn] at HR HP HLn
  have HN := hide hn
  have HSZ := hide hsz
  have HB := hide (And.intro (Blk.new w 49 cs) ((Below.refl w.heap.size w).alloc (Nat.le_refl _) (.cells cs 49)))
  clear hans hsz hcs hF hn hw hi ht
  go_enter Tryd.func6, Tryd.ntmps6
  go_wp2_with first
    | ((with_reducible change wpList _ _ _ (⟨some 16, _, _, _, _, _⟩ :: _) _ _); refine wpList_load_row (o := ⟨some 16, .load _ _, _, _, _, _⟩) rfl 49 _ rfl w.heap.size rfl 49 cs (0, 0) _ HB.out.1 Tryd.underlying49 rfl (by rw [HSZ.out]; kernel_rfl) ?_)
    | (go_at_call 27; refine (HR.out _).mono ?_; rintro e w1 ⟨b1, A1, c1, rfl, o1⟩; go_loud (have H1 := hide (And.intro (HB.out.1.below' b1) (And.intro (HB.out.2.trans (b1.mono HB.out.2.size)) o1.by_)); clear b1 o1))
    | ((with_reducible change wpList _ _ _ (⟨some 21, _, _, _, _, _⟩ :: _) _ _); refine wpList_load_row (o := ⟨some 21, .load _ _, _, _, _, _⟩) rfl 49 _ rfl w.heap.size rfl 49 cs (0, 0) _ H1.out.1 Tryd.underlying49 rfl (by rw [HSZ.out]; kernel_rfl) ?_)
    | (go_at_call 28; refine (HD.out _).mono ?_; rintro e w2 ⟨b2, rfl⟩; go_loud (have H2 := hide (And.intro (H1.out.1.below' b2) (And.intro (H1.out.2.1.trans (b2.mono H1.out.2.1.size)) (H1.out.2.2.below b2))); clear b2))
    | ((with_reducible change wpList _ _ _ (⟨none, .store _ (.tmp 5) _, _, _, _, _⟩ :: _) _ _); refine wpList_store_row (o := ⟨none, .store _ (.tmp 5) _, _, _, _, _⟩) (Blk.new w2 47 _) F (by rw [HF.out.1]; rfl) HF.out.2 rfl 47 _ _ rfl (by rw [HF.out.1]; kernel_rfl) rfl rfl ?_; intro w3 hb3 hg3; go_loud (have hbel := store_new H2.out.2.1 hg3; have H3 := hide (And.intro (hbel.2 _ _ _ H2.out.1) (And.intro hbel.1 (And.intro (store_by H2.out.2.2 hg3) (And.intro hb3 (show w2.heap.size < w3.heap.size from hb3.lt))))); clear hb3 hg3 hbel))
    | ((with_reducible change wpList _ _ _ (⟨some 26, _, _, _, _, _⟩ :: _) _ _); refine wpList_load_row (o := ⟨some 26, .load _ _, _, _, _, _⟩) rfl 49 _ rfl w.heap.size rfl 49 cs (0, 0) _ H3.out.1 Tryd.underlying49 rfl (by rw [HSZ.out]; kernel_rfl) ?_)
    | (go_at_call 29; first
        | (refine (HP.out w3 H3.out.2.1).mono ?_; rintro e w4 ⟨b4, A4, c4, rfl, o4⟩; go_loud (have H4 := hide (And.intro (H3.out.1.below' b4) (And.intro (H3.out.2.1.trans (b4.mono H3.out.2.1.size)) (And.intro (H3.out.2.2.1.below b4) (And.intro (H3.out.2.2.2.1.below' b4) o4)))); clear b4 o4))
        | (refine (HP.out w4 H4.out.2.1).mono ?_; rintro e w5 ⟨b5, A5, c5, rfl, o5⟩; go_loud (have H5 := hide (And.intro (H4.out.1.below' b5) (And.intro (H4.out.2.1.trans (b5.mono H4.out.2.1.size)) (And.intro (H4.out.2.2.1.below b5) (And.intro (H4.out.2.2.2.1.below' b5) (And.intro (H4.out.2.2.2.2.below b5) (And.intro o5 (Apx.apt_later H4.out.2.2.2.2 o5 (Nat.le_refl _)))))))); clear b5 o5)))
    | ((with_reducible change wpList _ _ _ (⟨some 31, _, _, _, _, _⟩ :: _) _ _); refine wpList_load_row (o := ⟨some 31, .load _ _, _, _, _, _⟩) rfl 49 _ rfl w.heap.size rfl 49 cs (0, 0) _ H4.out.1 Tryd.underlying49 rfl (by rw [HSZ.out]; kernel_rfl) ?_)
    | ((with_reducible change wpList _ _ _ (⟨some 36, _, _, _, _, _⟩ :: _) _ _); refine wpList_load_row (o := ⟨some 36, .load _ _, _, _, _, _⟩) rfl 49 _ rfl w.heap.size rfl 49 cs (0, 0) _ H5.out.1 Tryd.underlying49 rfl (by rw [HSZ.out]; kernel_rfl) ?_)
    | (go_at_call 30; refine (HLn.out _ H5.out.2.1).mono ?_; rintro e w6 ⟨b6, rfl⟩; go_loud (have H6 := hide (And.intro (H5.out.1.below' b6) (And.intro (H5.out.2.1.trans (b6.mono H5.out.2.1.size)) (And.intro (H5.out.2.2.1.below b6) (And.intro (H5.out.2.2.2.1.below' b6) (And.intro (H5.out.2.2.2.2.1.below b6) (H5.out.2.2.2.2.2.1.below b6)))))); clear b6))
    | ((with_reducible change wpList _ _ _ (⟨some 41, _, _, _, _, _⟩ :: _) _ _); refine wpList_load_row (o := ⟨some 41, .load _ _, _, _, _, _⟩) rfl 49 _ rfl w.heap.size rfl 49 cs (0, 0) _ H6.out.1 Tryd.underlying49 rfl (by rw [HSZ.out]; kernel_rfl) ?_)
    | (go_at_call 31; refine (HG.out _ H6.out.2.1).mono ?_; rintro e w7 ⟨b7, rfl⟩; go_loud (have H7 := hide (And.intro (H6.out.1.below' b7) (And.intro (H6.out.2.1.trans (b7.mono H6.out.2.1.size)) (And.intro (H6.out.2.2.1.below b7) (And.intro (H6.out.2.2.2.1.below' b7) (And.intro (H6.out.2.2.2.2.1.below b7) (H6.out.2.2.2.2.2.below b7)))))); clear b7))
    | ((with_reducible change wpList _ _ _ (⟨none, .store _ (.tmp 13) _, _, _, _, _⟩ :: _) _ _); refine wpList_store_row (o := ⟨none, .store _ (.tmp 13) _, _, _, _, _⟩) (Blk.new w7 47 _) F (by rw [HF.out.1]; rfl) HF.out.2 rfl 47 _ _ rfl (by rw [HF.out.1]; kernel_rfl) rfl rfl ?_; intro w8 hb8 hg8; go_loud (have hbel := store_new H7.out.2.1 hg8; have H8 := hide (And.intro (hbel.2 _ _ _ H7.out.1) (And.intro hbel.1 (And.intro (store_by H7.out.2.2.1 hg8) (And.intro (hbel.2 _ _ _ H7.out.2.2.2.1) (And.intro (store_own H7.out.2.2.2.2.1 hg8) (And.intro (store_own H7.out.2.2.2.2.2 hg8) hb8)))))); clear hb8 hg8 hbel))
    | ((with_reducible change wpList _ _ _ (⟨some 45, _, _, _, _, _⟩ :: _) _ _); refine wpList_load_row (o := ⟨some 45, .load _ _, _, _, _, _⟩) rfl 49 _ rfl w.heap.size rfl 49 cs (0, 0) _ H8.out.1 Tryd.underlying49 rfl (by rw [HSZ.out]; kernel_rfl) ?_)
    | (go_at_call 32; refine (HC.out _).mono ?_; rintro e w9 ⟨b9, rfl⟩; go_loud (have H9 := hide (And.intro (H8.out.2.1.trans (b9.mono H8.out.2.1.size)) (And.intro (H8.out.2.2.1.below b9) (And.intro (H8.out.2.2.2.1.below' b9) (And.intro (H8.out.2.2.2.2.1.below b9) (And.intro (H8.out.2.2.2.2.2.1.below b9) (H8.out.2.2.2.2.2.2.below' b9)))))); clear b9))
    | ((with_reducible change wpList _ _ _ (⟨some 71, _, _, _, _, _⟩ :: _) _ _); refine wpList_load_rowW (o := ⟨some 71, .load _ _, _, _, _, _⟩) (by kernel_rfl) 47 _ rfl w7.heap.size (by kernel_rfl) 47 F (0, 0) _ H9.out.2.2.2.2.2 Tryd.underlying47 rfl (by rw [HF.out.1]; kernel_rfl) ?_)
    | ((with_reducible change wpList _ _ _ (⟨some 72, _, _, _, _, _⟩ :: _) _ _); refine wpList_load_rowW (o := ⟨some 72, .load _ _, _, _, _, _⟩) (by kernel_rfl) 47 _ rfl w2.heap.size (by kernel_rfl) 47 F (0, 0) _ H9.out.2.2.1 Tryd.underlying47 rfl (by rw [HF.out.1]; kernel_rfl) ?_)
    | (go_at_call 19; first
        | ((with_reducible refine (same_any (.slice A4 n c4) (.slice A1 n c1) l l w9 H9.out.2.2.2.1.by_ H9.out.2.1).mono ?_); rintro e w10 ⟨rfl, b10⟩; go_loud (rw [decide_eq_true rfl]; have H10 := hide (And.intro (H9.out.1.trans (b10.mono H9.out.1.size)) (And.intro (H9.out.2.1.below b10) (And.intro (H9.out.2.2.2.1.below b10) (H9.out.2.2.2.2.1.below b10)))); clear b10))
        | ((with_reducible refine (same_any (.slice A5 n c5) (.slice A1 n c1) l l w10 H10.out.2.2.2.by_ H10.out.2.1).mono ?_); rintro e w11 ⟨rfl, b11⟩; go_loud (rw [decide_eq_true rfl]; have H11 := hide (And.intro (H10.out.1.trans (b11.mono H10.out.1.size)) (And.intro (H10.out.2.2.1.below b11) (H10.out.2.2.2.below b11))); clear b11)))
  with_reducible refine (Apx.apart2 w.heap.size H11.out.1.size (own_lower H11.out.2.1 H3.out.2.1.size) (own_lower H11.out.2.2 H4.out.2.1.size) H5.out.2.2.2.2.2.2 (by have := HLE.out; omega) (by have := HLE.out; omega)).mono ?_
  rintro e w12 ⟨rfl, b12⟩
  go_wp2
  go_ret
  exact ⟨rfl, H11.out.1.trans b12⟩
end Go.Proofs.YtkhlbpclfeakpaaDoor

/- From the reading of an argument to what the walks are told of it. -/
namespace Go.Proofs.YtkhlbpclfeakpaaDoor
open Go.RowKit

theorem cell_lt {w : World} {a : Addr} {v : Value} (h : w.cell? a = some v) : a.block < w.heap.size := by
  rcases Nat.lt_or_ge a.block w.heap.size with h1 | h1
  · exact h1
  · simp [World.cell?, Array.getElem?_eq_none h1] at h

/-- A slice of bytes that came in. -/
theorem by_of_row {w : World} {a : Addr} {len cap : Nat} {zs : List Int} (hl : len ≤ cap) (hm : cap ≤ maxLen) (hz : zs.length = cap)
    (hcell : ∀ i, i < zs.length → w.cell? (a.add i) = some (.int .u8 (zs.getD i 0))) (hwz : ∀ n ∈ zs, (Lit.int .u8 n).wf = true) :
    ∃ l : List UInt8, l.length = len ∧ By w (.slice (some a) len cap) l := by
  refine ⟨(zs.take len).map fun z => UInt8.ofNat z.toNat, by simp; omega, ?_, some a, cap, by simp; omega, by simp; omega, hm, fun h0 => ?_⟩
  · simp
  · obtain ⟨b, o, sp⟩ := a
    simp only [List.length_map, List.length_take] at h0
    have h1 := hcell 0 (by omega)
    have hsp : sp = none := by simpa [Addr.add] using World.cell?_spot h1
    subst hsp
    refine ⟨b, o, rfl, cell_lt (a := ⟨b, o, none⟩) (by simpa [Addr.add] using h1), fun j hj => ?_⟩
    simp only [List.length_map, List.length_take, Nat.mul_one] at hj
    have hc := hcell j (by omega)
    rw [Addr.add_mid] at hc
    rw [hc, bcells_get, List.getElem?_map, List.getElem?_take_of_lt (by omega), List.getElem?_eq_getElem (by omega)]
    have hw := hwz zs[j] (List.getElem_mem (by omega))
    have hb : 0 ≤ zs[j] ∧ zs[j] ≤ 255 := by simpa [Lit.wf, IntKind.min, IntKind.max, IntKind.bits, IntKind.signed] using hw
    simp only [Option.map_some, Option.some.injEq, Value.int.injEq, true_and]
    rw [List.getD_eq_getElem?_getD, List.getElem?_eq_getElem (by omega), Option.getD_some, UInt8.toNat_ofNat']
    omega

end Go.Proofs.YtkhlbpclfeakpaaDoor

/- What the bound of an Upto statement gives: of each argument that it is small. -/
namespace Go.Proofs.YtkhlbpclfeakpaaDoor.bulks

theorem one_le {H : Type} (d : DataW H) : 1 ≤ Rows.uptoBulk d := by
  cases d with
  | lit l => cases l <;> simp [Rows.uptoBulk]
  | nil => simp [Rows.uptoBulk]
  | ptr d => simp [Rows.uptoBulk]
  | slice a b => simp [Rows.uptoBulk]
  | agg a => simp [Rows.uptoBulk]
  | iface t d => simp [Rows.uptoBulk]
  | map a => simp [Rows.uptoBulk]
  | held h => simp [Rows.uptoBulk]
theorem in_all {H : Type} {d : DataW H} {l : List (DataW H)} (h : d ∈ l) : Rows.uptoBulk d ≤ Rows.uptoBulkAll l := by
  induction l with
  | nil => cases h
  | cons x r ih =>
    simp only [Rows.uptoBulkAll]
    rcases List.mem_cons.1 h with e | e
    · subst e; omega
    · have := ih e; omega
theorem count_le {H : Type} (l : List (DataW H)) : l.length ≤ Rows.uptoBulkAll l := by
  induction l with
  | nil => simp [Rows.uptoBulkAll]
  | cons x r ih => have := one_le x; simp only [Rows.uptoBulkAll, List.length_cons]; omega
theorem slice_le {H : Type} (a b : List (DataW H)) : a.length + b.length + 1 ≤ Rows.uptoBulk (.slice a b) := by
  have h1 := count_le a
  have h2 := count_le b
  simp only [Rows.uptoBulk]
  omega
theorem elems_le {H : Type} (a b : List (DataW H)) : Rows.uptoBulkAll a + 1 ≤ Rows.uptoBulk (.slice a b) := by
  simp only [Rows.uptoBulk]; omega
theorem string_eq {H : Type} (b : List UInt8) : Rows.uptoBulk (DataW.lit (H := H) (.string b)) = b.length + 1 := by simp [Rows.uptoBulk]
/-- Each part of what is read is within the bound. -/
theorem part {H : Type} {l : List (DataW H)} (hk : Rows.uptoSmall H l = true) {d : DataW H} (h : d ∈ l) : Rows.uptoBulk d ≤ 1048576 :=
  Nat.le_trans (in_all h) (of_decide_eq_true hk)
end Go.Proofs.YtkhlbpclfeakpaaDoor.bulks

/- A Ueb that came in, as the walks are told of it. -/
namespace Go.Proofs.YtkhlbpclfeakpaaDoor
open Go.RowKit Go.ChangeShapes Go.WideShapes

set_option maxRecDepth 10000
section
variable {H : Type} {enc : TypeId × Value → H} {w : World} {base : Nat} {spare : Nat → Bool} {held : Bool}
theorem digest_of {cs : List Value} {fuel : Nat} {x : DataW H × List MemPlace} (h : DataW.trod enc Tryd.prog w base spare held fuel 47 cs = some x) : ∃ l : List UInt8, cs = bcells l ∧ l.length = 32 := by
  obtain ⟨xs, m, rfl, hx, hl, hxl, hf⟩ := DataW.trod_array Tryd.underlying47 h
  rw [show Tryd.prog.cellsOf 47 = 32 by kernel_rfl] at hl
  have hc1 : Tryd.prog.cellsOf 5 = 1 := by kernel_rfl
  have key : ∀ i, i < 32 → ∃ b : UInt8, cs[i]? = some (.int .u8 (b.toNat : Int)) := by
    intro i hi
    have h1 := hf i hi
    rw [hc1, Nat.mul_one, List.getElem?_eq_getElem (show i < xs.length by omega)] at h1
    obtain ⟨n, h2, _, h3⟩ := DataW.trod_int Tryd.underlying5 h1
    have h4 : cs[i]? = some (.int .u8 n) := by
      have := congrArg (·[0]?) h2
      simpa using this
    have h5 : 0 ≤ n ∧ n < 256 := by
      have h6 : 0 ≤ n ∧ n ≤ 255 := by simpa [Lit.wf, IntKind.min, IntKind.max, IntKind.signed, IntKind.bits] using h3
      omega
    refine ⟨UInt8.ofNat n.toNat, ?_⟩
    have h7 : ((UInt8.ofNat n.toNat).toNat : Int) = n := by
      rw [UInt8.toNat_ofNat']
      omega
    rw [h4, h7]
  refine ⟨cs.map fun v => match v with | .int _ n => UInt8.ofNat n.toNat | _ => 0, ?_, by simp [hl]⟩
  refine List.ext_getElem? fun i => ?_
  by_cases hi : i < 32
  · obtain ⟨b, hb⟩ := key i hi
    rw [bcells_get, List.getElem?_map, hb]
    simp
  · rw [List.getElem?_eq_none (by omega), List.getElem?_eq_none (by simp [hl]; omega)]
theorem cut_list {α : Type} (l : List α) (i j : Nat) : l.drop i = (l.drop i).take j ++ l.drop (i + j) := by
  rw [← List.drop_drop, List.take_append_drop]
theorem ueb_of {cs : List Value} {fuel : Nat} {x : DataW H × List MemPlace} (h : DataW.trod enc Tryd.prog w base spare held fuel 49 cs = some x) : ∃ u : US, cs.toArray = u.cells ∧ u.wf ∧ u.in64 := by
  obtain ⟨xs, m, rfl, hx, hl, hxl, hf⟩ := DataW.trod_struct Tryd.underlying49 h
  rw [show Tryd.prog.cellsOf 49 = 68 by kernel_rfl] at hl
  have c1 : Tryd.prog.cellsOf 3 = 1 := by kernel_rfl
  have c2 : Tryd.prog.cellsOf 47 = 32 := by kernel_rfl
  have hx6 : xs.length = 6 := hxl
  have get : ∀ i, i < 6 → ∃ y, xs[i]? = some y := fun i hi => ⟨_, List.getElem?_eq_getElem (by omega)⟩
  obtain ⟨y0, g0⟩ := get 0 (by omega)
  obtain ⟨y1, g1⟩ := get 1 (by omega)
  obtain ⟨y2, g2⟩ := get 2 (by omega)
  obtain ⟨y3, g3⟩ := get 3 (by omega)
  obtain ⟨y4, g4⟩ := get 4 (by omega)
  obtain ⟨y5, g5⟩ := get 5 (by omega)
  have f0 : DataW.trod enc Tryd.prog w base spare held m 3 ((cs.drop 0).take (Tryd.prog.cellsOf 3)) = some y0 := (hf 0 _ rfl).trans g0
  have f1 : DataW.trod enc Tryd.prog w base spare held m 3 ((cs.drop 1).take (Tryd.prog.cellsOf 3)) = some y1 := (hf 1 _ rfl).trans g1
  have f2 : DataW.trod enc Tryd.prog w base spare held m 3 ((cs.drop 2).take (Tryd.prog.cellsOf 3)) = some y2 := (hf 2 _ rfl).trans g2
  have f3 : DataW.trod enc Tryd.prog w base spare held m 3 ((cs.drop 3).take (Tryd.prog.cellsOf 3)) = some y3 := (hf 3 _ rfl).trans g3
  have f4 : DataW.trod enc Tryd.prog w base spare held m 47 ((cs.drop 4).take (Tryd.prog.cellsOf 47)) = some y4 := (hf 4 _ rfl).trans g4
  have f5 : DataW.trod enc Tryd.prog w base spare held m 47 ((cs.drop 36).take (Tryd.prog.cellsOf 47)) = some y5 := (hf 5 _ rfl).trans g5
  rw [c1] at f0 f1 f2 f3
  rw [c2] at f4 f5
  obtain ⟨k, e0, _, w0⟩ := DataW.trod_int Tryd.underlying3 f0
  obtain ⟨n, e1, _, w1⟩ := DataW.trod_int Tryd.underlying3 f1
  obtain ⟨seg, e2, _, w2⟩ := DataW.trod_int Tryd.underlying3 f2
  obtain ⟨size, e3, _, w3⟩ := DataW.trod_int Tryd.underlying3 f3
  obtain ⟨sh, e4, l4⟩ := digest_of f4
  obtain ⟨sg, e5, l5⟩ := digest_of f5
  refine ⟨⟨k, n, seg, size, sh, sg⟩, ?_, ⟨l4, l5⟩, wf64 w0, wf64 w1, wf64 w2, wf64 w3⟩
  have hcs : cs = .int .i64 k :: .int .i64 n :: .int .i64 seg :: .int .i64 size :: (bcells sh ++ bcells sg) := by
    have a0 := cut_list cs 0 1
    have a1 := cut_list cs 1 1
    have a2 := cut_list cs 2 1
    have a3 := cut_list cs 3 1
    have a4 := cut_list cs 4 32
    have a5 := cut_list cs 36 32
    rw [e0] at a0
    rw [e1] at a1
    rw [e2] at a2
    rw [e3] at a3
    rw [e4] at a4
    rw [e5, show 36 + 32 = 68 from rfl, List.drop_eq_nil_of_le (show cs.length ≤ 68 by omega), List.append_nil] at a5
    rw [show 4 + 32 = 36 from rfl, a5] at a4
    rw [show 3 + 1 = 4 from rfl, a4] at a3
    rw [show 2 + 1 = 3 from rfl, a3] at a2
    rw [show 1 + 1 = 2 from rfl, a2] at a1
    rw [show 0 + 1 = 1 from rfl, a1] at a0
    rw [List.drop_zero] at a0
    exact a0
  rw [hcs]
  rfl
theorem open_ueb {v : Value} {d : DataW H} {p : List MemPlace} {r : Reach} {b0 : Nat} {P' : World} (hv : Value.okWide Tryd.prog P' r b0 49 v) (h : DataW.Trod enc Tryd.prog w base spare held 49 v d p) : ∃ u : US, v = .agg u.cells ∧ u.wf ∧ u.in64 := by
  obtain ⟨cs, rfl, _⟩ := okWide_struct Tryd.underlying49 hv
  obtain ⟨fuel, hf⟩ := h
  obtain ⟨u, h1, h2⟩ := ueb_of hf
  exact ⟨u, by rw [← h1]; exact congrArg Value.agg (Array.toArray_toList).symm, h2⟩
end
end Go.Proofs.YtkhlbpclfeakpaaDoor
