/- The law UebUnpack. -/
import Derived.Test.YteaagngikiaokaaDoorApS
import Derived.Test.YteaagngikiaokaaDoorRefV
import Derived.Test.YteaagngikiaokaaDoorAwkA
namespace Go.Proofs.YteaagngikiaokaaDoor
open Go.RowKit

theorem unpack_len {b : List UInt8} {L : List RowV} (h : unpack b = (rws L, 0, 0)) : L.length ≤ 64 ∧ ∀ x ∈ L, x.2.2.length ≤ 65536 := by
  rcases unpack_cases b with ⟨rs, h1, _, h3⟩ | ⟨p, _, h1⟩
  · rw [h1] at h
    have e1 : rs = rws L := (Prod.mk.inj h).1
    subst e1
    have h64 := may_len h3
    rw [rws_length] at h64
    refine ⟨h64, fun x hx => ?_⟩
    exact (may_mem h3 (lst x.1, x.2.2) (by unfold rws; exact List.mem_map_of_mem (f := fun x : RowV => (lst x.1, x.2.2)) hx)).2
  · rw [h1] at h
    simp at h
/-- What Unpack hands back, success or none. -/
def UnP (b : List UInt8) (rs : List Rw) (p er : Nat) : Prop := unpack b = (rs, p, er) ∧ (er = 0 ∧ p = 0 ∨ er = 131 ∧ rs = []) ∧ p ≤ 9223372036854775807
theorem unP_ex (b : List UInt8) (hb : b.length ≤ 1048576) : ∃ rs p er, UnP b rs p er := by
  rcases unpack_cases b with ⟨rs, h1, _, _⟩ | ⟨p, hp, h1⟩
  · exact ⟨rs, 0, 0, h1, .inl ⟨rfl, rfl⟩, by omega⟩
  · exact ⟨[], p, 131, h1, .inr ⟨rfl, rfl⟩, by omega⟩
structure Got (w : World) (base : Nat) (A : Option Addr) (c : Nat) (L : List RowV) (rs : List Rw) : Prop where
  own : OwnR w base (.slice A L.length c) L
  apv : Apv L
  eq : rws L = rs
  len : L.length ≤ 64
  lens : ∀ x ∈ L, x.2.2.length ≤ 65536
theorem Got.below {w w' : World} {base : Nat} {A : Option Addr} {c : Nat} {L : List RowV} {rs : List Rw} (h : Got w base A c L rs) (hb : Below w.heap.size w w') : Got w' base A c L rs := ⟨h.own.below hb, h.apv, h.eq, h.len, h.lens⟩
theorem Got.later {w w' : World} {base g : Nat} {A : Option Addr} {c : Nat} {L : List RowV} {rs : List Rw} (h : Got w base A c L rs) (hg : w.grownBy w' (some g)) (hlt : g < base) : Got w' base A c L rs := by
  refine ⟨⟨own_grown h.own.1 hg fun k hk e => ?_, fun x hx => own_grown (h.own.2 x hx) hg fun k hk e => ?_⟩, h.apv, h.eq, h.len, h.lens⟩
  · have := (h.own.1.lt k hk).1
    injection e with e
    omega
  · have := (World.ownsRow.lt (h.own.2 x hx) k hk).1
    injection e with e
    omega
theorem unpack_of (v : Value) (b : List UInt8) (rs : List Rw) (p er : Nat) (w : World) (h : By w v b) (hl : b.length ≤ 9223372036854775807) (ht : Tab w) (he : Err w) (hu : UnP b rs p er) :
    Calls Tryd.prog 20 #[v] w fun e w' => Below w.heap.size w w' ∧ ∃ A c L, e = .returned (.tuple #[.slice A L.length c, .int .i64 (p : Int), .int .i64 (er : Int)]) ∧ Got w' w.heap.size A c L rs := by
  refine (unpack_apt v b w h hl ht he).mono ?_
  rintro e w' ⟨hb, ⟨L, v', h1, rfl, h3, h4⟩ | ⟨q, h1, rfl⟩⟩
  · have h5 := hu.1
    rw [h1] at h5
    obtain ⟨rfl, rfl, rfl⟩ : rws L = rs ∧ 0 = p ∧ 0 = er := by simpa using h5
    obtain ⟨A, c, rfl, _⟩ := h3.rws_.form
    have := unpack_len h1
    exact ⟨hb, A, c, L, rfl, h3, h4, rfl, this.1, this.2⟩
  · have h5 := hu.1
    rw [h1] at h5
    obtain ⟨rfl, rfl, rfl⟩ : [] = rs ∧ q = p ∧ 131 = er := by simpa using h5
    exact ⟨hb, none, 0, [], rfl, OwnR.nil _ _, List.Pairwise.nil, rfl, by simp, fun x hx => by cases hx⟩
theorem runpack_of (v : Value) (b : List UInt8) (rs : List Rw) (p er : Nat) (w : World) (h : By w v b) (hl : b.length ≤ 1099511627776) (hu : UnP b rs p er) :
    Calls Tryd.prog 23 #[v] w fun e w' => Below w.heap.size w w' ∧ ∃ A c L, e = .returned (.tuple #[.slice A L.length c, .int .i64 (p : Int), .int .i64 (er : Int)]) ∧ Rws w' (.slice A L.length c) L ∧ rws L = rs := by
  refine (runpack_any v b w h hl).mono ?_
  rintro e w' ⟨hb, ⟨L, v', h1, rfl, h3⟩ | ⟨q, h1, rfl⟩⟩
  · have h5 := hu.1
    rw [h1] at h5
    obtain ⟨rfl, rfl, rfl⟩ : rws L = rs ∧ 0 = p ∧ 0 = er := by simpa using h5
    obtain ⟨A, c, rfl, _⟩ := h3.rws_.form
    exact ⟨hb, A, c, L, rfl, h3.rws_, rfl⟩
  · have h5 := hu.1
    rw [h1] at h5
    obtain ⟨rfl, rfl, rfl⟩ : [] = rs ∧ q = p ∧ 131 = er := by simpa using h5
    exact ⟨hb, none, 0, [], rfl, Rws.nil _, rfl⟩

theorem OwnR.base {w : World} {b b' : Nat} {v : Value} {L : List RowV} (h : OwnR w b v L) (hb : b' ≤ b) : OwnR w b' v L := ⟨Apk.own_base h.1 hb, fun x hx => Apk.own_base (h.2 x hx) hb⟩
/-- Two that were handed out one behind the other share nothing. -/
def Far (v u : Value) (L M : List RowV) : Prop := Apk.Apt v u ∧ ∀ x ∈ L, ∀ y ∈ M, Apk.Apt x.2.1 y.2.1
theorem far_of {w1 w2 : World} {b1 b2 : Nat} {A B : Option Addr} {c d : Nat} {L M : List RowV} {rs ss : List Rw} (h1 : Got w1 b1 A c L rs) (h2 : Got w2 b2 B d M ss) (hb : w1.heap.size ≤ b2) : Far (.slice A L.length c) (.slice B M.length d) L M :=
  ⟨Apk.apt_later h1.own.1 h2.own.1 hb, fun x hx y hy => Apk.apt_later (h1.own.2 x hx) (h2.own.2 y hy) hb⟩

/-- Three tables that share nothing lie apart. -/
theorem apartRows3 {w : World} (base : Nat) {A B C : Option Addr} {a b c : Nat} {L M K : List RowV} {rs ss ts : List Rw} {b1 b2 b3 : Nat} (hbase : base ≤ w.heap.size) (hL : Got w b1 A a L rs) (hM : Got w b2 B b M ss) (hK : Got w b3 C c K ts) (h1 : base ≤ b1) (h2 : base ≤ b2) (h3 : base ≤ b3)
    (hlm : Far (.slice A L.length a) (.slice B M.length b) L M) (hlk : Far (.slice A L.length a) (.slice C K.length c) L K) (hmk : Far (.slice B M.length b) (.slice C K.length c) M K) :
    Calls Tryd.prog 25 #[.slice (some ⟨w.heap.size, 0, none⟩) 3 3] (w.alloc (.cells #[.slice A L.length a, .slice B M.length b, .slice C K.length c] 22)) fun e w' => e = .returned (.bool true) ∧ Below base w w' := by
  have hblk := Blk.new w 22 #[.slice A L.length a, .slice B M.length b, .slice C K.length c]
  have hown := hblk.own (base := base) (n := 3) (cap := 3) (sz := 1) rfl hbase rfl (Nat.le_refl _) (by simp [maxLen])
  have := Apr.apartRows_any base (.slice (some ⟨w.heap.size, 0, none⟩) 3 3) 3 (fun j => match j with | 0 => .slice A L.length a | 1 => .slice B M.length b | _ => .slice C K.length c) (fun j => match j with | 0 => L | 1 => M | _ => K)
    (w.alloc (.cells #[.slice A L.length a, .slice B M.length b, .slice C K.length c] 22)) (by simp; omega) (by omega) (by omega) (fun j => by
      split
      · exact hL.len
      · exact hM.len
      · exact hK.len) (fun j hj x hx => by
      match j, hj with
      | 0, _ => have := hL.lens x hx; omega
      | 1, _ => have := hM.lens x hx; omega
      | 2, _ => have := hK.lens x hx; omega) hown
    (fun j hj => by
      match j, hj with
      | 0, _ => exact (hL.own.base h1).below ((Below.refl _ w).alloc (Nat.le_refl _) _)
      | 1, _ => exact (hM.own.base h2).below ((Below.refl _ w).alloc (Nat.le_refl _) _)
      | 2, _ => exact (hK.own.base h3).below ((Below.refl _ w).alloc (Nat.le_refl _) _))
    (fun i j hi hj hne => by
      match i, hi, j, hj with
      | 0, _, 0, _ => exact absurd rfl hne
      | 1, _, 1, _ => exact absurd rfl hne
      | 2, _, 2, _ => exact absurd rfl hne
      | 0, _, 1, _ => exact hlm.1
      | 0, _, 2, _ => exact hlk.1
      | 1, _, 2, _ => exact hmk.1
      | 1, _, 0, _ => exact hlm.1.symm
      | 2, _, 0, _ => exact hlk.1.symm
      | 2, _, 1, _ => exact hmk.1.symm)
    (by
      have e : Apr.gat (fun j => match j with | 0 => L | 1 => M | _ => K) 3 0 = L.map (·.2) ++ (M.map (·.2) ++ K.map (·.2)) := by
        unfold Apr.gat
        rw [show List.range 3 = [0, 1, 2] from rfl]
        simp
      rw [e]
      refine List.pairwise_append.2 ⟨List.pairwise_map.2 hL.apv, List.pairwise_append.2 ⟨List.pairwise_map.2 hM.apv, List.pairwise_map.2 hK.apv, ?_⟩, ?_⟩
      · intro x hx y hy
        obtain ⟨x', hx', rfl⟩ := List.mem_map.1 hx
        obtain ⟨y', hy', rfl⟩ := List.mem_map.1 hy
        exact hmk.2 x' hx' y' hy'
      · intro x hx y hy
        obtain ⟨x', hx', rfl⟩ := List.mem_map.1 hx
        rcases List.mem_append.1 hy with hy | hy
        · obtain ⟨y', hy', rfl⟩ := List.mem_map.1 hy
          exact hlm.2 x' hx' y' hy'
        · obtain ⟨y', hy', rfl⟩ := List.mem_map.1 hy
          exact hlk.2 x' hx' y' hy')
  exact this.mono fun e w' ⟨he, hb⟩ => ⟨he, ((Below.refl base w).alloc hbase _).trans hb⟩
end Go.Proofs.YteaagngikiaokaaDoor
