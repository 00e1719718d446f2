/- Plain lemmas: of lists of one length the letters stand in the order of the bytes. -/
import Derived.Test.YtghobbbmoeijbaaB10
namespace Go.Proofs.Ytghobbbmoeijbaa

theorem val_append (B : Nat) (l m : List Nat) : val B (l ++ m) = val B l * B ^ m.length + val B m := by
  refine snoc_ind (p := fun m => val B (l ++ m) = val B l * B ^ m.length + val B m) (by simp) (fun m x ih => ?_) m
  rw [← List.append_assoc, val_snoc, ih, val_snoc, List.length_append, List.length_singleton, Nat.pow_succ, Nat.mul_add, ← Nat.mul_assoc, Nat.mul_comm B, Nat.mul_assoc, Nat.mul_comm B, ← Nat.mul_assoc]
  rw [Nat.mul_assoc, Nat.add_assoc]

theorem lex_lt (B : Nat) (l m : List Nat) (k x y : Nat) (hm : ∀ z ∈ l, z < B) (hlen : l.length = m.length) (ht : l.take k = m.take k) (hx : l[k]? = some x) (hy : m[k]? = some y) (h : x < y) :
    val B l < val B m := by
  obtain ⟨hkl, hxe⟩ := List.getElem?_eq_some_iff.1 hx
  obtain ⟨hkm, hye⟩ := List.getElem?_eq_some_iff.1 hy
  have e1 : l = l.take k ++ ([x] ++ l.drop (k + 1)) := by
    rw [List.singleton_append, ← hxe, ← List.drop_eq_getElem_cons hkl, List.take_append_drop]
  have e2 : m = m.take k ++ ([y] ++ m.drop (k + 1)) := by
    rw [List.singleton_append, ← hye, ← List.drop_eq_getElem_cons hkm, List.take_append_drop]
  have hr : val B (l.drop (k + 1)) < B ^ (l.drop (k + 1)).length := val_lt B _ fun z hz => hm z (List.mem_of_mem_drop hz)
  have hdl : (l.drop (k + 1)).length = (m.drop (k + 1)).length := by simp [hlen]
  rw [e1, e2, val_append B (l.take k), val_append B (m.take k), val_append B [x], val_append B [y], ht]
  simp only [List.length_append, List.length_singleton, hdl]
  have v1 : val B [x] = x := by simp [val]
  have v2 : val B [y] = y := by simp [val]
  rw [v1, v2, ← hdl]
  have : (x + 1) * B ^ (l.drop (k + 1)).length ≤ y * B ^ (l.drop (k + 1)).length := Nat.mul_le_mul_right _ h
  rw [Nat.add_mul, Nat.one_mul] at this
  omega

theorem lex_iff (B : Nat) (l m : List Nat) (k x y : Nat) (hl : ∀ z ∈ l, z < B) (hm : ∀ z ∈ m, z < B) (hlen : l.length = m.length) (ht : l.take k = m.take k) (hx : l[k]? = some x) (hy : m[k]? = some y) (h : x ≠ y) :
    x < y ↔ val B l < val B m := by
  constructor
  · exact lex_lt B l m k x y hl hlen ht hx hy
  · intro hv
    rcases Nat.lt_trichotomy x y with h1 | h1 | h1
    · exact h1
    · exact absurd h1 h
    · have := lex_lt B m l k y x hm hlen.symm ht.symm hy hx h1
      omega

theorem letters_inj {a b : List UInt8} (h : letters a = letters b) : a = b := by
  have := congrArg decode h
  rw [decode_letters, decode_letters] at this
  injection this

/-- A letter's place among the letters. -/
def placeOf (c : UInt8) : Int := if 97 ≤ (c.toNat : Int) then (c.toNat : Int) - 97 else (c.toNat : Int) + 100
theorem place_lt (d e : Nat) (hd : d < 32) (he : e < 32) : placeOf (letterN d) < placeOf (letterN e) ↔ d < e := by
  unfold placeOf
  rw [letterN_toNat d hd, letterN_toNat e he]
  by_cases h1 : d < 26 <;> by_cases h2 : e < 26 <;> simp only [h1, h2, if_true, if_false] <;> (repeat' split) <;> omega

theorem big_lt (a b : List UInt8) : big a < 32 ^ lets a.length := by
  have h1 := val_lt 256 (nats a) (nats_lt a)
  rw [nats_length] at h1
  unfold big
  rw [show (32 : Nat) = 2 ^ 5 from rfl, ← Nat.pow_mul]
  have h2 : 5 * lets a.length = 8 * a.length + (5 * lets a.length - 8 * a.length) := by unfold lets; omega
  rw [h2, Nat.pow_add, ← h2, Nat.pow_mul]
  exact Nat.mul_lt_mul_of_pos_right h1 (Nat.two_pow_pos _)

theorem order_law (a b : List UInt8) (i k : Nat) (x y c d : UInt8) (hlen : a.length = b.length) (ht : a.take i = b.take i) (hx : a[i]? = some x) (hy : b[i]? = some y) (hxy : x ≠ y)
    (hk : (letters a).take k = (letters b).take k) (hc : (letters a)[k]? = some c) (hd : (letters b)[k]? = some d) (hcd : c ≠ d) : placeOf c < placeOf d ↔ x.toNat < y.toNat := by
  have e1 := lex_iff 256 (nats a) (nats b) i x.toNat y.toNat (nats_lt a) (nats_lt b) (by simpa using hlen) (by unfold nats; rw [← List.map_take, ← List.map_take, ht]) (by unfold nats; rw [List.getElem?_map, hx]; rfl) (by unfold nats; rw [List.getElem?_map, hy]; rfl)
    (fun h => hxy (UInt8.toNat_inj.1 h))
  rw [e1]
  unfold letters at hk hc hd
  rw [List.getElem?_map] at hc hd
  obtain ⟨p, hp, rfl⟩ := Option.map_eq_some_iff.1 hc
  obtain ⟨q, hq, rfl⟩ := Option.map_eq_some_iff.1 hd
  have hp32 := dig_lt 32 _ _ (by omega) p (List.mem_of_getElem? hp)
  have hq32 := dig_lt 32 _ _ (by omega) q (List.mem_of_getElem? hq)
  rw [place_lt p q hp32 hq32]
  rw [← List.map_take, ← List.map_take] at hk
  have hk2 := letterN_inj (fun z hz => dig_lt 32 _ _ (by omega) z (List.mem_of_mem_take hz)) (fun z hz => dig_lt 32 _ _ (by omega) z (List.mem_of_mem_take hz)) hk
  have e2 := lex_iff 32 _ _ k p q (dig_lt 32 _ _ (by omega)) (dig_lt 32 _ _ (by omega)) (by rw [dig_length, dig_length, hlen]) hk2 hp hq (fun h => hcd (by rw [h]))
  rw [e2, val_dig, val_dig, Nat.mod_eq_of_lt (big_lt a b), Nat.mod_eq_of_lt (big_lt b a)]
  unfold big
  rw [hlen]
  exact Nat.mul_lt_mul_right (Nat.two_pow_pos _)

end Go.Proofs.Ytghobbbmoeijbaa
