
/- sha: SHA-256 in plain words, over integers as the walks spell them. -/
import Derived.Test.YtibdpjhiblhnmaaDoorShaRot
namespace Go.Proofs.YtibdpjhiblhnmaaDoor
namespace Sha
open Go.RowKit
def add (a b : Int) : Int := (a + b) % 4294967296
def xor (a b : Int) : Int := bits .xor .u32 a b
def and (a b : Int) : Int := bits .and .u32 a b
theorem add_comm (a b : Int) : add a b = add b a := by unfold add; rw [Int.add_comm]
theorem add_3 (a b c : Int) : add (add a b) c = (a + b + c) % 4294967296 := by unfold add; omega
theorem add_4 (a b c d : Int) : add (add (add a b) c) d = (a + b + c + d) % 4294967296 := by unfold add; omega
theorem add_5 (a b c d e : Int) : add (add (add (add a b) c) d) e = (a + b + c + d + e) % 4294967296 := by unfold add; omega
theorem add_w (a b c d : Int) : add (add (add a b) c) d = IntKind.u32.wrap (IntKind.u32.wrap (IntKind.u32.wrap (a + b) + c) + d) := by rw [add_4, IntKind.wrap_u32, IntKind.wrap_u32, IntKind.wrap_u32]; omega
theorem add_6 (z a b c d e : Int) : add z (add (add (add (add a b) c) d) e) = (z + (a + b + c + d + e)) % 4294967296 := by unfold add; omega
theorem add_7 (a b c d e f g : Int) : add (add (add (add (add a b) c) d) e) (add f g) = (a + b + c + d + e + (f + g)) % 4294967296 := by unfold add; omega
/-- Four bytes, the highest first. -/
def be4 (a b c d : UInt8) : Int :=
  bits .or .u32 (bits .or .u32 (bits .or .u32 ((a.toNat : Int) * 16777216) ((b.toNat : Int) * 65536)) ((c.toNat : Int) * 256)) (d.toNat : Int)
def word (b : List UInt8) (t : Nat) : Int := be4 (b.getD (4 * t) 0) (b.getD (4 * t + 1) 0) (b.getD (4 * t + 2) 0) (b.getD (4 * t + 3) 0)
def words (b : List UInt8) : Nat → List Int
  | 0 => []
  | t + 1 => words b t ++ [word b t]
theorem words_length (b : List UInt8) : ∀ t, (words b t).length = t
  | 0 => rfl
  | t + 1 => by rw [words, List.length_append, words_length b t]; rfl
def sig0 (x : Int) : Int := xor (xor (rr 7 x) (rr 18 x)) (x / 8)
def sig1 (x : Int) : Int := xor (xor (rr 17 x) (rr 19 x)) (x / 1024)
def next (l : List Int) : Int := add (add (add (sig1 (l.getD (l.length - 2) 0)) (l.getD (l.length - 7) 0)) (sig0 (l.getD (l.length - 15) 0))) (l.getD (l.length - 16) 0)
def sched (l : List Int) : Nat → List Int
  | 0 => l
  | k + 1 => sched l k ++ [next (sched l k)]
theorem sched_length (l : List Int) : ∀ k, (sched l k).length = l.length + k
  | 0 => rfl
  | k + 1 => by rw [sched, List.length_append, sched_length l k]; rfl
structure St where
  (a b c d e f g h : Int)
def St.list (s : St) : List Int := [s.a, s.b, s.c, s.d, s.e, s.f, s.g, s.h]
def tx (s : St) (k w : Int) : Int := add (add (add (add s.h (xor (xor (rr 6 s.e) (rr 11 s.e)) (rr 25 s.e))) (xor (and s.e s.f) (and (xor IntKind.u32.max s.e) s.g))) k) w
def ty (s : St) : Int := add (xor (xor (rr 2 s.a) (rr 13 s.a)) (rr 22 s.a)) (xor (xor (and s.a s.b) (and s.a s.c)) (and s.b s.c))
def rnd (s : St) (k w : Int) : St := ⟨add (tx s k w) (ty s), s.a, s.b, s.c, add s.d (tx s k w), s.e, s.f, s.g⟩
theorem rnd_a (a b c d e f g h k w : Int) : (rnd ⟨a, b, c, d, e, f, g, h⟩ k w).a = (h + bits .xor .u32 (bits .xor .u32 (rr 6 e) (rr 11 e)) (rr 25 e) + bits .xor .u32 (bits .and .u32 e f) (bits .and .u32 (bits .xor .u32 IntKind.u32.max e) g) + k + w + (bits .xor .u32 (bits .xor .u32 (rr 2 a) (rr 13 a)) (rr 22 a) + bits .xor .u32 (bits .xor .u32 (bits .and .u32 a b) (bits .and .u32 a c)) (bits .and .u32 b c))) % 4294967296 := by
  show add (tx _ _ _) (ty _) = _
  exact add_7 _ _ _ _ _ _ _
theorem rnd_e (a b c d e f g h k w : Int) : (rnd ⟨a, b, c, d, e, f, g, h⟩ k w).e = (d + (h + bits .xor .u32 (bits .xor .u32 (rr 6 e) (rr 11 e)) (rr 25 e) + bits .xor .u32 (bits .and .u32 e f) (bits .and .u32 (bits .xor .u32 IntKind.u32.max e) g) + k + w)) % 4294967296 := by
  show add _ (tx _ _ _) = _
  exact add_6 _ _ _ _ _ _
theorem rnd_list (a b c d e f g h k w : Int) : (rnd ⟨a, b, c, d, e, f, g, h⟩ k w).list =
    (((((((((St.mk a b c d e f g h).list.set 0 (rnd ⟨a, b, c, d, e, f, g, h⟩ k w).a).set 1 a).set 2 b).set 3 c).set 4 (rnd ⟨a, b, c, d, e, f, g, h⟩ k w).e).set 5 e).set 6 f).set 7 g) := rfl
def rounds (K W : List Int) (s : St) : Nat → St
  | 0 => s
  | t + 1 => rnd (rounds K W s t) (K.getD t 0) (W.getD t 0)
theorem rounds_zero (K W : List Int) (s : St) : rounds K W s 0 = s := rfl
theorem rounds_succ (K W : List Int) (s : St) (t : Nat) : rounds K W s (t + 1) = rnd (rounds K W s t) (K.getD t 0) (W.getD t 0) := rfl
def St.plus (s r : St) : St := ⟨add s.a r.a, add s.b r.b, add s.c r.c, add s.d r.d, add s.e r.e, add s.f r.f, add s.g r.g, add s.h r.h⟩
theorem plus_comm (s r : St) : s.plus r = r.plus s := by
  unfold St.plus
  rw [add_comm s.a, add_comm s.b, add_comm s.c, add_comm s.d, add_comm s.e, add_comm s.f, add_comm s.g, add_comm s.h]
theorem plus_at (s r : St) (t : Nat) (ht : t < 8) : ((s.plus r).list.take t ++ s.list.drop t).getD t 0 = s.list.getD t 0 ∧
    ((s.plus r).list.take t ++ s.list.drop t).set t (add (s.list.getD t 0) (r.list.getD t 0)) = (s.plus r).list.take (t + 1) ++ s.list.drop (t + 1) := by
  have h : t = 0 ∨ t = 1 ∨ t = 2 ∨ t = 3 ∨ t = 4 ∨ t = 5 ∨ t = 6 ∨ t = 7 := by omega
  rcases h with rfl | rfl | rfl | rfl | rfl | rfl | rfl | rfl <;> exact ⟨rfl, rfl⟩
theorem plus_len (s r : St) (t : Nat) (ht : t ≤ 8) : ((s.plus r).list.take t ++ s.list.drop t).length = 8 := by
  rw [List.length_append, List.length_take, List.length_drop, show (s.plus r).list.length = 8 from rfl, show s.list.length = 8 from rfl]; omega
/-- The state behind a block. -/
def block (K : List Int) (s : St) (b : List UInt8) : St := s.plus (rounds K (sched (words b 16) 48) s 64)
theorem set_fill (l : List Int) (m : Nat) (v : Int) (hm : 0 < m) : (l ++ List.replicate m 0).set l.length v = (l ++ [v]) ++ List.replicate (m - 1) 0 := by
  rw [List.set_append_right _ _ (Nat.le_refl _), Nat.sub_self]
  obtain ⟨m, rfl⟩ : ∃ q, m = q + 1 := ⟨m - 1, by omega⟩
  rw [List.replicate_succ, List.set_cons_zero, Nat.add_sub_cancel, List.append_assoc]
  rfl
theorem next_at (l : List Int) (t : Nat) (r : List Int) (hl : l.length = t) (ht : 16 ≤ t) :
    next l = add (add (add (sig1 ((l ++ r).getD (t - 2) 0)) ((l ++ r).getD (t - 7) 0)) (sig0 ((l ++ r).getD (t - 15) 0))) ((l ++ r).getD (t - 16) 0) := by
  have h : ∀ i, i < t → (l ++ r).getD i 0 = l.getD i 0 := fun i hi => by
    rw [List.getD_eq_getElem?_getD, List.getD_eq_getElem?_getD, List.getElem?_append_left (by omega)]
  rw [h _ (by omega), h _ (by omega), h _ (by omega), h _ (by omega)]
  unfold next
  rw [hl]
theorem fill_words (b : List UInt8) (k : Nat) (hk : k < 64) : (words b k ++ List.replicate (64 - k) 0).set k (word b k) = words b (k + 1) ++ List.replicate (64 - (k + 1)) 0 := by
  have := set_fill (words b k) (64 - k) (word b k) (by omega)
  rw [words_length] at this
  exact this
theorem fill_sched (l : List Int) (t : Nat) (hl : l.length = 16) (h0 : 16 ≤ t) (h1 : t < 64) :
    (sched l (t - 16) ++ List.replicate (64 - t) 0).set t (next (sched l (t - 16))) = sched l (t + 1 - 16) ++ List.replicate (64 - (t + 1)) 0 := by
  have := set_fill (sched l (t - 16)) (64 - t) (next (sched l (t - 16))) (by omega)
  rw [sched_length, hl, show 16 + (t - 16) = t by omega] at this
  rw [this, show t + 1 - 16 = (t - 16) + 1 by omega]
  rfl
end Sha
end Go.Proofs.YtibdpjhiblhnmaaDoor
