/- Encode, Decode, same, Cut in terms of one message; what Decode answers, way by way. -/
import Derived.Test.YtcfimfoccbaepaaDoorMsgIn
import Derived.Test.YtcfimfoccbaepaaDoorMsgBackPlain
namespace Go.Proofs.YtcfimfoccbaepaaDoor
namespace Msg
open Go.RowKit Go.Proofs.YtcfimfoccbaepaaDoor.Mark Go.Proofs.YtcfimfoccbaepaaDoor.Num Go.Proofs.YtcfimfoccbaepaaDoor.Wire

theorem enc_is {m : G} {a : Option Addr} {c : Nat} (T : List UInt8) (i : Int) (h : encR m = (T, i)) (hm : m.Mod) (W : World) (hL : Lies W a m.all.length m.all) (ht : Crc.Tab W) :
    Calls Tryd.prog 11 #[.agg (m.cells a c)] W fun e w' => e = .returned (.tuple #[.string ⟨T.toArray⟩, .int .i64 i]) ∧ Below W.heap.size W w' := by
  have q : Calls Tryd.prog 11 #[.agg (m.cells a c)] W fun e w' => e = .returned (.tuple #[.string ⟨(encR m).1.toArray⟩, .int .i64 (encR m).2]) ∧ Below W.heap.size W w' :=
    encode_any m.kind m.src m.dst m.fr m.seq m.all m.id m.i m.n m.tx a c W hm hL ht
  rw [h] at q; exact q
/-- A message, and an error, that a call answers. -/
def Got (W W' : World) (m : G) (g : Int) (e : Ending) : Prop := ∃ a c, e = .returned (.tuple #[.agg #[.int .u8 (m.kind : Int), .string ⟨m.src.toArray⟩, .string ⟨m.dst.toArray⟩, .string ⟨m.fr.toArray⟩, .int .u64 (m.seq : Int), .slice a m.all.length c, .int .u64 (m.id : Int), .int .i64 m.i, .int .i64 m.n, .string ⟨m.tx.toArray⟩], .int .i64 g]) ∧
  Lies W' a m.all.length m.all ∧ Below W.heap.size W W'
theorem dec_is {s : List UInt8} {n : G} {g : Int} (h : decG s = (n, g)) (hs : s.length ≤ 1099511627776) (W : World) (ht : Crc.Tab W) :
    Calls Tryd.prog 17 #[.string ⟨s.toArray⟩] W (fun e w' => Got W w' n g e) := by
  have q := decode_any s W hs ht
  rw [h] at q; exact q
theorem same_is {m n : G} {a a' : Option Addr} {c c' : Nat} (r : Bool) (h : decide (m = n) = r) (W : World) (hL : Lies W a m.all.length m.all) (hK : Lies W a' n.all.length n.all) (hn : m.all.length ≤ 1099511627776) :
    Calls Tryd.prog 16 #[.agg (m.cells a c), .agg (n.cells a' c')] W fun e w' => e = .returned (.bool r) ∧ Below W.heap.size W w' := by
  have q := same_any m.kind m.src m.dst m.fr m.seq m.all m.id m.i m.n m.tx a c n.kind n.src n.dst n.fr n.seq n.all n.id n.i n.n n.tx a' c' W hL hK hn
  rw [← h]; exact q
theorem same_zero {n : G} {a : Option Addr} {c : Nat} (h : n = zeroG) (W : World) (hL : Lies W a n.all.length n.all) :
    Calls Tryd.prog 16 #[.agg (n.cells a c), .agg #[.int .u8 0, .string ⟨#[]⟩, .string ⟨#[]⟩, .string ⟨#[]⟩, .int .u64 0, .slice none 0 0, .int .u64 0, .int .i64 0, .int .i64 0, .string ⟨#[]⟩]] W fun e w' => e = .returned (.bool true) ∧ Below W.heap.size W w' := by
  have hn : n.all.length ≤ 1099511627776 := by rw [h]; decide
  exact same_is (n := zeroG) (a' := none) (c' := 0) true (by simp [h]) W hL (Lies.nil _ _) hn
theorem cut_is {s t r : List UInt8} {h : Int} (e : Frame.cutL s = (t, r, h)) (hl : s.length ≤ 1099511627776) (W : World) (ht : Crc.Tab W) :
    Calls Tryd.prog 18 #[.string ⟨s.toArray⟩] W fun e w' => e = .returned (.tuple #[.string ⟨t.toArray⟩, .string ⟨r.toArray⟩, .int .i64 h]) ∧ Below W.heap.size W w' := by
  have q := Frame.cut_any s W hl ht
  rw [e] at q; exact q

theorem dec_long {s : List UInt8} (h : 16384 < s.length) : decG s = (zeroG, 4) := by unfold decG; rw [if_pos h]
theorem dec_bad {s t r : List UInt8} {h : Int} (hl : s.length ≤ 16384) (e : Frame.cutL s = (t, r, h)) (hh : h ≠ 0) : decG s = (zeroG, h) := by
  unfold decG; rw [if_neg (by omega), e, if_pos hh]
theorem dec_rest {s t r : List UInt8} (hl : s.length ≤ 16384) (e : Frame.cutL s = (t, r, 0)) (hr : r ≠ []) : decG s = (zeroG, 8) := by
  unfold decG; rw [if_neg (by omega), e, if_neg (by simp), if_neg (fun h => hr h.1)]
theorem dec_form {s t r : List UInt8} {n : G} {g : Int} (hl : s.length ≤ 16384) (e : Frame.cutL s = (t, r, 0)) (hd : decG s = (n, g)) (hg : g ≠ 0) : n = zeroG ∧ g = 8 := by
  unfold decG at hd
  rw [if_neg (by omega), e, if_neg (by simp)] at hd
  split at hd
  · simp only [Prod.mk.injEq] at hd; exact absurd hd.2.symm hg
  · simp only [Prod.mk.injEq] at hd; exact ⟨hd.1.symm, hd.2.symm⟩
theorem dec_mod {s : List UInt8} {n : G} {g : Int} (hd : decG s = (n, g)) : n.Mod := by
  have hz : zeroG.Mod := zero_ok
  unfold decG at hd
  split at hd
  · simp only [Prod.mk.injEq] at hd; rw [← hd.1]; exact hz
  split at hd
  · simp only [Prod.mk.injEq] at hd; rw [← hd.1]; exact hz
  split at hd
  · simp only [Prod.mk.injEq] at hd; rw [← hd.1]; exact readG_mod _
  · simp only [Prod.mk.injEq] at hd; rw [← hd.1]; exact hz
theorem enc_ok {m : G} {T : List UInt8} {i : Int} (h : encR m = (T, i)) (hi : i = 0) (hid : m.id ≤ 18446744073709551615) : decG T = (m, 0) ∧ T.length ≤ 16384 ∧ mayM m = true ∧ T = Frame.putL (bodyL m) := by
  unfold encR at h
  split at h
  · rename_i hm
    simp only [Prod.mk.injEq] at h
    rw [← h.1]
    exact ⟨dec_enc m hm hid, put_len m hm, hm, rfl⟩
  · simp only [Prod.mk.injEq] at h
    exact absurd (h.2.trans hi) (by decide)
end Msg
end Go.Proofs.YtcfimfoccbaepaaDoor
