/- what was written is read: a message in its frame. -/
import Derived.Test.YtcfimfoccbaepaaDoorMsgRound2
namespace Go.Proofs.YtcfimfoccbaepaaDoor
namespace Msg
open Go.RowKit Go.Proofs.YtcfimfoccbaepaaDoor.Mark Go.Proofs.YtcfimfoccbaepaaDoor.Num Go.Proofs.YtcfimfoccbaepaaDoor.Wire

theorem may_len {m : G} (h : mayM m = true) : 8 + (bodyL m).length ≤ 16384 := by unfold mayM at h; simp only [Bool.and_eq_true, decide_eq_true_eq] at h; exact h.2
theorem put_len (m : G) (h : mayM m = true) : (Frame.putL (bodyL m)).length ≤ 16384 := by rw [Frame.putL_length]; have := may_len h; omega
theorem dec_enc (m : G) (h : mayM m = true) (hid : m.id ≤ 18446744073709551615) : decG (Frame.putL (bodyL m)) = (m, 0) := by
  have hl := may_len h
  have q := Frame.cut_put (bodyL m) [] (by omega)
  rw [List.append_nil] at q
  unfold decG
  have := put_len m h
  rw [if_neg (by omega), q, if_neg (by simp)]
  simp only [read_body m h hid, h, and_self, if_true]
theorem enc_inj (m n : G) (hm : mayM m = true) (hn : mayM n = true) (im : m.id ≤ 18446744073709551615) (iN : n.id ≤ 18446744073709551615) (e : Frame.putL (bodyL m) = Frame.putL (bodyL n)) : m = n := by
  have a := dec_enc m hm im
  rw [e, dec_enc n hn iN] at a
  exact (congrArg Prod.fst a).symm

end Msg
end Go.Proofs.YtcfimfoccbaepaaDoor
