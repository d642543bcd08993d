
/- the reference of dots: Drop, Set. -/
import Derived.Test.YtcbnkncgacbniaaRefDotClean
namespace Go.Proofs.Ytcbnkncgacbniaa
namespace RefDots
open Go.RowKit Go.Proofs.Ytcbnkncgacbniaa.Mark Go.Proofs.Ytcbnkncgacbniaa.Dots

theorem filter_snoc (f : M → Bool) (R : List M) (k : Nat) (h : k < R.length) : (R.take (k + 1)).filter f = (R.take k).filter f ++ (if f R[k] then [R[k]] else []) := by
  rw [List.take_succ_eq_append_getElem h, List.filter_append]
  congr 1
  cases hf : f R[k] with
  | true => rw [List.filter_cons_of_pos hf, if_pos rfl]; rfl
  | false => rw [List.filter_cons_of_neg (by rw [hf]; decide), if_neg (by decide)]; rfl

end RefDots
end Go.Proofs.Ytcbnkncgacbniaa
