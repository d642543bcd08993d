
/- The contracts of package num's functions over this program: what each call returns, and that it changes nothing that was there. -/
import Derived.Test.YtcbnkncgacbniaaProg
import Derived.Test.YtcbnkncgacbniaaNumPlain
import Derived.WalkKit
import Derived.WalkSpells
import Derived.WalkLawsBesides
import Derived.Deep.LoopGhost
import Derived.Lib.Hide
import Derived.Laws.Externs
namespace Go.Proofs.Ytcbnkncgacbniaa
namespace Num
open Go.RowKit

end Num
end Go.Proofs.Ytcbnkncgacbniaa
