/-
  This text holds what the kernel computes of the row of FindModel. No condition.
-/
import Derived.Test.YtjkpbnbkofnajaaGreatRows
import Derived.Test.YtjkpbnbkofnajaaGreatChecked
import Derived.ProofKit
set_option maxHeartbeats 16000000
set_option maxRecDepth 100000
namespace Go.Proofs.YtjkpbnbkofnajaaGreat
open Go.RowKit Go.ChangeShapes Go.WideShapes Go.ChangeAt
namespace law44
theorem joined : joinedFacts Tryz.pinned.checked.prog 3 Tryz.f3 Rows.fnExactFindModelSpec Rows.fnExactFindModelRow = true := by kernel_rfl
end law44
end Go.Proofs.YtjkpbnbkofnajaaGreat
