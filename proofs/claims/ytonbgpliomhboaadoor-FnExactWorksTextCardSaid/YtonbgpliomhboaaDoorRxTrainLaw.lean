/- Trains: the implementation's answers are the spec's. No program in sight. -/
import Derived.Test.YtonbgpliomhboaaDoorRxRatLaw
import Derived.Test.YtonbgpliomhboaaDoorRxPairsLaw
import Derived.Test.YtonbgpliomhboaaDoorRxTrain
namespace Go.Proofs.YtonbgpliomhboaaDoor
namespace Rx
open Go

/-! ### Limits -/
/-! ### Trains -/
def okP (y : Int × Int) : Bool := (decide (6 ≤ y.1) && decide (y.1 ≤ 240)) && (decide (6 ≤ y.2) && decide (y.2 ≤ 240))
def inLim (x : Int × Int × Int × Int × Int) (y : Int × Int) : Bool := (decide (x.1 ≤ y.1) && decide (y.1 ≤ x.2.1)) && (decide (x.2.2.1 ≤ y.2) && decide (y.2 ≤ x.2.2.2.1))
end Rx
end Go.Proofs.YtonbgpliomhboaaDoor
