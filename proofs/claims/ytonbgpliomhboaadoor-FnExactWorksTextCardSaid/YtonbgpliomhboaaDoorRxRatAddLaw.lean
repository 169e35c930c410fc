/- The sum of ratios, in plain arithmetic. No program in sight. -/
import Derived.Test.YtonbgpliomhboaaDoorRxRatLaw
import Derived.Test.YtonbgpliomhboaaDoorRxRatAdd
namespace Go.Proofs.YtonbgpliomhboaaDoor
namespace Rx
open Go

end Rx
end Go.Proofs.YtonbgpliomhboaaDoor
