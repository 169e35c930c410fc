/- What the sum of ratios comes to. No conditions. -/
import Derived.Test.YtonbgpliomhboaaDoorRxEnv
import Derived.Test.YtonbgpliomhboaaDoorRxRatI
import Derived.Test.YtonbgpliomhboaaDoorRxRatS
namespace Go.Proofs.YtonbgpliomhboaaDoor
namespace Rx
open Go






end Rx
end Go.Proofs.YtonbgpliomhboaaDoor
