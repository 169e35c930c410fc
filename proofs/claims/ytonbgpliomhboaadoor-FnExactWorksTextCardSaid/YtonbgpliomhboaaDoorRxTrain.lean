/- What the functions of RxTrain come to, and their contracts. No conditions. -/
import Derived.Test.YtonbgpliomhboaaDoorRxEnv
import Derived.Test.YtonbgpliomhboaaDoorRxRatI
import Derived.Test.YtonbgpliomhboaaDoorRxRatS
import Derived.Test.YtonbgpliomhboaaDoorRxPairs
namespace Go.Proofs.YtonbgpliomhboaaDoor
namespace Rx
open Go






































end Rx
end Go.Proofs.YtonbgpliomhboaaDoor
