/- What the functions of RxEpi come to, and their contracts. No conditions. -/
import Derived.Test.YtonbgpliomhboaaDoorRxEnv
import Derived.Test.YtonbgpliomhboaaDoorRxRatI
import Derived.Test.YtonbgpliomhboaaDoorRxRatS
import Derived.Test.YtonbgpliomhboaaDoorRxRatAdd
namespace Go.Proofs.YtonbgpliomhboaaDoor
namespace Rx
open Go






























end Rx
end Go.Proofs.YtonbgpliomhboaaDoor
