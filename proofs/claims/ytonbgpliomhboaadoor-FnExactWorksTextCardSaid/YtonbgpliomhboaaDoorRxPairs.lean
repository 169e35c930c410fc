/- What the functions of RxPairs come to, and their contracts. No conditions. -/
import Derived.Test.YtonbgpliomhboaaDoorRxEnv
namespace Go.Proofs.YtonbgpliomhboaaDoor
namespace Rx
open Go








end Rx
end Go.Proofs.YtonbgpliomhboaaDoor
