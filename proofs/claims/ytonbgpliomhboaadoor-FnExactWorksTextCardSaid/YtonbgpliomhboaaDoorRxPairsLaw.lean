/- Lists of pairs of teeth: what the laws make of them. No program in sight. -/
import Derived.Test.YtonbgpliomhboaaDoorRxPlain
import Derived.Test.YtonbgpliomhboaaDoorRxPairs
namespace Go.Proofs.YtonbgpliomhboaaDoor
namespace Rx
open Go

end Rx
end Go.Proofs.YtonbgpliomhboaaDoor
