/- The sum of ratios, in plain arithmetic. No program in sight. -/
import Derived.Test.YthfgpnpoocepeaaRxRatLaw
import Derived.Test.YthfgpnpoocepeaaRxRatAdd
namespace Go.Proofs.Ythfgpnpoocepeaa
namespace Rx
open Go

end Rx
end Go.Proofs.Ythfgpnpoocepeaa
