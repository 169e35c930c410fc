/- The sum of ratios, in plain arithmetic. No program in sight. -/
import Derived.Test.YthfgpnpoocepeaaGreatRxRatLaw
import Derived.Test.YthfgpnpoocepeaaGreatRxRatAdd
namespace Go.Proofs.YthfgpnpoocepeaaGreat
namespace Rx
open Go

end Rx
end Go.Proofs.YthfgpnpoocepeaaGreat
