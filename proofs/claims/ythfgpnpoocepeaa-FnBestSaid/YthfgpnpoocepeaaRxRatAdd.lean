/- What the sum of ratios comes to. No conditions. -/
import Derived.Test.YthfgpnpoocepeaaRxEnv
import Derived.Test.YthfgpnpoocepeaaRxRatI
import Derived.Test.YthfgpnpoocepeaaRxRatS
namespace Go.Proofs.Ythfgpnpoocepeaa
namespace Rx
open Go






end Rx
end Go.Proofs.Ythfgpnpoocepeaa
