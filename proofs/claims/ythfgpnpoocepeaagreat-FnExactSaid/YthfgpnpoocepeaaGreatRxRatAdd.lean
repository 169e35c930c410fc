/- What the sum of ratios comes to. No conditions. -/
import Derived.Test.YthfgpnpoocepeaaGreatRxEnv
import Derived.Test.YthfgpnpoocepeaaGreatRxRatI
import Derived.Test.YthfgpnpoocepeaaGreatRxRatS
namespace Go.Proofs.YthfgpnpoocepeaaGreat
namespace Rx
open Go






end Rx
end Go.Proofs.YthfgpnpoocepeaaGreat
