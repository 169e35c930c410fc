/- What the functions of RxPairs come to, and their contracts. No conditions. -/
import Derived.Test.YtfapjkcmoefilaaGreatDoorRxEnv
namespace Go.Proofs.YtfapjkcmoefilaaGreatDoor
namespace Rx
open Go








end Rx
end Go.Proofs.YtfapjkcmoefilaaGreatDoor
