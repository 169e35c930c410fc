/- What the functions of RxEpi come to, and their contracts. No conditions. -/
import Derived.Test.YtfapjkcmoefilaaGreatDoorRxEnv
import Derived.Test.YtfapjkcmoefilaaGreatDoorRxRatI
import Derived.Test.YtfapjkcmoefilaaGreatDoorRxRatS
import Derived.Test.YtfapjkcmoefilaaGreatDoorRxRatAdd
namespace Go.Proofs.YtfapjkcmoefilaaGreatDoor
namespace Rx
open Go






























end Rx
end Go.Proofs.YtfapjkcmoefilaaGreatDoor
