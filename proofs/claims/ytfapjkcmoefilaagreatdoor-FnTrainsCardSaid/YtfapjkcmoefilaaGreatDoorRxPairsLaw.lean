/- Lists of pairs of teeth: what the laws make of them. No program in sight. -/
import Derived.Test.YtfapjkcmoefilaaGreatDoorRxPlain
import Derived.Test.YtfapjkcmoefilaaGreatDoorRxPairs
namespace Go.Proofs.YtfapjkcmoefilaaGreatDoor
namespace Rx
open Go

end Rx
end Go.Proofs.YtfapjkcmoefilaaGreatDoor
