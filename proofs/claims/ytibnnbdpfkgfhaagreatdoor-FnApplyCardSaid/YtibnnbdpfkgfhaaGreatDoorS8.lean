/- The walk of the reference's depths of nodes. -/
import Derived.Test.YtibnnbdpfkgfhaaGreatDoorS7
namespace Go.Proofs.YtibnnbdpfkgfhaaGreatDoor
open Go.RowKit

end Go.Proofs.YtibnnbdpfkgfhaaGreatDoor
