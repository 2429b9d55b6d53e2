/- The walks of both depths of strategies. -/
import Derived.Test.YtibnnbdpfkgfhaaGreatDoorP5
import Derived.Test.YtibnnbdpfkgfhaaGreatDoorW14
import Derived.Test.YtibnnbdpfkgfhaaGreatDoorS8
namespace Go.Proofs.YtibnnbdpfkgfhaaGreatDoor
open Go.RowKit

def depthOf (o : Option Bd) : Int := match o with
  | some b => (depthB b : Int)
  | none => -1

end Go.Proofs.YtibnnbdpfkgfhaaGreatDoor
