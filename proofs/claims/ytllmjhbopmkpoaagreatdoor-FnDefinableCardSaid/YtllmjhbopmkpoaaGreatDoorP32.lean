/- Plain words: terms with one name more, that they do not use; terms are applied as strategies are. -/
import Derived.Test.YtllmjhbopmkpoaaGreatDoorP31
namespace Go.Proofs.YtllmjhbopmkpoaaGreatDoor
open Go.RowKit
end Go.Proofs.YtllmjhbopmkpoaaGreatDoor
