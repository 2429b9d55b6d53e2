/- Plain words: the machine that runs a strategy against others: what it does, and that it never stands still. -/
import Derived.Test.YtllmjhbopmkpoaaGreatDoorP8
namespace Go.Proofs.YtllmjhbopmkpoaaGreatDoor
open Go.RowKit
end Go.Proofs.YtllmjhbopmkpoaaGreatDoor
