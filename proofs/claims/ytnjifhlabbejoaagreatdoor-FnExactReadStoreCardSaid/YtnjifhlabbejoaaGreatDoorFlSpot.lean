/- Contracts of the functions on slices of Spot: made, compared, marked, read. -/
import Derived.Test.YtnjifhlabbejoaaGreatDoorSc
import Derived.Deep.QuietTactic
import Derived.BigQuiet
import Derived.Deep.RegionWith
namespace Go.Proofs.YtnjifhlabbejoaaGreatDoor
open Go.ChangeShapes Go.WideShapes Go.ChangeAt Go.RowKit

end Go.Proofs.YtnjifhlabbejoaaGreatDoor
