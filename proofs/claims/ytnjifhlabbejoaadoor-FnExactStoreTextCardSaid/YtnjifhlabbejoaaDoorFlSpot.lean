/- Contracts of the functions on slices of Spot: made, compared, marked, read. -/
import Derived.Test.YtnjifhlabbejoaaDoorSc
import Derived.Deep.QuietTactic
import Derived.BigQuiet
import Derived.Deep.RegionWith
namespace Go.Proofs.YtnjifhlabbejoaaDoor
open Go.ChangeShapes Go.WideShapes Go.ChangeAt Go.RowKit

end Go.Proofs.YtnjifhlabbejoaaDoor
