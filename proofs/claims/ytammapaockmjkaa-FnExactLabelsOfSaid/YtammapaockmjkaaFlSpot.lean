/- Contracts of the functions on slices of Spot: made, compared, marked, read. -/
import Derived.Test.YtammapaockmjkaaSc
import Derived.Deep.QuietTactic
import Derived.BigQuiet
import Derived.Deep.RegionWith
namespace Go.Proofs.Ytammapaockmjkaa
open Go.ChangeShapes Go.WideShapes Go.ChangeAt Go.RowKit

end Go.Proofs.Ytammapaockmjkaa
