/- The reference's identify and Identify. -/
import Derived.Test.YtbjggnecfppjgaaDoorS6
import Derived.Deep.CutBlock
namespace Go.Proofs.YtbjggnecfppjgaaDoor
open Go.RowKit

end Go.Proofs.YtbjggnecfppjgaaDoor
