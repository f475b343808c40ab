/-
  The contracts of the functions on vectors.
-/
import Derived.Test.YtgfieeonlhcnhaaDoorProg
import Derived.Test.YtgfieeonlhcnhaaDoorFix
import Derived.Test.YtgfieeonlhcnhaaDoorPlainV
import Derived.Test.YtgfieeonlhcnhaaDoorInts
import Derived.WalkKit
import Derived.Deep.QuietTactic
import Derived.BigQuiet
namespace Go.Proofs.YtgfieeonlhcnhaaDoor
open Go.RowKit
set_option maxRecDepth 100000

end Go.Proofs.YtgfieeonlhcnhaaDoor
