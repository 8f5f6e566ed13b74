/- Walks: the check of a manifest (reference). -/
import Derived.Test.YtfiilbdkhelhgaaDoorG3
namespace Go.Proofs.YtfiilbdkhelhgaaDoor
open Go.RowKit Go.Sort

end Go.Proofs.YtfiilbdkhelhgaaDoor
