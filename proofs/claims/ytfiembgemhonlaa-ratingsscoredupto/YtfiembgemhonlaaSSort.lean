/- The library's sort of numbers at this program: the kit's contract, laid by the kit's own tool. -/
import Derived.Shelf.Sort.Plain
import Derived.Shelf.Slices.In.SortNone
import Derived.Test.YtfiembgemhonlaaProg
namespace Go.Proofs
open Go.Shelf
end Go.Proofs
