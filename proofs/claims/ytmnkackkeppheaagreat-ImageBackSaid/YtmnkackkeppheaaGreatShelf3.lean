import Derived.Shelf.Lay
import Derived.Shelf.LaySoft
import Derived.Shelf.SlIterI.Sorted
import Derived.Test.YtmnkackkeppheaaGreatProg
namespace Go.Proofs
open Go.Shelf
shelf_try shelf_lay_g SlLaysZI.n6 Ggz 6 at Tryz 112 as Tryz.sorted6
shelf_tried
end Go.Proofs
