import Derived.Shelf.Lay
import Derived.Shelf.LaySoft
import Derived.Shelf.Sort.Plain
import Derived.Shelf.SlSortCmp.WholeK
import Derived.Test.YtmnkackkeppheaaGreatProg
namespace Go.Proofs
open Go.Shelf
shelf_try shelf_lay Lays.n189 Nm 189 at Tryz as Tryz.lays189
shelf_try shelf_lay_g SlLaysF0.n6 Slsf 6 at Tryz 114 as Tryz.laysSF
shelf_tried
end Go.Proofs
