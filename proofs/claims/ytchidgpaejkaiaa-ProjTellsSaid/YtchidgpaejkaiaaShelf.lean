import Derived.Test.YtchidgpaejkaiaaProg
import Derived.Shelf.Sort.Plain
import Derived.Shelf.Lay
import Derived.Shelf.LaySoft
namespace Go.Proofs
open Go.Shelf
shelf_try shelf_lay Lays.n189 Nm 189 at Try as Try.lays189
shelf_tried
end Go.Proofs
