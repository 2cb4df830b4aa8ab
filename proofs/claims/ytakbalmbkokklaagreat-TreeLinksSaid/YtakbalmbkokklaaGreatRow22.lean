/- two closed facts of the program, for all of the seat's laws -/
import Derived.Test.YtakbalmbkokklaaGreatRows
import Derived.Test.YtakbalmbkokklaaGreatRead
namespace Go.Proofs.YtakbalmbkokklaaGreat
open Go.RowKit Esch
theorem Tryz.ownP : ownKnob Tryz.prog.godebug = none := by kernel_rfl
theorem Tryz.laidOutP : laidOutB Tryz.prog = true := by kernel_rfl
end Go.Proofs.YtakbalmbkokklaaGreat
