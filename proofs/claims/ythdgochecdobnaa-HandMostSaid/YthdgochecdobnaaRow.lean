/- two closed facts of the program, for all of the seat's laws -/
import Derived.Test.YthdgochecdobnaaPkKeep
import Derived.Test.YthdgochecdobnaaRead
namespace Go.Proofs.Ythdgochecdobnaa
open Go.RowKit Esch
theorem Try.ownP : ownKnob Try.prog.godebug = none := by kernel_rfl
theorem Try.laidOutP : laidOutB Try.prog = true := by kernel_rfl
end Go.Proofs.Ythdgochecdobnaa
