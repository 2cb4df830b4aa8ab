import Derived.Test.YtpkdpmkiplopmaaKeep
import Derived.Test.YtpkdpmkiplopmaaRead
/- two closed facts of the program, for all of the seat's laws -/
namespace Go.Proofs.Ytpkdpmkiplopmaa
open Go.RowKit Esch
theorem Try.ownP : ownKnob Try.prog.godebug = none := by kernel_rfl
theorem Try.laidOutP : laidOutB Try.prog = true := by kernel_rfl
end Go.Proofs.Ytpkdpmkiplopmaa
