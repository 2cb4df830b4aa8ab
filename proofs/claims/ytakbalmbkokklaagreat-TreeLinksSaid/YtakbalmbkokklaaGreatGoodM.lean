/- all hangs together: what Check asks, plain -/
import Derived.Test.YtakbalmbkokklaaGreatReachM
import Derived.Test.YtakbalmbkokklaaGreatTreeM
namespace Esch
open Go Go.RowKit
/-- all hangs together -/
structure GoodT (s : TrS) : Prop where
  ent : ∀ e ∈ s.n.m, s.t.has e.2 = true ∧ s.kind e.1.1 = 1
  one : namesN s.n.m 1 = 0
  root : (s.t.at 1).links ≠ 0
  ino : ∀ i ∈ s.t.m.map (·.1), i ≠ 1 → (s.t.at i).links = (namesN s.n.m i : Nat) ∧ (s.t.at i).links ≠ 0 ∧ Rch s.n.m i ∧ ((s.t.at i).kind = 1 → namesN s.n.m i = 1)
end Esch
