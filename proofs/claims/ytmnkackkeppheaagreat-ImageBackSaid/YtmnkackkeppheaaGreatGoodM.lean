/- all hangs together: what Check asks, plain -/
import Derived.Test.YtmnkackkeppheaaGreatReachM
import Derived.Test.YtmnkackkeppheaaGreatPkIno
namespace Esch
open Go Go.RowKit
/-- all hangs together -/
structure GoodT (s : TrS) : Prop where
  ent : ∀ e ∈ s.n.m, s.t.has e.2 = true ∧ s.kind e.1.1 = 1
  one : namesN s.n.m 1 = 0
  root : (s.t.at 1).links ≠ 0
  ino : ∀ i ∈ s.t.m.map (·.1), i ≠ 1 → (s.t.at i).links = (namesN s.n.m i : Nat) ∧ ((s.t.at i).links = 0 → 0 < (s.t.at i).opens) ∧ ((s.t.at i).links ≠ 0 → Rch s.n.m i) ∧ ((s.t.at i).kind = 1 → namesN s.n.m i = 1)
/-- what Check asks of an inode -/
def InoC (s : TrS) (i : Int) : Prop := (s.t.at i).links = (namesN s.n.m i : Nat) ∧ (Rch s.n.m i ∨ ((s.t.at i).links = 0 ∧ 0 < (s.t.at i).opens)) ∧ ((s.t.at i).kind = 1 → namesN s.n.m i = 1)
/-- what Check asks -/
structure CkP (s : TrS) : Prop where
  ent : ∀ e ∈ s.n.m, s.t.has e.2 = true ∧ s.kind e.1.1 = 1
  one : namesN s.n.m 1 = 0
  ino : ∀ i ∈ s.t.m.map (·.1), i ≠ 1 → InoC s i
theorem GoodT.ck {s : TrS} (h : GoodT s) : CkP s := ⟨h.ent, h.one, fun i hi h1 => by
  obtain ⟨a, b, c, d⟩ := h.ino i hi h1
  refine ⟨a, ?_, d⟩
  by_cases e : (s.t.at i).links = 0
  · exact Or.inr ⟨e, b e⟩
  · exact Or.inl (c e)⟩
end Esch
