/- package tree: List -/
import Derived.Test.YtdbhbdlljgaleaaGreatDoorPkTrg
namespace Go.Proofs.YtdbhbdlljgaleaaGreatDoor
open Go.RowKit Esch Go.Shelf

def lstOf (s : TrS) (r : Res Int) : Res Int := match r with
  | .ok i => if s.kind i ≠ 1 then .err 62 else .ok i
  | .err e => .err e
def LsOk (s : TrS) (r : Res Int) (l : List Nm) : Prop := match r with
  | .ok i => NamesOfD s.n.m i l
  | .err _ => l = []
def ListR (W1 : World) (b bx : Nat) (S : Nat → Prop) (s : TrS) (r : Res Int) (x : Int) (W : World) : Prop :=
  x = r.code ∧ TreeAt W b S s ∧ (∃ a c l, W.cell? ⟨bx, 0, none⟩ = some (.slice a l.length c) ∧ LsOk s r l ∧ NmsAt (From W1.heap.size) W a l ∧ CapN l.length c) ∧ Mod (· = bx) W1 W
def ListPost (w : World) (s : TrS) (r : Res Int) (e : Ending) (w' : World) : Prop :=
  ∃ a c l, e = .returned (.tuple #[.slice a l.length c, .int .i64 r.code]) ∧ LsOk s r l ∧ NmsAt (From w.heap.size) w' a l ∧ CapN l.length c ∧ Below w.heap.size w w'
end Go.Proofs.YtdbhbdlljgaleaaGreatDoor
