/- the log's tail: what it hears -/
import Derived.Test.YtghdhhbpbmhooaaGreatTail
import Derived.Test.YtghdhhbpbmhooaaGreatPkApp
namespace Go.Proofs.YtghdhhbpbmhooaaGreat
open Go.RowKit Esch

theorem an_boxA (w : World) (x0 x1 x2 x3 x4 x5 x6 x7 : Value) : ∃ W, W = w.alloc (.cells #[x0, x1, x2, x3, x4, x5, x6, x7] 49) ∧ Below w.heap.size w W ∧ W.heap.size = w.heap.size + 1 ∧ W.cell? ⟨w.heap.size, 0, none⟩ = some x0 ∧ W.cell? ⟨w.heap.size, 1, none⟩ = some x1 ∧ W.cell? ⟨w.heap.size, 2, none⟩ = some x2 ∧ W.cell? ⟨w.heap.size, 3, none⟩ = some x3 ∧ W.cell? ⟨w.heap.size, 4, none⟩ = some x4 ∧ W.cell? ⟨w.heap.size, 5, none⟩ = some x5 ∧ W.cell? ⟨w.heap.size, 6, none⟩ = some x6 ∧ W.cell? ⟨w.heap.size, 7, none⟩ = some x7 :=
  ⟨_, rfl, by exact belC (Below.refl _ _), by simp, by go_simp, by go_simp, by go_simp, by go_simp, by go_simp, by go_simp, by go_simp, by go_simp⟩
def QuietPost (w : World) (e : Ending) (w' : World) : Prop := e = .returned (.tuple #[]) ∧ Below w.heap.size w w'
section
variable {w : World} {tb : Nat} {S : Nat → Prop} {s : TaS} (x : AnS) (a : Option Addr) (c : Nat) (b : Bool)
end
end Go.Proofs.YtghdhhbpbmhooaaGreat
