/- a record in a box of its own: what is told of it stays -/
import Derived.Test.YtmnkackkeppheaaGreatRKnown
import Derived.Test.YtmnkackkeppheaaGreatPkOpM
namespace Esch
open Go Go.RowKit
theorem _root_.Go.Calls.low {P : Program} {f : FuncId} {av : Array Value} {w : World} {v : Value} {Q : Ending → World → Prop} (h : Calls P f av w fun e w' => e = .returned v ∧ Below w.heap.size w w') (hQ : ∀ w', Below w.heap.size w w' → Q (.returned v) w') : Calls P f av w Q :=
  h.mono fun e w' h => by obtain ⟨rfl, h⟩ := h; exact hQ w' h
section
variable {P : Program} {ops : Array Oper} {Q : Exit → Act → World → Prop} {w : World} {xc xs xk : Int} {p q : Nm} {xz xh xo : Int} {xt : ByteArray} {xi xn : Int} {mp : Option Addr} {ml mc : Nat}
end
section
variable {P : Program} {ops : Array Oper} {Q : Exit → Act → World → Prop} {w : World} {S : World → Prop}
/-- a call that tells v wherever S is, and keeps it -/
theorem kwC {o : Oper} {rest : List Oper} {a a' : Act} {v : Value} {f : FuncId} {args : Array Value} (hc : ∀ W, S W → Calls P f args W fun e W' => e = .returned v ∧ S W') (h : KWalk P ops S Q rest a') (hx : Region.wanted o (yielded ops a.tmps) = true ∧ (∀ W, S W → (execOp a.eval o).run P W = .ok (.enter f args) W) ∧ a' = a.put o.dst v := by (refine ⟨by rfl, ?_, ?_⟩; (· intro W _; go_simp; try with_reducible rfl); (· simp only [Act.put, List.setIfInBounds_toArray, List.set_cons_zero, List.set_cons_succ]; rfl))) : KWalk P ops S Q (o :: rest) a :=
  kw_call hx.1 hx.2.1 hc hx.2.2 h
end
end Esch
