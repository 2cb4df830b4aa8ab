/- lists of inodes with their parts: law20.Own, ref20.Same -/
import Derived.Test.YtmnkackkeppheaaGreatPkIno
namespace Esch
open Go Go.RowKit
structure InosAt (w : World) (S : Nat → Prop) (ao : Option Addr) (l : List InC) : Prop where
  row : RwAt w S 6 l.length ao (l.flatMap InC.cells)
  pts : ∀ x ∈ l, PcOk w S x
theorem InosAt.mod {S F : Nat → Prop} {w w' : World} {ao : Option Addr} {l : List InC} (h : InosAt w S ao l) (hM : Mod F w w') (hS : ∀ k, S k → k < w.heap.size → ¬ F k) : InosAt w' S ao l := ⟨h.row.mod hM hS, fun x hx => (h.pts x hx).mod hM hS⟩
theorem InosAt.below' {S : Nat → Prop} {w w' : World} {ao : Option Addr} {l : List InC} (h : InosAt w S ao l) (hB : Below w.heap.size w w') : InosAt w' S ao l := h.mod (F := none') (Mod.of_below hB) fun _ _ _ => id
theorem InosAt.sub {S T : Nat → Prop} {w : World} {ao : Option Addr} {l : List InC} (h : InosAt w S ao l) (hS : ∀ k, k < w.heap.size → S k → T k) : InosAt w T ao l := ⟨h.row.sub hS, fun x hx => (h.pts x hx).sub hS⟩
theorem getDmem {α : Type} (l : List α) (d : α) {i : Nat} (hi : i < l.length) : l.getD i d ∈ l := by
  rw [List.getD_eq_getElem?_getD, List.getElem?_eq_getElem hi]; exact List.getElem_mem hi
theorem src_inc {P : Program} {W : World} (tx e' : TypeId) (hk : P.underlying tx = some (.slice e')) (b : Nat) (x : InC) (t : TypeId) (hb : W.heap[b]? = some (.cells x.cells.toArray t)) (c : Nat) : Src P 6 tx (.slice (some ⟨b, 0, none⟩) 1 c) 1 x.cells W := by
  refine Src.ofSlice W hk _ 1 c x.cells rfl (fun j u hu => ?_) (fun u hu => ?_)
  · rw [addr_add, Nat.zero_add]
    simp [World.cell?, hb, hu]
  · simp only [InC.cells, List.mem_cons, List.not_mem_nil, or_false] at hu
    rcases hu with rfl | rfl | rfl | rfl | rfl | rfl <;> rfl
end Esch
