import Derived.Test.YtdbhbdlljgaleaaGreatDoorTree9
import Derived.Test.YtdbhbdlljgaleaaGreatDoorPkTre
import Derived.Test.YtdbhbdlljgaleaaGreatDoorPkExt
/- package tree: Rename, from outside -/
namespace Go.Proofs.YtdbhbdlljgaleaaGreatDoor
open Go.RowKit Esch Go.Shelf

end Go.Proofs.YtdbhbdlljgaleaaGreatDoor
/- package tree: Link -/
namespace Go.Proofs.YtdbhbdlljgaleaaGreatDoor
open Go.RowKit Esch Go.Shelf

end Go.Proofs.YtdbhbdlljgaleaaGreatDoor
/- package inode: Truncate, Open -/
namespace Esch
open Go Go.RowKit
theorem growI_lt {S : Nat → Prop} {w w' W : World} (h : ∀ k, S k → k < w.heap.size) (h1 : w.heap.size ≤ W.heap.size) (h2 : w'.heap.size ≤ W.heap.size) : ∀ k, growI S w w' k → k < W.heap.size := fun k hk => by
  rcases hk with hk | hk
  · have := h k hk; omega
  · omega
/-- the table behind a change of its set, once more blocks have come -/
theorem grow_done {w W3 W w' : World} {b : Nat} {S : Nat → Prop} {s' : TabS} (hl : ∀ k, S k → k < w.heap.size) (hB : Below w.heap.size w W) (h3 : W3.heap.size ≤ W.heap.size) (hT : TabAt w' b (growI S w W3) s') (hM : Mod (growI S w W3) W w') :
    TabAt w' b (growI S w w') s' ∧ Mod S w w' := by
  have hz := hM.size
  have hzB := hB.size
  exact ⟨hT.wide (fun k hk => hk.imp id (fun h => ⟨h.1, by omega⟩)) (growI_lt hl (by omega) (Nat.le_refl _)), (Mod.of_below hB).trans' hM fun k hk h => h.elim id (fun h => by omega)⟩
/-- a table that is reached by a world in which more has come, and a box is written -/
theorem grow_in {w W2 W : World} {b bx : Nat} {S T : Nat → Prop} {s : TabS} (h : TabAt w b S s) (hB : Below w.heap.size w W2) (hM : Mod (· = bx) W2 W) (hbx : w.heap.size ≤ bx) (hT : ∀ k, S k → T k) (hl : ∀ k, T k → k < W.heap.size) : TabAt W b T s :=
  ((h.below' hB).mod hM (fun k hk e => by have := h.lt k hk; omega)).wide hT hl
theorem notMut_new {w W : World} {b : Nat} {S : Nat → Prop} {s : TabS} (h : TabAt w b S s) (hc : W.cell? ⟨b, 0, none⟩ = w.cell? ⟨b, 0, none⟩) {k : Nat} (hk : w.heap.size ≤ k) : NotMut W b k := by
  obtain ⟨sb, lt, mb, m, c0, -, -, -, sm, -⟩ := h
  refine ⟨fun e => by have := lt b sb; omega, fun e => ?_⟩
  rw [hc, c0] at e
  have e2 : mb = k := by injection e with e; injection e with e; injection e
  have := lt mb sm
  omega
theorem notMut_same {w W : World} {b : Nat} (hc : W.cell? ⟨b, 0, none⟩ = w.cell? ⟨b, 0, none⟩) {k : Nat} (h : NotMut w b k) : NotMut W b k := ⟨h.1, fun e => h.2 (by rw [← hc]; exact e)⟩
end Esch
namespace Go.Proofs.YtdbhbdlljgaleaaGreatDoor
open Go.RowKit Esch Go.Shelf

def TabPostG (w : World) (b : Nat) (S : Nat → Prop) (r : Int × TabS) (e : Ending) (w' : World) : Prop := e = .returned (.int .i64 r.1) ∧ TabAt w' b (growI S w w') r.2 ∧ Mod S w w'
theorem TabPostG.keep {w w' : World} {b : Nat} {S : Nat → Prop} {s : TabS} (h : TabAt w b S s) (hB : Below w.heap.size w w') (v : Int) : TabPostG w b S (v, s) (.returned (.int .i64 v)) w' := ⟨rfl, (h.below' hB).wide (fun _ hk => Or.inl hk) (growI_lt h.lt hB.size (Nat.le_refl _)), Mod.of_below hB⟩
end Go.Proofs.YtdbhbdlljgaleaaGreatDoor
