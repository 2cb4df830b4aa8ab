import Derived.WalkKit
import Derived.WalkSpells
import Derived.Test.YtpkdpmkiplopmaaMaps
import Derived.StillTailTactics
import Derived.Deep.RegionHeld3
import Derived.Deep.QuietTactic
import Derived.BigQuiet
/- What a call may have changed: 'Mod F w w'': of the blocks that were there those of F alone. -/
namespace Esch
open Go Go.RowKit

/-- Of the blocks that were there those of F alone may have changed; the streams are as they were. -/
structure Mod (F : Nat → Prop) (w w' : World) : Prop where
  os : w'.os = w.os
  tape : w'.tape = w.tape
  output : w'.output = w.output
  size : w.heap.size ≤ w'.heap.size
  block : ∀ k, k < w.heap.size → ¬ F k → w'.heap[k]? = w.heap[k]?

def none' : Nat → Prop := fun _ => False
theorem Mod.refl (F : Nat → Prop) (w : World) : Mod F w w := ⟨rfl, rfl, rfl, Nat.le_refl _, fun _ _ _ => rfl⟩
theorem Mod.trans' {F G : Nat → Prop} {a b c : World} (h : Mod F a b) (k : Mod G b c) (hG : ∀ k, k < a.heap.size → G k → F k) : Mod F a c :=
  ⟨k.os.trans h.os, k.tape.trans h.tape, k.output.trans h.output, Nat.le_trans h.size k.size,
    fun i hi hF => (k.block i (Nat.lt_of_lt_of_le hi h.size) (fun hg => hF (hG i hi hg))).trans (h.block i hi hF)⟩
theorem Mod.trans {F : Nat → Prop} {a b c : World} (h : Mod F a b) (k : Mod F b c) : Mod F a c := h.trans' k fun _ _ h => h
theorem Mod.mono {F G : Nat → Prop} {a b : World} (h : Mod F a b) (hG : ∀ k, k < a.heap.size → F k → G k) : Mod G a b :=
  ⟨h.os, h.tape, h.output, h.size, fun i hi hF => h.block i hi fun hf => hF (hG i hi hf)⟩
theorem Mod.of_below {F : Nat → Prop} {w w' : World} (h : Below w.heap.size w w') : Mod F w w' := ⟨h.os, h.tape, h.output, h.size, fun k hk _ => h.block k hk⟩
theorem Mod.below {w w' : World} (h : Mod none' w w') : Below w.heap.size w w' := ⟨h.os, h.tape, h.output, h.size, fun k hk => h.block k hk id⟩
theorem Mod.below_at {F : Nat → Prop} {w w' : World} {B : Nat} (h : Mod F w w') (hB : B ≤ w.heap.size) (hF : ∀ k, k < B → ¬ F k) : Below B w w' := ⟨h.os, h.tape, h.output, h.size, fun k hk => h.block k (by omega) (hF k hk)⟩
theorem Mod.drew {F : Nat → Prop} {a w : World} (h : Mod F a w) : Mod F a w.drew := ⟨h.os, h.tape, h.output, h.size, h.block⟩
theorem Mod.drewN {F : Nat → Prop} {a w : World} (h : Mod F a w) (n : Nat) : Mod F a (w.drewN n) := ⟨h.os, h.tape, h.output, h.size, h.block⟩
theorem Mod.alloc {F : Nat → Prop} {a w : World} (h : Mod F a w) (o : Obj) : Mod F a (w.alloc o) :=
  h.trans' (G := F) ⟨rfl, rfl, rfl, by simp, fun k hk _ => Below.heap_alloc _ _ _ hk⟩ fun _ _ h => h
theorem Mod.setCell {F : Nat → Prop} {a w : World} (h : Mod F a w) {p : Addr} (hp : p.block < a.heap.size → F p.block) (u : Value) : Mod F a (w.setCell p u) :=
  ⟨h.os, h.tape, h.output, by simpa using h.size, fun k hk hF => (Below.heap_setCell _ _ _ _ (fun e => by subst e; exact hF (hp hk))).trans (h.block k hk hF)⟩
theorem Mod.setCellAt {F : Nat → Prop} {a w : World} (h : Mod F a w) {b o : Nat} (hp : b < a.heap.size → F b) (u : Value) : Mod F a (w.setCell ⟨b, o, none⟩ u) := h.setCell (p := ⟨b, o, none⟩) hp u
theorem putObj_other (w : World) (b : Nat) (o : Obj) (k : Nat) (h : k ≠ b) : (putObj w b o).heap[k]? = w.heap[k]? := by
  simp [putObj, Array.getElem?_setIfInBounds_ne (Ne.symm h)]
@[simp] theorem putObj_size (w : World) (b : Nat) (o : Obj) : (putObj w b o).heap.size = w.heap.size := by simp [putObj]
theorem Mod.putObj {F : Nat → Prop} {a w : World} (h : Mod F a w) {b : Nat} (hp : b < a.heap.size → F b) (o : Obj) : Mod F a (putObj w b o) :=
  ⟨h.os, h.tape, h.output, by simpa using h.size, fun k hk hF => (putObj_other _ _ _ _ (fun e => by subst e; exact hF (hp hk))).trans (h.block k hk hF)⟩
theorem Mod.cell {F : Nat → Prop} {w w' : World} (h : Mod F w w') {p : Addr} (hp : p.block < w.heap.size) (hF : ¬ F p.block) : w'.cell? p = w.cell? p := World.cell?_of_block (w := w) (h.block p.block hp hF)
theorem Mod.frozen {F : Nat → Prop} {w w' : World} (h : Mod F w w') {p : Addr} (hp : p.block < w.heap.size) (hF : ¬ F p.block) : w'.frozen? p = w.frozen? p := World.frozen?_of_block (w := w) (h.block p.block hp hF)
/-- the walk's two rules -/
theorem Mod.cells {F : Nat → Prop} {w w' : World} (h : Mod F w w') : (∀ b o, b < w.heap.size → ¬ F b → w'.cell? ⟨b, o, none⟩ = w.cell? ⟨b, o, none⟩) ∧ (∀ b o, b < w.heap.size → ¬ F b → w'.frozen? ⟨b, o, none⟩ = w.frozen? ⟨b, o, none⟩) :=
  ⟨fun b o hb hF => h.cell (p := ⟨b, o, none⟩) hb hF, fun b o hb hF => h.frozen (p := ⟨b, o, none⟩) hb hF⟩
theorem bcell {B : Nat} {W w1 : World} (hb : Below B W w1) : (∀ b o, b < B → w1.cell? ⟨b, o, none⟩ = W.cell? ⟨b, o, none⟩) ∧ (∀ b o, b < B → w1.frozen? ⟨b, o, none⟩ = W.frozen? ⟨b, o, none⟩) :=
  ⟨fun b o h => hb.cell (p := ⟨b, o, none⟩) h, fun b o h => hb.frozen (p := ⟨b, o, none⟩) h⟩
/-- the walk's two rules, where one block alone may have changed -/
theorem Mod.one {c B : Nat} {w w' : World} (h : Mod (· = c) w w') (hB : B ≤ w.heap.size) : (∀ b o, b < B → b ≠ c → w'.cell? ⟨b, o, none⟩ = w.cell? ⟨b, o, none⟩) ∧ (∀ b o, b < B → b ≠ c → w'.frozen? ⟨b, o, none⟩ = w.frozen? ⟨b, o, none⟩) :=
  ⟨fun b o hb hF => h.cell (p := ⟨b, o, none⟩) (Nat.lt_of_lt_of_le hb hB) hF, fun b o hb hF => h.frozen (p := ⟨b, o, none⟩) (Nat.lt_of_lt_of_le hb hB) hF⟩
theorem block_lt {w : World} {b : Nat} {o : Obj} (h : w.heap[b]? = some o) : b < w.heap.size := by
  rcases Nat.lt_or_ge b w.heap.size with h' | h'
  · exact h'
  · simp [Array.getElem?_eq_none h'] at h
theorem cell_lt {w : World} {b o : Nat} {v : Value} (h : w.cell? ⟨b, o, none⟩ = some v) : b < w.heap.size := World.block_lt_of_cell? (a := ⟨b, o, none⟩) (h := h)
@[simp] theorem alloc_new (w : World) (o : Obj) : (w.alloc o).heap[w.heap.size]? = some o := by
  show (w.heap.push o)[w.heap.size]? = _
  simp
@[simp] theorem alloc_old (w : World) (o : Obj) (k : Nat) (h : k < w.heap.size) : (w.alloc o).heap[k]? = w.heap[k]? := Below.heap_alloc w o k h
@[simp] theorem drew_heap (w : World) : w.drew.heap = w.heap := rfl
@[simp] theorem cell_alloc_lt (w : World) (ob : Obj) (b o : Nat) (h : b < w.heap.size) : (w.alloc ob).cell? ⟨b, o, none⟩ = w.cell? ⟨b, o, none⟩ := World.cell?_alloc_lt w ob ⟨b, o, none⟩ h
@[simp] theorem frozen_alloc_lt (w : World) (ob : Obj) (b o : Nat) (h : b < w.heap.size) : (w.alloc ob).frozen? ⟨b, o, none⟩ = w.frozen? ⟨b, o, none⟩ := World.frozen?_alloc_old w ob ⟨b, o, none⟩ (Nat.ne_of_lt h)
/-- a region that draws its order, all of whose operations but the last ones only read: one walk, in the order of the text -/
theorem region_tail {P : Program} {id : Nat} {Q : Exit → Act → World → Prop} {a : Act} {w : World} {l : List Oper} (n : Nat) (hm : P.follows .mixedOrders = true) (hB : Region.lexTailB .any l.toArray n = true)
    (h : ∀ (T : List Oper), T = l.drop n → ∀ K : Act → Prop, (∀ a', wpList P l.toArray Q T a' w.drew → K a') → wpStill P l.toArray w.drew K (l.take n) a) : (Code.region id l.toArray true).wp P Q a w :=
  wp_region_still_tail n hm hB (h _ rfl _ fun _ h => h)
theorem Mod.at {F : Nat → Prop} {w w' : World} (h : Mod F w w') {b o : Nat} {v : Value} (hc : w.cell? ⟨b, o, none⟩ = some v) (hF : ¬ F b) : w'.cell? ⟨b, o, none⟩ = some v := (h.cell (p := ⟨b, o, none⟩) (cell_lt hc) hF).trans hc
theorem below_drewN {B : Nat} {w w' : World} (h : Below B w w') (n : Nat) : Below B w (w'.drewN n) := ⟨h.os, h.tape, h.output, h.size, h.block⟩
theorem below_at {B : Nat} {w w' : World} (h : Below B w w') {b o : Nat} {v : Value} (hc : w.cell? ⟨b, o, none⟩ = some v) (hb : b < B) : w'.cell? ⟨b, o, none⟩ = some v := (h.cell (p := ⟨b, o, none⟩) hb).trans hc
@[simp] theorem cell_alloc_lt2 (w : World) (o0 o1 : Obj) (b o : Nat) (h : b < w.heap.size) : ((w.alloc o0).alloc o1).cell? ⟨b, o, none⟩ = w.cell? ⟨b, o, none⟩ :=
  (cell_alloc_lt _ _ b o (by simp only [World.size_alloc]; omega)).trans (cell_alloc_lt w o0 b o h)
@[simp] theorem frozen_alloc_lt2 (w : World) (o0 o1 : Obj) (b o : Nat) (h : b < w.heap.size) : ((w.alloc o0).alloc o1).frozen? ⟨b, o, none⟩ = w.frozen? ⟨b, o, none⟩ :=
  (frozen_alloc_lt _ _ b o (by simp only [World.size_alloc]; omega)).trans (frozen_alloc_lt w o0 b o h)
@[simp] theorem cell_alloc_lt3 (w : World) (o0 o1 o2 : Obj) (b o : Nat) (h : b < w.heap.size) : (((w.alloc o0).alloc o1).alloc o2).cell? ⟨b, o, none⟩ = w.cell? ⟨b, o, none⟩ :=
  (cell_alloc_lt _ _ b o (by simp only [World.size_alloc]; omega)).trans (cell_alloc_lt2 w o0 o1 b o h)
@[simp] theorem frozen_alloc_lt3 (w : World) (o0 o1 o2 : Obj) (b o : Nat) (h : b < w.heap.size) : (((w.alloc o0).alloc o1).alloc o2).frozen? ⟨b, o, none⟩ = w.frozen? ⟨b, o, none⟩ :=
  (frozen_alloc_lt _ _ b o (by simp only [World.size_alloc]; omega)).trans (frozen_alloc_lt2 w o0 o1 b o h)
@[simp] theorem cell_alloc_lt4 (w : World) (o0 o1 o2 o3 : Obj) (b o : Nat) (h : b < w.heap.size) : ((((w.alloc o0).alloc o1).alloc o2).alloc o3).cell? ⟨b, o, none⟩ = w.cell? ⟨b, o, none⟩ :=
  (cell_alloc_lt _ _ b o (by simp only [World.size_alloc]; omega)).trans (cell_alloc_lt3 w o0 o1 o2 b o h)
@[simp] theorem frozen_alloc_lt4 (w : World) (o0 o1 o2 o3 : Obj) (b o : Nat) (h : b < w.heap.size) : ((((w.alloc o0).alloc o1).alloc o2).alloc o3).frozen? ⟨b, o, none⟩ = w.frozen? ⟨b, o, none⟩ :=
  (frozen_alloc_lt _ _ b o (by simp only [World.size_alloc]; omega)).trans (frozen_alloc_lt3 w o0 o1 o2 b o h)
@[simp] theorem cell_alloc_lt5 (w : World) (o0 o1 o2 o3 o4 : Obj) (b o : Nat) (h : b < w.heap.size) : (((((w.alloc o0).alloc o1).alloc o2).alloc o3).alloc o4).cell? ⟨b, o, none⟩ = w.cell? ⟨b, o, none⟩ :=
  (cell_alloc_lt _ _ b o (by simp only [World.size_alloc]; omega)).trans (cell_alloc_lt4 w o0 o1 o2 o3 b o h)
@[simp] theorem frozen_alloc_lt5 (w : World) (o0 o1 o2 o3 o4 : Obj) (b o : Nat) (h : b < w.heap.size) : (((((w.alloc o0).alloc o1).alloc o2).alloc o3).alloc o4).frozen? ⟨b, o, none⟩ = w.frozen? ⟨b, o, none⟩ :=
  (frozen_alloc_lt _ _ b o (by simp only [World.size_alloc]; omega)).trans (frozen_alloc_lt4 w o0 o1 o2 o3 b o h)
@[simp] theorem cell_alloc_lt6 (w : World) (o0 o1 o2 o3 o4 o5 : Obj) (b o : Nat) (h : b < w.heap.size) : ((((((w.alloc o0).alloc o1).alloc o2).alloc o3).alloc o4).alloc o5).cell? ⟨b, o, none⟩ = w.cell? ⟨b, o, none⟩ :=
  (cell_alloc_lt _ _ b o (by simp only [World.size_alloc]; omega)).trans (cell_alloc_lt5 w o0 o1 o2 o3 o4 b o h)
@[simp] theorem frozen_alloc_lt6 (w : World) (o0 o1 o2 o3 o4 o5 : Obj) (b o : Nat) (h : b < w.heap.size) : ((((((w.alloc o0).alloc o1).alloc o2).alloc o3).alloc o4).alloc o5).frozen? ⟨b, o, none⟩ = w.frozen? ⟨b, o, none⟩ :=
  (frozen_alloc_lt _ _ b o (by simp only [World.size_alloc]; omega)).trans (frozen_alloc_lt5 w o0 o1 o2 o3 o4 b o h)
@[simp] theorem cell_alloc_lt7 (w : World) (o0 o1 o2 o3 o4 o5 o6 : Obj) (b o : Nat) (h : b < w.heap.size) : (((((((w.alloc o0).alloc o1).alloc o2).alloc o3).alloc o4).alloc o5).alloc o6).cell? ⟨b, o, none⟩ = w.cell? ⟨b, o, none⟩ :=
  (cell_alloc_lt _ _ b o (by simp only [World.size_alloc]; omega)).trans (cell_alloc_lt6 w o0 o1 o2 o3 o4 o5 b o h)
@[simp] theorem frozen_alloc_lt7 (w : World) (o0 o1 o2 o3 o4 o5 o6 : Obj) (b o : Nat) (h : b < w.heap.size) : (((((((w.alloc o0).alloc o1).alloc o2).alloc o3).alloc o4).alloc o5).alloc o6).frozen? ⟨b, o, none⟩ = w.frozen? ⟨b, o, none⟩ :=
  (frozen_alloc_lt _ _ b o (by simp only [World.size_alloc]; omega)).trans (frozen_alloc_lt6 w o0 o1 o2 o3 o4 o5 b o h)
@[simp] theorem cell_alloc_lt8 (w : World) (o0 o1 o2 o3 o4 o5 o6 o7 : Obj) (b o : Nat) (h : b < w.heap.size) : ((((((((w.alloc o0).alloc o1).alloc o2).alloc o3).alloc o4).alloc o5).alloc o6).alloc o7).cell? ⟨b, o, none⟩ = w.cell? ⟨b, o, none⟩ :=
  (cell_alloc_lt _ _ b o (by simp only [World.size_alloc]; omega)).trans (cell_alloc_lt7 w o0 o1 o2 o3 o4 o5 o6 b o h)
@[simp] theorem frozen_alloc_lt8 (w : World) (o0 o1 o2 o3 o4 o5 o6 o7 : Obj) (b o : Nat) (h : b < w.heap.size) : ((((((((w.alloc o0).alloc o1).alloc o2).alloc o3).alloc o4).alloc o5).alloc o6).alloc o7).frozen? ⟨b, o, none⟩ = w.frozen? ⟨b, o, none⟩ :=
  (frozen_alloc_lt _ _ b o (by simp only [World.size_alloc]; omega)).trans (frozen_alloc_lt7 w o0 o1 o2 o3 o4 o5 o6 b o h)
@[simp] theorem cell_alloc_lt9 (w : World) (o0 o1 o2 o3 o4 o5 o6 o7 o8 : Obj) (b o : Nat) (h : b < w.heap.size) : (((((((((w.alloc o0).alloc o1).alloc o2).alloc o3).alloc o4).alloc o5).alloc o6).alloc o7).alloc o8).cell? ⟨b, o, none⟩ = w.cell? ⟨b, o, none⟩ :=
  (cell_alloc_lt _ _ b o (by simp only [World.size_alloc]; omega)).trans (cell_alloc_lt8 w o0 o1 o2 o3 o4 o5 o6 o7 b o h)
@[simp] theorem frozen_alloc_lt9 (w : World) (o0 o1 o2 o3 o4 o5 o6 o7 o8 : Obj) (b o : Nat) (h : b < w.heap.size) : (((((((((w.alloc o0).alloc o1).alloc o2).alloc o3).alloc o4).alloc o5).alloc o6).alloc o7).alloc o8).frozen? ⟨b, o, none⟩ = w.frozen? ⟨b, o, none⟩ :=
  (frozen_alloc_lt _ _ b o (by simp only [World.size_alloc]; omega)).trans (frozen_alloc_lt8 w o0 o1 o2 o3 o4 o5 o6 o7 b o h)
end Esch
