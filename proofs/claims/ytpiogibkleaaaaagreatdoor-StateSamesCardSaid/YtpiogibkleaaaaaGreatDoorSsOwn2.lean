/- the document's state of a dump: law25.Own -/
import Derived.Test.YtpiogibkleaaaaaGreatDoorSsOwn
import Derived.Test.YtpiogibkleaaaaaGreatDoorInoOwn
import Derived.Test.YtpiogibkleaaaaaGreatDoorPkDm
namespace Esch
open Go Go.RowKit
structure FnAt (w : World) (b n : Nat) (f : Nat → Value) : Prop where
  at' : ∀ j, j < n → w.cell? ⟨b, j, none⟩ = some (f j)
  fz : ∀ j, w.frozen? ⟨b, j, none⟩ = false
  lt : b < w.heap.size
theorem FnAt.new (w : World) (T : TypeId) (l : List Value) (n : Nat) (hl : l.length = n) : FnAt (w.alloc (.cells l.toArray T)) w.heap.size n (fun j => (l[j]?).getD undef) := by
  have hb : (w.alloc (.cells l.toArray T)).heap[w.heap.size]? = some (.cells l.toArray T) := heap_alloc_new _ _
  refine ⟨fun j hj => ?_, fun j => by go_simp, by simp⟩
  have h2 : l[j]? = some (l[j]'(by omega)) := List.getElem?_eq_getElem _
  unfold World.cell?
  simp only [hb, h2, Option.getD_some]
  simp [h2]
theorem FnAt.set {w : World} {b n : Nat} {f : Nat → Value} (h : FnAt w b n f) {k : Nat} (hk : k < n) (v : Value) : FnAt (w.setCell ⟨b, k, none⟩ v) b n (upd f k v) := by
  refine ⟨fun j hj => ?_, fun j => (World.frozen?_setCell _ _ _ _).trans (h.fz j), by simpa using h.lt⟩
  unfold upd
  by_cases e : j = k
  · subst e
    have := h.at' j hj
    rw [if_pos rfl]
    go_simp
  · rw [if_neg e, ← h.at' j hj]
    have hne : (⟨b, k, none⟩ : Addr) ≠ ⟨b, j, none⟩ := fun e' => e (by have := congrArg Addr.off e'; simp only at this; omega)
    apply World.cell?_setCell_other; exact hne
theorem FnAt.below {w w' : World} {b n : Nat} {f : Nat → Value} (h : FnAt w b n f) (hB : Below w.heap.size w w') : FnAt w' b n f :=
  ⟨fun j hj => below_at hB (h.at' j hj) h.lt, fun j => ((Mod.of_below (F := none') hB).frozen (p := ⟨b, j, none⟩) h.lt id).trans (h.fz j), Nat.lt_of_lt_of_le h.lt hB.size⟩
theorem FnAt.mod {F : Nat → Prop} {w w' : World} {b n : Nat} {f : Nat → Value} (h : FnAt w b n f) (hM : Mod F w w') (hb : ¬ F b) : FnAt w' b n f :=
  ⟨fun j hj => hM.at (h.at' j hj) hb, fun j => (hM.frozen (p := ⟨b, j, none⟩) h.lt hb).trans (h.fz j), Nat.lt_of_lt_of_le h.lt hM.size⟩
section
variable {P : Program} {ops : Array Oper} {Q : Exit → Act → World → Prop} {md : Region.Mode} {S : World → Prop}
theorem wpAnyH_fix {fuel : Nat} {ls : Array Bool} {a : Act} {w : World} (h : ∀ G : Nat → Array Bool → Act → World → Prop, Shut (G = wpAnyH P md ops Q S) → G fuel ls a w) : wpAnyH P md ops Q S fuel ls a w := h _ rfl
end
end Esch
namespace Go.Proofs.YtpiogibkleaaaaaGreatDoor
open Go.RowKit Esch Go.Shelf

set_option linter.unusedSimpArgs false
set_option linter.unusedVariables false
/-- the document's handles behind i clients; its once -/
def hV (n : Nat) (l : Nat → Int) (ta : Option Addr) (tc : Nat) : Nat → Nat → Value
  | 0 => fun j => (((.slice ta n tc :: .int .i64 0 :: .int .i64 0 :: .int .i64 0 :: .int .i64 0 :: .int .i64 0 :: .int .i64 0 :: .int .i64 0 :: .int .i64 0 :: []) : List Value)[j]?).getD undef
  | i + 1 => upd (hV n l ta tc i) (1 + i) (.int .i64 (l i))
def oV (s r : Nat → Int) : Nat → Nat → Value
  | 0 => fun j => (((.int .i64 0 :: .int .i64 0 :: .int .i64 0 :: .int .i64 0 :: .int .i64 0 :: .int .i64 0 :: .int .i64 0 :: .int .i64 0 :: .int .i64 0 :: .int .i64 0 :: .int .i64 0 :: .int .i64 0 :: .int .i64 0 :: .int .i64 0 :: .int .i64 0 :: .int .i64 0 :: .int .i64 0 :: .int .i64 0 :: .int .i64 0 :: .int .i64 0 :: .int .i64 0 :: .int .i64 0 :: .int .i64 0 :: .int .i64 0 :: []) : List Value)[j]?).getD undef
  | i + 1 => upd (upd (upd (oV s r i) i (.int .i64 (s i))) (8 + i * 2) (.int .i64 (r (i * 2)))) (8 + i * 2 + 1) (.int .i64 (r (i * 2 + 1)))
/-- the document's state of a dump, in memory -/
structure RStIn (w : World) (B q p20 p25 p27 p13 p18 : Nat) (oa : Option Addr) (oc : Nat) (ok : List InC) (ra : Option Addr) (rc : Nat) (ta : Option Addr) (tc : Nat) (x : DmC) : Prop where
  fq : FnAt w q 4 (fun j => (((.int .i64 x.n :: .pointer (some ⟨p20, 0, none⟩) :: .pointer (some ⟨p25, 0, none⟩) :: .pointer (some ⟨p27, 0, none⟩) :: []) : List Value)[j]?).getD undef)
  f20 : FnAt w p20 2 (fun j => (((.pointer (some ⟨p13, 0, none⟩) :: .pointer (some ⟨p18, 0, none⟩) :: []) : List Value)[j]?).getD undef)
  f13 : FnAt w p13 2 (fun j => (((.slice oa ok.length oc :: .int .i64 x.m :: []) : List Value)[j]?).getD undef)
  f18 : FnAt w p18 1 (fun j => (((.slice ra x.nl.length rc :: []) : List Value)[j]?).getD undef)
  f25 : FnAt w p25 9 (hV x.hl.length x.l ta tc 8)
  f27 : FnAt w p27 24 (oV x.s x.r 8)
  fA : InosAt w (From B) oa ok
  fAv : ok.map InC.val = x.ik.map InC.val
  fB : RwAt w (From B) 3 x.nl.length ra (x.nl.flatMap enC)
  fC : RwAt w (From B) 3 x.hl.length ta (x.hl.flatMap hdC)
theorem owKeep {B W W2 : World} {b : Nat} {v0 v1 v2 v3 v4 : Value} (h : (W.cell? ⟨b, 0, none⟩ = some v0 ∧ W.cell? ⟨b, 1, none⟩ = some v1 ∧ W.cell? ⟨b, 2, none⟩ = some v2 ∧ W.cell? ⟨b, 3, none⟩ = some v3 ∧ W.cell? ⟨b, 4, none⟩ = some v4) ∧ Below B.heap.size B W) (hB : Below W.heap.size W W2) :
    (W2.cell? ⟨b, 0, none⟩ = some v0 ∧ W2.cell? ⟨b, 1, none⟩ = some v1 ∧ W2.cell? ⟨b, 2, none⟩ = some v2 ∧ W2.cell? ⟨b, 3, none⟩ = some v3 ∧ W2.cell? ⟨b, 4, none⟩ = some v4) ∧ Below B.heap.size B W2 :=
  ⟨⟨below_at hB h.1.1 (cell_lt h.1.1), below_at hB h.1.2.1 (cell_lt h.1.2.1), below_at hB h.1.2.2.1 (cell_lt h.1.2.2.1), below_at hB h.1.2.2.2.1 (cell_lt h.1.2.2.2.1), below_at hB h.1.2.2.2.2 (cell_lt h.1.2.2.2.2)⟩, h.2.trans (hB.mono h.2.size)⟩
def OwRel (W : World) (p25 p27 n : Nat) (l s r : Nat → Int) (ta : Option Addr) (tc : Nat) (g : Nat) (v : Value) (wr : World) : Prop := ∃ i : Nat, g = 8 - i ∧ i ≤ 8 ∧ v = .int .i64 i ∧ FnAt wr p25 9 (hV n l ta tc i) ∧ FnAt wr p27 24 (oV s r i) ∧ Mod (fun k => k = p25 ∨ k = p27) W wr
theorem owKeep2 {W W2 : World} {F : Nat → Prop} {q b o1 o2 o3 o4 : Nat} {v0 v1 v2 v3 v4 v5 : Value} (h : (W.cell? ⟨q, 2, none⟩ = some v0 ∧ W.cell? ⟨q, 3, none⟩ = some v1) ∧ W.cell? ⟨b, o1, none⟩ = some v2 ∧ W.cell? ⟨b, o2, none⟩ = some v3 ∧ W.cell? ⟨b, o3, none⟩ = some v4 ∧ W.cell? ⟨b, o4, none⟩ = some v5) (hM : Mod F W W2) (hq : ¬ F q) (hb : ¬ F b) :
    (W2.cell? ⟨q, 2, none⟩ = some v0 ∧ W2.cell? ⟨q, 3, none⟩ = some v1) ∧ W2.cell? ⟨b, o1, none⟩ = some v2 ∧ W2.cell? ⟨b, o2, none⟩ = some v3 ∧ W2.cell? ⟨b, o3, none⟩ = some v4 ∧ W2.cell? ⟨b, o4, none⟩ = some v5 :=
  ⟨⟨hM.at h.1.1 hq, hM.at h.1.2 hq⟩, hM.at h.2.1 hb, hM.at h.2.2.1 hb, hM.at h.2.2.2.1 hb, hM.at h.2.2.2.2 hb⟩
def ROwnPost (w : World) (x : DmC) (e : Ending) (w' : World) : Prop := ∃ q p20 p25 p27 p13 p18 oa oc ok ra rc ta tc, e = .returned (.pointer (some ⟨q, 0, none⟩)) ∧ RStIn w' w.heap.size q p20 p25 p27 p13 p18 oa oc ok ra rc ta tc x ∧ Below w.heap.size w w'
set_option maxRecDepth 100000 in
set_option maxHeartbeats 16000000 in
theorem own25_any (w : World) (S : Nat → Prop) (x : DmC) (hx : DmOk w S x) : Calls Tryz.prog 9 #[.agg x.cells.toArray] w (ROwnPost w x) := by
  obtain ⟨xn, xia, xic, xik, xm, xna, xnc, xnl, xha, xhc, xhl, xl, xs, xr⟩ := x
  obtain ⟨W1, hW1⟩ : ∃ W1, W1 = w.alloc (.cells ((.int .i64 xn :: .slice xia xik.length xic :: .int .i64 xm :: .slice xna xnl.length xnc :: .slice xha xhl.length xhc :: .int .i64 (xl 0) :: .int .i64 (xl 1) :: .int .i64 (xl 2) :: .int .i64 (xl 3) :: .int .i64 (xl 4) :: .int .i64 (xl 5) :: .int .i64 (xl 6) :: .int .i64 (xl 7) :: .int .i64 (xs 0) :: .int .i64 (xs 1) :: .int .i64 (xs 2) :: .int .i64 (xs 3) :: .int .i64 (xs 4) :: .int .i64 (xs 5) :: .int .i64 (xs 6) :: .int .i64 (xs 7) :: .int .i64 (xr 0) :: .int .i64 (xr 1) :: .int .i64 (xr 2) :: .int .i64 (xr 3) :: .int .i64 (xr 4) :: .int .i64 (xr 5) :: .int .i64 (xr 6) :: .int .i64 (xr 7) :: .int .i64 (xr 8) :: .int .i64 (xr 9) :: .int .i64 (xr 10) :: .int .i64 (xr 11) :: .int .i64 (xr 12) :: .int .i64 (xr 13) :: .int .i64 (xr 14) :: .int .i64 (xr 15) :: [] : List Value)).toArray 31) := ⟨_, rfl⟩
  have hB1 : Below w.heap.size w W1 := by rw [hW1]; exact belC (Below.refl _ _)
  have hz1 : w.heap.size < W1.heap.size := by rw [hW1]; simp
  have hfx := FnAt.new w 31 ((.int .i64 xn :: .slice xia xik.length xic :: .int .i64 xm :: .slice xna xnl.length xnc :: .slice xha xhl.length xhc :: .int .i64 (xl 0) :: .int .i64 (xl 1) :: .int .i64 (xl 2) :: .int .i64 (xl 3) :: .int .i64 (xl 4) :: .int .i64 (xl 5) :: .int .i64 (xl 6) :: .int .i64 (xl 7) :: .int .i64 (xs 0) :: .int .i64 (xs 1) :: .int .i64 (xs 2) :: .int .i64 (xs 3) :: .int .i64 (xs 4) :: .int .i64 (xs 5) :: .int .i64 (xs 6) :: .int .i64 (xs 7) :: .int .i64 (xr 0) :: .int .i64 (xr 1) :: .int .i64 (xr 2) :: .int .i64 (xr 3) :: .int .i64 (xr 4) :: .int .i64 (xr 5) :: .int .i64 (xr 6) :: .int .i64 (xr 7) :: .int .i64 (xr 8) :: .int .i64 (xr 9) :: .int .i64 (xr 10) :: .int .i64 (xr 11) :: .int .i64 (xr 12) :: .int .i64 (xr 13) :: .int .i64 (xr 14) :: .int .i64 (xr 15) :: [] : List Value)) 37 rfl
  rw [← hW1] at hfx
  have HFX := Lib.hid hfx
  have HZ1 : Hid (w.heap.size ≤ W1.heap.size) := Lib.hid (Nat.le_of_lt hz1)
  have HZ1b := Lib.hid hz1
  have HB01 := Lib.hid hB1
  have HCA : Hid (∀ W, Below W1.heap.size W1 W → Calls Tryz.prog 34 #[.slice xia xik.length xic] W (IOwnPost W xik)) := Lib.hid (fun W hB => inoOwn_any W S xia xic xik (hx.ino.below' (hB1.trans (hB.mono hB1.size))) hx.i1)
  have HCB : Hid (∀ W, Below W1.heap.size W1 W → Calls Tryz.prog 35 #[.slice xna xnl.length xnc] W (own21Post W xnl)) := Lib.hid (fun W hB => own21_any W S xna xnc xnl (hx.nam.below' (hB1.trans (hB.mono hB1.size))) hx.n1)
  have HCC : Hid (∀ W, Below W1.heap.size W1 W → Calls Tryz.prog 36 #[.slice xha xhl.length xhc] W (own23Post W xhl)) := Lib.hid (fun W hB => own23_any W S xha xhc xhl (hx.hdl.below' (hB1.trans (hB.mono hB1.size))) hx.h1)
  have c0 : W1.cell? ⟨w.heap.size, 0, none⟩ = some (.int .i64 xn) := hfx.at' 0 (by decide)
  have c1 : W1.cell? ⟨w.heap.size, 1, none⟩ = some (.slice xia xik.length xic) := hfx.at' 1 (by decide)
  have c2 : W1.cell? ⟨w.heap.size, 2, none⟩ = some (.int .i64 xm) := hfx.at' 2 (by decide)
  have c3 : W1.cell? ⟨w.heap.size, 3, none⟩ = some (.slice xna xnl.length xnc) := hfx.at' 3 (by decide)
  have c4 : W1.cell? ⟨w.heap.size, 4, none⟩ = some (.slice xha xhl.length xhc) := hfx.at' 4 (by decide)
  have HS1 : Hid ((W1.drew.cell? ⟨w.heap.size, 0, none⟩ = some (.int .i64 xn) ∧ W1.drew.cell? ⟨w.heap.size, 1, none⟩ = some (.slice xia xik.length xic) ∧ W1.drew.cell? ⟨w.heap.size, 2, none⟩ = some (.int .i64 xm) ∧ W1.drew.cell? ⟨w.heap.size, 3, none⟩ = some (.slice xna xnl.length xnc) ∧ W1.drew.cell? ⟨w.heap.size, 4, none⟩ = some (.slice xha xhl.length xhc)) ∧ Below W1.heap.size W1 W1.drew) := Lib.hid ⟨⟨c0, c1, c2, c3, c4⟩, (Below.refl _ _).drew⟩
  have HW1 := Lib.hid hW1
  simp only [DmC.cells]
  clear hx hfx c0 c1 c2 c3 c4 hW1 hz1 hB1
  obtain ⟨v0, hv0⟩ : ∃ v0, v0 = Value.agg ((.int .i64 xn :: .slice xia xik.length xic :: .int .i64 xm :: .slice xna xnl.length xnc :: .slice xha xhl.length xhc :: .int .i64 (xl 0) :: .int .i64 (xl 1) :: .int .i64 (xl 2) :: .int .i64 (xl 3) :: .int .i64 (xl 4) :: .int .i64 (xl 5) :: .int .i64 (xl 6) :: .int .i64 (xl 7) :: .int .i64 (xs 0) :: .int .i64 (xs 1) :: .int .i64 (xs 2) :: .int .i64 (xs 3) :: .int .i64 (xs 4) :: .int .i64 (xs 5) :: .int .i64 (xs 6) :: .int .i64 (xs 7) :: .int .i64 (xr 0) :: .int .i64 (xr 1) :: .int .i64 (xr 2) :: .int .i64 (xr 3) :: .int .i64 (xr 4) :: .int .i64 (xr 5) :: .int .i64 (xr 6) :: .int .i64 (xr 7) :: .int .i64 (xr 8) :: .int .i64 (xr 9) :: .int .i64 (xr 10) :: .int .i64 (xr 11) :: .int .i64 (xr 12) :: .int .i64 (xr 13) :: .int .i64 (xr 14) :: .int .i64 (xr 15) :: [] : List Value)).toArray := ⟨_, rfl⟩
  go_enter Tryz.func9, Tryz.ntmps9
  go_wp2_with fail
  rw [← HW1.out, ← hv0]
  clear hv0
  refine wp_region_held_drew (S := fun W => (W.cell? ⟨w.heap.size, 0, none⟩ = some (.int .i64 xn) ∧ W.cell? ⟨w.heap.size, 1, none⟩ = some (.slice xia xik.length xic) ∧ W.cell? ⟨w.heap.size, 2, none⟩ = some (.int .i64 xm) ∧ W.cell? ⟨w.heap.size, 3, none⟩ = some (.slice xna xnl.length xnc) ∧ W.cell? ⟨w.heap.size, 4, none⟩ = some (.slice xha xhl.length xhc)) ∧ Below W1.heap.size W1 W) (by kernel_rfl) HS1.out (fun hHeld => ?_)
  refine wpAnyH_name (fun Qn HQ => ?_)
  have key : ∀ (W : World) (q : Nat) (oa : Option Addr) (oc : Nat) (ok : List InC) (ra : Option Addr) (rc : Nat) (ta : Option Addr) (tc : Nat) (p13 : Nat) (p18 : Nat) (p20 : Nat) (p25 : Nat) (p27 : Nat), ((W.cell? ⟨w.heap.size, 0, none⟩ = some (.int .i64 xn) ∧ W.cell? ⟨w.heap.size, 1, none⟩ = some (.slice xia xik.length xic) ∧ W.cell? ⟨w.heap.size, 2, none⟩ = some (.int .i64 xm) ∧ W.cell? ⟨w.heap.size, 3, none⟩ = some (.slice xna xnl.length xnc) ∧ W.cell? ⟨w.heap.size, 4, none⟩ = some (.slice xha xhl.length xhc)) ∧ Below W1.heap.size W1 W) → FnAt W q 4 (fun j => ((.int .i64 xn :: .pointer (some ⟨p20, 0, none⟩) :: .pointer (some ⟨p25, 0, none⟩) :: .pointer (some ⟨p27, 0, none⟩) :: [] : List Value)[j]?).getD undef) → (InosAt W (fun k => w.heap.size ≤ k ∧ k ≠ p25 ∧ k ≠ p27) oa ok) → (ok.map InC.val = xik.map InC.val) → (RwAt W (fun k => w.heap.size ≤ k ∧ k ≠ p25 ∧ k ≠ p27) 3 xnl.length ra (xnl.flatMap enC)) → (RwAt W (fun k => w.heap.size ≤ k ∧ k ≠ p25 ∧ k ≠ p27) 3 xhl.length ta (xhl.flatMap hdC)) → (FnAt W p13 2 (fun j => ((.slice oa ok.length oc :: .int .i64 xm :: [] : List Value)[j]?).getD undef)) → (w.heap.size < p13) → (FnAt W p18 1 (fun j => ((.slice ra xnl.length rc :: [] : List Value)[j]?).getD undef)) → (w.heap.size < p18) → (FnAt W p20 2 (fun j => ((.pointer (some ⟨p13, 0, none⟩) :: .pointer (some ⟨p18, 0, none⟩) :: [] : List Value)[j]?).getD undef)) → (w.heap.size < p20) → (FnAt W p25 9 (fun j => ((.slice ta xhl.length tc :: .int .i64 0 :: .int .i64 0 :: .int .i64 0 :: .int .i64 0 :: .int .i64 0 :: .int .i64 0 :: .int .i64 0 :: .int .i64 0 :: [] : List Value)[j]?).getD undef)) → (w.heap.size < p25) → (FnAt W p27 24 (fun j => ((.int .i64 0 :: .int .i64 0 :: .int .i64 0 :: .int .i64 0 :: .int .i64 0 :: .int .i64 0 :: .int .i64 0 :: .int .i64 0 :: .int .i64 0 :: .int .i64 0 :: .int .i64 0 :: .int .i64 0 :: .int .i64 0 :: .int .i64 0 :: .int .i64 0 :: .int .i64 0 :: .int .i64 0 :: .int .i64 0 :: .int .i64 0 :: .int .i64 0 :: .int .i64 0 :: .int .i64 0 :: .int .i64 0 :: .int .i64 0 :: [] : List Value)[j]?).getD undef)) → (w.heap.size < p27) → (p13 ≠ p25) → (p18 ≠ p25) → (p20 ≠ p25) → (p27 ≠ p25) → (p13 ≠ p27) → (p18 ≠ p27) → (p20 ≠ p27) → q ≠ p25 → q ≠ p27 → Qn ⟨(v0 :: .pointer (some ⟨w.heap.size, 0, none⟩) :: .pointer none :: .pointer (some ⟨q, 0, none⟩) :: undef :: .pointer (some ⟨w.heap.size, 0, none⟩) :: .int .i64 xn :: .pointer (some ⟨w.heap.size, 1, none⟩) :: .slice xia xik.length xic :: .slice oa ok.length oc :: .pointer (some ⟨w.heap.size, 2, none⟩) :: .int .i64 xm :: .agg (.slice oa ok.length oc :: .int .i64 xm :: [] : List Value).toArray :: .pointer (some ⟨p13, 0, none⟩) :: .pointer (some ⟨w.heap.size, 3, none⟩) :: .slice xna xnl.length xnc :: .slice ra xnl.length rc :: .agg (.slice ra xnl.length rc :: [] : List Value).toArray :: .pointer (some ⟨p18, 0, none⟩) :: .agg (.pointer (some ⟨p13, 0, none⟩) :: .pointer (some ⟨p18, 0, none⟩) :: [] : List Value).toArray :: .pointer (some ⟨p20, 0, none⟩) :: .pointer (some ⟨w.heap.size, 4, none⟩) :: .slice xha xhl.length xhc :: .slice ta xhl.length tc :: .agg (.slice ta xhl.length tc :: .int .i64 0 :: .int .i64 0 :: .int .i64 0 :: .int .i64 0 :: .int .i64 0 :: .int .i64 0 :: .int .i64 0 :: .int .i64 0 :: [] : List Value).toArray :: .pointer (some ⟨p25, 0, none⟩) :: .agg (.int .i64 0 :: .int .i64 0 :: .int .i64 0 :: .int .i64 0 :: .int .i64 0 :: .int .i64 0 :: .int .i64 0 :: .int .i64 0 :: .int .i64 0 :: .int .i64 0 :: .int .i64 0 :: .int .i64 0 :: .int .i64 0 :: .int .i64 0 :: .int .i64 0 :: .int .i64 0 :: .int .i64 0 :: .int .i64 0 :: .int .i64 0 :: .int .i64 0 :: .int .i64 0 :: .int .i64 0 :: .int .i64 0 :: .int .i64 0 :: [] : List Value).toArray :: .pointer (some ⟨p27, 0, none⟩) :: .agg (.int .i64 xn :: .pointer (some ⟨p20, 0, none⟩) :: .pointer (some ⟨p25, 0, none⟩) :: .pointer (some ⟨p27, 0, none⟩) :: [] : List Value).toArray :: .pointer (some ⟨q, 0, none⟩) :: undef :: undef :: undef :: undef :: undef :: undef :: undef :: undef :: undef :: undef :: undef :: undef :: undef :: undef :: undef :: undef :: undef :: undef :: undef :: undef :: undef :: undef :: undef :: undef :: undef :: undef :: undef :: undef :: undef :: undef :: undef :: undef :: undef :: undef :: undef :: undef :: undef :: undef :: undef :: undef :: undef :: [] : List Value).toArray, []⟩ W := by
    intro W q oa oc ok ra rc ta tc p13 p18 p20 p25 p27 hSS fq fA fAv fB fC f13 g13 f18 g18 f20 g20 f25 g25 f27 g27 n13_25 n18_25 n20_25 n27_25 n13_27 n18_27 n20_27 hn25 hn27
    rw [HQ.out]
    go_wp2_with fail
    have hsrc : FnAt W w.heap.size 37 _ := HFX.out.below hSS.2
    have HSRC := Lib.hid hsrc
    have HFQ := Lib.hid fq
    have HGS := Lib.hid (show w.heap.size ≠ p25 ∧ w.heap.size ≠ p27 from ⟨Nat.ne_of_lt g25, Nat.ne_of_lt g27⟩)
    have HNQ := Lib.hid (show q ≠ p25 ∧ q ≠ p27 from ⟨hn25, hn27⟩)
    have HN57 := Lib.hid n27_25
    have HA := Lib.hid fA
    have HAV := Lib.hid fAv
    have HB := Lib.hid fB
    have HC := Lib.hid fC
    have H13 := Lib.hid f13
    have H18 := Lib.hid f18
    have H20 := Lib.hid f20
    have H25 := Lib.hid f25
    have H27 := Lib.hid f27
    have HN13 := Lib.hid (show p13 ≠ p25 ∧ p13 ≠ p27 from ⟨n13_25, n13_27⟩)
    have HN18 := Lib.hid (show p18 ≠ p25 ∧ p18 ≠ p27 from ⟨n18_25, n18_27⟩)
    have HN20 := Lib.hid (show p20 ≠ p25 ∧ p20 ≠ p27 from ⟨n20_25, n20_27⟩)
    have HGE := Lib.hid (show w.heap.size < p25 ∧ w.heap.size < p27 from ⟨g25, g27⟩)
    have HSB := Lib.hid (show Below W1.heap.size W1 W from hSS.2)
    clear hsrc fq hn25 hn27 fA fAv fB fC f13 g13 f18 g18 f20 g20 f25 g25 f27 g27 n13_25 n18_25 n20_25 n27_25 n13_27 n18_27 n20_27 hSS
    go_loopg [4] 8 (fun g v wr => OwRel W p25 p27 xhl.length xl xs xr ta tc g v wr)
    case atStart => exact ⟨0, rfl, Nat.zero_le _, rfl, H25.out, H27.out, Mod.refl _ _⟩
    case round =>
      obtain ⟨i, rfl, hi, rfl, h25, h27, hM⟩ := hrel
      have HM := Lib.hid hM
      by_cases hlt : i < 8
      · have hil2 : (0 : Int) ≤ i ∧ (i : Int) < 8 := by omega
        obtain ⟨W0, hW0⟩ : ∃ W0, W0 = wr.drew := ⟨_, rfl⟩
        have hM0 : Mod (fun k => k = p25 ∨ k = p27) W W0 := by rw [hW0]; exact hM.drew
        have h25 : FnAt W0 p25 9 (hV xhl.length xl ta tc i) := by rw [hW0]; exact h25.below (by exact belC (Below.refl _ _))
        have h27 : FnAt W0 p27 24 (oV xs xr i) := by rw [hW0]; exact h27.below (by exact belC (Below.refl _ _))
        have hs := HSRC.out.mod hM0 (fun e => e.elim HGS.out.1 HGS.out.2)
        have hq := HFQ.out.mod hM0 (fun e => e.elim HNQ.out.1 HNQ.out.2)
        have hk : i = 0 ∨ i = 1 ∨ i = 2 ∨ i = 3 ∨ i = 4 ∨ i = 5 ∨ i = 6 ∨ i = 7 := by omega
        have s0 : W0.cell? ⟨w.heap.size, 5 + i, none⟩ = some (.int .i64 (xl i)) := (hs.at' (5 + i) (by omega)).trans (by rcases hk with rfl | rfl | rfl | rfl | rfl | rfl | rfl | rfl <;> rfl)
        have s1 : W0.cell? ⟨w.heap.size, 13 + i, none⟩ = some (.int .i64 (xs i)) := (hs.at' (13 + i) (by omega)).trans (by rcases hk with rfl | rfl | rfl | rfl | rfl | rfl | rfl | rfl <;> rfl)
        have s2 : W0.cell? ⟨w.heap.size, 21 + i * 2, none⟩ = some (.int .i64 (xr (i * 2))) := (hs.at' (21 + i * 2) (by omega)).trans (by rcases hk with rfl | rfl | rfl | rfl | rfl | rfl | rfl | rfl <;> rfl)
        have s3 : W0.cell? ⟨w.heap.size, 21 + i * 2 + 1, none⟩ = some (.int .i64 (xr (i * 2 + 1))) := (hs.at' (21 + i * 2 + 1) (by omega)).trans (by rcases hk with rfl | rfl | rfl | rfl | rfl | rfl | rfl | rfl <;> rfl)
        have r2 : W0.cell? ⟨q, 2, none⟩ = some (.pointer (some ⟨p25, 0, none⟩)) := hq.at' 2 (by decide)
        have r3 : W0.cell? ⟨q, 3, none⟩ = some (.pointer (some ⟨p27, 0, none⟩)) := hq.at' 3 (by decide)
        have HW0 := Lib.hid hW0
        have HM0 := Lib.hid hM0
        have H25i := Lib.hid h25
        have H27i := Lib.hid h27
        clear hk hs hq hM hM0 hW0
        go_wp2_with fail
        refine wp_region_held_drew (S := fun W' => (W'.cell? ⟨q, 2, none⟩ = some (.pointer (some ⟨p25, 0, none⟩)) ∧ W'.cell? ⟨q, 3, none⟩ = some (.pointer (some ⟨p27, 0, none⟩))) ∧ W'.cell? ⟨w.heap.size, 5 + i, none⟩ = some (.int .i64 (xl i)) ∧ W'.cell? ⟨w.heap.size, 13 + i, none⟩ = some (.int .i64 (xs i)) ∧ W'.cell? ⟨w.heap.size, 21 + i * 2, none⟩ = some (.int .i64 (xr (i * 2))) ∧ W'.cell? ⟨w.heap.size, 21 + i * 2 + 1, none⟩ = some (.int .i64 (xr (i * 2 + 1)))) (by kernel_rfl) (by rw [← HW0.out]; exact ⟨⟨r2, r3⟩, s0, s1, s2, s3⟩) (fun hHeld => ?_)
        rw [← HW0.out] at hHeld ⊢
        refine takeL 0 ?_
        refine takeL 1 ?_
        refine takeL 2 ?_
        refine takeL 3 ?_
        refine takeL 4 ?_
        refine takeL 5 ?_
        refine takeL 6 ?_
        refine takeL 7 ?_
        refine takeL 8 ?_
        refine takeL 9 ?_
        refine takeL 10 ?_
        refine takeL 11 ?_
        refine takeL 12 ?_
        refine takeL 13 ?_
        refine takeL 14 ?_
        refine takeL 15 ?_
        refine takeL 16 ?_
        refine takeL 17 ?_
        refine takeL 18 ?_
        refine takeL 19 ?_
        refine takeL 20 ?_
        refine takeL 21 ?_
        refine takeL 22 ?_
        refine takeL 23 ?_
        refine takeL 24 ?_
        refine takeL 25 ?_
        refine takeL 26 ?_
        refine takeL 27 ?_
        refine takeL 28 ?_
        refine takeL 29 ?_
        refine takeL 31 ?_
        refine takeL 32 ?_
        refine takeL 35 ?_
        refine takeL 36 ?_
        have k25 := H25i.out.at' (1 + i) (by omega)
        have z25 := H25i.out.fz
        refine wpAnyH_ready (rs := [30]) (by kernel_rfl) (by simp) ?_
        refine AllReadyH.cons (o := _) rfl (fun K hK => ?_) AllReadyH.nil
        go_simp
        have hM5 : Mod (· = p25) W0 (W0.setCell ⟨p25, 1 + i, none⟩ (.int .i64 (xl i))) := (Mod.refl (· = p25) W0).setCellAt (b := p25) (fun _ => rfl) _
        have hKA := owKeep2 hHeld hM5 HNQ.out.1 HGS.out.1
        refine hK.out _ (W0.setCell ⟨p25, 1 + i, none⟩ (.int .i64 (xl i))) hKA (fun hHeld => ?_)
        clear hK K hKA k25 z25
        try simp only [Act.put, List.setIfInBounds_toArray, List.set_cons_zero, List.set_cons_succ]
        have HX25 := Lib.hid (H25i.out.set (k := 1 + i) (by omega) (.int .i64 (xl i)))
        have HX27 := Lib.hid (H27i.out.mod hM5 HN57.out)
        have HXM := Lib.hid (HM0.out.trans (hM5.mono (fun k _ h => Or.inl h)))
        obtain ⟨W5, hW5⟩ : ∃ W5, W5 = W0.setCell ⟨p25, 1 + i, none⟩ (.int .i64 (xl i)) := ⟨_, rfl⟩
        rw [← hW5] at hHeld HX25 HX27 HXM ⊢
        clear hM5 hW5 s0 s1 s2 s3 r2 r3 h25 h27
        refine takeL 33 ?_
        have k27 := HX27.out.at' i (by omega)
        have z27 := HX27.out.fz
        refine wpAnyH_ready (rs := [34]) (by kernel_rfl) (by simp) ?_
        refine AllReadyH.cons (o := _) rfl (fun K hK => ?_) AllReadyH.nil
        go_simp
        have hM6 : Mod (· = p27) W5 (W5.setCell ⟨p27, i, none⟩ (.int .i64 (xs i))) := (Mod.refl (· = p27) W5).setCellAt (b := p27) (fun _ => rfl) _
        have hKA := owKeep2 hHeld hM6 HNQ.out.2 HGS.out.2
        refine hK.out _ (W5.setCell ⟨p27, i, none⟩ (.int .i64 (xs i))) hKA (fun hHeld => ?_)
        clear hK K hKA k27 z27
        try simp only [Act.put, List.setIfInBounds_toArray, List.set_cons_zero, List.set_cons_succ]
        have HY27 := Lib.hid (HX27.out.set (k := i) (by omega) (.int .i64 (xs i)))
        have HY25 := Lib.hid (HX25.out.mod hM6 (fun e => HN57.out e.symm))
        have HYM := Lib.hid (HXM.out.trans (hM6.mono (fun k _ h => Or.inr h)))
        obtain ⟨W6, hW6⟩ : ∃ W6, W6 = W5.setCell ⟨p27, i, none⟩ (.int .i64 (xs i)) := ⟨_, rfl⟩
        rw [← hW6] at hHeld HY25 HY27 HYM ⊢
        clear hM6 hW6
        refine takeL 37 ?_
        have k27 := HY27.out.at' (8 + i * 2) (by omega)
        have k28 := HY27.out.at' (8 + i * 2 + 1) (by omega)
        have z27 := HY27.out.fz
        refine wpAnyH_ready (rs := [38]) (by kernel_rfl) (by simp) ?_
        refine AllReadyH.cons (o := _) rfl (fun K hK => ?_) AllReadyH.nil
        go_simp
        have hM7 : Mod (· = p27) W6 ((W6.setCell ⟨p27, 8 + i * 2, none⟩ (.int .i64 (xr (i * 2)))).setCell ⟨p27, 8 + i * 2 + 1, none⟩ (.int .i64 (xr (i * 2 + 1)))) := ((Mod.refl (· = p27) W6).setCellAt (b := p27) (fun _ => rfl) _).setCellAt (b := p27) (fun _ => rfl) _
        have hKA := owKeep2 hHeld hM7 HNQ.out.2 HGS.out.2
        refine hK.out _ ((W6.setCell ⟨p27, 8 + i * 2, none⟩ (.int .i64 (xr (i * 2)))).setCell ⟨p27, 8 + i * 2 + 1, none⟩ (.int .i64 (xr (i * 2 + 1)))) hKA (fun hHeld => ?_)
        clear hK K hKA k27 k28 z27
        try simp only [Act.put, List.setIfInBounds_toArray, List.set_cons_zero, List.set_cons_succ]
        refine wpAnyH_done (by kernel_rfl) ?_ _
        have HZ27 := Lib.hid ((HY27.out.set (k := 8 + i * 2) (by omega) (.int .i64 (xr (i * 2)))).set (k := 8 + i * 2 + 1) (by omega) (.int .i64 (xr (i * 2 + 1))))
        have HZ25 := Lib.hid (HY25.out.mod hM7 (fun e => HN57.out e.symm))
        have HZM := Lib.hid (HYM.out.trans (hM7.mono (fun k _ h => Or.inr h)))
        clear hM7 hHeld
        go_wp2_with fail
        go_roundg (8 - (i + 1))
        case measure => exact Nat.sub_lt_sub_left hlt (Nat.lt_succ_self i)
        case rel => exact ⟨i + 1, rfl, hlt, rfl, HZ25.out, HZ27.out, HZM.out⟩
      · obtain rfl : i = 8 := by omega
        have hBB : Below w.heap.size w wr := (HB01.out.trans ((HSB.out.mono HZ1.out))).trans (hM.below_at (B := w.heap.size) (Nat.le_trans HZ1.out HSB.out.size) (fun k hk e => by have := HGE.out; rcases e with rfl | rfl <;> omega))
        have HBB := Lib.hid hBB
        have H25i := Lib.hid h25
        have H27i := Lib.hid h27
        clear hM h25 h27 hBB
        go_wp2_with fail
        go_ret
        exact ⟨q, p20, p25, p27, p13, p18, oa, oc, ok, ra, rc, ta, tc, rfl, ⟨HFQ.out.mod HM.out (fun e => e.elim HNQ.out.1 HNQ.out.2), H20.out.mod HM.out (fun e => e.elim HN20.out.1 HN20.out.2), H13.out.mod HM.out (fun e => e.elim HN13.out.1 HN13.out.2), H18.out.mod HM.out (fun e => e.elim HN18.out.1 HN18.out.2), H25i.out, H27i.out,
          (HA.out.mod HM.out (fun k hk _ e => e.elim hk.2.1 hk.2.2)).sub (fun k _ hk => hk.1), HAV.out, (HB.out.mod HM.out (fun k hk _ e => e.elim hk.2.1 hk.2.2)).sub (fun k _ hk => hk.1), (HC.out.mod HM.out (fun k hk _ e => e.elim hk.2.1 hk.2.2)).sub (fun k _ hk => hk.1)⟩, HBB.out⟩
  refine takeL 0 ?_
  refine takeL 1 ?_
  refine takeL 2 ?_
  refine takeL 3 ?_
  refine takeL 5 ?_
  refine takeL 6 ?_
  refine takeL 9 ?_
  refine takeL 10 ?_
  refine takeL 16 ?_
  refine takeL 17 ?_
  refine takeL 21 ?_
  refine wpAnyH_fix (fun G HG => ?_)
  have L_A_B_C_13_18_20_25_27 : ∀ (W : World) (oa : Option Addr) (oc : Nat) (ok : List InC) (ra : Option Addr) (rc : Nat) (ta : Option Addr) (tc : Nat) (p13 : Nat) (p18 : Nat) (p20 : Nat) (p25 : Nat) (p27 : Nat), ((W.cell? ⟨w.heap.size, 0, none⟩ = some (.int .i64 xn) ∧ W.cell? ⟨w.heap.size, 1, none⟩ = some (.slice xia xik.length xic) ∧ W.cell? ⟨w.heap.size, 2, none⟩ = some (.int .i64 xm) ∧ W.cell? ⟨w.heap.size, 3, none⟩ = some (.slice xna xnl.length xnc) ∧ W.cell? ⟨w.heap.size, 4, none⟩ = some (.slice xha xhl.length xhc)) ∧ Below W1.heap.size W1 W) → (InosAt W (fun k => w.heap.size ≤ k ∧ k ≠ p25 ∧ k ≠ p27) oa ok) → (ok.map InC.val = xik.map InC.val) → (RwAt W (fun k => w.heap.size ≤ k ∧ k ≠ p25 ∧ k ≠ p27) 3 xnl.length ra (xnl.flatMap enC)) → (RwAt W (fun k => w.heap.size ≤ k ∧ k ≠ p25 ∧ k ≠ p27) 3 xhl.length ta (xhl.flatMap hdC)) → (FnAt W p13 2 (fun j => ((.slice oa ok.length oc :: .int .i64 xm :: [] : List Value)[j]?).getD undef)) → (w.heap.size < p13) → (FnAt W p18 1 (fun j => ((.slice ra xnl.length rc :: [] : List Value)[j]?).getD undef)) → (w.heap.size < p18) → (FnAt W p20 2 (fun j => ((.pointer (some ⟨p13, 0, none⟩) :: .pointer (some ⟨p18, 0, none⟩) :: [] : List Value)[j]?).getD undef)) → (w.heap.size < p20) → (FnAt W p25 9 (fun j => ((.slice ta xhl.length tc :: .int .i64 0 :: .int .i64 0 :: .int .i64 0 :: .int .i64 0 :: .int .i64 0 :: .int .i64 0 :: .int .i64 0 :: .int .i64 0 :: [] : List Value)[j]?).getD undef)) → (w.heap.size < p25) → (FnAt W p27 24 (fun j => ((.int .i64 0 :: .int .i64 0 :: .int .i64 0 :: .int .i64 0 :: .int .i64 0 :: .int .i64 0 :: .int .i64 0 :: .int .i64 0 :: .int .i64 0 :: .int .i64 0 :: .int .i64 0 :: .int .i64 0 :: .int .i64 0 :: .int .i64 0 :: .int .i64 0 :: .int .i64 0 :: .int .i64 0 :: .int .i64 0 :: .int .i64 0 :: .int .i64 0 :: .int .i64 0 :: .int .i64 0 :: .int .i64 0 :: .int .i64 0 :: [] : List Value)[j]?).getD undef)) → (w.heap.size < p27) → (p13 ≠ p25) → (p18 ≠ p25) → (p20 ≠ p25) → (p27 ≠ p25) → (p13 ≠ p27) → (p18 ≠ p27) → (p20 ≠ p27) → G 3 (true :: true :: true :: true :: true :: true :: true :: true :: true :: true :: true :: true :: true :: true :: true :: true :: true :: true :: true :: true :: true :: true :: true :: false :: false :: false :: [] : List Bool).toArray ⟨(v0 :: .pointer (some ⟨w.heap.size, 0, none⟩) :: .pointer none :: undef :: undef :: .pointer (some ⟨w.heap.size, 0, none⟩) :: .int .i64 xn :: .pointer (some ⟨w.heap.size, 1, none⟩) :: .slice xia xik.length xic :: .slice oa ok.length oc :: .pointer (some ⟨w.heap.size, 2, none⟩) :: .int .i64 xm :: .agg (.slice oa ok.length oc :: .int .i64 xm :: [] : List Value).toArray :: .pointer (some ⟨p13, 0, none⟩) :: .pointer (some ⟨w.heap.size, 3, none⟩) :: .slice xna xnl.length xnc :: .slice ra xnl.length rc :: .agg (.slice ra xnl.length rc :: [] : List Value).toArray :: .pointer (some ⟨p18, 0, none⟩) :: .agg (.pointer (some ⟨p13, 0, none⟩) :: .pointer (some ⟨p18, 0, none⟩) :: [] : List Value).toArray :: .pointer (some ⟨p20, 0, none⟩) :: .pointer (some ⟨w.heap.size, 4, none⟩) :: .slice xha xhl.length xhc :: .slice ta xhl.length tc :: .agg (.slice ta xhl.length tc :: .int .i64 0 :: .int .i64 0 :: .int .i64 0 :: .int .i64 0 :: .int .i64 0 :: .int .i64 0 :: .int .i64 0 :: .int .i64 0 :: [] : List Value).toArray :: .pointer (some ⟨p25, 0, none⟩) :: .agg (.int .i64 0 :: .int .i64 0 :: .int .i64 0 :: .int .i64 0 :: .int .i64 0 :: .int .i64 0 :: .int .i64 0 :: .int .i64 0 :: .int .i64 0 :: .int .i64 0 :: .int .i64 0 :: .int .i64 0 :: .int .i64 0 :: .int .i64 0 :: .int .i64 0 :: .int .i64 0 :: .int .i64 0 :: .int .i64 0 :: .int .i64 0 :: .int .i64 0 :: .int .i64 0 :: .int .i64 0 :: .int .i64 0 :: .int .i64 0 :: [] : List Value).toArray :: .pointer (some ⟨p27, 0, none⟩) :: undef :: undef :: undef :: undef :: undef :: undef :: undef :: undef :: undef :: undef :: undef :: undef :: undef :: undef :: undef :: undef :: undef :: undef :: undef :: undef :: undef :: undef :: undef :: undef :: undef :: undef :: undef :: undef :: undef :: undef :: undef :: undef :: undef :: undef :: undef :: undef :: undef :: undef :: undef :: undef :: undef :: undef :: undef :: [] : List Value).toArray, []⟩ W := by
    intro W oa oc ok ra rc ta tc p13 p18 p20 p25 p27 hHeld fA fAv fB fC f13 g13 f18 g18 f20 g20 f25 g25 f27 g27 n13_25 n18_25 n20_25 n27_25 n13_27 n18_27 n20_27
    rw [HG.out]
    refine takeL 23 ?_
    refine wpAnyH_ready (rs := [24]) (by kernel_rfl) (by simp) ?_
    refine AllReadyH.cons (o := _) rfl (fun K hK => ?_) AllReadyH.nil
    go_simp
    have HBB : Below W.heap.size W (W.alloc (.cells ((.int .i64 xn :: .pointer (some ⟨p20, 0, none⟩) :: .pointer (some ⟨p25, 0, none⟩) :: .pointer (some ⟨p27, 0, none⟩) :: [] : List Value)).toArray 89)) := by exact belC (Below.refl _ _)
    have nX := FnAt.new W 89 ((.int .i64 xn :: .pointer (some ⟨p20, 0, none⟩) :: .pointer (some ⟨p25, 0, none⟩) :: .pointer (some ⟨p27, 0, none⟩) :: [] : List Value)) 4 rfl
    have hKA := owKeep hHeld HBB
    have hn25 : W.heap.size ≠ p25 := Nat.ne_of_gt f25.lt
    have hn27 : W.heap.size ≠ p27 := Nat.ne_of_gt f27.lt
    try go_wp2_with fail
    refine hK.out _ (W.alloc (.cells ((.int .i64 xn :: .pointer (some ⟨p20, 0, none⟩) :: .pointer (some ⟨p25, 0, none⟩) :: .pointer (some ⟨p27, 0, none⟩) :: [] : List Value)).toArray 89)) hKA (fun hHeld => ?_)
    clear hK K hKA
    try simp only [Act.put, List.setIfInBounds_toArray, List.set_cons_zero, List.set_cons_succ]
    refine takeL 25 ?_
    refine wpAnyH_done (by kernel_rfl) ?_ _
    show Qn _ _
    exact key _ W.heap.size oa oc ok ra rc ta tc p13 p18 p20 p25 p27 hHeld nX (fA.below' HBB) fAv (fB.below' HBB) (fC.below' HBB) (f13.below HBB) g13 (f18.below HBB) g18 (f20.below HBB) g20 (f25.below HBB) g25 (f27.below HBB) g27 n13_25 n18_25 n20_25 n27_25 n13_27 n18_27 n20_27 hn25 hn27
  have L_A_B_C_13_18_20_25 : ∀ (W : World) (oa : Option Addr) (oc : Nat) (ok : List InC) (ra : Option Addr) (rc : Nat) (ta : Option Addr) (tc : Nat) (p13 : Nat) (p18 : Nat) (p20 : Nat) (p25 : Nat), ((W.cell? ⟨w.heap.size, 0, none⟩ = some (.int .i64 xn) ∧ W.cell? ⟨w.heap.size, 1, none⟩ = some (.slice xia xik.length xic) ∧ W.cell? ⟨w.heap.size, 2, none⟩ = some (.int .i64 xm) ∧ W.cell? ⟨w.heap.size, 3, none⟩ = some (.slice xna xnl.length xnc) ∧ W.cell? ⟨w.heap.size, 4, none⟩ = some (.slice xha xhl.length xhc)) ∧ Below W1.heap.size W1 W) → (InosAt W (fun k => w.heap.size ≤ k ∧ k ≠ p25) oa ok) → (ok.map InC.val = xik.map InC.val) → (RwAt W (fun k => w.heap.size ≤ k ∧ k ≠ p25) 3 xnl.length ra (xnl.flatMap enC)) → (RwAt W (fun k => w.heap.size ≤ k ∧ k ≠ p25) 3 xhl.length ta (xhl.flatMap hdC)) → (FnAt W p13 2 (fun j => ((.slice oa ok.length oc :: .int .i64 xm :: [] : List Value)[j]?).getD undef)) → (w.heap.size < p13) → (FnAt W p18 1 (fun j => ((.slice ra xnl.length rc :: [] : List Value)[j]?).getD undef)) → (w.heap.size < p18) → (FnAt W p20 2 (fun j => ((.pointer (some ⟨p13, 0, none⟩) :: .pointer (some ⟨p18, 0, none⟩) :: [] : List Value)[j]?).getD undef)) → (w.heap.size < p20) → (FnAt W p25 9 (fun j => ((.slice ta xhl.length tc :: .int .i64 0 :: .int .i64 0 :: .int .i64 0 :: .int .i64 0 :: .int .i64 0 :: .int .i64 0 :: .int .i64 0 :: .int .i64 0 :: [] : List Value)[j]?).getD undef)) → (w.heap.size < p25) → (p13 ≠ p25) → (p18 ≠ p25) → (p20 ≠ p25) → G 4 (true :: true :: true :: true :: true :: true :: true :: true :: true :: true :: true :: true :: true :: true :: true :: true :: true :: true :: true :: true :: true :: true :: false :: false :: false :: false :: [] : List Bool).toArray ⟨(v0 :: .pointer (some ⟨w.heap.size, 0, none⟩) :: .pointer none :: undef :: undef :: .pointer (some ⟨w.heap.size, 0, none⟩) :: .int .i64 xn :: .pointer (some ⟨w.heap.size, 1, none⟩) :: .slice xia xik.length xic :: .slice oa ok.length oc :: .pointer (some ⟨w.heap.size, 2, none⟩) :: .int .i64 xm :: .agg (.slice oa ok.length oc :: .int .i64 xm :: [] : List Value).toArray :: .pointer (some ⟨p13, 0, none⟩) :: .pointer (some ⟨w.heap.size, 3, none⟩) :: .slice xna xnl.length xnc :: .slice ra xnl.length rc :: .agg (.slice ra xnl.length rc :: [] : List Value).toArray :: .pointer (some ⟨p18, 0, none⟩) :: .agg (.pointer (some ⟨p13, 0, none⟩) :: .pointer (some ⟨p18, 0, none⟩) :: [] : List Value).toArray :: .pointer (some ⟨p20, 0, none⟩) :: .pointer (some ⟨w.heap.size, 4, none⟩) :: .slice xha xhl.length xhc :: .slice ta xhl.length tc :: .agg (.slice ta xhl.length tc :: .int .i64 0 :: .int .i64 0 :: .int .i64 0 :: .int .i64 0 :: .int .i64 0 :: .int .i64 0 :: .int .i64 0 :: .int .i64 0 :: [] : List Value).toArray :: .pointer (some ⟨p25, 0, none⟩) :: .agg (.int .i64 0 :: .int .i64 0 :: .int .i64 0 :: .int .i64 0 :: .int .i64 0 :: .int .i64 0 :: .int .i64 0 :: .int .i64 0 :: .int .i64 0 :: .int .i64 0 :: .int .i64 0 :: .int .i64 0 :: .int .i64 0 :: .int .i64 0 :: .int .i64 0 :: .int .i64 0 :: .int .i64 0 :: .int .i64 0 :: .int .i64 0 :: .int .i64 0 :: .int .i64 0 :: .int .i64 0 :: .int .i64 0 :: .int .i64 0 :: [] : List Value).toArray :: undef :: undef :: undef :: undef :: undef :: undef :: undef :: undef :: undef :: undef :: undef :: undef :: undef :: undef :: undef :: undef :: undef :: undef :: undef :: undef :: undef :: undef :: undef :: undef :: undef :: undef :: undef :: undef :: undef :: undef :: undef :: undef :: undef :: undef :: undef :: undef :: undef :: undef :: undef :: undef :: undef :: undef :: undef :: undef :: [] : List Value).toArray, []⟩ W := by
    intro W oa oc ok ra rc ta tc p13 p18 p20 p25 hHeld fA fAv fB fC f13 g13 f18 g18 f20 g20 f25 g25 n13_25 n18_25 n20_25
    rw [HG.out]
    refine wpAnyH_ready (rs := [22]) (by kernel_rfl) (by simp) ?_
    refine AllReadyH.cons (o := _) rfl (fun K hK => ?_) AllReadyH.nil
    ·
      go_simp
      have hz : w.heap.size < W.heap.size := Nat.lt_of_lt_of_le HZ1b.out hHeld.2.size
      have HBB : Below W.heap.size W (W.alloc (.cells ((.int .i64 0 :: .int .i64 0 :: .int .i64 0 :: .int .i64 0 :: .int .i64 0 :: .int .i64 0 :: .int .i64 0 :: .int .i64 0 :: .int .i64 0 :: .int .i64 0 :: .int .i64 0 :: .int .i64 0 :: .int .i64 0 :: .int .i64 0 :: .int .i64 0 :: .int .i64 0 :: .int .i64 0 :: .int .i64 0 :: .int .i64 0 :: .int .i64 0 :: .int .i64 0 :: .int .i64 0 :: .int .i64 0 :: .int .i64 0 :: [] : List Value)).toArray 103)) := by exact belC (Below.refl _ _)
      have nX := FnAt.new W 103 ((.int .i64 0 :: .int .i64 0 :: .int .i64 0 :: .int .i64 0 :: .int .i64 0 :: .int .i64 0 :: .int .i64 0 :: .int .i64 0 :: .int .i64 0 :: .int .i64 0 :: .int .i64 0 :: .int .i64 0 :: .int .i64 0 :: .int .i64 0 :: .int .i64 0 :: .int .i64 0 :: .int .i64 0 :: .int .i64 0 :: .int .i64 0 :: .int .i64 0 :: .int .i64 0 :: .int .i64 0 :: .int .i64 0 :: .int .i64 0 :: [] : List Value)) 24 rfl
      have nG := hz
      have hKA := owKeep hHeld HBB
      try go_wp2_with fail
      refine hK.out _ (W.alloc (.cells ((.int .i64 0 :: .int .i64 0 :: .int .i64 0 :: .int .i64 0 :: .int .i64 0 :: .int .i64 0 :: .int .i64 0 :: .int .i64 0 :: .int .i64 0 :: .int .i64 0 :: .int .i64 0 :: .int .i64 0 :: .int .i64 0 :: .int .i64 0 :: .int .i64 0 :: .int .i64 0 :: .int .i64 0 :: .int .i64 0 :: .int .i64 0 :: .int .i64 0 :: .int .i64 0 :: .int .i64 0 :: .int .i64 0 :: .int .i64 0 :: [] : List Value)).toArray 103)) hKA (fun hHeld => ?_)
      clear hK K hKA
      try simp only [Act.put, List.setIfInBounds_toArray, List.set_cons_zero, List.set_cons_succ]
      rw [← HG.out]
      exact L_A_B_C_13_18_20_25_27 _ oa oc ok ra rc ta tc p13 p18 p20 p25 W.heap.size hHeld ((fA.sub (T := fun k => w.heap.size ≤ k ∧ k ≠ p25 ∧ k ≠ W.heap.size) (fun k hk h => ⟨h.1, h.2, Nat.ne_of_lt hk⟩)).below' HBB) fAv ((fB.sub (T := fun k => w.heap.size ≤ k ∧ k ≠ p25 ∧ k ≠ W.heap.size) (fun k hk h => ⟨h.1, h.2, Nat.ne_of_lt hk⟩)).below' HBB) ((fC.sub (T := fun k => w.heap.size ≤ k ∧ k ≠ p25 ∧ k ≠ W.heap.size) (fun k hk h => ⟨h.1, h.2, Nat.ne_of_lt hk⟩)).below' HBB) (f13.below HBB) g13 (f18.below HBB) g18 (f20.below HBB) g20 (f25.below HBB) g25 nX nG n13_25 n18_25 n20_25 (Nat.ne_of_gt f25.lt) (Nat.ne_of_lt f13.lt) (Nat.ne_of_lt f18.lt) (Nat.ne_of_lt f20.lt)
  have L_A_B_C_13_18_20_27 : ∀ (W : World) (oa : Option Addr) (oc : Nat) (ok : List InC) (ra : Option Addr) (rc : Nat) (ta : Option Addr) (tc : Nat) (p13 : Nat) (p18 : Nat) (p20 : Nat) (p27 : Nat), ((W.cell? ⟨w.heap.size, 0, none⟩ = some (.int .i64 xn) ∧ W.cell? ⟨w.heap.size, 1, none⟩ = some (.slice xia xik.length xic) ∧ W.cell? ⟨w.heap.size, 2, none⟩ = some (.int .i64 xm) ∧ W.cell? ⟨w.heap.size, 3, none⟩ = some (.slice xna xnl.length xnc) ∧ W.cell? ⟨w.heap.size, 4, none⟩ = some (.slice xha xhl.length xhc)) ∧ Below W1.heap.size W1 W) → (InosAt W (fun k => w.heap.size ≤ k ∧ k ≠ p27) oa ok) → (ok.map InC.val = xik.map InC.val) → (RwAt W (fun k => w.heap.size ≤ k ∧ k ≠ p27) 3 xnl.length ra (xnl.flatMap enC)) → (RwAt W (fun k => w.heap.size ≤ k ∧ k ≠ p27) 3 xhl.length ta (xhl.flatMap hdC)) → (FnAt W p13 2 (fun j => ((.slice oa ok.length oc :: .int .i64 xm :: [] : List Value)[j]?).getD undef)) → (w.heap.size < p13) → (FnAt W p18 1 (fun j => ((.slice ra xnl.length rc :: [] : List Value)[j]?).getD undef)) → (w.heap.size < p18) → (FnAt W p20 2 (fun j => ((.pointer (some ⟨p13, 0, none⟩) :: .pointer (some ⟨p18, 0, none⟩) :: [] : List Value)[j]?).getD undef)) → (w.heap.size < p20) → (FnAt W p27 24 (fun j => ((.int .i64 0 :: .int .i64 0 :: .int .i64 0 :: .int .i64 0 :: .int .i64 0 :: .int .i64 0 :: .int .i64 0 :: .int .i64 0 :: .int .i64 0 :: .int .i64 0 :: .int .i64 0 :: .int .i64 0 :: .int .i64 0 :: .int .i64 0 :: .int .i64 0 :: .int .i64 0 :: .int .i64 0 :: .int .i64 0 :: .int .i64 0 :: .int .i64 0 :: .int .i64 0 :: .int .i64 0 :: .int .i64 0 :: .int .i64 0 :: [] : List Value)[j]?).getD undef)) → (w.heap.size < p27) → (p13 ≠ p27) → (p18 ≠ p27) → (p20 ≠ p27) → G 4 (true :: true :: true :: true :: true :: true :: true :: true :: true :: true :: true :: true :: true :: true :: true :: true :: true :: true :: true :: true :: false :: true :: true :: false :: false :: false :: [] : List Bool).toArray ⟨(v0 :: .pointer (some ⟨w.heap.size, 0, none⟩) :: .pointer none :: undef :: undef :: .pointer (some ⟨w.heap.size, 0, none⟩) :: .int .i64 xn :: .pointer (some ⟨w.heap.size, 1, none⟩) :: .slice xia xik.length xic :: .slice oa ok.length oc :: .pointer (some ⟨w.heap.size, 2, none⟩) :: .int .i64 xm :: .agg (.slice oa ok.length oc :: .int .i64 xm :: [] : List Value).toArray :: .pointer (some ⟨p13, 0, none⟩) :: .pointer (some ⟨w.heap.size, 3, none⟩) :: .slice xna xnl.length xnc :: .slice ra xnl.length rc :: .agg (.slice ra xnl.length rc :: [] : List Value).toArray :: .pointer (some ⟨p18, 0, none⟩) :: .agg (.pointer (some ⟨p13, 0, none⟩) :: .pointer (some ⟨p18, 0, none⟩) :: [] : List Value).toArray :: .pointer (some ⟨p20, 0, none⟩) :: .pointer (some ⟨w.heap.size, 4, none⟩) :: .slice xha xhl.length xhc :: .slice ta xhl.length tc :: .agg (.slice ta xhl.length tc :: .int .i64 0 :: .int .i64 0 :: .int .i64 0 :: .int .i64 0 :: .int .i64 0 :: .int .i64 0 :: .int .i64 0 :: .int .i64 0 :: [] : List Value).toArray :: undef :: .agg (.int .i64 0 :: .int .i64 0 :: .int .i64 0 :: .int .i64 0 :: .int .i64 0 :: .int .i64 0 :: .int .i64 0 :: .int .i64 0 :: .int .i64 0 :: .int .i64 0 :: .int .i64 0 :: .int .i64 0 :: .int .i64 0 :: .int .i64 0 :: .int .i64 0 :: .int .i64 0 :: .int .i64 0 :: .int .i64 0 :: .int .i64 0 :: .int .i64 0 :: .int .i64 0 :: .int .i64 0 :: .int .i64 0 :: .int .i64 0 :: [] : List Value).toArray :: .pointer (some ⟨p27, 0, none⟩) :: undef :: undef :: undef :: undef :: undef :: undef :: undef :: undef :: undef :: undef :: undef :: undef :: undef :: undef :: undef :: undef :: undef :: undef :: undef :: undef :: undef :: undef :: undef :: undef :: undef :: undef :: undef :: undef :: undef :: undef :: undef :: undef :: undef :: undef :: undef :: undef :: undef :: undef :: undef :: undef :: undef :: undef :: undef :: [] : List Value).toArray, []⟩ W := by
    intro W oa oc ok ra rc ta tc p13 p18 p20 p27 hHeld fA fAv fB fC f13 g13 f18 g18 f20 g20 f27 g27 n13_27 n18_27 n20_27
    rw [HG.out]
    refine wpAnyH_ready (rs := [20]) (by kernel_rfl) (by simp) ?_
    refine AllReadyH.cons (o := _) rfl (fun K hK => ?_) AllReadyH.nil
    ·
      go_simp
      have hz : w.heap.size < W.heap.size := Nat.lt_of_lt_of_le HZ1b.out hHeld.2.size
      have HBB : Below W.heap.size W (W.alloc (.cells ((.slice ta xhl.length tc :: .int .i64 0 :: .int .i64 0 :: .int .i64 0 :: .int .i64 0 :: .int .i64 0 :: .int .i64 0 :: .int .i64 0 :: .int .i64 0 :: [] : List Value)).toArray 101)) := by exact belC (Below.refl _ _)
      have nX := FnAt.new W 101 ((.slice ta xhl.length tc :: .int .i64 0 :: .int .i64 0 :: .int .i64 0 :: .int .i64 0 :: .int .i64 0 :: .int .i64 0 :: .int .i64 0 :: .int .i64 0 :: [] : List Value)) 9 rfl
      have nG := hz
      have hKA := owKeep hHeld HBB
      try go_wp2_with fail
      refine hK.out _ (W.alloc (.cells ((.slice ta xhl.length tc :: .int .i64 0 :: .int .i64 0 :: .int .i64 0 :: .int .i64 0 :: .int .i64 0 :: .int .i64 0 :: .int .i64 0 :: .int .i64 0 :: [] : List Value)).toArray 101)) hKA (fun hHeld => ?_)
      clear hK K hKA
      try simp only [Act.put, List.setIfInBounds_toArray, List.set_cons_zero, List.set_cons_succ]
      rw [← HG.out]
      exact L_A_B_C_13_18_20_25_27 _ oa oc ok ra rc ta tc p13 p18 p20 W.heap.size p27 hHeld ((fA.sub (T := fun k => w.heap.size ≤ k ∧ k ≠ W.heap.size ∧ k ≠ p27) (fun k hk h => ⟨h.1, Nat.ne_of_lt hk, h.2⟩)).below' HBB) fAv ((fB.sub (T := fun k => w.heap.size ≤ k ∧ k ≠ W.heap.size ∧ k ≠ p27) (fun k hk h => ⟨h.1, Nat.ne_of_lt hk, h.2⟩)).below' HBB) ((fC.sub (T := fun k => w.heap.size ≤ k ∧ k ≠ W.heap.size ∧ k ≠ p27) (fun k hk h => ⟨h.1, Nat.ne_of_lt hk, h.2⟩)).below' HBB) (f13.below HBB) g13 (f18.below HBB) g18 (f20.below HBB) g20 nX nG (f27.below HBB) g27 (Nat.ne_of_lt f13.lt) (Nat.ne_of_lt f18.lt) (Nat.ne_of_lt f20.lt) (Nat.ne_of_lt f27.lt) n13_27 n18_27 n20_27
  have L_A_B_C_13_18_25_27 : ∀ (W : World) (oa : Option Addr) (oc : Nat) (ok : List InC) (ra : Option Addr) (rc : Nat) (ta : Option Addr) (tc : Nat) (p13 : Nat) (p18 : Nat) (p25 : Nat) (p27 : Nat), ((W.cell? ⟨w.heap.size, 0, none⟩ = some (.int .i64 xn) ∧ W.cell? ⟨w.heap.size, 1, none⟩ = some (.slice xia xik.length xic) ∧ W.cell? ⟨w.heap.size, 2, none⟩ = some (.int .i64 xm) ∧ W.cell? ⟨w.heap.size, 3, none⟩ = some (.slice xna xnl.length xnc) ∧ W.cell? ⟨w.heap.size, 4, none⟩ = some (.slice xha xhl.length xhc)) ∧ Below W1.heap.size W1 W) → (InosAt W (fun k => w.heap.size ≤ k ∧ k ≠ p25 ∧ k ≠ p27) oa ok) → (ok.map InC.val = xik.map InC.val) → (RwAt W (fun k => w.heap.size ≤ k ∧ k ≠ p25 ∧ k ≠ p27) 3 xnl.length ra (xnl.flatMap enC)) → (RwAt W (fun k => w.heap.size ≤ k ∧ k ≠ p25 ∧ k ≠ p27) 3 xhl.length ta (xhl.flatMap hdC)) → (FnAt W p13 2 (fun j => ((.slice oa ok.length oc :: .int .i64 xm :: [] : List Value)[j]?).getD undef)) → (w.heap.size < p13) → (FnAt W p18 1 (fun j => ((.slice ra xnl.length rc :: [] : List Value)[j]?).getD undef)) → (w.heap.size < p18) → (FnAt W p25 9 (fun j => ((.slice ta xhl.length tc :: .int .i64 0 :: .int .i64 0 :: .int .i64 0 :: .int .i64 0 :: .int .i64 0 :: .int .i64 0 :: .int .i64 0 :: .int .i64 0 :: [] : List Value)[j]?).getD undef)) → (w.heap.size < p25) → (FnAt W p27 24 (fun j => ((.int .i64 0 :: .int .i64 0 :: .int .i64 0 :: .int .i64 0 :: .int .i64 0 :: .int .i64 0 :: .int .i64 0 :: .int .i64 0 :: .int .i64 0 :: .int .i64 0 :: .int .i64 0 :: .int .i64 0 :: .int .i64 0 :: .int .i64 0 :: .int .i64 0 :: .int .i64 0 :: .int .i64 0 :: .int .i64 0 :: .int .i64 0 :: .int .i64 0 :: .int .i64 0 :: .int .i64 0 :: .int .i64 0 :: .int .i64 0 :: [] : List Value)[j]?).getD undef)) → (w.heap.size < p27) → (p13 ≠ p25) → (p18 ≠ p25) → (p27 ≠ p25) → (p13 ≠ p27) → (p18 ≠ p27) → G 4 (true :: true :: true :: true :: true :: true :: true :: true :: true :: true :: true :: true :: true :: true :: true :: false :: true :: true :: true :: true :: true :: true :: true :: false :: false :: false :: [] : List Bool).toArray ⟨(v0 :: .pointer (some ⟨w.heap.size, 0, none⟩) :: .pointer none :: undef :: undef :: .pointer (some ⟨w.heap.size, 0, none⟩) :: .int .i64 xn :: .pointer (some ⟨w.heap.size, 1, none⟩) :: .slice xia xik.length xic :: .slice oa ok.length oc :: .pointer (some ⟨w.heap.size, 2, none⟩) :: .int .i64 xm :: .agg (.slice oa ok.length oc :: .int .i64 xm :: [] : List Value).toArray :: .pointer (some ⟨p13, 0, none⟩) :: .pointer (some ⟨w.heap.size, 3, none⟩) :: .slice xna xnl.length xnc :: .slice ra xnl.length rc :: .agg (.slice ra xnl.length rc :: [] : List Value).toArray :: .pointer (some ⟨p18, 0, none⟩) :: .agg (.pointer (some ⟨p13, 0, none⟩) :: .pointer (some ⟨p18, 0, none⟩) :: [] : List Value).toArray :: undef :: .pointer (some ⟨w.heap.size, 4, none⟩) :: .slice xha xhl.length xhc :: .slice ta xhl.length tc :: .agg (.slice ta xhl.length tc :: .int .i64 0 :: .int .i64 0 :: .int .i64 0 :: .int .i64 0 :: .int .i64 0 :: .int .i64 0 :: .int .i64 0 :: .int .i64 0 :: [] : List Value).toArray :: .pointer (some ⟨p25, 0, none⟩) :: .agg (.int .i64 0 :: .int .i64 0 :: .int .i64 0 :: .int .i64 0 :: .int .i64 0 :: .int .i64 0 :: .int .i64 0 :: .int .i64 0 :: .int .i64 0 :: .int .i64 0 :: .int .i64 0 :: .int .i64 0 :: .int .i64 0 :: .int .i64 0 :: .int .i64 0 :: .int .i64 0 :: .int .i64 0 :: .int .i64 0 :: .int .i64 0 :: .int .i64 0 :: .int .i64 0 :: .int .i64 0 :: .int .i64 0 :: .int .i64 0 :: [] : List Value).toArray :: .pointer (some ⟨p27, 0, none⟩) :: undef :: undef :: undef :: undef :: undef :: undef :: undef :: undef :: undef :: undef :: undef :: undef :: undef :: undef :: undef :: undef :: undef :: undef :: undef :: undef :: undef :: undef :: undef :: undef :: undef :: undef :: undef :: undef :: undef :: undef :: undef :: undef :: undef :: undef :: undef :: undef :: undef :: undef :: undef :: undef :: undef :: undef :: undef :: [] : List Value).toArray, []⟩ W := by
    intro W oa oc ok ra rc ta tc p13 p18 p25 p27 hHeld fA fAv fB fC f13 g13 f18 g18 f25 g25 f27 g27 n13_25 n18_25 n27_25 n13_27 n18_27
    rw [HG.out]
    refine wpAnyH_ready (rs := [15]) (by kernel_rfl) (by simp) ?_
    refine AllReadyH.cons (o := _) rfl (fun K hK => ?_) AllReadyH.nil
    ·
      go_simp
      have hz : w.heap.size < W.heap.size := Nat.lt_of_lt_of_le HZ1b.out hHeld.2.size
      have HBB : Below W.heap.size W (W.alloc (.cells ((.pointer (some ⟨p13, 0, none⟩) :: .pointer (some ⟨p18, 0, none⟩) :: [] : List Value)).toArray 96)) := by exact belC (Below.refl _ _)
      have nX := FnAt.new W 96 ((.pointer (some ⟨p13, 0, none⟩) :: .pointer (some ⟨p18, 0, none⟩) :: [] : List Value)) 2 rfl
      have nG := hz
      have hKA := owKeep hHeld HBB
      try go_wp2_with fail
      refine hK.out _ (W.alloc (.cells ((.pointer (some ⟨p13, 0, none⟩) :: .pointer (some ⟨p18, 0, none⟩) :: [] : List Value)).toArray 96)) hKA (fun hHeld => ?_)
      clear hK K hKA
      try simp only [Act.put, List.setIfInBounds_toArray, List.set_cons_zero, List.set_cons_succ]
      rw [← HG.out]
      exact L_A_B_C_13_18_20_25_27 _ oa oc ok ra rc ta tc p13 p18 W.heap.size p25 p27 hHeld (fA.below' HBB) fAv (fB.below' HBB) (fC.below' HBB) (f13.below HBB) g13 (f18.below HBB) g18 nX nG (f25.below HBB) g25 (f27.below HBB) g27 n13_25 n18_25 (Nat.ne_of_gt f25.lt) n27_25 n13_27 n18_27 (Nat.ne_of_gt f27.lt)
  have L_A_B_C_13_18_20 : ∀ (W : World) (oa : Option Addr) (oc : Nat) (ok : List InC) (ra : Option Addr) (rc : Nat) (ta : Option Addr) (tc : Nat) (p13 : Nat) (p18 : Nat) (p20 : Nat), ((W.cell? ⟨w.heap.size, 0, none⟩ = some (.int .i64 xn) ∧ W.cell? ⟨w.heap.size, 1, none⟩ = some (.slice xia xik.length xic) ∧ W.cell? ⟨w.heap.size, 2, none⟩ = some (.int .i64 xm) ∧ W.cell? ⟨w.heap.size, 3, none⟩ = some (.slice xna xnl.length xnc) ∧ W.cell? ⟨w.heap.size, 4, none⟩ = some (.slice xha xhl.length xhc)) ∧ Below W1.heap.size W1 W) → (InosAt W (fun k => w.heap.size ≤ k) oa ok) → (ok.map InC.val = xik.map InC.val) → (RwAt W (fun k => w.heap.size ≤ k) 3 xnl.length ra (xnl.flatMap enC)) → (RwAt W (fun k => w.heap.size ≤ k) 3 xhl.length ta (xhl.flatMap hdC)) → (FnAt W p13 2 (fun j => ((.slice oa ok.length oc :: .int .i64 xm :: [] : List Value)[j]?).getD undef)) → (w.heap.size < p13) → (FnAt W p18 1 (fun j => ((.slice ra xnl.length rc :: [] : List Value)[j]?).getD undef)) → (w.heap.size < p18) → (FnAt W p20 2 (fun j => ((.pointer (some ⟨p13, 0, none⟩) :: .pointer (some ⟨p18, 0, none⟩) :: [] : List Value)[j]?).getD undef)) → (w.heap.size < p20) → G 5 (true :: true :: true :: true :: true :: true :: true :: true :: true :: true :: true :: true :: true :: true :: true :: true :: true :: true :: true :: true :: false :: true :: false :: false :: false :: false :: [] : List Bool).toArray ⟨(v0 :: .pointer (some ⟨w.heap.size, 0, none⟩) :: .pointer none :: undef :: undef :: .pointer (some ⟨w.heap.size, 0, none⟩) :: .int .i64 xn :: .pointer (some ⟨w.heap.size, 1, none⟩) :: .slice xia xik.length xic :: .slice oa ok.length oc :: .pointer (some ⟨w.heap.size, 2, none⟩) :: .int .i64 xm :: .agg (.slice oa ok.length oc :: .int .i64 xm :: [] : List Value).toArray :: .pointer (some ⟨p13, 0, none⟩) :: .pointer (some ⟨w.heap.size, 3, none⟩) :: .slice xna xnl.length xnc :: .slice ra xnl.length rc :: .agg (.slice ra xnl.length rc :: [] : List Value).toArray :: .pointer (some ⟨p18, 0, none⟩) :: .agg (.pointer (some ⟨p13, 0, none⟩) :: .pointer (some ⟨p18, 0, none⟩) :: [] : List Value).toArray :: .pointer (some ⟨p20, 0, none⟩) :: .pointer (some ⟨w.heap.size, 4, none⟩) :: .slice xha xhl.length xhc :: .slice ta xhl.length tc :: .agg (.slice ta xhl.length tc :: .int .i64 0 :: .int .i64 0 :: .int .i64 0 :: .int .i64 0 :: .int .i64 0 :: .int .i64 0 :: .int .i64 0 :: .int .i64 0 :: [] : List Value).toArray :: undef :: .agg (.int .i64 0 :: .int .i64 0 :: .int .i64 0 :: .int .i64 0 :: .int .i64 0 :: .int .i64 0 :: .int .i64 0 :: .int .i64 0 :: .int .i64 0 :: .int .i64 0 :: .int .i64 0 :: .int .i64 0 :: .int .i64 0 :: .int .i64 0 :: .int .i64 0 :: .int .i64 0 :: .int .i64 0 :: .int .i64 0 :: .int .i64 0 :: .int .i64 0 :: .int .i64 0 :: .int .i64 0 :: .int .i64 0 :: .int .i64 0 :: [] : List Value).toArray :: undef :: undef :: undef :: undef :: undef :: undef :: undef :: undef :: undef :: undef :: undef :: undef :: undef :: undef :: undef :: undef :: undef :: undef :: undef :: undef :: undef :: undef :: undef :: undef :: undef :: undef :: undef :: undef :: undef :: undef :: undef :: undef :: undef :: undef :: undef :: undef :: undef :: undef :: undef :: undef :: undef :: undef :: undef :: undef :: [] : List Value).toArray, []⟩ W := by
    intro W oa oc ok ra rc ta tc p13 p18 p20 hHeld fA fAv fB fC f13 g13 f18 g18 f20 g20
    rw [HG.out]
    refine wpAnyH_ready (rs := [20, 22]) (by kernel_rfl) (by simp) ?_
    refine AllReadyH.cons (o := _) rfl (fun K hK => ?_) (AllReadyH.cons (o := _) rfl (fun K hK => ?_) AllReadyH.nil)
    ·
      go_simp
      have hz : w.heap.size < W.heap.size := Nat.lt_of_lt_of_le HZ1b.out hHeld.2.size
      have HBB : Below W.heap.size W (W.alloc (.cells ((.slice ta xhl.length tc :: .int .i64 0 :: .int .i64 0 :: .int .i64 0 :: .int .i64 0 :: .int .i64 0 :: .int .i64 0 :: .int .i64 0 :: .int .i64 0 :: [] : List Value)).toArray 101)) := by exact belC (Below.refl _ _)
      have nX := FnAt.new W 101 ((.slice ta xhl.length tc :: .int .i64 0 :: .int .i64 0 :: .int .i64 0 :: .int .i64 0 :: .int .i64 0 :: .int .i64 0 :: .int .i64 0 :: .int .i64 0 :: [] : List Value)) 9 rfl
      have nG := hz
      have hKA := owKeep hHeld HBB
      try go_wp2_with fail
      refine hK.out _ (W.alloc (.cells ((.slice ta xhl.length tc :: .int .i64 0 :: .int .i64 0 :: .int .i64 0 :: .int .i64 0 :: .int .i64 0 :: .int .i64 0 :: .int .i64 0 :: .int .i64 0 :: [] : List Value)).toArray 101)) hKA (fun hHeld => ?_)
      clear hK K hKA
      try simp only [Act.put, List.setIfInBounds_toArray, List.set_cons_zero, List.set_cons_succ]
      rw [← HG.out]
      exact L_A_B_C_13_18_20_25 _ oa oc ok ra rc ta tc p13 p18 p20 W.heap.size hHeld ((fA.sub (T := fun k => w.heap.size ≤ k ∧ k ≠ W.heap.size) (fun k hk h => ⟨h, Nat.ne_of_lt hk⟩)).below' HBB) fAv ((fB.sub (T := fun k => w.heap.size ≤ k ∧ k ≠ W.heap.size) (fun k hk h => ⟨h, Nat.ne_of_lt hk⟩)).below' HBB) ((fC.sub (T := fun k => w.heap.size ≤ k ∧ k ≠ W.heap.size) (fun k hk h => ⟨h, Nat.ne_of_lt hk⟩)).below' HBB) (f13.below HBB) g13 (f18.below HBB) g18 (f20.below HBB) g20 nX nG (Nat.ne_of_lt f13.lt) (Nat.ne_of_lt f18.lt) (Nat.ne_of_lt f20.lt)
    ·
      go_simp
      have hz : w.heap.size < W.heap.size := Nat.lt_of_lt_of_le HZ1b.out hHeld.2.size
      have HBB : Below W.heap.size W (W.alloc (.cells ((.int .i64 0 :: .int .i64 0 :: .int .i64 0 :: .int .i64 0 :: .int .i64 0 :: .int .i64 0 :: .int .i64 0 :: .int .i64 0 :: .int .i64 0 :: .int .i64 0 :: .int .i64 0 :: .int .i64 0 :: .int .i64 0 :: .int .i64 0 :: .int .i64 0 :: .int .i64 0 :: .int .i64 0 :: .int .i64 0 :: .int .i64 0 :: .int .i64 0 :: .int .i64 0 :: .int .i64 0 :: .int .i64 0 :: .int .i64 0 :: [] : List Value)).toArray 103)) := by exact belC (Below.refl _ _)
      have nX := FnAt.new W 103 ((.int .i64 0 :: .int .i64 0 :: .int .i64 0 :: .int .i64 0 :: .int .i64 0 :: .int .i64 0 :: .int .i64 0 :: .int .i64 0 :: .int .i64 0 :: .int .i64 0 :: .int .i64 0 :: .int .i64 0 :: .int .i64 0 :: .int .i64 0 :: .int .i64 0 :: .int .i64 0 :: .int .i64 0 :: .int .i64 0 :: .int .i64 0 :: .int .i64 0 :: .int .i64 0 :: .int .i64 0 :: .int .i64 0 :: .int .i64 0 :: [] : List Value)) 24 rfl
      have nG := hz
      have hKA := owKeep hHeld HBB
      try go_wp2_with fail
      refine hK.out _ (W.alloc (.cells ((.int .i64 0 :: .int .i64 0 :: .int .i64 0 :: .int .i64 0 :: .int .i64 0 :: .int .i64 0 :: .int .i64 0 :: .int .i64 0 :: .int .i64 0 :: .int .i64 0 :: .int .i64 0 :: .int .i64 0 :: .int .i64 0 :: .int .i64 0 :: .int .i64 0 :: .int .i64 0 :: .int .i64 0 :: .int .i64 0 :: .int .i64 0 :: .int .i64 0 :: .int .i64 0 :: .int .i64 0 :: .int .i64 0 :: .int .i64 0 :: [] : List Value)).toArray 103)) hKA (fun hHeld => ?_)
      clear hK K hKA
      try simp only [Act.put, List.setIfInBounds_toArray, List.set_cons_zero, List.set_cons_succ]
      rw [← HG.out]
      exact L_A_B_C_13_18_20_27 _ oa oc ok ra rc ta tc p13 p18 p20 W.heap.size hHeld ((fA.sub (T := fun k => w.heap.size ≤ k ∧ k ≠ W.heap.size) (fun k hk h => ⟨h, Nat.ne_of_lt hk⟩)).below' HBB) fAv ((fB.sub (T := fun k => w.heap.size ≤ k ∧ k ≠ W.heap.size) (fun k hk h => ⟨h, Nat.ne_of_lt hk⟩)).below' HBB) ((fC.sub (T := fun k => w.heap.size ≤ k ∧ k ≠ W.heap.size) (fun k hk h => ⟨h, Nat.ne_of_lt hk⟩)).below' HBB) (f13.below HBB) g13 (f18.below HBB) g18 (f20.below HBB) g20 nX nG (Nat.ne_of_lt f13.lt) (Nat.ne_of_lt f18.lt) (Nat.ne_of_lt f20.lt)
  have L_A_B_C_13_18_25 : ∀ (W : World) (oa : Option Addr) (oc : Nat) (ok : List InC) (ra : Option Addr) (rc : Nat) (ta : Option Addr) (tc : Nat) (p13 : Nat) (p18 : Nat) (p25 : Nat), ((W.cell? ⟨w.heap.size, 0, none⟩ = some (.int .i64 xn) ∧ W.cell? ⟨w.heap.size, 1, none⟩ = some (.slice xia xik.length xic) ∧ W.cell? ⟨w.heap.size, 2, none⟩ = some (.int .i64 xm) ∧ W.cell? ⟨w.heap.size, 3, none⟩ = some (.slice xna xnl.length xnc) ∧ W.cell? ⟨w.heap.size, 4, none⟩ = some (.slice xha xhl.length xhc)) ∧ Below W1.heap.size W1 W) → (InosAt W (fun k => w.heap.size ≤ k ∧ k ≠ p25) oa ok) → (ok.map InC.val = xik.map InC.val) → (RwAt W (fun k => w.heap.size ≤ k ∧ k ≠ p25) 3 xnl.length ra (xnl.flatMap enC)) → (RwAt W (fun k => w.heap.size ≤ k ∧ k ≠ p25) 3 xhl.length ta (xhl.flatMap hdC)) → (FnAt W p13 2 (fun j => ((.slice oa ok.length oc :: .int .i64 xm :: [] : List Value)[j]?).getD undef)) → (w.heap.size < p13) → (FnAt W p18 1 (fun j => ((.slice ra xnl.length rc :: [] : List Value)[j]?).getD undef)) → (w.heap.size < p18) → (FnAt W p25 9 (fun j => ((.slice ta xhl.length tc :: .int .i64 0 :: .int .i64 0 :: .int .i64 0 :: .int .i64 0 :: .int .i64 0 :: .int .i64 0 :: .int .i64 0 :: .int .i64 0 :: [] : List Value)[j]?).getD undef)) → (w.heap.size < p25) → (p13 ≠ p25) → (p18 ≠ p25) → G 5 (true :: true :: true :: true :: true :: true :: true :: true :: true :: true :: true :: true :: true :: true :: true :: false :: true :: true :: true :: true :: true :: true :: false :: false :: false :: false :: [] : List Bool).toArray ⟨(v0 :: .pointer (some ⟨w.heap.size, 0, none⟩) :: .pointer none :: undef :: undef :: .pointer (some ⟨w.heap.size, 0, none⟩) :: .int .i64 xn :: .pointer (some ⟨w.heap.size, 1, none⟩) :: .slice xia xik.length xic :: .slice oa ok.length oc :: .pointer (some ⟨w.heap.size, 2, none⟩) :: .int .i64 xm :: .agg (.slice oa ok.length oc :: .int .i64 xm :: [] : List Value).toArray :: .pointer (some ⟨p13, 0, none⟩) :: .pointer (some ⟨w.heap.size, 3, none⟩) :: .slice xna xnl.length xnc :: .slice ra xnl.length rc :: .agg (.slice ra xnl.length rc :: [] : List Value).toArray :: .pointer (some ⟨p18, 0, none⟩) :: .agg (.pointer (some ⟨p13, 0, none⟩) :: .pointer (some ⟨p18, 0, none⟩) :: [] : List Value).toArray :: undef :: .pointer (some ⟨w.heap.size, 4, none⟩) :: .slice xha xhl.length xhc :: .slice ta xhl.length tc :: .agg (.slice ta xhl.length tc :: .int .i64 0 :: .int .i64 0 :: .int .i64 0 :: .int .i64 0 :: .int .i64 0 :: .int .i64 0 :: .int .i64 0 :: .int .i64 0 :: [] : List Value).toArray :: .pointer (some ⟨p25, 0, none⟩) :: .agg (.int .i64 0 :: .int .i64 0 :: .int .i64 0 :: .int .i64 0 :: .int .i64 0 :: .int .i64 0 :: .int .i64 0 :: .int .i64 0 :: .int .i64 0 :: .int .i64 0 :: .int .i64 0 :: .int .i64 0 :: .int .i64 0 :: .int .i64 0 :: .int .i64 0 :: .int .i64 0 :: .int .i64 0 :: .int .i64 0 :: .int .i64 0 :: .int .i64 0 :: .int .i64 0 :: .int .i64 0 :: .int .i64 0 :: .int .i64 0 :: [] : List Value).toArray :: undef :: undef :: undef :: undef :: undef :: undef :: undef :: undef :: undef :: undef :: undef :: undef :: undef :: undef :: undef :: undef :: undef :: undef :: undef :: undef :: undef :: undef :: undef :: undef :: undef :: undef :: undef :: undef :: undef :: undef :: undef :: undef :: undef :: undef :: undef :: undef :: undef :: undef :: undef :: undef :: undef :: undef :: undef :: undef :: [] : List Value).toArray, []⟩ W := by
    intro W oa oc ok ra rc ta tc p13 p18 p25 hHeld fA fAv fB fC f13 g13 f18 g18 f25 g25 n13_25 n18_25
    rw [HG.out]
    refine wpAnyH_ready (rs := [15, 22]) (by kernel_rfl) (by simp) ?_
    refine AllReadyH.cons (o := _) rfl (fun K hK => ?_) (AllReadyH.cons (o := _) rfl (fun K hK => ?_) AllReadyH.nil)
    ·
      go_simp
      have hz : w.heap.size < W.heap.size := Nat.lt_of_lt_of_le HZ1b.out hHeld.2.size
      have HBB : Below W.heap.size W (W.alloc (.cells ((.pointer (some ⟨p13, 0, none⟩) :: .pointer (some ⟨p18, 0, none⟩) :: [] : List Value)).toArray 96)) := by exact belC (Below.refl _ _)
      have nX := FnAt.new W 96 ((.pointer (some ⟨p13, 0, none⟩) :: .pointer (some ⟨p18, 0, none⟩) :: [] : List Value)) 2 rfl
      have nG := hz
      have hKA := owKeep hHeld HBB
      try go_wp2_with fail
      refine hK.out _ (W.alloc (.cells ((.pointer (some ⟨p13, 0, none⟩) :: .pointer (some ⟨p18, 0, none⟩) :: [] : List Value)).toArray 96)) hKA (fun hHeld => ?_)
      clear hK K hKA
      try simp only [Act.put, List.setIfInBounds_toArray, List.set_cons_zero, List.set_cons_succ]
      rw [← HG.out]
      exact L_A_B_C_13_18_20_25 _ oa oc ok ra rc ta tc p13 p18 W.heap.size p25 hHeld (fA.below' HBB) fAv (fB.below' HBB) (fC.below' HBB) (f13.below HBB) g13 (f18.below HBB) g18 nX nG (f25.below HBB) g25 n13_25 n18_25 (Nat.ne_of_gt f25.lt)
    ·
      go_simp
      have hz : w.heap.size < W.heap.size := Nat.lt_of_lt_of_le HZ1b.out hHeld.2.size
      have HBB : Below W.heap.size W (W.alloc (.cells ((.int .i64 0 :: .int .i64 0 :: .int .i64 0 :: .int .i64 0 :: .int .i64 0 :: .int .i64 0 :: .int .i64 0 :: .int .i64 0 :: .int .i64 0 :: .int .i64 0 :: .int .i64 0 :: .int .i64 0 :: .int .i64 0 :: .int .i64 0 :: .int .i64 0 :: .int .i64 0 :: .int .i64 0 :: .int .i64 0 :: .int .i64 0 :: .int .i64 0 :: .int .i64 0 :: .int .i64 0 :: .int .i64 0 :: .int .i64 0 :: [] : List Value)).toArray 103)) := by exact belC (Below.refl _ _)
      have nX := FnAt.new W 103 ((.int .i64 0 :: .int .i64 0 :: .int .i64 0 :: .int .i64 0 :: .int .i64 0 :: .int .i64 0 :: .int .i64 0 :: .int .i64 0 :: .int .i64 0 :: .int .i64 0 :: .int .i64 0 :: .int .i64 0 :: .int .i64 0 :: .int .i64 0 :: .int .i64 0 :: .int .i64 0 :: .int .i64 0 :: .int .i64 0 :: .int .i64 0 :: .int .i64 0 :: .int .i64 0 :: .int .i64 0 :: .int .i64 0 :: .int .i64 0 :: [] : List Value)) 24 rfl
      have nG := hz
      have hKA := owKeep hHeld HBB
      try go_wp2_with fail
      refine hK.out _ (W.alloc (.cells ((.int .i64 0 :: .int .i64 0 :: .int .i64 0 :: .int .i64 0 :: .int .i64 0 :: .int .i64 0 :: .int .i64 0 :: .int .i64 0 :: .int .i64 0 :: .int .i64 0 :: .int .i64 0 :: .int .i64 0 :: .int .i64 0 :: .int .i64 0 :: .int .i64 0 :: .int .i64 0 :: .int .i64 0 :: .int .i64 0 :: .int .i64 0 :: .int .i64 0 :: .int .i64 0 :: .int .i64 0 :: .int .i64 0 :: .int .i64 0 :: [] : List Value)).toArray 103)) hKA (fun hHeld => ?_)
      clear hK K hKA
      try simp only [Act.put, List.setIfInBounds_toArray, List.set_cons_zero, List.set_cons_succ]
      rw [← HG.out]
      exact L_A_B_C_13_18_25_27 _ oa oc ok ra rc ta tc p13 p18 p25 W.heap.size hHeld ((fA.sub (T := fun k => w.heap.size ≤ k ∧ k ≠ p25 ∧ k ≠ W.heap.size) (fun k hk h => ⟨h.1, h.2, Nat.ne_of_lt hk⟩)).below' HBB) fAv ((fB.sub (T := fun k => w.heap.size ≤ k ∧ k ≠ p25 ∧ k ≠ W.heap.size) (fun k hk h => ⟨h.1, h.2, Nat.ne_of_lt hk⟩)).below' HBB) ((fC.sub (T := fun k => w.heap.size ≤ k ∧ k ≠ p25 ∧ k ≠ W.heap.size) (fun k hk h => ⟨h.1, h.2, Nat.ne_of_lt hk⟩)).below' HBB) (f13.below HBB) g13 (f18.below HBB) g18 (f25.below HBB) g25 nX nG n13_25 n18_25 (Nat.ne_of_gt f25.lt) (Nat.ne_of_lt f13.lt) (Nat.ne_of_lt f18.lt)
  have L_A_B_C_13_18_27 : ∀ (W : World) (oa : Option Addr) (oc : Nat) (ok : List InC) (ra : Option Addr) (rc : Nat) (ta : Option Addr) (tc : Nat) (p13 : Nat) (p18 : Nat) (p27 : Nat), ((W.cell? ⟨w.heap.size, 0, none⟩ = some (.int .i64 xn) ∧ W.cell? ⟨w.heap.size, 1, none⟩ = some (.slice xia xik.length xic) ∧ W.cell? ⟨w.heap.size, 2, none⟩ = some (.int .i64 xm) ∧ W.cell? ⟨w.heap.size, 3, none⟩ = some (.slice xna xnl.length xnc) ∧ W.cell? ⟨w.heap.size, 4, none⟩ = some (.slice xha xhl.length xhc)) ∧ Below W1.heap.size W1 W) → (InosAt W (fun k => w.heap.size ≤ k ∧ k ≠ p27) oa ok) → (ok.map InC.val = xik.map InC.val) → (RwAt W (fun k => w.heap.size ≤ k ∧ k ≠ p27) 3 xnl.length ra (xnl.flatMap enC)) → (RwAt W (fun k => w.heap.size ≤ k ∧ k ≠ p27) 3 xhl.length ta (xhl.flatMap hdC)) → (FnAt W p13 2 (fun j => ((.slice oa ok.length oc :: .int .i64 xm :: [] : List Value)[j]?).getD undef)) → (w.heap.size < p13) → (FnAt W p18 1 (fun j => ((.slice ra xnl.length rc :: [] : List Value)[j]?).getD undef)) → (w.heap.size < p18) → (FnAt W p27 24 (fun j => ((.int .i64 0 :: .int .i64 0 :: .int .i64 0 :: .int .i64 0 :: .int .i64 0 :: .int .i64 0 :: .int .i64 0 :: .int .i64 0 :: .int .i64 0 :: .int .i64 0 :: .int .i64 0 :: .int .i64 0 :: .int .i64 0 :: .int .i64 0 :: .int .i64 0 :: .int .i64 0 :: .int .i64 0 :: .int .i64 0 :: .int .i64 0 :: .int .i64 0 :: .int .i64 0 :: .int .i64 0 :: .int .i64 0 :: .int .i64 0 :: [] : List Value)[j]?).getD undef)) → (w.heap.size < p27) → (p13 ≠ p27) → (p18 ≠ p27) → G 5 (true :: true :: true :: true :: true :: true :: true :: true :: true :: true :: true :: true :: true :: true :: true :: false :: true :: true :: true :: true :: false :: true :: true :: false :: false :: false :: [] : List Bool).toArray ⟨(v0 :: .pointer (some ⟨w.heap.size, 0, none⟩) :: .pointer none :: undef :: undef :: .pointer (some ⟨w.heap.size, 0, none⟩) :: .int .i64 xn :: .pointer (some ⟨w.heap.size, 1, none⟩) :: .slice xia xik.length xic :: .slice oa ok.length oc :: .pointer (some ⟨w.heap.size, 2, none⟩) :: .int .i64 xm :: .agg (.slice oa ok.length oc :: .int .i64 xm :: [] : List Value).toArray :: .pointer (some ⟨p13, 0, none⟩) :: .pointer (some ⟨w.heap.size, 3, none⟩) :: .slice xna xnl.length xnc :: .slice ra xnl.length rc :: .agg (.slice ra xnl.length rc :: [] : List Value).toArray :: .pointer (some ⟨p18, 0, none⟩) :: .agg (.pointer (some ⟨p13, 0, none⟩) :: .pointer (some ⟨p18, 0, none⟩) :: [] : List Value).toArray :: undef :: .pointer (some ⟨w.heap.size, 4, none⟩) :: .slice xha xhl.length xhc :: .slice ta xhl.length tc :: .agg (.slice ta xhl.length tc :: .int .i64 0 :: .int .i64 0 :: .int .i64 0 :: .int .i64 0 :: .int .i64 0 :: .int .i64 0 :: .int .i64 0 :: .int .i64 0 :: [] : List Value).toArray :: undef :: .agg (.int .i64 0 :: .int .i64 0 :: .int .i64 0 :: .int .i64 0 :: .int .i64 0 :: .int .i64 0 :: .int .i64 0 :: .int .i64 0 :: .int .i64 0 :: .int .i64 0 :: .int .i64 0 :: .int .i64 0 :: .int .i64 0 :: .int .i64 0 :: .int .i64 0 :: .int .i64 0 :: .int .i64 0 :: .int .i64 0 :: .int .i64 0 :: .int .i64 0 :: .int .i64 0 :: .int .i64 0 :: .int .i64 0 :: .int .i64 0 :: [] : List Value).toArray :: .pointer (some ⟨p27, 0, none⟩) :: undef :: undef :: undef :: undef :: undef :: undef :: undef :: undef :: undef :: undef :: undef :: undef :: undef :: undef :: undef :: undef :: undef :: undef :: undef :: undef :: undef :: undef :: undef :: undef :: undef :: undef :: undef :: undef :: undef :: undef :: undef :: undef :: undef :: undef :: undef :: undef :: undef :: undef :: undef :: undef :: undef :: undef :: undef :: [] : List Value).toArray, []⟩ W := by
    intro W oa oc ok ra rc ta tc p13 p18 p27 hHeld fA fAv fB fC f13 g13 f18 g18 f27 g27 n13_27 n18_27
    rw [HG.out]
    refine wpAnyH_ready (rs := [15, 20]) (by kernel_rfl) (by simp) ?_
    refine AllReadyH.cons (o := _) rfl (fun K hK => ?_) (AllReadyH.cons (o := _) rfl (fun K hK => ?_) AllReadyH.nil)
    ·
      go_simp
      have hz : w.heap.size < W.heap.size := Nat.lt_of_lt_of_le HZ1b.out hHeld.2.size
      have HBB : Below W.heap.size W (W.alloc (.cells ((.pointer (some ⟨p13, 0, none⟩) :: .pointer (some ⟨p18, 0, none⟩) :: [] : List Value)).toArray 96)) := by exact belC (Below.refl _ _)
      have nX := FnAt.new W 96 ((.pointer (some ⟨p13, 0, none⟩) :: .pointer (some ⟨p18, 0, none⟩) :: [] : List Value)) 2 rfl
      have nG := hz
      have hKA := owKeep hHeld HBB
      try go_wp2_with fail
      refine hK.out _ (W.alloc (.cells ((.pointer (some ⟨p13, 0, none⟩) :: .pointer (some ⟨p18, 0, none⟩) :: [] : List Value)).toArray 96)) hKA (fun hHeld => ?_)
      clear hK K hKA
      try simp only [Act.put, List.setIfInBounds_toArray, List.set_cons_zero, List.set_cons_succ]
      rw [← HG.out]
      exact L_A_B_C_13_18_20_27 _ oa oc ok ra rc ta tc p13 p18 W.heap.size p27 hHeld (fA.below' HBB) fAv (fB.below' HBB) (fC.below' HBB) (f13.below HBB) g13 (f18.below HBB) g18 nX nG (f27.below HBB) g27 n13_27 n18_27 (Nat.ne_of_gt f27.lt)
    ·
      go_simp
      have hz : w.heap.size < W.heap.size := Nat.lt_of_lt_of_le HZ1b.out hHeld.2.size
      have HBB : Below W.heap.size W (W.alloc (.cells ((.slice ta xhl.length tc :: .int .i64 0 :: .int .i64 0 :: .int .i64 0 :: .int .i64 0 :: .int .i64 0 :: .int .i64 0 :: .int .i64 0 :: .int .i64 0 :: [] : List Value)).toArray 101)) := by exact belC (Below.refl _ _)
      have nX := FnAt.new W 101 ((.slice ta xhl.length tc :: .int .i64 0 :: .int .i64 0 :: .int .i64 0 :: .int .i64 0 :: .int .i64 0 :: .int .i64 0 :: .int .i64 0 :: .int .i64 0 :: [] : List Value)) 9 rfl
      have nG := hz
      have hKA := owKeep hHeld HBB
      try go_wp2_with fail
      refine hK.out _ (W.alloc (.cells ((.slice ta xhl.length tc :: .int .i64 0 :: .int .i64 0 :: .int .i64 0 :: .int .i64 0 :: .int .i64 0 :: .int .i64 0 :: .int .i64 0 :: .int .i64 0 :: [] : List Value)).toArray 101)) hKA (fun hHeld => ?_)
      clear hK K hKA
      try simp only [Act.put, List.setIfInBounds_toArray, List.set_cons_zero, List.set_cons_succ]
      rw [← HG.out]
      exact L_A_B_C_13_18_25_27 _ oa oc ok ra rc ta tc p13 p18 W.heap.size p27 hHeld ((fA.sub (T := fun k => w.heap.size ≤ k ∧ k ≠ W.heap.size ∧ k ≠ p27) (fun k hk h => ⟨h.1, Nat.ne_of_lt hk, h.2⟩)).below' HBB) fAv ((fB.sub (T := fun k => w.heap.size ≤ k ∧ k ≠ W.heap.size ∧ k ≠ p27) (fun k hk h => ⟨h.1, Nat.ne_of_lt hk, h.2⟩)).below' HBB) ((fC.sub (T := fun k => w.heap.size ≤ k ∧ k ≠ W.heap.size ∧ k ≠ p27) (fun k hk h => ⟨h.1, Nat.ne_of_lt hk, h.2⟩)).below' HBB) (f13.below HBB) g13 (f18.below HBB) g18 nX nG (f27.below HBB) g27 (Nat.ne_of_lt f13.lt) (Nat.ne_of_lt f18.lt) (Nat.ne_of_lt f27.lt) n13_27 n18_27
  have L_A_B_C_13_25_27 : ∀ (W : World) (oa : Option Addr) (oc : Nat) (ok : List InC) (ra : Option Addr) (rc : Nat) (ta : Option Addr) (tc : Nat) (p13 : Nat) (p25 : Nat) (p27 : Nat), ((W.cell? ⟨w.heap.size, 0, none⟩ = some (.int .i64 xn) ∧ W.cell? ⟨w.heap.size, 1, none⟩ = some (.slice xia xik.length xic) ∧ W.cell? ⟨w.heap.size, 2, none⟩ = some (.int .i64 xm) ∧ W.cell? ⟨w.heap.size, 3, none⟩ = some (.slice xna xnl.length xnc) ∧ W.cell? ⟨w.heap.size, 4, none⟩ = some (.slice xha xhl.length xhc)) ∧ Below W1.heap.size W1 W) → (InosAt W (fun k => w.heap.size ≤ k ∧ k ≠ p25 ∧ k ≠ p27) oa ok) → (ok.map InC.val = xik.map InC.val) → (RwAt W (fun k => w.heap.size ≤ k ∧ k ≠ p25 ∧ k ≠ p27) 3 xnl.length ra (xnl.flatMap enC)) → (RwAt W (fun k => w.heap.size ≤ k ∧ k ≠ p25 ∧ k ≠ p27) 3 xhl.length ta (xhl.flatMap hdC)) → (FnAt W p13 2 (fun j => ((.slice oa ok.length oc :: .int .i64 xm :: [] : List Value)[j]?).getD undef)) → (w.heap.size < p13) → (FnAt W p25 9 (fun j => ((.slice ta xhl.length tc :: .int .i64 0 :: .int .i64 0 :: .int .i64 0 :: .int .i64 0 :: .int .i64 0 :: .int .i64 0 :: .int .i64 0 :: .int .i64 0 :: [] : List Value)[j]?).getD undef)) → (w.heap.size < p25) → (FnAt W p27 24 (fun j => ((.int .i64 0 :: .int .i64 0 :: .int .i64 0 :: .int .i64 0 :: .int .i64 0 :: .int .i64 0 :: .int .i64 0 :: .int .i64 0 :: .int .i64 0 :: .int .i64 0 :: .int .i64 0 :: .int .i64 0 :: .int .i64 0 :: .int .i64 0 :: .int .i64 0 :: .int .i64 0 :: .int .i64 0 :: .int .i64 0 :: .int .i64 0 :: .int .i64 0 :: .int .i64 0 :: .int .i64 0 :: .int .i64 0 :: .int .i64 0 :: [] : List Value)[j]?).getD undef)) → (w.heap.size < p27) → (p13 ≠ p25) → (p27 ≠ p25) → (p13 ≠ p27) → G 6 (true :: true :: true :: true :: true :: true :: true :: true :: true :: true :: true :: true :: true :: false :: false :: false :: true :: true :: true :: true :: true :: true :: true :: false :: false :: false :: [] : List Bool).toArray ⟨(v0 :: .pointer (some ⟨w.heap.size, 0, none⟩) :: .pointer none :: undef :: undef :: .pointer (some ⟨w.heap.size, 0, none⟩) :: .int .i64 xn :: .pointer (some ⟨w.heap.size, 1, none⟩) :: .slice xia xik.length xic :: .slice oa ok.length oc :: .pointer (some ⟨w.heap.size, 2, none⟩) :: .int .i64 xm :: .agg (.slice oa ok.length oc :: .int .i64 xm :: [] : List Value).toArray :: .pointer (some ⟨p13, 0, none⟩) :: .pointer (some ⟨w.heap.size, 3, none⟩) :: .slice xna xnl.length xnc :: .slice ra xnl.length rc :: .agg (.slice ra xnl.length rc :: [] : List Value).toArray :: undef :: undef :: undef :: .pointer (some ⟨w.heap.size, 4, none⟩) :: .slice xha xhl.length xhc :: .slice ta xhl.length tc :: .agg (.slice ta xhl.length tc :: .int .i64 0 :: .int .i64 0 :: .int .i64 0 :: .int .i64 0 :: .int .i64 0 :: .int .i64 0 :: .int .i64 0 :: .int .i64 0 :: [] : List Value).toArray :: .pointer (some ⟨p25, 0, none⟩) :: .agg (.int .i64 0 :: .int .i64 0 :: .int .i64 0 :: .int .i64 0 :: .int .i64 0 :: .int .i64 0 :: .int .i64 0 :: .int .i64 0 :: .int .i64 0 :: .int .i64 0 :: .int .i64 0 :: .int .i64 0 :: .int .i64 0 :: .int .i64 0 :: .int .i64 0 :: .int .i64 0 :: .int .i64 0 :: .int .i64 0 :: .int .i64 0 :: .int .i64 0 :: .int .i64 0 :: .int .i64 0 :: .int .i64 0 :: .int .i64 0 :: [] : List Value).toArray :: .pointer (some ⟨p27, 0, none⟩) :: undef :: undef :: undef :: undef :: undef :: undef :: undef :: undef :: undef :: undef :: undef :: undef :: undef :: undef :: undef :: undef :: undef :: undef :: undef :: undef :: undef :: undef :: undef :: undef :: undef :: undef :: undef :: undef :: undef :: undef :: undef :: undef :: undef :: undef :: undef :: undef :: undef :: undef :: undef :: undef :: undef :: undef :: undef :: [] : List Value).toArray, []⟩ W := by
    intro W oa oc ok ra rc ta tc p13 p25 p27 hHeld fA fAv fB fC f13 g13 f25 g25 f27 g27 n13_25 n27_25 n13_27
    rw [HG.out]
    refine wpAnyH_ready (rs := [13]) (by kernel_rfl) (by simp) ?_
    refine AllReadyH.cons (o := _) rfl (fun K hK => ?_) AllReadyH.nil
    ·
      go_simp
      have hz : w.heap.size < W.heap.size := Nat.lt_of_lt_of_le HZ1b.out hHeld.2.size
      have HBB : Below W.heap.size W (W.alloc (.cells ((.slice ra xnl.length rc :: [] : List Value)).toArray 108)) := by exact belC (Below.refl _ _)
      have nX := FnAt.new W 108 ((.slice ra xnl.length rc :: [] : List Value)) 1 rfl
      have nG := hz
      have hKA := owKeep hHeld HBB
      try go_wp2_with fail
      refine hK.out _ (W.alloc (.cells ((.slice ra xnl.length rc :: [] : List Value)).toArray 108)) hKA (fun hHeld => ?_)
      clear hK K hKA
      try simp only [Act.put, List.setIfInBounds_toArray, List.set_cons_zero, List.set_cons_succ]
      refine takeL 14 ?_
      rw [← HG.out]
      exact L_A_B_C_13_18_25_27 _ oa oc ok ra rc ta tc p13 W.heap.size p25 p27 hHeld (fA.below' HBB) fAv (fB.below' HBB) (fC.below' HBB) (f13.below HBB) g13 nX nG (f25.below HBB) g25 (f27.below HBB) g27 n13_25 (Nat.ne_of_gt f25.lt) n27_25 n13_27 (Nat.ne_of_gt f27.lt)
  have L_A_B_C_18_25_27 : ∀ (W : World) (oa : Option Addr) (oc : Nat) (ok : List InC) (ra : Option Addr) (rc : Nat) (ta : Option Addr) (tc : Nat) (p18 : Nat) (p25 : Nat) (p27 : Nat), ((W.cell? ⟨w.heap.size, 0, none⟩ = some (.int .i64 xn) ∧ W.cell? ⟨w.heap.size, 1, none⟩ = some (.slice xia xik.length xic) ∧ W.cell? ⟨w.heap.size, 2, none⟩ = some (.int .i64 xm) ∧ W.cell? ⟨w.heap.size, 3, none⟩ = some (.slice xna xnl.length xnc) ∧ W.cell? ⟨w.heap.size, 4, none⟩ = some (.slice xha xhl.length xhc)) ∧ Below W1.heap.size W1 W) → (InosAt W (fun k => w.heap.size ≤ k ∧ k ≠ p25 ∧ k ≠ p27) oa ok) → (ok.map InC.val = xik.map InC.val) → (RwAt W (fun k => w.heap.size ≤ k ∧ k ≠ p25 ∧ k ≠ p27) 3 xnl.length ra (xnl.flatMap enC)) → (RwAt W (fun k => w.heap.size ≤ k ∧ k ≠ p25 ∧ k ≠ p27) 3 xhl.length ta (xhl.flatMap hdC)) → (FnAt W p18 1 (fun j => ((.slice ra xnl.length rc :: [] : List Value)[j]?).getD undef)) → (w.heap.size < p18) → (FnAt W p25 9 (fun j => ((.slice ta xhl.length tc :: .int .i64 0 :: .int .i64 0 :: .int .i64 0 :: .int .i64 0 :: .int .i64 0 :: .int .i64 0 :: .int .i64 0 :: .int .i64 0 :: [] : List Value)[j]?).getD undef)) → (w.heap.size < p25) → (FnAt W p27 24 (fun j => ((.int .i64 0 :: .int .i64 0 :: .int .i64 0 :: .int .i64 0 :: .int .i64 0 :: .int .i64 0 :: .int .i64 0 :: .int .i64 0 :: .int .i64 0 :: .int .i64 0 :: .int .i64 0 :: .int .i64 0 :: .int .i64 0 :: .int .i64 0 :: .int .i64 0 :: .int .i64 0 :: .int .i64 0 :: .int .i64 0 :: .int .i64 0 :: .int .i64 0 :: .int .i64 0 :: .int .i64 0 :: .int .i64 0 :: .int .i64 0 :: [] : List Value)[j]?).getD undef)) → (w.heap.size < p27) → (p18 ≠ p25) → (p27 ≠ p25) → (p18 ≠ p27) → G 6 (true :: true :: true :: true :: true :: true :: true :: true :: false :: true :: true :: true :: true :: true :: false :: false :: true :: true :: true :: true :: true :: true :: true :: false :: false :: false :: [] : List Bool).toArray ⟨(v0 :: .pointer (some ⟨w.heap.size, 0, none⟩) :: .pointer none :: undef :: undef :: .pointer (some ⟨w.heap.size, 0, none⟩) :: .int .i64 xn :: .pointer (some ⟨w.heap.size, 1, none⟩) :: .slice xia xik.length xic :: .slice oa ok.length oc :: .pointer (some ⟨w.heap.size, 2, none⟩) :: .int .i64 xm :: .agg (.slice oa ok.length oc :: .int .i64 xm :: [] : List Value).toArray :: undef :: .pointer (some ⟨w.heap.size, 3, none⟩) :: .slice xna xnl.length xnc :: .slice ra xnl.length rc :: .agg (.slice ra xnl.length rc :: [] : List Value).toArray :: .pointer (some ⟨p18, 0, none⟩) :: undef :: undef :: .pointer (some ⟨w.heap.size, 4, none⟩) :: .slice xha xhl.length xhc :: .slice ta xhl.length tc :: .agg (.slice ta xhl.length tc :: .int .i64 0 :: .int .i64 0 :: .int .i64 0 :: .int .i64 0 :: .int .i64 0 :: .int .i64 0 :: .int .i64 0 :: .int .i64 0 :: [] : List Value).toArray :: .pointer (some ⟨p25, 0, none⟩) :: .agg (.int .i64 0 :: .int .i64 0 :: .int .i64 0 :: .int .i64 0 :: .int .i64 0 :: .int .i64 0 :: .int .i64 0 :: .int .i64 0 :: .int .i64 0 :: .int .i64 0 :: .int .i64 0 :: .int .i64 0 :: .int .i64 0 :: .int .i64 0 :: .int .i64 0 :: .int .i64 0 :: .int .i64 0 :: .int .i64 0 :: .int .i64 0 :: .int .i64 0 :: .int .i64 0 :: .int .i64 0 :: .int .i64 0 :: .int .i64 0 :: [] : List Value).toArray :: .pointer (some ⟨p27, 0, none⟩) :: undef :: undef :: undef :: undef :: undef :: undef :: undef :: undef :: undef :: undef :: undef :: undef :: undef :: undef :: undef :: undef :: undef :: undef :: undef :: undef :: undef :: undef :: undef :: undef :: undef :: undef :: undef :: undef :: undef :: undef :: undef :: undef :: undef :: undef :: undef :: undef :: undef :: undef :: undef :: undef :: undef :: undef :: undef :: [] : List Value).toArray, []⟩ W := by
    intro W oa oc ok ra rc ta tc p18 p25 p27 hHeld fA fAv fB fC f18 g18 f25 g25 f27 g27 n18_25 n27_25 n18_27
    rw [HG.out]
    refine wpAnyH_ready (rs := [8]) (by kernel_rfl) (by simp) ?_
    refine AllReadyH.cons (o := _) rfl (fun K hK => ?_) AllReadyH.nil
    ·
      go_simp
      have hz : w.heap.size < W.heap.size := Nat.lt_of_lt_of_le HZ1b.out hHeld.2.size
      have HBB : Below W.heap.size W (W.alloc (.cells ((.slice oa ok.length oc :: .int .i64 xm :: [] : List Value)).toArray 92)) := by exact belC (Below.refl _ _)
      have nX := FnAt.new W 92 ((.slice oa ok.length oc :: .int .i64 xm :: [] : List Value)) 2 rfl
      have nG := hz
      have hKA := owKeep hHeld HBB
      try go_wp2_with fail
      refine hK.out _ (W.alloc (.cells ((.slice oa ok.length oc :: .int .i64 xm :: [] : List Value)).toArray 92)) hKA (fun hHeld => ?_)
      clear hK K hKA
      try simp only [Act.put, List.setIfInBounds_toArray, List.set_cons_zero, List.set_cons_succ]
      refine takeL 14 ?_
      rw [← HG.out]
      exact L_A_B_C_13_18_25_27 _ oa oc ok ra rc ta tc W.heap.size p18 p25 p27 hHeld (fA.below' HBB) fAv (fB.below' HBB) (fC.below' HBB) nX nG (f18.below HBB) g18 (f25.below HBB) g25 (f27.below HBB) g27 (Nat.ne_of_gt f25.lt) n18_25 n27_25 (Nat.ne_of_gt f27.lt) n18_27
  have L_A_B_13_18_20_27 : ∀ (W : World) (oa : Option Addr) (oc : Nat) (ok : List InC) (ra : Option Addr) (rc : Nat) (p13 : Nat) (p18 : Nat) (p20 : Nat) (p27 : Nat), ((W.cell? ⟨w.heap.size, 0, none⟩ = some (.int .i64 xn) ∧ W.cell? ⟨w.heap.size, 1, none⟩ = some (.slice xia xik.length xic) ∧ W.cell? ⟨w.heap.size, 2, none⟩ = some (.int .i64 xm) ∧ W.cell? ⟨w.heap.size, 3, none⟩ = some (.slice xna xnl.length xnc) ∧ W.cell? ⟨w.heap.size, 4, none⟩ = some (.slice xha xhl.length xhc)) ∧ Below W1.heap.size W1 W) → (InosAt W (fun k => w.heap.size ≤ k ∧ k ≠ p27) oa ok) → (ok.map InC.val = xik.map InC.val) → (RwAt W (fun k => w.heap.size ≤ k ∧ k ≠ p27) 3 xnl.length ra (xnl.flatMap enC)) → (FnAt W p13 2 (fun j => ((.slice oa ok.length oc :: .int .i64 xm :: [] : List Value)[j]?).getD undef)) → (w.heap.size < p13) → (FnAt W p18 1 (fun j => ((.slice ra xnl.length rc :: [] : List Value)[j]?).getD undef)) → (w.heap.size < p18) → (FnAt W p20 2 (fun j => ((.pointer (some ⟨p13, 0, none⟩) :: .pointer (some ⟨p18, 0, none⟩) :: [] : List Value)[j]?).getD undef)) → (w.heap.size < p20) → (FnAt W p27 24 (fun j => ((.int .i64 0 :: .int .i64 0 :: .int .i64 0 :: .int .i64 0 :: .int .i64 0 :: .int .i64 0 :: .int .i64 0 :: .int .i64 0 :: .int .i64 0 :: .int .i64 0 :: .int .i64 0 :: .int .i64 0 :: .int .i64 0 :: .int .i64 0 :: .int .i64 0 :: .int .i64 0 :: .int .i64 0 :: .int .i64 0 :: .int .i64 0 :: .int .i64 0 :: .int .i64 0 :: .int .i64 0 :: .int .i64 0 :: .int .i64 0 :: [] : List Value)[j]?).getD undef)) → (w.heap.size < p27) → (p13 ≠ p27) → (p18 ≠ p27) → (p20 ≠ p27) → G 6 (true :: true :: true :: true :: true :: true :: true :: true :: true :: true :: true :: true :: true :: true :: true :: true :: true :: true :: false :: false :: false :: true :: true :: false :: false :: false :: [] : List Bool).toArray ⟨(v0 :: .pointer (some ⟨w.heap.size, 0, none⟩) :: .pointer none :: undef :: undef :: .pointer (some ⟨w.heap.size, 0, none⟩) :: .int .i64 xn :: .pointer (some ⟨w.heap.size, 1, none⟩) :: .slice xia xik.length xic :: .slice oa ok.length oc :: .pointer (some ⟨w.heap.size, 2, none⟩) :: .int .i64 xm :: .agg (.slice oa ok.length oc :: .int .i64 xm :: [] : List Value).toArray :: .pointer (some ⟨p13, 0, none⟩) :: .pointer (some ⟨w.heap.size, 3, none⟩) :: .slice xna xnl.length xnc :: .slice ra xnl.length rc :: .agg (.slice ra xnl.length rc :: [] : List Value).toArray :: .pointer (some ⟨p18, 0, none⟩) :: .agg (.pointer (some ⟨p13, 0, none⟩) :: .pointer (some ⟨p18, 0, none⟩) :: [] : List Value).toArray :: .pointer (some ⟨p20, 0, none⟩) :: .pointer (some ⟨w.heap.size, 4, none⟩) :: .slice xha xhl.length xhc :: undef :: undef :: undef :: .agg (.int .i64 0 :: .int .i64 0 :: .int .i64 0 :: .int .i64 0 :: .int .i64 0 :: .int .i64 0 :: .int .i64 0 :: .int .i64 0 :: .int .i64 0 :: .int .i64 0 :: .int .i64 0 :: .int .i64 0 :: .int .i64 0 :: .int .i64 0 :: .int .i64 0 :: .int .i64 0 :: .int .i64 0 :: .int .i64 0 :: .int .i64 0 :: .int .i64 0 :: .int .i64 0 :: .int .i64 0 :: .int .i64 0 :: .int .i64 0 :: [] : List Value).toArray :: .pointer (some ⟨p27, 0, none⟩) :: undef :: undef :: undef :: undef :: undef :: undef :: undef :: undef :: undef :: undef :: undef :: undef :: undef :: undef :: undef :: undef :: undef :: undef :: undef :: undef :: undef :: undef :: undef :: undef :: undef :: undef :: undef :: undef :: undef :: undef :: undef :: undef :: undef :: undef :: undef :: undef :: undef :: undef :: undef :: undef :: undef :: undef :: undef :: [] : List Value).toArray, []⟩ W := by
    intro W oa oc ok ra rc p13 p18 p20 p27 hHeld fA fAv fB f13 g13 f18 g18 f20 g20 f27 g27 n13_27 n18_27 n20_27
    rw [HG.out]
    refine wpAnyH_ready (rs := [18]) (by kernel_rfl) (by simp) ?_
    refine AllReadyH.cons (o := _) rfl (fun K hK => ?_) AllReadyH.nil
    ·
      go_simp
      have hz : w.heap.size ≤ W.heap.size := Nat.le_trans HZ1.out hHeld.2.size
      refine (HCC.out W hHeld.2).mono ?_
      rintro e W2 ⟨ta, tc, rfl, hI, -, HBB⟩
      have nC := hI.sub (T := fun k => w.heap.size ≤ k ∧ k ≠ p27) (fun k hk h => ⟨Nat.le_trans hz h, Nat.ne_of_gt (Nat.lt_of_lt_of_le f27.lt h)⟩)
      have hKA := owKeep hHeld HBB
      try go_wp2_with fail
      refine hK.out _ _ hKA (fun hHeld => ?_)
      clear hK K hKA
      try simp only [Act.put, List.setIfInBounds_toArray, List.set_cons_zero, List.set_cons_succ]
      refine takeL 19 ?_
      rw [← HG.out]
      exact L_A_B_C_13_18_20_27 _ oa oc ok ra rc ta tc p13 p18 p20 p27 hHeld (fA.below' HBB) fAv (fB.below' HBB) nC (f13.below HBB) g13 (f18.below HBB) g18 (f20.below HBB) g20 (f27.below HBB) g27 n13_27 n18_27 n20_27
  have L_A_B_C_13_18 : ∀ (W : World) (oa : Option Addr) (oc : Nat) (ok : List InC) (ra : Option Addr) (rc : Nat) (ta : Option Addr) (tc : Nat) (p13 : Nat) (p18 : Nat), ((W.cell? ⟨w.heap.size, 0, none⟩ = some (.int .i64 xn) ∧ W.cell? ⟨w.heap.size, 1, none⟩ = some (.slice xia xik.length xic) ∧ W.cell? ⟨w.heap.size, 2, none⟩ = some (.int .i64 xm) ∧ W.cell? ⟨w.heap.size, 3, none⟩ = some (.slice xna xnl.length xnc) ∧ W.cell? ⟨w.heap.size, 4, none⟩ = some (.slice xha xhl.length xhc)) ∧ Below W1.heap.size W1 W) → (InosAt W (fun k => w.heap.size ≤ k) oa ok) → (ok.map InC.val = xik.map InC.val) → (RwAt W (fun k => w.heap.size ≤ k) 3 xnl.length ra (xnl.flatMap enC)) → (RwAt W (fun k => w.heap.size ≤ k) 3 xhl.length ta (xhl.flatMap hdC)) → (FnAt W p13 2 (fun j => ((.slice oa ok.length oc :: .int .i64 xm :: [] : List Value)[j]?).getD undef)) → (w.heap.size < p13) → (FnAt W p18 1 (fun j => ((.slice ra xnl.length rc :: [] : List Value)[j]?).getD undef)) → (w.heap.size < p18) → G 6 (true :: true :: true :: true :: true :: true :: true :: true :: true :: true :: true :: true :: true :: true :: true :: false :: true :: true :: true :: true :: false :: true :: false :: false :: false :: false :: [] : List Bool).toArray ⟨(v0 :: .pointer (some ⟨w.heap.size, 0, none⟩) :: .pointer none :: undef :: undef :: .pointer (some ⟨w.heap.size, 0, none⟩) :: .int .i64 xn :: .pointer (some ⟨w.heap.size, 1, none⟩) :: .slice xia xik.length xic :: .slice oa ok.length oc :: .pointer (some ⟨w.heap.size, 2, none⟩) :: .int .i64 xm :: .agg (.slice oa ok.length oc :: .int .i64 xm :: [] : List Value).toArray :: .pointer (some ⟨p13, 0, none⟩) :: .pointer (some ⟨w.heap.size, 3, none⟩) :: .slice xna xnl.length xnc :: .slice ra xnl.length rc :: .agg (.slice ra xnl.length rc :: [] : List Value).toArray :: .pointer (some ⟨p18, 0, none⟩) :: .agg (.pointer (some ⟨p13, 0, none⟩) :: .pointer (some ⟨p18, 0, none⟩) :: [] : List Value).toArray :: undef :: .pointer (some ⟨w.heap.size, 4, none⟩) :: .slice xha xhl.length xhc :: .slice ta xhl.length tc :: .agg (.slice ta xhl.length tc :: .int .i64 0 :: .int .i64 0 :: .int .i64 0 :: .int .i64 0 :: .int .i64 0 :: .int .i64 0 :: .int .i64 0 :: .int .i64 0 :: [] : List Value).toArray :: undef :: .agg (.int .i64 0 :: .int .i64 0 :: .int .i64 0 :: .int .i64 0 :: .int .i64 0 :: .int .i64 0 :: .int .i64 0 :: .int .i64 0 :: .int .i64 0 :: .int .i64 0 :: .int .i64 0 :: .int .i64 0 :: .int .i64 0 :: .int .i64 0 :: .int .i64 0 :: .int .i64 0 :: .int .i64 0 :: .int .i64 0 :: .int .i64 0 :: .int .i64 0 :: .int .i64 0 :: .int .i64 0 :: .int .i64 0 :: .int .i64 0 :: [] : List Value).toArray :: undef :: undef :: undef :: undef :: undef :: undef :: undef :: undef :: undef :: undef :: undef :: undef :: undef :: undef :: undef :: undef :: undef :: undef :: undef :: undef :: undef :: undef :: undef :: undef :: undef :: undef :: undef :: undef :: undef :: undef :: undef :: undef :: undef :: undef :: undef :: undef :: undef :: undef :: undef :: undef :: undef :: undef :: undef :: undef :: [] : List Value).toArray, []⟩ W := by
    intro W oa oc ok ra rc ta tc p13 p18 hHeld fA fAv fB fC f13 g13 f18 g18
    rw [HG.out]
    refine wpAnyH_ready (rs := [15, 20, 22]) (by kernel_rfl) (by simp) ?_
    refine AllReadyH.cons (o := _) rfl (fun K hK => ?_) (AllReadyH.cons (o := _) rfl (fun K hK => ?_) (AllReadyH.cons (o := _) rfl (fun K hK => ?_) AllReadyH.nil))
    ·
      go_simp
      have hz : w.heap.size < W.heap.size := Nat.lt_of_lt_of_le HZ1b.out hHeld.2.size
      have HBB : Below W.heap.size W (W.alloc (.cells ((.pointer (some ⟨p13, 0, none⟩) :: .pointer (some ⟨p18, 0, none⟩) :: [] : List Value)).toArray 96)) := by exact belC (Below.refl _ _)
      have nX := FnAt.new W 96 ((.pointer (some ⟨p13, 0, none⟩) :: .pointer (some ⟨p18, 0, none⟩) :: [] : List Value)) 2 rfl
      have nG := hz
      have hKA := owKeep hHeld HBB
      try go_wp2_with fail
      refine hK.out _ (W.alloc (.cells ((.pointer (some ⟨p13, 0, none⟩) :: .pointer (some ⟨p18, 0, none⟩) :: [] : List Value)).toArray 96)) hKA (fun hHeld => ?_)
      clear hK K hKA
      try simp only [Act.put, List.setIfInBounds_toArray, List.set_cons_zero, List.set_cons_succ]
      rw [← HG.out]
      exact L_A_B_C_13_18_20 _ oa oc ok ra rc ta tc p13 p18 W.heap.size hHeld (fA.below' HBB) fAv (fB.below' HBB) (fC.below' HBB) (f13.below HBB) g13 (f18.below HBB) g18 nX nG
    ·
      go_simp
      have hz : w.heap.size < W.heap.size := Nat.lt_of_lt_of_le HZ1b.out hHeld.2.size
      have HBB : Below W.heap.size W (W.alloc (.cells ((.slice ta xhl.length tc :: .int .i64 0 :: .int .i64 0 :: .int .i64 0 :: .int .i64 0 :: .int .i64 0 :: .int .i64 0 :: .int .i64 0 :: .int .i64 0 :: [] : List Value)).toArray 101)) := by exact belC (Below.refl _ _)
      have nX := FnAt.new W 101 ((.slice ta xhl.length tc :: .int .i64 0 :: .int .i64 0 :: .int .i64 0 :: .int .i64 0 :: .int .i64 0 :: .int .i64 0 :: .int .i64 0 :: .int .i64 0 :: [] : List Value)) 9 rfl
      have nG := hz
      have hKA := owKeep hHeld HBB
      try go_wp2_with fail
      refine hK.out _ (W.alloc (.cells ((.slice ta xhl.length tc :: .int .i64 0 :: .int .i64 0 :: .int .i64 0 :: .int .i64 0 :: .int .i64 0 :: .int .i64 0 :: .int .i64 0 :: .int .i64 0 :: [] : List Value)).toArray 101)) hKA (fun hHeld => ?_)
      clear hK K hKA
      try simp only [Act.put, List.setIfInBounds_toArray, List.set_cons_zero, List.set_cons_succ]
      rw [← HG.out]
      exact L_A_B_C_13_18_25 _ oa oc ok ra rc ta tc p13 p18 W.heap.size hHeld ((fA.sub (T := fun k => w.heap.size ≤ k ∧ k ≠ W.heap.size) (fun k hk h => ⟨h, Nat.ne_of_lt hk⟩)).below' HBB) fAv ((fB.sub (T := fun k => w.heap.size ≤ k ∧ k ≠ W.heap.size) (fun k hk h => ⟨h, Nat.ne_of_lt hk⟩)).below' HBB) ((fC.sub (T := fun k => w.heap.size ≤ k ∧ k ≠ W.heap.size) (fun k hk h => ⟨h, Nat.ne_of_lt hk⟩)).below' HBB) (f13.below HBB) g13 (f18.below HBB) g18 nX nG (Nat.ne_of_lt f13.lt) (Nat.ne_of_lt f18.lt)
    ·
      go_simp
      have hz : w.heap.size < W.heap.size := Nat.lt_of_lt_of_le HZ1b.out hHeld.2.size
      have HBB : Below W.heap.size W (W.alloc (.cells ((.int .i64 0 :: .int .i64 0 :: .int .i64 0 :: .int .i64 0 :: .int .i64 0 :: .int .i64 0 :: .int .i64 0 :: .int .i64 0 :: .int .i64 0 :: .int .i64 0 :: .int .i64 0 :: .int .i64 0 :: .int .i64 0 :: .int .i64 0 :: .int .i64 0 :: .int .i64 0 :: .int .i64 0 :: .int .i64 0 :: .int .i64 0 :: .int .i64 0 :: .int .i64 0 :: .int .i64 0 :: .int .i64 0 :: .int .i64 0 :: [] : List Value)).toArray 103)) := by exact belC (Below.refl _ _)
      have nX := FnAt.new W 103 ((.int .i64 0 :: .int .i64 0 :: .int .i64 0 :: .int .i64 0 :: .int .i64 0 :: .int .i64 0 :: .int .i64 0 :: .int .i64 0 :: .int .i64 0 :: .int .i64 0 :: .int .i64 0 :: .int .i64 0 :: .int .i64 0 :: .int .i64 0 :: .int .i64 0 :: .int .i64 0 :: .int .i64 0 :: .int .i64 0 :: .int .i64 0 :: .int .i64 0 :: .int .i64 0 :: .int .i64 0 :: .int .i64 0 :: .int .i64 0 :: [] : List Value)) 24 rfl
      have nG := hz
      have hKA := owKeep hHeld HBB
      try go_wp2_with fail
      refine hK.out _ (W.alloc (.cells ((.int .i64 0 :: .int .i64 0 :: .int .i64 0 :: .int .i64 0 :: .int .i64 0 :: .int .i64 0 :: .int .i64 0 :: .int .i64 0 :: .int .i64 0 :: .int .i64 0 :: .int .i64 0 :: .int .i64 0 :: .int .i64 0 :: .int .i64 0 :: .int .i64 0 :: .int .i64 0 :: .int .i64 0 :: .int .i64 0 :: .int .i64 0 :: .int .i64 0 :: .int .i64 0 :: .int .i64 0 :: .int .i64 0 :: .int .i64 0 :: [] : List Value)).toArray 103)) hKA (fun hHeld => ?_)
      clear hK K hKA
      try simp only [Act.put, List.setIfInBounds_toArray, List.set_cons_zero, List.set_cons_succ]
      rw [← HG.out]
      exact L_A_B_C_13_18_27 _ oa oc ok ra rc ta tc p13 p18 W.heap.size hHeld ((fA.sub (T := fun k => w.heap.size ≤ k ∧ k ≠ W.heap.size) (fun k hk h => ⟨h, Nat.ne_of_lt hk⟩)).below' HBB) fAv ((fB.sub (T := fun k => w.heap.size ≤ k ∧ k ≠ W.heap.size) (fun k hk h => ⟨h, Nat.ne_of_lt hk⟩)).below' HBB) ((fC.sub (T := fun k => w.heap.size ≤ k ∧ k ≠ W.heap.size) (fun k hk h => ⟨h, Nat.ne_of_lt hk⟩)).below' HBB) (f13.below HBB) g13 (f18.below HBB) g18 nX nG (Nat.ne_of_lt f13.lt) (Nat.ne_of_lt f18.lt)
  have L_A_B_C_13_25 : ∀ (W : World) (oa : Option Addr) (oc : Nat) (ok : List InC) (ra : Option Addr) (rc : Nat) (ta : Option Addr) (tc : Nat) (p13 : Nat) (p25 : Nat), ((W.cell? ⟨w.heap.size, 0, none⟩ = some (.int .i64 xn) ∧ W.cell? ⟨w.heap.size, 1, none⟩ = some (.slice xia xik.length xic) ∧ W.cell? ⟨w.heap.size, 2, none⟩ = some (.int .i64 xm) ∧ W.cell? ⟨w.heap.size, 3, none⟩ = some (.slice xna xnl.length xnc) ∧ W.cell? ⟨w.heap.size, 4, none⟩ = some (.slice xha xhl.length xhc)) ∧ Below W1.heap.size W1 W) → (InosAt W (fun k => w.heap.size ≤ k ∧ k ≠ p25) oa ok) → (ok.map InC.val = xik.map InC.val) → (RwAt W (fun k => w.heap.size ≤ k ∧ k ≠ p25) 3 xnl.length ra (xnl.flatMap enC)) → (RwAt W (fun k => w.heap.size ≤ k ∧ k ≠ p25) 3 xhl.length ta (xhl.flatMap hdC)) → (FnAt W p13 2 (fun j => ((.slice oa ok.length oc :: .int .i64 xm :: [] : List Value)[j]?).getD undef)) → (w.heap.size < p13) → (FnAt W p25 9 (fun j => ((.slice ta xhl.length tc :: .int .i64 0 :: .int .i64 0 :: .int .i64 0 :: .int .i64 0 :: .int .i64 0 :: .int .i64 0 :: .int .i64 0 :: .int .i64 0 :: [] : List Value)[j]?).getD undef)) → (w.heap.size < p25) → (p13 ≠ p25) → G 7 (true :: true :: true :: true :: true :: true :: true :: true :: true :: true :: true :: true :: true :: false :: false :: false :: true :: true :: true :: true :: true :: true :: false :: false :: false :: false :: [] : List Bool).toArray ⟨(v0 :: .pointer (some ⟨w.heap.size, 0, none⟩) :: .pointer none :: undef :: undef :: .pointer (some ⟨w.heap.size, 0, none⟩) :: .int .i64 xn :: .pointer (some ⟨w.heap.size, 1, none⟩) :: .slice xia xik.length xic :: .slice oa ok.length oc :: .pointer (some ⟨w.heap.size, 2, none⟩) :: .int .i64 xm :: .agg (.slice oa ok.length oc :: .int .i64 xm :: [] : List Value).toArray :: .pointer (some ⟨p13, 0, none⟩) :: .pointer (some ⟨w.heap.size, 3, none⟩) :: .slice xna xnl.length xnc :: .slice ra xnl.length rc :: .agg (.slice ra xnl.length rc :: [] : List Value).toArray :: undef :: undef :: undef :: .pointer (some ⟨w.heap.size, 4, none⟩) :: .slice xha xhl.length xhc :: .slice ta xhl.length tc :: .agg (.slice ta xhl.length tc :: .int .i64 0 :: .int .i64 0 :: .int .i64 0 :: .int .i64 0 :: .int .i64 0 :: .int .i64 0 :: .int .i64 0 :: .int .i64 0 :: [] : List Value).toArray :: .pointer (some ⟨p25, 0, none⟩) :: .agg (.int .i64 0 :: .int .i64 0 :: .int .i64 0 :: .int .i64 0 :: .int .i64 0 :: .int .i64 0 :: .int .i64 0 :: .int .i64 0 :: .int .i64 0 :: .int .i64 0 :: .int .i64 0 :: .int .i64 0 :: .int .i64 0 :: .int .i64 0 :: .int .i64 0 :: .int .i64 0 :: .int .i64 0 :: .int .i64 0 :: .int .i64 0 :: .int .i64 0 :: .int .i64 0 :: .int .i64 0 :: .int .i64 0 :: .int .i64 0 :: [] : List Value).toArray :: undef :: undef :: undef :: undef :: undef :: undef :: undef :: undef :: undef :: undef :: undef :: undef :: undef :: undef :: undef :: undef :: undef :: undef :: undef :: undef :: undef :: undef :: undef :: undef :: undef :: undef :: undef :: undef :: undef :: undef :: undef :: undef :: undef :: undef :: undef :: undef :: undef :: undef :: undef :: undef :: undef :: undef :: undef :: undef :: [] : List Value).toArray, []⟩ W := by
    intro W oa oc ok ra rc ta tc p13 p25 hHeld fA fAv fB fC f13 g13 f25 g25 n13_25
    rw [HG.out]
    refine wpAnyH_ready (rs := [13, 22]) (by kernel_rfl) (by simp) ?_
    refine AllReadyH.cons (o := _) rfl (fun K hK => ?_) (AllReadyH.cons (o := _) rfl (fun K hK => ?_) AllReadyH.nil)
    ·
      go_simp
      have hz : w.heap.size < W.heap.size := Nat.lt_of_lt_of_le HZ1b.out hHeld.2.size
      have HBB : Below W.heap.size W (W.alloc (.cells ((.slice ra xnl.length rc :: [] : List Value)).toArray 108)) := by exact belC (Below.refl _ _)
      have nX := FnAt.new W 108 ((.slice ra xnl.length rc :: [] : List Value)) 1 rfl
      have nG := hz
      have hKA := owKeep hHeld HBB
      try go_wp2_with fail
      refine hK.out _ (W.alloc (.cells ((.slice ra xnl.length rc :: [] : List Value)).toArray 108)) hKA (fun hHeld => ?_)
      clear hK K hKA
      try simp only [Act.put, List.setIfInBounds_toArray, List.set_cons_zero, List.set_cons_succ]
      refine takeL 14 ?_
      rw [← HG.out]
      exact L_A_B_C_13_18_25 _ oa oc ok ra rc ta tc p13 W.heap.size p25 hHeld (fA.below' HBB) fAv (fB.below' HBB) (fC.below' HBB) (f13.below HBB) g13 nX nG (f25.below HBB) g25 n13_25 (Nat.ne_of_gt f25.lt)
    ·
      go_simp
      have hz : w.heap.size < W.heap.size := Nat.lt_of_lt_of_le HZ1b.out hHeld.2.size
      have HBB : Below W.heap.size W (W.alloc (.cells ((.int .i64 0 :: .int .i64 0 :: .int .i64 0 :: .int .i64 0 :: .int .i64 0 :: .int .i64 0 :: .int .i64 0 :: .int .i64 0 :: .int .i64 0 :: .int .i64 0 :: .int .i64 0 :: .int .i64 0 :: .int .i64 0 :: .int .i64 0 :: .int .i64 0 :: .int .i64 0 :: .int .i64 0 :: .int .i64 0 :: .int .i64 0 :: .int .i64 0 :: .int .i64 0 :: .int .i64 0 :: .int .i64 0 :: .int .i64 0 :: [] : List Value)).toArray 103)) := by exact belC (Below.refl _ _)
      have nX := FnAt.new W 103 ((.int .i64 0 :: .int .i64 0 :: .int .i64 0 :: .int .i64 0 :: .int .i64 0 :: .int .i64 0 :: .int .i64 0 :: .int .i64 0 :: .int .i64 0 :: .int .i64 0 :: .int .i64 0 :: .int .i64 0 :: .int .i64 0 :: .int .i64 0 :: .int .i64 0 :: .int .i64 0 :: .int .i64 0 :: .int .i64 0 :: .int .i64 0 :: .int .i64 0 :: .int .i64 0 :: .int .i64 0 :: .int .i64 0 :: .int .i64 0 :: [] : List Value)) 24 rfl
      have nG := hz
      have hKA := owKeep hHeld HBB
      try go_wp2_with fail
      refine hK.out _ (W.alloc (.cells ((.int .i64 0 :: .int .i64 0 :: .int .i64 0 :: .int .i64 0 :: .int .i64 0 :: .int .i64 0 :: .int .i64 0 :: .int .i64 0 :: .int .i64 0 :: .int .i64 0 :: .int .i64 0 :: .int .i64 0 :: .int .i64 0 :: .int .i64 0 :: .int .i64 0 :: .int .i64 0 :: .int .i64 0 :: .int .i64 0 :: .int .i64 0 :: .int .i64 0 :: .int .i64 0 :: .int .i64 0 :: .int .i64 0 :: .int .i64 0 :: [] : List Value)).toArray 103)) hKA (fun hHeld => ?_)
      clear hK K hKA
      try simp only [Act.put, List.setIfInBounds_toArray, List.set_cons_zero, List.set_cons_succ]
      rw [← HG.out]
      exact L_A_B_C_13_25_27 _ oa oc ok ra rc ta tc p13 p25 W.heap.size hHeld ((fA.sub (T := fun k => w.heap.size ≤ k ∧ k ≠ p25 ∧ k ≠ W.heap.size) (fun k hk h => ⟨h.1, h.2, Nat.ne_of_lt hk⟩)).below' HBB) fAv ((fB.sub (T := fun k => w.heap.size ≤ k ∧ k ≠ p25 ∧ k ≠ W.heap.size) (fun k hk h => ⟨h.1, h.2, Nat.ne_of_lt hk⟩)).below' HBB) ((fC.sub (T := fun k => w.heap.size ≤ k ∧ k ≠ p25 ∧ k ≠ W.heap.size) (fun k hk h => ⟨h.1, h.2, Nat.ne_of_lt hk⟩)).below' HBB) (f13.below HBB) g13 (f25.below HBB) g25 nX nG n13_25 (Nat.ne_of_gt f25.lt) (Nat.ne_of_lt f13.lt)
  have L_A_B_C_13_27 : ∀ (W : World) (oa : Option Addr) (oc : Nat) (ok : List InC) (ra : Option Addr) (rc : Nat) (ta : Option Addr) (tc : Nat) (p13 : Nat) (p27 : Nat), ((W.cell? ⟨w.heap.size, 0, none⟩ = some (.int .i64 xn) ∧ W.cell? ⟨w.heap.size, 1, none⟩ = some (.slice xia xik.length xic) ∧ W.cell? ⟨w.heap.size, 2, none⟩ = some (.int .i64 xm) ∧ W.cell? ⟨w.heap.size, 3, none⟩ = some (.slice xna xnl.length xnc) ∧ W.cell? ⟨w.heap.size, 4, none⟩ = some (.slice xha xhl.length xhc)) ∧ Below W1.heap.size W1 W) → (InosAt W (fun k => w.heap.size ≤ k ∧ k ≠ p27) oa ok) → (ok.map InC.val = xik.map InC.val) → (RwAt W (fun k => w.heap.size ≤ k ∧ k ≠ p27) 3 xnl.length ra (xnl.flatMap enC)) → (RwAt W (fun k => w.heap.size ≤ k ∧ k ≠ p27) 3 xhl.length ta (xhl.flatMap hdC)) → (FnAt W p13 2 (fun j => ((.slice oa ok.length oc :: .int .i64 xm :: [] : List Value)[j]?).getD undef)) → (w.heap.size < p13) → (FnAt W p27 24 (fun j => ((.int .i64 0 :: .int .i64 0 :: .int .i64 0 :: .int .i64 0 :: .int .i64 0 :: .int .i64 0 :: .int .i64 0 :: .int .i64 0 :: .int .i64 0 :: .int .i64 0 :: .int .i64 0 :: .int .i64 0 :: .int .i64 0 :: .int .i64 0 :: .int .i64 0 :: .int .i64 0 :: .int .i64 0 :: .int .i64 0 :: .int .i64 0 :: .int .i64 0 :: .int .i64 0 :: .int .i64 0 :: .int .i64 0 :: .int .i64 0 :: [] : List Value)[j]?).getD undef)) → (w.heap.size < p27) → (p13 ≠ p27) → G 7 (true :: true :: true :: true :: true :: true :: true :: true :: true :: true :: true :: true :: true :: false :: false :: false :: true :: true :: true :: true :: false :: true :: true :: false :: false :: false :: [] : List Bool).toArray ⟨(v0 :: .pointer (some ⟨w.heap.size, 0, none⟩) :: .pointer none :: undef :: undef :: .pointer (some ⟨w.heap.size, 0, none⟩) :: .int .i64 xn :: .pointer (some ⟨w.heap.size, 1, none⟩) :: .slice xia xik.length xic :: .slice oa ok.length oc :: .pointer (some ⟨w.heap.size, 2, none⟩) :: .int .i64 xm :: .agg (.slice oa ok.length oc :: .int .i64 xm :: [] : List Value).toArray :: .pointer (some ⟨p13, 0, none⟩) :: .pointer (some ⟨w.heap.size, 3, none⟩) :: .slice xna xnl.length xnc :: .slice ra xnl.length rc :: .agg (.slice ra xnl.length rc :: [] : List Value).toArray :: undef :: undef :: undef :: .pointer (some ⟨w.heap.size, 4, none⟩) :: .slice xha xhl.length xhc :: .slice ta xhl.length tc :: .agg (.slice ta xhl.length tc :: .int .i64 0 :: .int .i64 0 :: .int .i64 0 :: .int .i64 0 :: .int .i64 0 :: .int .i64 0 :: .int .i64 0 :: .int .i64 0 :: [] : List Value).toArray :: undef :: .agg (.int .i64 0 :: .int .i64 0 :: .int .i64 0 :: .int .i64 0 :: .int .i64 0 :: .int .i64 0 :: .int .i64 0 :: .int .i64 0 :: .int .i64 0 :: .int .i64 0 :: .int .i64 0 :: .int .i64 0 :: .int .i64 0 :: .int .i64 0 :: .int .i64 0 :: .int .i64 0 :: .int .i64 0 :: .int .i64 0 :: .int .i64 0 :: .int .i64 0 :: .int .i64 0 :: .int .i64 0 :: .int .i64 0 :: .int .i64 0 :: [] : List Value).toArray :: .pointer (some ⟨p27, 0, none⟩) :: undef :: undef :: undef :: undef :: undef :: undef :: undef :: undef :: undef :: undef :: undef :: undef :: undef :: undef :: undef :: undef :: undef :: undef :: undef :: undef :: undef :: undef :: undef :: undef :: undef :: undef :: undef :: undef :: undef :: undef :: undef :: undef :: undef :: undef :: undef :: undef :: undef :: undef :: undef :: undef :: undef :: undef :: undef :: [] : List Value).toArray, []⟩ W := by
    intro W oa oc ok ra rc ta tc p13 p27 hHeld fA fAv fB fC f13 g13 f27 g27 n13_27
    rw [HG.out]
    refine wpAnyH_ready (rs := [13, 20]) (by kernel_rfl) (by simp) ?_
    refine AllReadyH.cons (o := _) rfl (fun K hK => ?_) (AllReadyH.cons (o := _) rfl (fun K hK => ?_) AllReadyH.nil)
    ·
      go_simp
      have hz : w.heap.size < W.heap.size := Nat.lt_of_lt_of_le HZ1b.out hHeld.2.size
      have HBB : Below W.heap.size W (W.alloc (.cells ((.slice ra xnl.length rc :: [] : List Value)).toArray 108)) := by exact belC (Below.refl _ _)
      have nX := FnAt.new W 108 ((.slice ra xnl.length rc :: [] : List Value)) 1 rfl
      have nG := hz
      have hKA := owKeep hHeld HBB
      try go_wp2_with fail
      refine hK.out _ (W.alloc (.cells ((.slice ra xnl.length rc :: [] : List Value)).toArray 108)) hKA (fun hHeld => ?_)
      clear hK K hKA
      try simp only [Act.put, List.setIfInBounds_toArray, List.set_cons_zero, List.set_cons_succ]
      refine takeL 14 ?_
      rw [← HG.out]
      exact L_A_B_C_13_18_27 _ oa oc ok ra rc ta tc p13 W.heap.size p27 hHeld (fA.below' HBB) fAv (fB.below' HBB) (fC.below' HBB) (f13.below HBB) g13 nX nG (f27.below HBB) g27 n13_27 (Nat.ne_of_gt f27.lt)
    ·
      go_simp
      have hz : w.heap.size < W.heap.size := Nat.lt_of_lt_of_le HZ1b.out hHeld.2.size
      have HBB : Below W.heap.size W (W.alloc (.cells ((.slice ta xhl.length tc :: .int .i64 0 :: .int .i64 0 :: .int .i64 0 :: .int .i64 0 :: .int .i64 0 :: .int .i64 0 :: .int .i64 0 :: .int .i64 0 :: [] : List Value)).toArray 101)) := by exact belC (Below.refl _ _)
      have nX := FnAt.new W 101 ((.slice ta xhl.length tc :: .int .i64 0 :: .int .i64 0 :: .int .i64 0 :: .int .i64 0 :: .int .i64 0 :: .int .i64 0 :: .int .i64 0 :: .int .i64 0 :: [] : List Value)) 9 rfl
      have nG := hz
      have hKA := owKeep hHeld HBB
      try go_wp2_with fail
      refine hK.out _ (W.alloc (.cells ((.slice ta xhl.length tc :: .int .i64 0 :: .int .i64 0 :: .int .i64 0 :: .int .i64 0 :: .int .i64 0 :: .int .i64 0 :: .int .i64 0 :: .int .i64 0 :: [] : List Value)).toArray 101)) hKA (fun hHeld => ?_)
      clear hK K hKA
      try simp only [Act.put, List.setIfInBounds_toArray, List.set_cons_zero, List.set_cons_succ]
      rw [← HG.out]
      exact L_A_B_C_13_25_27 _ oa oc ok ra rc ta tc p13 W.heap.size p27 hHeld ((fA.sub (T := fun k => w.heap.size ≤ k ∧ k ≠ W.heap.size ∧ k ≠ p27) (fun k hk h => ⟨h.1, Nat.ne_of_lt hk, h.2⟩)).below' HBB) fAv ((fB.sub (T := fun k => w.heap.size ≤ k ∧ k ≠ W.heap.size ∧ k ≠ p27) (fun k hk h => ⟨h.1, Nat.ne_of_lt hk, h.2⟩)).below' HBB) ((fC.sub (T := fun k => w.heap.size ≤ k ∧ k ≠ W.heap.size ∧ k ≠ p27) (fun k hk h => ⟨h.1, Nat.ne_of_lt hk, h.2⟩)).below' HBB) (f13.below HBB) g13 nX nG (f27.below HBB) g27 (Nat.ne_of_lt f13.lt) (Nat.ne_of_lt f27.lt) n13_27
  have L_A_B_C_18_25 : ∀ (W : World) (oa : Option Addr) (oc : Nat) (ok : List InC) (ra : Option Addr) (rc : Nat) (ta : Option Addr) (tc : Nat) (p18 : Nat) (p25 : Nat), ((W.cell? ⟨w.heap.size, 0, none⟩ = some (.int .i64 xn) ∧ W.cell? ⟨w.heap.size, 1, none⟩ = some (.slice xia xik.length xic) ∧ W.cell? ⟨w.heap.size, 2, none⟩ = some (.int .i64 xm) ∧ W.cell? ⟨w.heap.size, 3, none⟩ = some (.slice xna xnl.length xnc) ∧ W.cell? ⟨w.heap.size, 4, none⟩ = some (.slice xha xhl.length xhc)) ∧ Below W1.heap.size W1 W) → (InosAt W (fun k => w.heap.size ≤ k ∧ k ≠ p25) oa ok) → (ok.map InC.val = xik.map InC.val) → (RwAt W (fun k => w.heap.size ≤ k ∧ k ≠ p25) 3 xnl.length ra (xnl.flatMap enC)) → (RwAt W (fun k => w.heap.size ≤ k ∧ k ≠ p25) 3 xhl.length ta (xhl.flatMap hdC)) → (FnAt W p18 1 (fun j => ((.slice ra xnl.length rc :: [] : List Value)[j]?).getD undef)) → (w.heap.size < p18) → (FnAt W p25 9 (fun j => ((.slice ta xhl.length tc :: .int .i64 0 :: .int .i64 0 :: .int .i64 0 :: .int .i64 0 :: .int .i64 0 :: .int .i64 0 :: .int .i64 0 :: .int .i64 0 :: [] : List Value)[j]?).getD undef)) → (w.heap.size < p25) → (p18 ≠ p25) → G 7 (true :: true :: true :: true :: true :: true :: true :: true :: false :: true :: true :: true :: true :: true :: false :: false :: true :: true :: true :: true :: true :: true :: false :: false :: false :: false :: [] : List Bool).toArray ⟨(v0 :: .pointer (some ⟨w.heap.size, 0, none⟩) :: .pointer none :: undef :: undef :: .pointer (some ⟨w.heap.size, 0, none⟩) :: .int .i64 xn :: .pointer (some ⟨w.heap.size, 1, none⟩) :: .slice xia xik.length xic :: .slice oa ok.length oc :: .pointer (some ⟨w.heap.size, 2, none⟩) :: .int .i64 xm :: .agg (.slice oa ok.length oc :: .int .i64 xm :: [] : List Value).toArray :: undef :: .pointer (some ⟨w.heap.size, 3, none⟩) :: .slice xna xnl.length xnc :: .slice ra xnl.length rc :: .agg (.slice ra xnl.length rc :: [] : List Value).toArray :: .pointer (some ⟨p18, 0, none⟩) :: undef :: undef :: .pointer (some ⟨w.heap.size, 4, none⟩) :: .slice xha xhl.length xhc :: .slice ta xhl.length tc :: .agg (.slice ta xhl.length tc :: .int .i64 0 :: .int .i64 0 :: .int .i64 0 :: .int .i64 0 :: .int .i64 0 :: .int .i64 0 :: .int .i64 0 :: .int .i64 0 :: [] : List Value).toArray :: .pointer (some ⟨p25, 0, none⟩) :: .agg (.int .i64 0 :: .int .i64 0 :: .int .i64 0 :: .int .i64 0 :: .int .i64 0 :: .int .i64 0 :: .int .i64 0 :: .int .i64 0 :: .int .i64 0 :: .int .i64 0 :: .int .i64 0 :: .int .i64 0 :: .int .i64 0 :: .int .i64 0 :: .int .i64 0 :: .int .i64 0 :: .int .i64 0 :: .int .i64 0 :: .int .i64 0 :: .int .i64 0 :: .int .i64 0 :: .int .i64 0 :: .int .i64 0 :: .int .i64 0 :: [] : List Value).toArray :: undef :: undef :: undef :: undef :: undef :: undef :: undef :: undef :: undef :: undef :: undef :: undef :: undef :: undef :: undef :: undef :: undef :: undef :: undef :: undef :: undef :: undef :: undef :: undef :: undef :: undef :: undef :: undef :: undef :: undef :: undef :: undef :: undef :: undef :: undef :: undef :: undef :: undef :: undef :: undef :: undef :: undef :: undef :: undef :: [] : List Value).toArray, []⟩ W := by
    intro W oa oc ok ra rc ta tc p18 p25 hHeld fA fAv fB fC f18 g18 f25 g25 n18_25
    rw [HG.out]
    refine wpAnyH_ready (rs := [8, 22]) (by kernel_rfl) (by simp) ?_
    refine AllReadyH.cons (o := _) rfl (fun K hK => ?_) (AllReadyH.cons (o := _) rfl (fun K hK => ?_) AllReadyH.nil)
    ·
      go_simp
      have hz : w.heap.size < W.heap.size := Nat.lt_of_lt_of_le HZ1b.out hHeld.2.size
      have HBB : Below W.heap.size W (W.alloc (.cells ((.slice oa ok.length oc :: .int .i64 xm :: [] : List Value)).toArray 92)) := by exact belC (Below.refl _ _)
      have nX := FnAt.new W 92 ((.slice oa ok.length oc :: .int .i64 xm :: [] : List Value)) 2 rfl
      have nG := hz
      have hKA := owKeep hHeld HBB
      try go_wp2_with fail
      refine hK.out _ (W.alloc (.cells ((.slice oa ok.length oc :: .int .i64 xm :: [] : List Value)).toArray 92)) hKA (fun hHeld => ?_)
      clear hK K hKA
      try simp only [Act.put, List.setIfInBounds_toArray, List.set_cons_zero, List.set_cons_succ]
      refine takeL 14 ?_
      rw [← HG.out]
      exact L_A_B_C_13_18_25 _ oa oc ok ra rc ta tc W.heap.size p18 p25 hHeld (fA.below' HBB) fAv (fB.below' HBB) (fC.below' HBB) nX nG (f18.below HBB) g18 (f25.below HBB) g25 (Nat.ne_of_gt f25.lt) n18_25
    ·
      go_simp
      have hz : w.heap.size < W.heap.size := Nat.lt_of_lt_of_le HZ1b.out hHeld.2.size
      have HBB : Below W.heap.size W (W.alloc (.cells ((.int .i64 0 :: .int .i64 0 :: .int .i64 0 :: .int .i64 0 :: .int .i64 0 :: .int .i64 0 :: .int .i64 0 :: .int .i64 0 :: .int .i64 0 :: .int .i64 0 :: .int .i64 0 :: .int .i64 0 :: .int .i64 0 :: .int .i64 0 :: .int .i64 0 :: .int .i64 0 :: .int .i64 0 :: .int .i64 0 :: .int .i64 0 :: .int .i64 0 :: .int .i64 0 :: .int .i64 0 :: .int .i64 0 :: .int .i64 0 :: [] : List Value)).toArray 103)) := by exact belC (Below.refl _ _)
      have nX := FnAt.new W 103 ((.int .i64 0 :: .int .i64 0 :: .int .i64 0 :: .int .i64 0 :: .int .i64 0 :: .int .i64 0 :: .int .i64 0 :: .int .i64 0 :: .int .i64 0 :: .int .i64 0 :: .int .i64 0 :: .int .i64 0 :: .int .i64 0 :: .int .i64 0 :: .int .i64 0 :: .int .i64 0 :: .int .i64 0 :: .int .i64 0 :: .int .i64 0 :: .int .i64 0 :: .int .i64 0 :: .int .i64 0 :: .int .i64 0 :: .int .i64 0 :: [] : List Value)) 24 rfl
      have nG := hz
      have hKA := owKeep hHeld HBB
      try go_wp2_with fail
      refine hK.out _ (W.alloc (.cells ((.int .i64 0 :: .int .i64 0 :: .int .i64 0 :: .int .i64 0 :: .int .i64 0 :: .int .i64 0 :: .int .i64 0 :: .int .i64 0 :: .int .i64 0 :: .int .i64 0 :: .int .i64 0 :: .int .i64 0 :: .int .i64 0 :: .int .i64 0 :: .int .i64 0 :: .int .i64 0 :: .int .i64 0 :: .int .i64 0 :: .int .i64 0 :: .int .i64 0 :: .int .i64 0 :: .int .i64 0 :: .int .i64 0 :: .int .i64 0 :: [] : List Value)).toArray 103)) hKA (fun hHeld => ?_)
      clear hK K hKA
      try simp only [Act.put, List.setIfInBounds_toArray, List.set_cons_zero, List.set_cons_succ]
      rw [← HG.out]
      exact L_A_B_C_18_25_27 _ oa oc ok ra rc ta tc p18 p25 W.heap.size hHeld ((fA.sub (T := fun k => w.heap.size ≤ k ∧ k ≠ p25 ∧ k ≠ W.heap.size) (fun k hk h => ⟨h.1, h.2, Nat.ne_of_lt hk⟩)).below' HBB) fAv ((fB.sub (T := fun k => w.heap.size ≤ k ∧ k ≠ p25 ∧ k ≠ W.heap.size) (fun k hk h => ⟨h.1, h.2, Nat.ne_of_lt hk⟩)).below' HBB) ((fC.sub (T := fun k => w.heap.size ≤ k ∧ k ≠ p25 ∧ k ≠ W.heap.size) (fun k hk h => ⟨h.1, h.2, Nat.ne_of_lt hk⟩)).below' HBB) (f18.below HBB) g18 (f25.below HBB) g25 nX nG n18_25 (Nat.ne_of_gt f25.lt) (Nat.ne_of_lt f18.lt)
  have L_A_B_C_18_27 : ∀ (W : World) (oa : Option Addr) (oc : Nat) (ok : List InC) (ra : Option Addr) (rc : Nat) (ta : Option Addr) (tc : Nat) (p18 : Nat) (p27 : Nat), ((W.cell? ⟨w.heap.size, 0, none⟩ = some (.int .i64 xn) ∧ W.cell? ⟨w.heap.size, 1, none⟩ = some (.slice xia xik.length xic) ∧ W.cell? ⟨w.heap.size, 2, none⟩ = some (.int .i64 xm) ∧ W.cell? ⟨w.heap.size, 3, none⟩ = some (.slice xna xnl.length xnc) ∧ W.cell? ⟨w.heap.size, 4, none⟩ = some (.slice xha xhl.length xhc)) ∧ Below W1.heap.size W1 W) → (InosAt W (fun k => w.heap.size ≤ k ∧ k ≠ p27) oa ok) → (ok.map InC.val = xik.map InC.val) → (RwAt W (fun k => w.heap.size ≤ k ∧ k ≠ p27) 3 xnl.length ra (xnl.flatMap enC)) → (RwAt W (fun k => w.heap.size ≤ k ∧ k ≠ p27) 3 xhl.length ta (xhl.flatMap hdC)) → (FnAt W p18 1 (fun j => ((.slice ra xnl.length rc :: [] : List Value)[j]?).getD undef)) → (w.heap.size < p18) → (FnAt W p27 24 (fun j => ((.int .i64 0 :: .int .i64 0 :: .int .i64 0 :: .int .i64 0 :: .int .i64 0 :: .int .i64 0 :: .int .i64 0 :: .int .i64 0 :: .int .i64 0 :: .int .i64 0 :: .int .i64 0 :: .int .i64 0 :: .int .i64 0 :: .int .i64 0 :: .int .i64 0 :: .int .i64 0 :: .int .i64 0 :: .int .i64 0 :: .int .i64 0 :: .int .i64 0 :: .int .i64 0 :: .int .i64 0 :: .int .i64 0 :: .int .i64 0 :: [] : List Value)[j]?).getD undef)) → (w.heap.size < p27) → (p18 ≠ p27) → G 7 (true :: true :: true :: true :: true :: true :: true :: true :: false :: true :: true :: true :: true :: true :: false :: false :: true :: true :: true :: true :: false :: true :: true :: false :: false :: false :: [] : List Bool).toArray ⟨(v0 :: .pointer (some ⟨w.heap.size, 0, none⟩) :: .pointer none :: undef :: undef :: .pointer (some ⟨w.heap.size, 0, none⟩) :: .int .i64 xn :: .pointer (some ⟨w.heap.size, 1, none⟩) :: .slice xia xik.length xic :: .slice oa ok.length oc :: .pointer (some ⟨w.heap.size, 2, none⟩) :: .int .i64 xm :: .agg (.slice oa ok.length oc :: .int .i64 xm :: [] : List Value).toArray :: undef :: .pointer (some ⟨w.heap.size, 3, none⟩) :: .slice xna xnl.length xnc :: .slice ra xnl.length rc :: .agg (.slice ra xnl.length rc :: [] : List Value).toArray :: .pointer (some ⟨p18, 0, none⟩) :: undef :: undef :: .pointer (some ⟨w.heap.size, 4, none⟩) :: .slice xha xhl.length xhc :: .slice ta xhl.length tc :: .agg (.slice ta xhl.length tc :: .int .i64 0 :: .int .i64 0 :: .int .i64 0 :: .int .i64 0 :: .int .i64 0 :: .int .i64 0 :: .int .i64 0 :: .int .i64 0 :: [] : List Value).toArray :: undef :: .agg (.int .i64 0 :: .int .i64 0 :: .int .i64 0 :: .int .i64 0 :: .int .i64 0 :: .int .i64 0 :: .int .i64 0 :: .int .i64 0 :: .int .i64 0 :: .int .i64 0 :: .int .i64 0 :: .int .i64 0 :: .int .i64 0 :: .int .i64 0 :: .int .i64 0 :: .int .i64 0 :: .int .i64 0 :: .int .i64 0 :: .int .i64 0 :: .int .i64 0 :: .int .i64 0 :: .int .i64 0 :: .int .i64 0 :: .int .i64 0 :: [] : List Value).toArray :: .pointer (some ⟨p27, 0, none⟩) :: undef :: undef :: undef :: undef :: undef :: undef :: undef :: undef :: undef :: undef :: undef :: undef :: undef :: undef :: undef :: undef :: undef :: undef :: undef :: undef :: undef :: undef :: undef :: undef :: undef :: undef :: undef :: undef :: undef :: undef :: undef :: undef :: undef :: undef :: undef :: undef :: undef :: undef :: undef :: undef :: undef :: undef :: undef :: [] : List Value).toArray, []⟩ W := by
    intro W oa oc ok ra rc ta tc p18 p27 hHeld fA fAv fB fC f18 g18 f27 g27 n18_27
    rw [HG.out]
    refine wpAnyH_ready (rs := [8, 20]) (by kernel_rfl) (by simp) ?_
    refine AllReadyH.cons (o := _) rfl (fun K hK => ?_) (AllReadyH.cons (o := _) rfl (fun K hK => ?_) AllReadyH.nil)
    ·
      go_simp
      have hz : w.heap.size < W.heap.size := Nat.lt_of_lt_of_le HZ1b.out hHeld.2.size
      have HBB : Below W.heap.size W (W.alloc (.cells ((.slice oa ok.length oc :: .int .i64 xm :: [] : List Value)).toArray 92)) := by exact belC (Below.refl _ _)
      have nX := FnAt.new W 92 ((.slice oa ok.length oc :: .int .i64 xm :: [] : List Value)) 2 rfl
      have nG := hz
      have hKA := owKeep hHeld HBB
      try go_wp2_with fail
      refine hK.out _ (W.alloc (.cells ((.slice oa ok.length oc :: .int .i64 xm :: [] : List Value)).toArray 92)) hKA (fun hHeld => ?_)
      clear hK K hKA
      try simp only [Act.put, List.setIfInBounds_toArray, List.set_cons_zero, List.set_cons_succ]
      refine takeL 14 ?_
      rw [← HG.out]
      exact L_A_B_C_13_18_27 _ oa oc ok ra rc ta tc W.heap.size p18 p27 hHeld (fA.below' HBB) fAv (fB.below' HBB) (fC.below' HBB) nX nG (f18.below HBB) g18 (f27.below HBB) g27 (Nat.ne_of_gt f27.lt) n18_27
    ·
      go_simp
      have hz : w.heap.size < W.heap.size := Nat.lt_of_lt_of_le HZ1b.out hHeld.2.size
      have HBB : Below W.heap.size W (W.alloc (.cells ((.slice ta xhl.length tc :: .int .i64 0 :: .int .i64 0 :: .int .i64 0 :: .int .i64 0 :: .int .i64 0 :: .int .i64 0 :: .int .i64 0 :: .int .i64 0 :: [] : List Value)).toArray 101)) := by exact belC (Below.refl _ _)
      have nX := FnAt.new W 101 ((.slice ta xhl.length tc :: .int .i64 0 :: .int .i64 0 :: .int .i64 0 :: .int .i64 0 :: .int .i64 0 :: .int .i64 0 :: .int .i64 0 :: .int .i64 0 :: [] : List Value)) 9 rfl
      have nG := hz
      have hKA := owKeep hHeld HBB
      try go_wp2_with fail
      refine hK.out _ (W.alloc (.cells ((.slice ta xhl.length tc :: .int .i64 0 :: .int .i64 0 :: .int .i64 0 :: .int .i64 0 :: .int .i64 0 :: .int .i64 0 :: .int .i64 0 :: .int .i64 0 :: [] : List Value)).toArray 101)) hKA (fun hHeld => ?_)
      clear hK K hKA
      try simp only [Act.put, List.setIfInBounds_toArray, List.set_cons_zero, List.set_cons_succ]
      rw [← HG.out]
      exact L_A_B_C_18_25_27 _ oa oc ok ra rc ta tc p18 W.heap.size p27 hHeld ((fA.sub (T := fun k => w.heap.size ≤ k ∧ k ≠ W.heap.size ∧ k ≠ p27) (fun k hk h => ⟨h.1, Nat.ne_of_lt hk, h.2⟩)).below' HBB) fAv ((fB.sub (T := fun k => w.heap.size ≤ k ∧ k ≠ W.heap.size ∧ k ≠ p27) (fun k hk h => ⟨h.1, Nat.ne_of_lt hk, h.2⟩)).below' HBB) ((fC.sub (T := fun k => w.heap.size ≤ k ∧ k ≠ W.heap.size ∧ k ≠ p27) (fun k hk h => ⟨h.1, Nat.ne_of_lt hk, h.2⟩)).below' HBB) (f18.below HBB) g18 nX nG (f27.below HBB) g27 (Nat.ne_of_lt f18.lt) (Nat.ne_of_lt f27.lt) n18_27
  have L_A_B_C_25_27 : ∀ (W : World) (oa : Option Addr) (oc : Nat) (ok : List InC) (ra : Option Addr) (rc : Nat) (ta : Option Addr) (tc : Nat) (p25 : Nat) (p27 : Nat), ((W.cell? ⟨w.heap.size, 0, none⟩ = some (.int .i64 xn) ∧ W.cell? ⟨w.heap.size, 1, none⟩ = some (.slice xia xik.length xic) ∧ W.cell? ⟨w.heap.size, 2, none⟩ = some (.int .i64 xm) ∧ W.cell? ⟨w.heap.size, 3, none⟩ = some (.slice xna xnl.length xnc) ∧ W.cell? ⟨w.heap.size, 4, none⟩ = some (.slice xha xhl.length xhc)) ∧ Below W1.heap.size W1 W) → (InosAt W (fun k => w.heap.size ≤ k ∧ k ≠ p25 ∧ k ≠ p27) oa ok) → (ok.map InC.val = xik.map InC.val) → (RwAt W (fun k => w.heap.size ≤ k ∧ k ≠ p25 ∧ k ≠ p27) 3 xnl.length ra (xnl.flatMap enC)) → (RwAt W (fun k => w.heap.size ≤ k ∧ k ≠ p25 ∧ k ≠ p27) 3 xhl.length ta (xhl.flatMap hdC)) → (FnAt W p25 9 (fun j => ((.slice ta xhl.length tc :: .int .i64 0 :: .int .i64 0 :: .int .i64 0 :: .int .i64 0 :: .int .i64 0 :: .int .i64 0 :: .int .i64 0 :: .int .i64 0 :: [] : List Value)[j]?).getD undef)) → (w.heap.size < p25) → (FnAt W p27 24 (fun j => ((.int .i64 0 :: .int .i64 0 :: .int .i64 0 :: .int .i64 0 :: .int .i64 0 :: .int .i64 0 :: .int .i64 0 :: .int .i64 0 :: .int .i64 0 :: .int .i64 0 :: .int .i64 0 :: .int .i64 0 :: .int .i64 0 :: .int .i64 0 :: .int .i64 0 :: .int .i64 0 :: .int .i64 0 :: .int .i64 0 :: .int .i64 0 :: .int .i64 0 :: .int .i64 0 :: .int .i64 0 :: .int .i64 0 :: .int .i64 0 :: [] : List Value)[j]?).getD undef)) → (w.heap.size < p27) → (p27 ≠ p25) → G 7 (true :: true :: true :: true :: true :: true :: true :: true :: false :: true :: true :: true :: true :: false :: false :: false :: true :: true :: true :: true :: true :: true :: true :: false :: false :: false :: [] : List Bool).toArray ⟨(v0 :: .pointer (some ⟨w.heap.size, 0, none⟩) :: .pointer none :: undef :: undef :: .pointer (some ⟨w.heap.size, 0, none⟩) :: .int .i64 xn :: .pointer (some ⟨w.heap.size, 1, none⟩) :: .slice xia xik.length xic :: .slice oa ok.length oc :: .pointer (some ⟨w.heap.size, 2, none⟩) :: .int .i64 xm :: .agg (.slice oa ok.length oc :: .int .i64 xm :: [] : List Value).toArray :: undef :: .pointer (some ⟨w.heap.size, 3, none⟩) :: .slice xna xnl.length xnc :: .slice ra xnl.length rc :: .agg (.slice ra xnl.length rc :: [] : List Value).toArray :: undef :: undef :: undef :: .pointer (some ⟨w.heap.size, 4, none⟩) :: .slice xha xhl.length xhc :: .slice ta xhl.length tc :: .agg (.slice ta xhl.length tc :: .int .i64 0 :: .int .i64 0 :: .int .i64 0 :: .int .i64 0 :: .int .i64 0 :: .int .i64 0 :: .int .i64 0 :: .int .i64 0 :: [] : List Value).toArray :: .pointer (some ⟨p25, 0, none⟩) :: .agg (.int .i64 0 :: .int .i64 0 :: .int .i64 0 :: .int .i64 0 :: .int .i64 0 :: .int .i64 0 :: .int .i64 0 :: .int .i64 0 :: .int .i64 0 :: .int .i64 0 :: .int .i64 0 :: .int .i64 0 :: .int .i64 0 :: .int .i64 0 :: .int .i64 0 :: .int .i64 0 :: .int .i64 0 :: .int .i64 0 :: .int .i64 0 :: .int .i64 0 :: .int .i64 0 :: .int .i64 0 :: .int .i64 0 :: .int .i64 0 :: [] : List Value).toArray :: .pointer (some ⟨p27, 0, none⟩) :: undef :: undef :: undef :: undef :: undef :: undef :: undef :: undef :: undef :: undef :: undef :: undef :: undef :: undef :: undef :: undef :: undef :: undef :: undef :: undef :: undef :: undef :: undef :: undef :: undef :: undef :: undef :: undef :: undef :: undef :: undef :: undef :: undef :: undef :: undef :: undef :: undef :: undef :: undef :: undef :: undef :: undef :: undef :: [] : List Value).toArray, []⟩ W := by
    intro W oa oc ok ra rc ta tc p25 p27 hHeld fA fAv fB fC f25 g25 f27 g27 n27_25
    rw [HG.out]
    refine wpAnyH_ready (rs := [8, 13]) (by kernel_rfl) (by simp) ?_
    refine AllReadyH.cons (o := _) rfl (fun K hK => ?_) (AllReadyH.cons (o := _) rfl (fun K hK => ?_) AllReadyH.nil)
    ·
      go_simp
      have hz : w.heap.size < W.heap.size := Nat.lt_of_lt_of_le HZ1b.out hHeld.2.size
      have HBB : Below W.heap.size W (W.alloc (.cells ((.slice oa ok.length oc :: .int .i64 xm :: [] : List Value)).toArray 92)) := by exact belC (Below.refl _ _)
      have nX := FnAt.new W 92 ((.slice oa ok.length oc :: .int .i64 xm :: [] : List Value)) 2 rfl
      have nG := hz
      have hKA := owKeep hHeld HBB
      try go_wp2_with fail
      refine hK.out _ (W.alloc (.cells ((.slice oa ok.length oc :: .int .i64 xm :: [] : List Value)).toArray 92)) hKA (fun hHeld => ?_)
      clear hK K hKA
      try simp only [Act.put, List.setIfInBounds_toArray, List.set_cons_zero, List.set_cons_succ]
      rw [← HG.out]
      exact L_A_B_C_13_25_27 _ oa oc ok ra rc ta tc W.heap.size p25 p27 hHeld (fA.below' HBB) fAv (fB.below' HBB) (fC.below' HBB) nX nG (f25.below HBB) g25 (f27.below HBB) g27 (Nat.ne_of_gt f25.lt) n27_25 (Nat.ne_of_gt f27.lt)
    ·
      go_simp
      have hz : w.heap.size < W.heap.size := Nat.lt_of_lt_of_le HZ1b.out hHeld.2.size
      have HBB : Below W.heap.size W (W.alloc (.cells ((.slice ra xnl.length rc :: [] : List Value)).toArray 108)) := by exact belC (Below.refl _ _)
      have nX := FnAt.new W 108 ((.slice ra xnl.length rc :: [] : List Value)) 1 rfl
      have nG := hz
      have hKA := owKeep hHeld HBB
      try go_wp2_with fail
      refine hK.out _ (W.alloc (.cells ((.slice ra xnl.length rc :: [] : List Value)).toArray 108)) hKA (fun hHeld => ?_)
      clear hK K hKA
      try simp only [Act.put, List.setIfInBounds_toArray, List.set_cons_zero, List.set_cons_succ]
      rw [← HG.out]
      exact L_A_B_C_18_25_27 _ oa oc ok ra rc ta tc W.heap.size p25 p27 hHeld (fA.below' HBB) fAv (fB.below' HBB) (fC.below' HBB) nX nG (f25.below HBB) g25 (f27.below HBB) g27 (Nat.ne_of_gt f25.lt) n27_25 (Nat.ne_of_gt f27.lt)
  have L_A_B_13_18_20 : ∀ (W : World) (oa : Option Addr) (oc : Nat) (ok : List InC) (ra : Option Addr) (rc : Nat) (p13 : Nat) (p18 : Nat) (p20 : Nat), ((W.cell? ⟨w.heap.size, 0, none⟩ = some (.int .i64 xn) ∧ W.cell? ⟨w.heap.size, 1, none⟩ = some (.slice xia xik.length xic) ∧ W.cell? ⟨w.heap.size, 2, none⟩ = some (.int .i64 xm) ∧ W.cell? ⟨w.heap.size, 3, none⟩ = some (.slice xna xnl.length xnc) ∧ W.cell? ⟨w.heap.size, 4, none⟩ = some (.slice xha xhl.length xhc)) ∧ Below W1.heap.size W1 W) → (InosAt W (fun k => w.heap.size ≤ k) oa ok) → (ok.map InC.val = xik.map InC.val) → (RwAt W (fun k => w.heap.size ≤ k) 3 xnl.length ra (xnl.flatMap enC)) → (FnAt W p13 2 (fun j => ((.slice oa ok.length oc :: .int .i64 xm :: [] : List Value)[j]?).getD undef)) → (w.heap.size < p13) → (FnAt W p18 1 (fun j => ((.slice ra xnl.length rc :: [] : List Value)[j]?).getD undef)) → (w.heap.size < p18) → (FnAt W p20 2 (fun j => ((.pointer (some ⟨p13, 0, none⟩) :: .pointer (some ⟨p18, 0, none⟩) :: [] : List Value)[j]?).getD undef)) → (w.heap.size < p20) → G 7 (true :: true :: true :: true :: true :: true :: true :: true :: true :: true :: true :: true :: true :: true :: true :: true :: true :: true :: false :: false :: false :: true :: false :: false :: false :: false :: [] : List Bool).toArray ⟨(v0 :: .pointer (some ⟨w.heap.size, 0, none⟩) :: .pointer none :: undef :: undef :: .pointer (some ⟨w.heap.size, 0, none⟩) :: .int .i64 xn :: .pointer (some ⟨w.heap.size, 1, none⟩) :: .slice xia xik.length xic :: .slice oa ok.length oc :: .pointer (some ⟨w.heap.size, 2, none⟩) :: .int .i64 xm :: .agg (.slice oa ok.length oc :: .int .i64 xm :: [] : List Value).toArray :: .pointer (some ⟨p13, 0, none⟩) :: .pointer (some ⟨w.heap.size, 3, none⟩) :: .slice xna xnl.length xnc :: .slice ra xnl.length rc :: .agg (.slice ra xnl.length rc :: [] : List Value).toArray :: .pointer (some ⟨p18, 0, none⟩) :: .agg (.pointer (some ⟨p13, 0, none⟩) :: .pointer (some ⟨p18, 0, none⟩) :: [] : List Value).toArray :: .pointer (some ⟨p20, 0, none⟩) :: .pointer (some ⟨w.heap.size, 4, none⟩) :: .slice xha xhl.length xhc :: undef :: undef :: undef :: .agg (.int .i64 0 :: .int .i64 0 :: .int .i64 0 :: .int .i64 0 :: .int .i64 0 :: .int .i64 0 :: .int .i64 0 :: .int .i64 0 :: .int .i64 0 :: .int .i64 0 :: .int .i64 0 :: .int .i64 0 :: .int .i64 0 :: .int .i64 0 :: .int .i64 0 :: .int .i64 0 :: .int .i64 0 :: .int .i64 0 :: .int .i64 0 :: .int .i64 0 :: .int .i64 0 :: .int .i64 0 :: .int .i64 0 :: .int .i64 0 :: [] : List Value).toArray :: undef :: undef :: undef :: undef :: undef :: undef :: undef :: undef :: undef :: undef :: undef :: undef :: undef :: undef :: undef :: undef :: undef :: undef :: undef :: undef :: undef :: undef :: undef :: undef :: undef :: undef :: undef :: undef :: undef :: undef :: undef :: undef :: undef :: undef :: undef :: undef :: undef :: undef :: undef :: undef :: undef :: undef :: undef :: undef :: [] : List Value).toArray, []⟩ W := by
    intro W oa oc ok ra rc p13 p18 p20 hHeld fA fAv fB f13 g13 f18 g18 f20 g20
    rw [HG.out]
    refine wpAnyH_ready (rs := [18, 22]) (by kernel_rfl) (by simp) ?_
    refine AllReadyH.cons (o := _) rfl (fun K hK => ?_) (AllReadyH.cons (o := _) rfl (fun K hK => ?_) AllReadyH.nil)
    ·
      go_simp
      have hz : w.heap.size ≤ W.heap.size := Nat.le_trans HZ1.out hHeld.2.size
      refine (HCC.out W hHeld.2).mono ?_
      rintro e W2 ⟨ta, tc, rfl, hI, -, HBB⟩
      have nC := hI.sub (T := fun k => w.heap.size ≤ k) (fun k hk h => Nat.le_trans hz h)
      have hKA := owKeep hHeld HBB
      try go_wp2_with fail
      refine hK.out _ _ hKA (fun hHeld => ?_)
      clear hK K hKA
      try simp only [Act.put, List.setIfInBounds_toArray, List.set_cons_zero, List.set_cons_succ]
      refine takeL 19 ?_
      rw [← HG.out]
      exact L_A_B_C_13_18_20 _ oa oc ok ra rc ta tc p13 p18 p20 hHeld (fA.below' HBB) fAv (fB.below' HBB) nC (f13.below HBB) g13 (f18.below HBB) g18 (f20.below HBB) g20
    ·
      go_simp
      have hz : w.heap.size < W.heap.size := Nat.lt_of_lt_of_le HZ1b.out hHeld.2.size
      have HBB : Below W.heap.size W (W.alloc (.cells ((.int .i64 0 :: .int .i64 0 :: .int .i64 0 :: .int .i64 0 :: .int .i64 0 :: .int .i64 0 :: .int .i64 0 :: .int .i64 0 :: .int .i64 0 :: .int .i64 0 :: .int .i64 0 :: .int .i64 0 :: .int .i64 0 :: .int .i64 0 :: .int .i64 0 :: .int .i64 0 :: .int .i64 0 :: .int .i64 0 :: .int .i64 0 :: .int .i64 0 :: .int .i64 0 :: .int .i64 0 :: .int .i64 0 :: .int .i64 0 :: [] : List Value)).toArray 103)) := by exact belC (Below.refl _ _)
      have nX := FnAt.new W 103 ((.int .i64 0 :: .int .i64 0 :: .int .i64 0 :: .int .i64 0 :: .int .i64 0 :: .int .i64 0 :: .int .i64 0 :: .int .i64 0 :: .int .i64 0 :: .int .i64 0 :: .int .i64 0 :: .int .i64 0 :: .int .i64 0 :: .int .i64 0 :: .int .i64 0 :: .int .i64 0 :: .int .i64 0 :: .int .i64 0 :: .int .i64 0 :: .int .i64 0 :: .int .i64 0 :: .int .i64 0 :: .int .i64 0 :: .int .i64 0 :: [] : List Value)) 24 rfl
      have nG := hz
      have hKA := owKeep hHeld HBB
      try go_wp2_with fail
      refine hK.out _ (W.alloc (.cells ((.int .i64 0 :: .int .i64 0 :: .int .i64 0 :: .int .i64 0 :: .int .i64 0 :: .int .i64 0 :: .int .i64 0 :: .int .i64 0 :: .int .i64 0 :: .int .i64 0 :: .int .i64 0 :: .int .i64 0 :: .int .i64 0 :: .int .i64 0 :: .int .i64 0 :: .int .i64 0 :: .int .i64 0 :: .int .i64 0 :: .int .i64 0 :: .int .i64 0 :: .int .i64 0 :: .int .i64 0 :: .int .i64 0 :: .int .i64 0 :: [] : List Value)).toArray 103)) hKA (fun hHeld => ?_)
      clear hK K hKA
      try simp only [Act.put, List.setIfInBounds_toArray, List.set_cons_zero, List.set_cons_succ]
      rw [← HG.out]
      exact L_A_B_13_18_20_27 _ oa oc ok ra rc p13 p18 p20 W.heap.size hHeld ((fA.sub (T := fun k => w.heap.size ≤ k ∧ k ≠ W.heap.size) (fun k hk h => ⟨h, Nat.ne_of_lt hk⟩)).below' HBB) fAv ((fB.sub (T := fun k => w.heap.size ≤ k ∧ k ≠ W.heap.size) (fun k hk h => ⟨h, Nat.ne_of_lt hk⟩)).below' HBB) (f13.below HBB) g13 (f18.below HBB) g18 (f20.below HBB) g20 nX nG (Nat.ne_of_lt f13.lt) (Nat.ne_of_lt f18.lt) (Nat.ne_of_lt f20.lt)
  have L_A_B_13_18_27 : ∀ (W : World) (oa : Option Addr) (oc : Nat) (ok : List InC) (ra : Option Addr) (rc : Nat) (p13 : Nat) (p18 : Nat) (p27 : Nat), ((W.cell? ⟨w.heap.size, 0, none⟩ = some (.int .i64 xn) ∧ W.cell? ⟨w.heap.size, 1, none⟩ = some (.slice xia xik.length xic) ∧ W.cell? ⟨w.heap.size, 2, none⟩ = some (.int .i64 xm) ∧ W.cell? ⟨w.heap.size, 3, none⟩ = some (.slice xna xnl.length xnc) ∧ W.cell? ⟨w.heap.size, 4, none⟩ = some (.slice xha xhl.length xhc)) ∧ Below W1.heap.size W1 W) → (InosAt W (fun k => w.heap.size ≤ k ∧ k ≠ p27) oa ok) → (ok.map InC.val = xik.map InC.val) → (RwAt W (fun k => w.heap.size ≤ k ∧ k ≠ p27) 3 xnl.length ra (xnl.flatMap enC)) → (FnAt W p13 2 (fun j => ((.slice oa ok.length oc :: .int .i64 xm :: [] : List Value)[j]?).getD undef)) → (w.heap.size < p13) → (FnAt W p18 1 (fun j => ((.slice ra xnl.length rc :: [] : List Value)[j]?).getD undef)) → (w.heap.size < p18) → (FnAt W p27 24 (fun j => ((.int .i64 0 :: .int .i64 0 :: .int .i64 0 :: .int .i64 0 :: .int .i64 0 :: .int .i64 0 :: .int .i64 0 :: .int .i64 0 :: .int .i64 0 :: .int .i64 0 :: .int .i64 0 :: .int .i64 0 :: .int .i64 0 :: .int .i64 0 :: .int .i64 0 :: .int .i64 0 :: .int .i64 0 :: .int .i64 0 :: .int .i64 0 :: .int .i64 0 :: .int .i64 0 :: .int .i64 0 :: .int .i64 0 :: .int .i64 0 :: [] : List Value)[j]?).getD undef)) → (w.heap.size < p27) → (p13 ≠ p27) → (p18 ≠ p27) → G 7 (true :: true :: true :: true :: true :: true :: true :: true :: true :: true :: true :: true :: true :: true :: true :: false :: true :: true :: false :: false :: false :: true :: true :: false :: false :: false :: [] : List Bool).toArray ⟨(v0 :: .pointer (some ⟨w.heap.size, 0, none⟩) :: .pointer none :: undef :: undef :: .pointer (some ⟨w.heap.size, 0, none⟩) :: .int .i64 xn :: .pointer (some ⟨w.heap.size, 1, none⟩) :: .slice xia xik.length xic :: .slice oa ok.length oc :: .pointer (some ⟨w.heap.size, 2, none⟩) :: .int .i64 xm :: .agg (.slice oa ok.length oc :: .int .i64 xm :: [] : List Value).toArray :: .pointer (some ⟨p13, 0, none⟩) :: .pointer (some ⟨w.heap.size, 3, none⟩) :: .slice xna xnl.length xnc :: .slice ra xnl.length rc :: .agg (.slice ra xnl.length rc :: [] : List Value).toArray :: .pointer (some ⟨p18, 0, none⟩) :: .agg (.pointer (some ⟨p13, 0, none⟩) :: .pointer (some ⟨p18, 0, none⟩) :: [] : List Value).toArray :: undef :: .pointer (some ⟨w.heap.size, 4, none⟩) :: .slice xha xhl.length xhc :: undef :: undef :: undef :: .agg (.int .i64 0 :: .int .i64 0 :: .int .i64 0 :: .int .i64 0 :: .int .i64 0 :: .int .i64 0 :: .int .i64 0 :: .int .i64 0 :: .int .i64 0 :: .int .i64 0 :: .int .i64 0 :: .int .i64 0 :: .int .i64 0 :: .int .i64 0 :: .int .i64 0 :: .int .i64 0 :: .int .i64 0 :: .int .i64 0 :: .int .i64 0 :: .int .i64 0 :: .int .i64 0 :: .int .i64 0 :: .int .i64 0 :: .int .i64 0 :: [] : List Value).toArray :: .pointer (some ⟨p27, 0, none⟩) :: undef :: undef :: undef :: undef :: undef :: undef :: undef :: undef :: undef :: undef :: undef :: undef :: undef :: undef :: undef :: undef :: undef :: undef :: undef :: undef :: undef :: undef :: undef :: undef :: undef :: undef :: undef :: undef :: undef :: undef :: undef :: undef :: undef :: undef :: undef :: undef :: undef :: undef :: undef :: undef :: undef :: undef :: undef :: [] : List Value).toArray, []⟩ W := by
    intro W oa oc ok ra rc p13 p18 p27 hHeld fA fAv fB f13 g13 f18 g18 f27 g27 n13_27 n18_27
    rw [HG.out]
    refine wpAnyH_ready (rs := [15, 18]) (by kernel_rfl) (by simp) ?_
    refine AllReadyH.cons (o := _) rfl (fun K hK => ?_) (AllReadyH.cons (o := _) rfl (fun K hK => ?_) AllReadyH.nil)
    ·
      go_simp
      have hz : w.heap.size < W.heap.size := Nat.lt_of_lt_of_le HZ1b.out hHeld.2.size
      have HBB : Below W.heap.size W (W.alloc (.cells ((.pointer (some ⟨p13, 0, none⟩) :: .pointer (some ⟨p18, 0, none⟩) :: [] : List Value)).toArray 96)) := by exact belC (Below.refl _ _)
      have nX := FnAt.new W 96 ((.pointer (some ⟨p13, 0, none⟩) :: .pointer (some ⟨p18, 0, none⟩) :: [] : List Value)) 2 rfl
      have nG := hz
      have hKA := owKeep hHeld HBB
      try go_wp2_with fail
      refine hK.out _ (W.alloc (.cells ((.pointer (some ⟨p13, 0, none⟩) :: .pointer (some ⟨p18, 0, none⟩) :: [] : List Value)).toArray 96)) hKA (fun hHeld => ?_)
      clear hK K hKA
      try simp only [Act.put, List.setIfInBounds_toArray, List.set_cons_zero, List.set_cons_succ]
      rw [← HG.out]
      exact L_A_B_13_18_20_27 _ oa oc ok ra rc p13 p18 W.heap.size p27 hHeld (fA.below' HBB) fAv (fB.below' HBB) (f13.below HBB) g13 (f18.below HBB) g18 nX nG (f27.below HBB) g27 n13_27 n18_27 (Nat.ne_of_gt f27.lt)
    ·
      go_simp
      have hz : w.heap.size ≤ W.heap.size := Nat.le_trans HZ1.out hHeld.2.size
      refine (HCC.out W hHeld.2).mono ?_
      rintro e W2 ⟨ta, tc, rfl, hI, -, HBB⟩
      have nC := hI.sub (T := fun k => w.heap.size ≤ k ∧ k ≠ p27) (fun k hk h => ⟨Nat.le_trans hz h, Nat.ne_of_gt (Nat.lt_of_lt_of_le f27.lt h)⟩)
      have hKA := owKeep hHeld HBB
      try go_wp2_with fail
      refine hK.out _ _ hKA (fun hHeld => ?_)
      clear hK K hKA
      try simp only [Act.put, List.setIfInBounds_toArray, List.set_cons_zero, List.set_cons_succ]
      refine takeL 19 ?_
      rw [← HG.out]
      exact L_A_B_C_13_18_27 _ oa oc ok ra rc ta tc p13 p18 p27 hHeld (fA.below' HBB) fAv (fB.below' HBB) nC (f13.below HBB) g13 (f18.below HBB) g18 (f27.below HBB) g27 n13_27 n18_27
  have L_A_B_C_13 : ∀ (W : World) (oa : Option Addr) (oc : Nat) (ok : List InC) (ra : Option Addr) (rc : Nat) (ta : Option Addr) (tc : Nat) (p13 : Nat), ((W.cell? ⟨w.heap.size, 0, none⟩ = some (.int .i64 xn) ∧ W.cell? ⟨w.heap.size, 1, none⟩ = some (.slice xia xik.length xic) ∧ W.cell? ⟨w.heap.size, 2, none⟩ = some (.int .i64 xm) ∧ W.cell? ⟨w.heap.size, 3, none⟩ = some (.slice xna xnl.length xnc) ∧ W.cell? ⟨w.heap.size, 4, none⟩ = some (.slice xha xhl.length xhc)) ∧ Below W1.heap.size W1 W) → (InosAt W (fun k => w.heap.size ≤ k) oa ok) → (ok.map InC.val = xik.map InC.val) → (RwAt W (fun k => w.heap.size ≤ k) 3 xnl.length ra (xnl.flatMap enC)) → (RwAt W (fun k => w.heap.size ≤ k) 3 xhl.length ta (xhl.flatMap hdC)) → (FnAt W p13 2 (fun j => ((.slice oa ok.length oc :: .int .i64 xm :: [] : List Value)[j]?).getD undef)) → (w.heap.size < p13) → G 8 (true :: true :: true :: true :: true :: true :: true :: true :: true :: true :: true :: true :: true :: false :: false :: false :: true :: true :: true :: true :: false :: true :: false :: false :: false :: false :: [] : List Bool).toArray ⟨(v0 :: .pointer (some ⟨w.heap.size, 0, none⟩) :: .pointer none :: undef :: undef :: .pointer (some ⟨w.heap.size, 0, none⟩) :: .int .i64 xn :: .pointer (some ⟨w.heap.size, 1, none⟩) :: .slice xia xik.length xic :: .slice oa ok.length oc :: .pointer (some ⟨w.heap.size, 2, none⟩) :: .int .i64 xm :: .agg (.slice oa ok.length oc :: .int .i64 xm :: [] : List Value).toArray :: .pointer (some ⟨p13, 0, none⟩) :: .pointer (some ⟨w.heap.size, 3, none⟩) :: .slice xna xnl.length xnc :: .slice ra xnl.length rc :: .agg (.slice ra xnl.length rc :: [] : List Value).toArray :: undef :: undef :: undef :: .pointer (some ⟨w.heap.size, 4, none⟩) :: .slice xha xhl.length xhc :: .slice ta xhl.length tc :: .agg (.slice ta xhl.length tc :: .int .i64 0 :: .int .i64 0 :: .int .i64 0 :: .int .i64 0 :: .int .i64 0 :: .int .i64 0 :: .int .i64 0 :: .int .i64 0 :: [] : List Value).toArray :: undef :: .agg (.int .i64 0 :: .int .i64 0 :: .int .i64 0 :: .int .i64 0 :: .int .i64 0 :: .int .i64 0 :: .int .i64 0 :: .int .i64 0 :: .int .i64 0 :: .int .i64 0 :: .int .i64 0 :: .int .i64 0 :: .int .i64 0 :: .int .i64 0 :: .int .i64 0 :: .int .i64 0 :: .int .i64 0 :: .int .i64 0 :: .int .i64 0 :: .int .i64 0 :: .int .i64 0 :: .int .i64 0 :: .int .i64 0 :: .int .i64 0 :: [] : List Value).toArray :: undef :: undef :: undef :: undef :: undef :: undef :: undef :: undef :: undef :: undef :: undef :: undef :: undef :: undef :: undef :: undef :: undef :: undef :: undef :: undef :: undef :: undef :: undef :: undef :: undef :: undef :: undef :: undef :: undef :: undef :: undef :: undef :: undef :: undef :: undef :: undef :: undef :: undef :: undef :: undef :: undef :: undef :: undef :: undef :: [] : List Value).toArray, []⟩ W := by
    intro W oa oc ok ra rc ta tc p13 hHeld fA fAv fB fC f13 g13
    rw [HG.out]
    refine wpAnyH_ready (rs := [13, 20, 22]) (by kernel_rfl) (by simp) ?_
    refine AllReadyH.cons (o := _) rfl (fun K hK => ?_) (AllReadyH.cons (o := _) rfl (fun K hK => ?_) (AllReadyH.cons (o := _) rfl (fun K hK => ?_) AllReadyH.nil))
    ·
      go_simp
      have hz : w.heap.size < W.heap.size := Nat.lt_of_lt_of_le HZ1b.out hHeld.2.size
      have HBB : Below W.heap.size W (W.alloc (.cells ((.slice ra xnl.length rc :: [] : List Value)).toArray 108)) := by exact belC (Below.refl _ _)
      have nX := FnAt.new W 108 ((.slice ra xnl.length rc :: [] : List Value)) 1 rfl
      have nG := hz
      have hKA := owKeep hHeld HBB
      try go_wp2_with fail
      refine hK.out _ (W.alloc (.cells ((.slice ra xnl.length rc :: [] : List Value)).toArray 108)) hKA (fun hHeld => ?_)
      clear hK K hKA
      try simp only [Act.put, List.setIfInBounds_toArray, List.set_cons_zero, List.set_cons_succ]
      refine takeL 14 ?_
      rw [← HG.out]
      exact L_A_B_C_13_18 _ oa oc ok ra rc ta tc p13 W.heap.size hHeld (fA.below' HBB) fAv (fB.below' HBB) (fC.below' HBB) (f13.below HBB) g13 nX nG
    ·
      go_simp
      have hz : w.heap.size < W.heap.size := Nat.lt_of_lt_of_le HZ1b.out hHeld.2.size
      have HBB : Below W.heap.size W (W.alloc (.cells ((.slice ta xhl.length tc :: .int .i64 0 :: .int .i64 0 :: .int .i64 0 :: .int .i64 0 :: .int .i64 0 :: .int .i64 0 :: .int .i64 0 :: .int .i64 0 :: [] : List Value)).toArray 101)) := by exact belC (Below.refl _ _)
      have nX := FnAt.new W 101 ((.slice ta xhl.length tc :: .int .i64 0 :: .int .i64 0 :: .int .i64 0 :: .int .i64 0 :: .int .i64 0 :: .int .i64 0 :: .int .i64 0 :: .int .i64 0 :: [] : List Value)) 9 rfl
      have nG := hz
      have hKA := owKeep hHeld HBB
      try go_wp2_with fail
      refine hK.out _ (W.alloc (.cells ((.slice ta xhl.length tc :: .int .i64 0 :: .int .i64 0 :: .int .i64 0 :: .int .i64 0 :: .int .i64 0 :: .int .i64 0 :: .int .i64 0 :: .int .i64 0 :: [] : List Value)).toArray 101)) hKA (fun hHeld => ?_)
      clear hK K hKA
      try simp only [Act.put, List.setIfInBounds_toArray, List.set_cons_zero, List.set_cons_succ]
      rw [← HG.out]
      exact L_A_B_C_13_25 _ oa oc ok ra rc ta tc p13 W.heap.size hHeld ((fA.sub (T := fun k => w.heap.size ≤ k ∧ k ≠ W.heap.size) (fun k hk h => ⟨h, Nat.ne_of_lt hk⟩)).below' HBB) fAv ((fB.sub (T := fun k => w.heap.size ≤ k ∧ k ≠ W.heap.size) (fun k hk h => ⟨h, Nat.ne_of_lt hk⟩)).below' HBB) ((fC.sub (T := fun k => w.heap.size ≤ k ∧ k ≠ W.heap.size) (fun k hk h => ⟨h, Nat.ne_of_lt hk⟩)).below' HBB) (f13.below HBB) g13 nX nG (Nat.ne_of_lt f13.lt)
    ·
      go_simp
      have hz : w.heap.size < W.heap.size := Nat.lt_of_lt_of_le HZ1b.out hHeld.2.size
      have HBB : Below W.heap.size W (W.alloc (.cells ((.int .i64 0 :: .int .i64 0 :: .int .i64 0 :: .int .i64 0 :: .int .i64 0 :: .int .i64 0 :: .int .i64 0 :: .int .i64 0 :: .int .i64 0 :: .int .i64 0 :: .int .i64 0 :: .int .i64 0 :: .int .i64 0 :: .int .i64 0 :: .int .i64 0 :: .int .i64 0 :: .int .i64 0 :: .int .i64 0 :: .int .i64 0 :: .int .i64 0 :: .int .i64 0 :: .int .i64 0 :: .int .i64 0 :: .int .i64 0 :: [] : List Value)).toArray 103)) := by exact belC (Below.refl _ _)
      have nX := FnAt.new W 103 ((.int .i64 0 :: .int .i64 0 :: .int .i64 0 :: .int .i64 0 :: .int .i64 0 :: .int .i64 0 :: .int .i64 0 :: .int .i64 0 :: .int .i64 0 :: .int .i64 0 :: .int .i64 0 :: .int .i64 0 :: .int .i64 0 :: .int .i64 0 :: .int .i64 0 :: .int .i64 0 :: .int .i64 0 :: .int .i64 0 :: .int .i64 0 :: .int .i64 0 :: .int .i64 0 :: .int .i64 0 :: .int .i64 0 :: .int .i64 0 :: [] : List Value)) 24 rfl
      have nG := hz
      have hKA := owKeep hHeld HBB
      try go_wp2_with fail
      refine hK.out _ (W.alloc (.cells ((.int .i64 0 :: .int .i64 0 :: .int .i64 0 :: .int .i64 0 :: .int .i64 0 :: .int .i64 0 :: .int .i64 0 :: .int .i64 0 :: .int .i64 0 :: .int .i64 0 :: .int .i64 0 :: .int .i64 0 :: .int .i64 0 :: .int .i64 0 :: .int .i64 0 :: .int .i64 0 :: .int .i64 0 :: .int .i64 0 :: .int .i64 0 :: .int .i64 0 :: .int .i64 0 :: .int .i64 0 :: .int .i64 0 :: .int .i64 0 :: [] : List Value)).toArray 103)) hKA (fun hHeld => ?_)
      clear hK K hKA
      try simp only [Act.put, List.setIfInBounds_toArray, List.set_cons_zero, List.set_cons_succ]
      rw [← HG.out]
      exact L_A_B_C_13_27 _ oa oc ok ra rc ta tc p13 W.heap.size hHeld ((fA.sub (T := fun k => w.heap.size ≤ k ∧ k ≠ W.heap.size) (fun k hk h => ⟨h, Nat.ne_of_lt hk⟩)).below' HBB) fAv ((fB.sub (T := fun k => w.heap.size ≤ k ∧ k ≠ W.heap.size) (fun k hk h => ⟨h, Nat.ne_of_lt hk⟩)).below' HBB) ((fC.sub (T := fun k => w.heap.size ≤ k ∧ k ≠ W.heap.size) (fun k hk h => ⟨h, Nat.ne_of_lt hk⟩)).below' HBB) (f13.below HBB) g13 nX nG (Nat.ne_of_lt f13.lt)
  have L_A_B_C_18 : ∀ (W : World) (oa : Option Addr) (oc : Nat) (ok : List InC) (ra : Option Addr) (rc : Nat) (ta : Option Addr) (tc : Nat) (p18 : Nat), ((W.cell? ⟨w.heap.size, 0, none⟩ = some (.int .i64 xn) ∧ W.cell? ⟨w.heap.size, 1, none⟩ = some (.slice xia xik.length xic) ∧ W.cell? ⟨w.heap.size, 2, none⟩ = some (.int .i64 xm) ∧ W.cell? ⟨w.heap.size, 3, none⟩ = some (.slice xna xnl.length xnc) ∧ W.cell? ⟨w.heap.size, 4, none⟩ = some (.slice xha xhl.length xhc)) ∧ Below W1.heap.size W1 W) → (InosAt W (fun k => w.heap.size ≤ k) oa ok) → (ok.map InC.val = xik.map InC.val) → (RwAt W (fun k => w.heap.size ≤ k) 3 xnl.length ra (xnl.flatMap enC)) → (RwAt W (fun k => w.heap.size ≤ k) 3 xhl.length ta (xhl.flatMap hdC)) → (FnAt W p18 1 (fun j => ((.slice ra xnl.length rc :: [] : List Value)[j]?).getD undef)) → (w.heap.size < p18) → G 8 (true :: true :: true :: true :: true :: true :: true :: true :: false :: true :: true :: true :: true :: true :: false :: false :: true :: true :: true :: true :: false :: true :: false :: false :: false :: false :: [] : List Bool).toArray ⟨(v0 :: .pointer (some ⟨w.heap.size, 0, none⟩) :: .pointer none :: undef :: undef :: .pointer (some ⟨w.heap.size, 0, none⟩) :: .int .i64 xn :: .pointer (some ⟨w.heap.size, 1, none⟩) :: .slice xia xik.length xic :: .slice oa ok.length oc :: .pointer (some ⟨w.heap.size, 2, none⟩) :: .int .i64 xm :: .agg (.slice oa ok.length oc :: .int .i64 xm :: [] : List Value).toArray :: undef :: .pointer (some ⟨w.heap.size, 3, none⟩) :: .slice xna xnl.length xnc :: .slice ra xnl.length rc :: .agg (.slice ra xnl.length rc :: [] : List Value).toArray :: .pointer (some ⟨p18, 0, none⟩) :: undef :: undef :: .pointer (some ⟨w.heap.size, 4, none⟩) :: .slice xha xhl.length xhc :: .slice ta xhl.length tc :: .agg (.slice ta xhl.length tc :: .int .i64 0 :: .int .i64 0 :: .int .i64 0 :: .int .i64 0 :: .int .i64 0 :: .int .i64 0 :: .int .i64 0 :: .int .i64 0 :: [] : List Value).toArray :: undef :: .agg (.int .i64 0 :: .int .i64 0 :: .int .i64 0 :: .int .i64 0 :: .int .i64 0 :: .int .i64 0 :: .int .i64 0 :: .int .i64 0 :: .int .i64 0 :: .int .i64 0 :: .int .i64 0 :: .int .i64 0 :: .int .i64 0 :: .int .i64 0 :: .int .i64 0 :: .int .i64 0 :: .int .i64 0 :: .int .i64 0 :: .int .i64 0 :: .int .i64 0 :: .int .i64 0 :: .int .i64 0 :: .int .i64 0 :: .int .i64 0 :: [] : List Value).toArray :: undef :: undef :: undef :: undef :: undef :: undef :: undef :: undef :: undef :: undef :: undef :: undef :: undef :: undef :: undef :: undef :: undef :: undef :: undef :: undef :: undef :: undef :: undef :: undef :: undef :: undef :: undef :: undef :: undef :: undef :: undef :: undef :: undef :: undef :: undef :: undef :: undef :: undef :: undef :: undef :: undef :: undef :: undef :: undef :: [] : List Value).toArray, []⟩ W := by
    intro W oa oc ok ra rc ta tc p18 hHeld fA fAv fB fC f18 g18
    rw [HG.out]
    refine wpAnyH_ready (rs := [8, 20, 22]) (by kernel_rfl) (by simp) ?_
    refine AllReadyH.cons (o := _) rfl (fun K hK => ?_) (AllReadyH.cons (o := _) rfl (fun K hK => ?_) (AllReadyH.cons (o := _) rfl (fun K hK => ?_) AllReadyH.nil))
    ·
      go_simp
      have hz : w.heap.size < W.heap.size := Nat.lt_of_lt_of_le HZ1b.out hHeld.2.size
      have HBB : Below W.heap.size W (W.alloc (.cells ((.slice oa ok.length oc :: .int .i64 xm :: [] : List Value)).toArray 92)) := by exact belC (Below.refl _ _)
      have nX := FnAt.new W 92 ((.slice oa ok.length oc :: .int .i64 xm :: [] : List Value)) 2 rfl
      have nG := hz
      have hKA := owKeep hHeld HBB
      try go_wp2_with fail
      refine hK.out _ (W.alloc (.cells ((.slice oa ok.length oc :: .int .i64 xm :: [] : List Value)).toArray 92)) hKA (fun hHeld => ?_)
      clear hK K hKA
      try simp only [Act.put, List.setIfInBounds_toArray, List.set_cons_zero, List.set_cons_succ]
      refine takeL 14 ?_
      rw [← HG.out]
      exact L_A_B_C_13_18 _ oa oc ok ra rc ta tc W.heap.size p18 hHeld (fA.below' HBB) fAv (fB.below' HBB) (fC.below' HBB) nX nG (f18.below HBB) g18
    ·
      go_simp
      have hz : w.heap.size < W.heap.size := Nat.lt_of_lt_of_le HZ1b.out hHeld.2.size
      have HBB : Below W.heap.size W (W.alloc (.cells ((.slice ta xhl.length tc :: .int .i64 0 :: .int .i64 0 :: .int .i64 0 :: .int .i64 0 :: .int .i64 0 :: .int .i64 0 :: .int .i64 0 :: .int .i64 0 :: [] : List Value)).toArray 101)) := by exact belC (Below.refl _ _)
      have nX := FnAt.new W 101 ((.slice ta xhl.length tc :: .int .i64 0 :: .int .i64 0 :: .int .i64 0 :: .int .i64 0 :: .int .i64 0 :: .int .i64 0 :: .int .i64 0 :: .int .i64 0 :: [] : List Value)) 9 rfl
      have nG := hz
      have hKA := owKeep hHeld HBB
      try go_wp2_with fail
      refine hK.out _ (W.alloc (.cells ((.slice ta xhl.length tc :: .int .i64 0 :: .int .i64 0 :: .int .i64 0 :: .int .i64 0 :: .int .i64 0 :: .int .i64 0 :: .int .i64 0 :: .int .i64 0 :: [] : List Value)).toArray 101)) hKA (fun hHeld => ?_)
      clear hK K hKA
      try simp only [Act.put, List.setIfInBounds_toArray, List.set_cons_zero, List.set_cons_succ]
      rw [← HG.out]
      exact L_A_B_C_18_25 _ oa oc ok ra rc ta tc p18 W.heap.size hHeld ((fA.sub (T := fun k => w.heap.size ≤ k ∧ k ≠ W.heap.size) (fun k hk h => ⟨h, Nat.ne_of_lt hk⟩)).below' HBB) fAv ((fB.sub (T := fun k => w.heap.size ≤ k ∧ k ≠ W.heap.size) (fun k hk h => ⟨h, Nat.ne_of_lt hk⟩)).below' HBB) ((fC.sub (T := fun k => w.heap.size ≤ k ∧ k ≠ W.heap.size) (fun k hk h => ⟨h, Nat.ne_of_lt hk⟩)).below' HBB) (f18.below HBB) g18 nX nG (Nat.ne_of_lt f18.lt)
    ·
      go_simp
      have hz : w.heap.size < W.heap.size := Nat.lt_of_lt_of_le HZ1b.out hHeld.2.size
      have HBB : Below W.heap.size W (W.alloc (.cells ((.int .i64 0 :: .int .i64 0 :: .int .i64 0 :: .int .i64 0 :: .int .i64 0 :: .int .i64 0 :: .int .i64 0 :: .int .i64 0 :: .int .i64 0 :: .int .i64 0 :: .int .i64 0 :: .int .i64 0 :: .int .i64 0 :: .int .i64 0 :: .int .i64 0 :: .int .i64 0 :: .int .i64 0 :: .int .i64 0 :: .int .i64 0 :: .int .i64 0 :: .int .i64 0 :: .int .i64 0 :: .int .i64 0 :: .int .i64 0 :: [] : List Value)).toArray 103)) := by exact belC (Below.refl _ _)
      have nX := FnAt.new W 103 ((.int .i64 0 :: .int .i64 0 :: .int .i64 0 :: .int .i64 0 :: .int .i64 0 :: .int .i64 0 :: .int .i64 0 :: .int .i64 0 :: .int .i64 0 :: .int .i64 0 :: .int .i64 0 :: .int .i64 0 :: .int .i64 0 :: .int .i64 0 :: .int .i64 0 :: .int .i64 0 :: .int .i64 0 :: .int .i64 0 :: .int .i64 0 :: .int .i64 0 :: .int .i64 0 :: .int .i64 0 :: .int .i64 0 :: .int .i64 0 :: [] : List Value)) 24 rfl
      have nG := hz
      have hKA := owKeep hHeld HBB
      try go_wp2_with fail
      refine hK.out _ (W.alloc (.cells ((.int .i64 0 :: .int .i64 0 :: .int .i64 0 :: .int .i64 0 :: .int .i64 0 :: .int .i64 0 :: .int .i64 0 :: .int .i64 0 :: .int .i64 0 :: .int .i64 0 :: .int .i64 0 :: .int .i64 0 :: .int .i64 0 :: .int .i64 0 :: .int .i64 0 :: .int .i64 0 :: .int .i64 0 :: .int .i64 0 :: .int .i64 0 :: .int .i64 0 :: .int .i64 0 :: .int .i64 0 :: .int .i64 0 :: .int .i64 0 :: [] : List Value)).toArray 103)) hKA (fun hHeld => ?_)
      clear hK K hKA
      try simp only [Act.put, List.setIfInBounds_toArray, List.set_cons_zero, List.set_cons_succ]
      rw [← HG.out]
      exact L_A_B_C_18_27 _ oa oc ok ra rc ta tc p18 W.heap.size hHeld ((fA.sub (T := fun k => w.heap.size ≤ k ∧ k ≠ W.heap.size) (fun k hk h => ⟨h, Nat.ne_of_lt hk⟩)).below' HBB) fAv ((fB.sub (T := fun k => w.heap.size ≤ k ∧ k ≠ W.heap.size) (fun k hk h => ⟨h, Nat.ne_of_lt hk⟩)).below' HBB) ((fC.sub (T := fun k => w.heap.size ≤ k ∧ k ≠ W.heap.size) (fun k hk h => ⟨h, Nat.ne_of_lt hk⟩)).below' HBB) (f18.below HBB) g18 nX nG (Nat.ne_of_lt f18.lt)
  have L_A_B_C_25 : ∀ (W : World) (oa : Option Addr) (oc : Nat) (ok : List InC) (ra : Option Addr) (rc : Nat) (ta : Option Addr) (tc : Nat) (p25 : Nat), ((W.cell? ⟨w.heap.size, 0, none⟩ = some (.int .i64 xn) ∧ W.cell? ⟨w.heap.size, 1, none⟩ = some (.slice xia xik.length xic) ∧ W.cell? ⟨w.heap.size, 2, none⟩ = some (.int .i64 xm) ∧ W.cell? ⟨w.heap.size, 3, none⟩ = some (.slice xna xnl.length xnc) ∧ W.cell? ⟨w.heap.size, 4, none⟩ = some (.slice xha xhl.length xhc)) ∧ Below W1.heap.size W1 W) → (InosAt W (fun k => w.heap.size ≤ k ∧ k ≠ p25) oa ok) → (ok.map InC.val = xik.map InC.val) → (RwAt W (fun k => w.heap.size ≤ k ∧ k ≠ p25) 3 xnl.length ra (xnl.flatMap enC)) → (RwAt W (fun k => w.heap.size ≤ k ∧ k ≠ p25) 3 xhl.length ta (xhl.flatMap hdC)) → (FnAt W p25 9 (fun j => ((.slice ta xhl.length tc :: .int .i64 0 :: .int .i64 0 :: .int .i64 0 :: .int .i64 0 :: .int .i64 0 :: .int .i64 0 :: .int .i64 0 :: .int .i64 0 :: [] : List Value)[j]?).getD undef)) → (w.heap.size < p25) → G 8 (true :: true :: true :: true :: true :: true :: true :: true :: false :: true :: true :: true :: true :: false :: false :: false :: true :: true :: true :: true :: true :: true :: false :: false :: false :: false :: [] : List Bool).toArray ⟨(v0 :: .pointer (some ⟨w.heap.size, 0, none⟩) :: .pointer none :: undef :: undef :: .pointer (some ⟨w.heap.size, 0, none⟩) :: .int .i64 xn :: .pointer (some ⟨w.heap.size, 1, none⟩) :: .slice xia xik.length xic :: .slice oa ok.length oc :: .pointer (some ⟨w.heap.size, 2, none⟩) :: .int .i64 xm :: .agg (.slice oa ok.length oc :: .int .i64 xm :: [] : List Value).toArray :: undef :: .pointer (some ⟨w.heap.size, 3, none⟩) :: .slice xna xnl.length xnc :: .slice ra xnl.length rc :: .agg (.slice ra xnl.length rc :: [] : List Value).toArray :: undef :: undef :: undef :: .pointer (some ⟨w.heap.size, 4, none⟩) :: .slice xha xhl.length xhc :: .slice ta xhl.length tc :: .agg (.slice ta xhl.length tc :: .int .i64 0 :: .int .i64 0 :: .int .i64 0 :: .int .i64 0 :: .int .i64 0 :: .int .i64 0 :: .int .i64 0 :: .int .i64 0 :: [] : List Value).toArray :: .pointer (some ⟨p25, 0, none⟩) :: .agg (.int .i64 0 :: .int .i64 0 :: .int .i64 0 :: .int .i64 0 :: .int .i64 0 :: .int .i64 0 :: .int .i64 0 :: .int .i64 0 :: .int .i64 0 :: .int .i64 0 :: .int .i64 0 :: .int .i64 0 :: .int .i64 0 :: .int .i64 0 :: .int .i64 0 :: .int .i64 0 :: .int .i64 0 :: .int .i64 0 :: .int .i64 0 :: .int .i64 0 :: .int .i64 0 :: .int .i64 0 :: .int .i64 0 :: .int .i64 0 :: [] : List Value).toArray :: undef :: undef :: undef :: undef :: undef :: undef :: undef :: undef :: undef :: undef :: undef :: undef :: undef :: undef :: undef :: undef :: undef :: undef :: undef :: undef :: undef :: undef :: undef :: undef :: undef :: undef :: undef :: undef :: undef :: undef :: undef :: undef :: undef :: undef :: undef :: undef :: undef :: undef :: undef :: undef :: undef :: undef :: undef :: undef :: [] : List Value).toArray, []⟩ W := by
    intro W oa oc ok ra rc ta tc p25 hHeld fA fAv fB fC f25 g25
    rw [HG.out]
    refine wpAnyH_ready (rs := [8, 13, 22]) (by kernel_rfl) (by simp) ?_
    refine AllReadyH.cons (o := _) rfl (fun K hK => ?_) (AllReadyH.cons (o := _) rfl (fun K hK => ?_) (AllReadyH.cons (o := _) rfl (fun K hK => ?_) AllReadyH.nil))
    ·
      go_simp
      have hz : w.heap.size < W.heap.size := Nat.lt_of_lt_of_le HZ1b.out hHeld.2.size
      have HBB : Below W.heap.size W (W.alloc (.cells ((.slice oa ok.length oc :: .int .i64 xm :: [] : List Value)).toArray 92)) := by exact belC (Below.refl _ _)
      have nX := FnAt.new W 92 ((.slice oa ok.length oc :: .int .i64 xm :: [] : List Value)) 2 rfl
      have nG := hz
      have hKA := owKeep hHeld HBB
      try go_wp2_with fail
      refine hK.out _ (W.alloc (.cells ((.slice oa ok.length oc :: .int .i64 xm :: [] : List Value)).toArray 92)) hKA (fun hHeld => ?_)
      clear hK K hKA
      try simp only [Act.put, List.setIfInBounds_toArray, List.set_cons_zero, List.set_cons_succ]
      rw [← HG.out]
      exact L_A_B_C_13_25 _ oa oc ok ra rc ta tc W.heap.size p25 hHeld (fA.below' HBB) fAv (fB.below' HBB) (fC.below' HBB) nX nG (f25.below HBB) g25 (Nat.ne_of_gt f25.lt)
    ·
      go_simp
      have hz : w.heap.size < W.heap.size := Nat.lt_of_lt_of_le HZ1b.out hHeld.2.size
      have HBB : Below W.heap.size W (W.alloc (.cells ((.slice ra xnl.length rc :: [] : List Value)).toArray 108)) := by exact belC (Below.refl _ _)
      have nX := FnAt.new W 108 ((.slice ra xnl.length rc :: [] : List Value)) 1 rfl
      have nG := hz
      have hKA := owKeep hHeld HBB
      try go_wp2_with fail
      refine hK.out _ (W.alloc (.cells ((.slice ra xnl.length rc :: [] : List Value)).toArray 108)) hKA (fun hHeld => ?_)
      clear hK K hKA
      try simp only [Act.put, List.setIfInBounds_toArray, List.set_cons_zero, List.set_cons_succ]
      rw [← HG.out]
      exact L_A_B_C_18_25 _ oa oc ok ra rc ta tc W.heap.size p25 hHeld (fA.below' HBB) fAv (fB.below' HBB) (fC.below' HBB) nX nG (f25.below HBB) g25 (Nat.ne_of_gt f25.lt)
    ·
      go_simp
      have hz : w.heap.size < W.heap.size := Nat.lt_of_lt_of_le HZ1b.out hHeld.2.size
      have HBB : Below W.heap.size W (W.alloc (.cells ((.int .i64 0 :: .int .i64 0 :: .int .i64 0 :: .int .i64 0 :: .int .i64 0 :: .int .i64 0 :: .int .i64 0 :: .int .i64 0 :: .int .i64 0 :: .int .i64 0 :: .int .i64 0 :: .int .i64 0 :: .int .i64 0 :: .int .i64 0 :: .int .i64 0 :: .int .i64 0 :: .int .i64 0 :: .int .i64 0 :: .int .i64 0 :: .int .i64 0 :: .int .i64 0 :: .int .i64 0 :: .int .i64 0 :: .int .i64 0 :: [] : List Value)).toArray 103)) := by exact belC (Below.refl _ _)
      have nX := FnAt.new W 103 ((.int .i64 0 :: .int .i64 0 :: .int .i64 0 :: .int .i64 0 :: .int .i64 0 :: .int .i64 0 :: .int .i64 0 :: .int .i64 0 :: .int .i64 0 :: .int .i64 0 :: .int .i64 0 :: .int .i64 0 :: .int .i64 0 :: .int .i64 0 :: .int .i64 0 :: .int .i64 0 :: .int .i64 0 :: .int .i64 0 :: .int .i64 0 :: .int .i64 0 :: .int .i64 0 :: .int .i64 0 :: .int .i64 0 :: .int .i64 0 :: [] : List Value)) 24 rfl
      have nG := hz
      have hKA := owKeep hHeld HBB
      try go_wp2_with fail
      refine hK.out _ (W.alloc (.cells ((.int .i64 0 :: .int .i64 0 :: .int .i64 0 :: .int .i64 0 :: .int .i64 0 :: .int .i64 0 :: .int .i64 0 :: .int .i64 0 :: .int .i64 0 :: .int .i64 0 :: .int .i64 0 :: .int .i64 0 :: .int .i64 0 :: .int .i64 0 :: .int .i64 0 :: .int .i64 0 :: .int .i64 0 :: .int .i64 0 :: .int .i64 0 :: .int .i64 0 :: .int .i64 0 :: .int .i64 0 :: .int .i64 0 :: .int .i64 0 :: [] : List Value)).toArray 103)) hKA (fun hHeld => ?_)
      clear hK K hKA
      try simp only [Act.put, List.setIfInBounds_toArray, List.set_cons_zero, List.set_cons_succ]
      rw [← HG.out]
      exact L_A_B_C_25_27 _ oa oc ok ra rc ta tc p25 W.heap.size hHeld ((fA.sub (T := fun k => w.heap.size ≤ k ∧ k ≠ p25 ∧ k ≠ W.heap.size) (fun k hk h => ⟨h.1, h.2, Nat.ne_of_lt hk⟩)).below' HBB) fAv ((fB.sub (T := fun k => w.heap.size ≤ k ∧ k ≠ p25 ∧ k ≠ W.heap.size) (fun k hk h => ⟨h.1, h.2, Nat.ne_of_lt hk⟩)).below' HBB) ((fC.sub (T := fun k => w.heap.size ≤ k ∧ k ≠ p25 ∧ k ≠ W.heap.size) (fun k hk h => ⟨h.1, h.2, Nat.ne_of_lt hk⟩)).below' HBB) (f25.below HBB) g25 nX nG (Nat.ne_of_gt f25.lt)
  have L_A_B_C_27 : ∀ (W : World) (oa : Option Addr) (oc : Nat) (ok : List InC) (ra : Option Addr) (rc : Nat) (ta : Option Addr) (tc : Nat) (p27 : Nat), ((W.cell? ⟨w.heap.size, 0, none⟩ = some (.int .i64 xn) ∧ W.cell? ⟨w.heap.size, 1, none⟩ = some (.slice xia xik.length xic) ∧ W.cell? ⟨w.heap.size, 2, none⟩ = some (.int .i64 xm) ∧ W.cell? ⟨w.heap.size, 3, none⟩ = some (.slice xna xnl.length xnc) ∧ W.cell? ⟨w.heap.size, 4, none⟩ = some (.slice xha xhl.length xhc)) ∧ Below W1.heap.size W1 W) → (InosAt W (fun k => w.heap.size ≤ k ∧ k ≠ p27) oa ok) → (ok.map InC.val = xik.map InC.val) → (RwAt W (fun k => w.heap.size ≤ k ∧ k ≠ p27) 3 xnl.length ra (xnl.flatMap enC)) → (RwAt W (fun k => w.heap.size ≤ k ∧ k ≠ p27) 3 xhl.length ta (xhl.flatMap hdC)) → (FnAt W p27 24 (fun j => ((.int .i64 0 :: .int .i64 0 :: .int .i64 0 :: .int .i64 0 :: .int .i64 0 :: .int .i64 0 :: .int .i64 0 :: .int .i64 0 :: .int .i64 0 :: .int .i64 0 :: .int .i64 0 :: .int .i64 0 :: .int .i64 0 :: .int .i64 0 :: .int .i64 0 :: .int .i64 0 :: .int .i64 0 :: .int .i64 0 :: .int .i64 0 :: .int .i64 0 :: .int .i64 0 :: .int .i64 0 :: .int .i64 0 :: .int .i64 0 :: [] : List Value)[j]?).getD undef)) → (w.heap.size < p27) → G 8 (true :: true :: true :: true :: true :: true :: true :: true :: false :: true :: true :: true :: true :: false :: false :: false :: true :: true :: true :: true :: false :: true :: true :: false :: false :: false :: [] : List Bool).toArray ⟨(v0 :: .pointer (some ⟨w.heap.size, 0, none⟩) :: .pointer none :: undef :: undef :: .pointer (some ⟨w.heap.size, 0, none⟩) :: .int .i64 xn :: .pointer (some ⟨w.heap.size, 1, none⟩) :: .slice xia xik.length xic :: .slice oa ok.length oc :: .pointer (some ⟨w.heap.size, 2, none⟩) :: .int .i64 xm :: .agg (.slice oa ok.length oc :: .int .i64 xm :: [] : List Value).toArray :: undef :: .pointer (some ⟨w.heap.size, 3, none⟩) :: .slice xna xnl.length xnc :: .slice ra xnl.length rc :: .agg (.slice ra xnl.length rc :: [] : List Value).toArray :: undef :: undef :: undef :: .pointer (some ⟨w.heap.size, 4, none⟩) :: .slice xha xhl.length xhc :: .slice ta xhl.length tc :: .agg (.slice ta xhl.length tc :: .int .i64 0 :: .int .i64 0 :: .int .i64 0 :: .int .i64 0 :: .int .i64 0 :: .int .i64 0 :: .int .i64 0 :: .int .i64 0 :: [] : List Value).toArray :: undef :: .agg (.int .i64 0 :: .int .i64 0 :: .int .i64 0 :: .int .i64 0 :: .int .i64 0 :: .int .i64 0 :: .int .i64 0 :: .int .i64 0 :: .int .i64 0 :: .int .i64 0 :: .int .i64 0 :: .int .i64 0 :: .int .i64 0 :: .int .i64 0 :: .int .i64 0 :: .int .i64 0 :: .int .i64 0 :: .int .i64 0 :: .int .i64 0 :: .int .i64 0 :: .int .i64 0 :: .int .i64 0 :: .int .i64 0 :: .int .i64 0 :: [] : List Value).toArray :: .pointer (some ⟨p27, 0, none⟩) :: undef :: undef :: undef :: undef :: undef :: undef :: undef :: undef :: undef :: undef :: undef :: undef :: undef :: undef :: undef :: undef :: undef :: undef :: undef :: undef :: undef :: undef :: undef :: undef :: undef :: undef :: undef :: undef :: undef :: undef :: undef :: undef :: undef :: undef :: undef :: undef :: undef :: undef :: undef :: undef :: undef :: undef :: undef :: [] : List Value).toArray, []⟩ W := by
    intro W oa oc ok ra rc ta tc p27 hHeld fA fAv fB fC f27 g27
    rw [HG.out]
    refine wpAnyH_ready (rs := [8, 13, 20]) (by kernel_rfl) (by simp) ?_
    refine AllReadyH.cons (o := _) rfl (fun K hK => ?_) (AllReadyH.cons (o := _) rfl (fun K hK => ?_) (AllReadyH.cons (o := _) rfl (fun K hK => ?_) AllReadyH.nil))
    ·
      go_simp
      have hz : w.heap.size < W.heap.size := Nat.lt_of_lt_of_le HZ1b.out hHeld.2.size
      have HBB : Below W.heap.size W (W.alloc (.cells ((.slice oa ok.length oc :: .int .i64 xm :: [] : List Value)).toArray 92)) := by exact belC (Below.refl _ _)
      have nX := FnAt.new W 92 ((.slice oa ok.length oc :: .int .i64 xm :: [] : List Value)) 2 rfl
      have nG := hz
      have hKA := owKeep hHeld HBB
      try go_wp2_with fail
      refine hK.out _ (W.alloc (.cells ((.slice oa ok.length oc :: .int .i64 xm :: [] : List Value)).toArray 92)) hKA (fun hHeld => ?_)
      clear hK K hKA
      try simp only [Act.put, List.setIfInBounds_toArray, List.set_cons_zero, List.set_cons_succ]
      rw [← HG.out]
      exact L_A_B_C_13_27 _ oa oc ok ra rc ta tc W.heap.size p27 hHeld (fA.below' HBB) fAv (fB.below' HBB) (fC.below' HBB) nX nG (f27.below HBB) g27 (Nat.ne_of_gt f27.lt)
    ·
      go_simp
      have hz : w.heap.size < W.heap.size := Nat.lt_of_lt_of_le HZ1b.out hHeld.2.size
      have HBB : Below W.heap.size W (W.alloc (.cells ((.slice ra xnl.length rc :: [] : List Value)).toArray 108)) := by exact belC (Below.refl _ _)
      have nX := FnAt.new W 108 ((.slice ra xnl.length rc :: [] : List Value)) 1 rfl
      have nG := hz
      have hKA := owKeep hHeld HBB
      try go_wp2_with fail
      refine hK.out _ (W.alloc (.cells ((.slice ra xnl.length rc :: [] : List Value)).toArray 108)) hKA (fun hHeld => ?_)
      clear hK K hKA
      try simp only [Act.put, List.setIfInBounds_toArray, List.set_cons_zero, List.set_cons_succ]
      rw [← HG.out]
      exact L_A_B_C_18_27 _ oa oc ok ra rc ta tc W.heap.size p27 hHeld (fA.below' HBB) fAv (fB.below' HBB) (fC.below' HBB) nX nG (f27.below HBB) g27 (Nat.ne_of_gt f27.lt)
    ·
      go_simp
      have hz : w.heap.size < W.heap.size := Nat.lt_of_lt_of_le HZ1b.out hHeld.2.size
      have HBB : Below W.heap.size W (W.alloc (.cells ((.slice ta xhl.length tc :: .int .i64 0 :: .int .i64 0 :: .int .i64 0 :: .int .i64 0 :: .int .i64 0 :: .int .i64 0 :: .int .i64 0 :: .int .i64 0 :: [] : List Value)).toArray 101)) := by exact belC (Below.refl _ _)
      have nX := FnAt.new W 101 ((.slice ta xhl.length tc :: .int .i64 0 :: .int .i64 0 :: .int .i64 0 :: .int .i64 0 :: .int .i64 0 :: .int .i64 0 :: .int .i64 0 :: .int .i64 0 :: [] : List Value)) 9 rfl
      have nG := hz
      have hKA := owKeep hHeld HBB
      try go_wp2_with fail
      refine hK.out _ (W.alloc (.cells ((.slice ta xhl.length tc :: .int .i64 0 :: .int .i64 0 :: .int .i64 0 :: .int .i64 0 :: .int .i64 0 :: .int .i64 0 :: .int .i64 0 :: .int .i64 0 :: [] : List Value)).toArray 101)) hKA (fun hHeld => ?_)
      clear hK K hKA
      try simp only [Act.put, List.setIfInBounds_toArray, List.set_cons_zero, List.set_cons_succ]
      rw [← HG.out]
      exact L_A_B_C_25_27 _ oa oc ok ra rc ta tc W.heap.size p27 hHeld ((fA.sub (T := fun k => w.heap.size ≤ k ∧ k ≠ W.heap.size ∧ k ≠ p27) (fun k hk h => ⟨h.1, Nat.ne_of_lt hk, h.2⟩)).below' HBB) fAv ((fB.sub (T := fun k => w.heap.size ≤ k ∧ k ≠ W.heap.size ∧ k ≠ p27) (fun k hk h => ⟨h.1, Nat.ne_of_lt hk, h.2⟩)).below' HBB) ((fC.sub (T := fun k => w.heap.size ≤ k ∧ k ≠ W.heap.size ∧ k ≠ p27) (fun k hk h => ⟨h.1, Nat.ne_of_lt hk, h.2⟩)).below' HBB) nX nG (f27.below HBB) g27 (Nat.ne_of_lt f27.lt)
  have L_A_B_13_18 : ∀ (W : World) (oa : Option Addr) (oc : Nat) (ok : List InC) (ra : Option Addr) (rc : Nat) (p13 : Nat) (p18 : Nat), ((W.cell? ⟨w.heap.size, 0, none⟩ = some (.int .i64 xn) ∧ W.cell? ⟨w.heap.size, 1, none⟩ = some (.slice xia xik.length xic) ∧ W.cell? ⟨w.heap.size, 2, none⟩ = some (.int .i64 xm) ∧ W.cell? ⟨w.heap.size, 3, none⟩ = some (.slice xna xnl.length xnc) ∧ W.cell? ⟨w.heap.size, 4, none⟩ = some (.slice xha xhl.length xhc)) ∧ Below W1.heap.size W1 W) → (InosAt W (fun k => w.heap.size ≤ k) oa ok) → (ok.map InC.val = xik.map InC.val) → (RwAt W (fun k => w.heap.size ≤ k) 3 xnl.length ra (xnl.flatMap enC)) → (FnAt W p13 2 (fun j => ((.slice oa ok.length oc :: .int .i64 xm :: [] : List Value)[j]?).getD undef)) → (w.heap.size < p13) → (FnAt W p18 1 (fun j => ((.slice ra xnl.length rc :: [] : List Value)[j]?).getD undef)) → (w.heap.size < p18) → G 8 (true :: true :: true :: true :: true :: true :: true :: true :: true :: true :: true :: true :: true :: true :: true :: false :: true :: true :: false :: false :: false :: true :: false :: false :: false :: false :: [] : List Bool).toArray ⟨(v0 :: .pointer (some ⟨w.heap.size, 0, none⟩) :: .pointer none :: undef :: undef :: .pointer (some ⟨w.heap.size, 0, none⟩) :: .int .i64 xn :: .pointer (some ⟨w.heap.size, 1, none⟩) :: .slice xia xik.length xic :: .slice oa ok.length oc :: .pointer (some ⟨w.heap.size, 2, none⟩) :: .int .i64 xm :: .agg (.slice oa ok.length oc :: .int .i64 xm :: [] : List Value).toArray :: .pointer (some ⟨p13, 0, none⟩) :: .pointer (some ⟨w.heap.size, 3, none⟩) :: .slice xna xnl.length xnc :: .slice ra xnl.length rc :: .agg (.slice ra xnl.length rc :: [] : List Value).toArray :: .pointer (some ⟨p18, 0, none⟩) :: .agg (.pointer (some ⟨p13, 0, none⟩) :: .pointer (some ⟨p18, 0, none⟩) :: [] : List Value).toArray :: undef :: .pointer (some ⟨w.heap.size, 4, none⟩) :: .slice xha xhl.length xhc :: undef :: undef :: undef :: .agg (.int .i64 0 :: .int .i64 0 :: .int .i64 0 :: .int .i64 0 :: .int .i64 0 :: .int .i64 0 :: .int .i64 0 :: .int .i64 0 :: .int .i64 0 :: .int .i64 0 :: .int .i64 0 :: .int .i64 0 :: .int .i64 0 :: .int .i64 0 :: .int .i64 0 :: .int .i64 0 :: .int .i64 0 :: .int .i64 0 :: .int .i64 0 :: .int .i64 0 :: .int .i64 0 :: .int .i64 0 :: .int .i64 0 :: .int .i64 0 :: [] : List Value).toArray :: undef :: undef :: undef :: undef :: undef :: undef :: undef :: undef :: undef :: undef :: undef :: undef :: undef :: undef :: undef :: undef :: undef :: undef :: undef :: undef :: undef :: undef :: undef :: undef :: undef :: undef :: undef :: undef :: undef :: undef :: undef :: undef :: undef :: undef :: undef :: undef :: undef :: undef :: undef :: undef :: undef :: undef :: undef :: undef :: [] : List Value).toArray, []⟩ W := by
    intro W oa oc ok ra rc p13 p18 hHeld fA fAv fB f13 g13 f18 g18
    rw [HG.out]
    refine wpAnyH_ready (rs := [15, 18, 22]) (by kernel_rfl) (by simp) ?_
    refine AllReadyH.cons (o := _) rfl (fun K hK => ?_) (AllReadyH.cons (o := _) rfl (fun K hK => ?_) (AllReadyH.cons (o := _) rfl (fun K hK => ?_) AllReadyH.nil))
    ·
      go_simp
      have hz : w.heap.size < W.heap.size := Nat.lt_of_lt_of_le HZ1b.out hHeld.2.size
      have HBB : Below W.heap.size W (W.alloc (.cells ((.pointer (some ⟨p13, 0, none⟩) :: .pointer (some ⟨p18, 0, none⟩) :: [] : List Value)).toArray 96)) := by exact belC (Below.refl _ _)
      have nX := FnAt.new W 96 ((.pointer (some ⟨p13, 0, none⟩) :: .pointer (some ⟨p18, 0, none⟩) :: [] : List Value)) 2 rfl
      have nG := hz
      have hKA := owKeep hHeld HBB
      try go_wp2_with fail
      refine hK.out _ (W.alloc (.cells ((.pointer (some ⟨p13, 0, none⟩) :: .pointer (some ⟨p18, 0, none⟩) :: [] : List Value)).toArray 96)) hKA (fun hHeld => ?_)
      clear hK K hKA
      try simp only [Act.put, List.setIfInBounds_toArray, List.set_cons_zero, List.set_cons_succ]
      rw [← HG.out]
      exact L_A_B_13_18_20 _ oa oc ok ra rc p13 p18 W.heap.size hHeld (fA.below' HBB) fAv (fB.below' HBB) (f13.below HBB) g13 (f18.below HBB) g18 nX nG
    ·
      go_simp
      have hz : w.heap.size ≤ W.heap.size := Nat.le_trans HZ1.out hHeld.2.size
      refine (HCC.out W hHeld.2).mono ?_
      rintro e W2 ⟨ta, tc, rfl, hI, -, HBB⟩
      have nC := hI.sub (T := fun k => w.heap.size ≤ k) (fun k hk h => Nat.le_trans hz h)
      have hKA := owKeep hHeld HBB
      try go_wp2_with fail
      refine hK.out _ _ hKA (fun hHeld => ?_)
      clear hK K hKA
      try simp only [Act.put, List.setIfInBounds_toArray, List.set_cons_zero, List.set_cons_succ]
      refine takeL 19 ?_
      rw [← HG.out]
      exact L_A_B_C_13_18 _ oa oc ok ra rc ta tc p13 p18 hHeld (fA.below' HBB) fAv (fB.below' HBB) nC (f13.below HBB) g13 (f18.below HBB) g18
    ·
      go_simp
      have hz : w.heap.size < W.heap.size := Nat.lt_of_lt_of_le HZ1b.out hHeld.2.size
      have HBB : Below W.heap.size W (W.alloc (.cells ((.int .i64 0 :: .int .i64 0 :: .int .i64 0 :: .int .i64 0 :: .int .i64 0 :: .int .i64 0 :: .int .i64 0 :: .int .i64 0 :: .int .i64 0 :: .int .i64 0 :: .int .i64 0 :: .int .i64 0 :: .int .i64 0 :: .int .i64 0 :: .int .i64 0 :: .int .i64 0 :: .int .i64 0 :: .int .i64 0 :: .int .i64 0 :: .int .i64 0 :: .int .i64 0 :: .int .i64 0 :: .int .i64 0 :: .int .i64 0 :: [] : List Value)).toArray 103)) := by exact belC (Below.refl _ _)
      have nX := FnAt.new W 103 ((.int .i64 0 :: .int .i64 0 :: .int .i64 0 :: .int .i64 0 :: .int .i64 0 :: .int .i64 0 :: .int .i64 0 :: .int .i64 0 :: .int .i64 0 :: .int .i64 0 :: .int .i64 0 :: .int .i64 0 :: .int .i64 0 :: .int .i64 0 :: .int .i64 0 :: .int .i64 0 :: .int .i64 0 :: .int .i64 0 :: .int .i64 0 :: .int .i64 0 :: .int .i64 0 :: .int .i64 0 :: .int .i64 0 :: .int .i64 0 :: [] : List Value)) 24 rfl
      have nG := hz
      have hKA := owKeep hHeld HBB
      try go_wp2_with fail
      refine hK.out _ (W.alloc (.cells ((.int .i64 0 :: .int .i64 0 :: .int .i64 0 :: .int .i64 0 :: .int .i64 0 :: .int .i64 0 :: .int .i64 0 :: .int .i64 0 :: .int .i64 0 :: .int .i64 0 :: .int .i64 0 :: .int .i64 0 :: .int .i64 0 :: .int .i64 0 :: .int .i64 0 :: .int .i64 0 :: .int .i64 0 :: .int .i64 0 :: .int .i64 0 :: .int .i64 0 :: .int .i64 0 :: .int .i64 0 :: .int .i64 0 :: .int .i64 0 :: [] : List Value)).toArray 103)) hKA (fun hHeld => ?_)
      clear hK K hKA
      try simp only [Act.put, List.setIfInBounds_toArray, List.set_cons_zero, List.set_cons_succ]
      rw [← HG.out]
      exact L_A_B_13_18_27 _ oa oc ok ra rc p13 p18 W.heap.size hHeld ((fA.sub (T := fun k => w.heap.size ≤ k ∧ k ≠ W.heap.size) (fun k hk h => ⟨h, Nat.ne_of_lt hk⟩)).below' HBB) fAv ((fB.sub (T := fun k => w.heap.size ≤ k ∧ k ≠ W.heap.size) (fun k hk h => ⟨h, Nat.ne_of_lt hk⟩)).below' HBB) (f13.below HBB) g13 (f18.below HBB) g18 nX nG (Nat.ne_of_lt f13.lt) (Nat.ne_of_lt f18.lt)
  have L_A_B_13_27 : ∀ (W : World) (oa : Option Addr) (oc : Nat) (ok : List InC) (ra : Option Addr) (rc : Nat) (p13 : Nat) (p27 : Nat), ((W.cell? ⟨w.heap.size, 0, none⟩ = some (.int .i64 xn) ∧ W.cell? ⟨w.heap.size, 1, none⟩ = some (.slice xia xik.length xic) ∧ W.cell? ⟨w.heap.size, 2, none⟩ = some (.int .i64 xm) ∧ W.cell? ⟨w.heap.size, 3, none⟩ = some (.slice xna xnl.length xnc) ∧ W.cell? ⟨w.heap.size, 4, none⟩ = some (.slice xha xhl.length xhc)) ∧ Below W1.heap.size W1 W) → (InosAt W (fun k => w.heap.size ≤ k ∧ k ≠ p27) oa ok) → (ok.map InC.val = xik.map InC.val) → (RwAt W (fun k => w.heap.size ≤ k ∧ k ≠ p27) 3 xnl.length ra (xnl.flatMap enC)) → (FnAt W p13 2 (fun j => ((.slice oa ok.length oc :: .int .i64 xm :: [] : List Value)[j]?).getD undef)) → (w.heap.size < p13) → (FnAt W p27 24 (fun j => ((.int .i64 0 :: .int .i64 0 :: .int .i64 0 :: .int .i64 0 :: .int .i64 0 :: .int .i64 0 :: .int .i64 0 :: .int .i64 0 :: .int .i64 0 :: .int .i64 0 :: .int .i64 0 :: .int .i64 0 :: .int .i64 0 :: .int .i64 0 :: .int .i64 0 :: .int .i64 0 :: .int .i64 0 :: .int .i64 0 :: .int .i64 0 :: .int .i64 0 :: .int .i64 0 :: .int .i64 0 :: .int .i64 0 :: .int .i64 0 :: [] : List Value)[j]?).getD undef)) → (w.heap.size < p27) → (p13 ≠ p27) → G 9 (true :: true :: true :: true :: true :: true :: true :: true :: true :: true :: true :: true :: true :: false :: false :: false :: true :: true :: false :: false :: false :: true :: true :: false :: false :: false :: [] : List Bool).toArray ⟨(v0 :: .pointer (some ⟨w.heap.size, 0, none⟩) :: .pointer none :: undef :: undef :: .pointer (some ⟨w.heap.size, 0, none⟩) :: .int .i64 xn :: .pointer (some ⟨w.heap.size, 1, none⟩) :: .slice xia xik.length xic :: .slice oa ok.length oc :: .pointer (some ⟨w.heap.size, 2, none⟩) :: .int .i64 xm :: .agg (.slice oa ok.length oc :: .int .i64 xm :: [] : List Value).toArray :: .pointer (some ⟨p13, 0, none⟩) :: .pointer (some ⟨w.heap.size, 3, none⟩) :: .slice xna xnl.length xnc :: .slice ra xnl.length rc :: .agg (.slice ra xnl.length rc :: [] : List Value).toArray :: undef :: undef :: undef :: .pointer (some ⟨w.heap.size, 4, none⟩) :: .slice xha xhl.length xhc :: undef :: undef :: undef :: .agg (.int .i64 0 :: .int .i64 0 :: .int .i64 0 :: .int .i64 0 :: .int .i64 0 :: .int .i64 0 :: .int .i64 0 :: .int .i64 0 :: .int .i64 0 :: .int .i64 0 :: .int .i64 0 :: .int .i64 0 :: .int .i64 0 :: .int .i64 0 :: .int .i64 0 :: .int .i64 0 :: .int .i64 0 :: .int .i64 0 :: .int .i64 0 :: .int .i64 0 :: .int .i64 0 :: .int .i64 0 :: .int .i64 0 :: .int .i64 0 :: [] : List Value).toArray :: .pointer (some ⟨p27, 0, none⟩) :: undef :: undef :: undef :: undef :: undef :: undef :: undef :: undef :: undef :: undef :: undef :: undef :: undef :: undef :: undef :: undef :: undef :: undef :: undef :: undef :: undef :: undef :: undef :: undef :: undef :: undef :: undef :: undef :: undef :: undef :: undef :: undef :: undef :: undef :: undef :: undef :: undef :: undef :: undef :: undef :: undef :: undef :: undef :: [] : List Value).toArray, []⟩ W := by
    intro W oa oc ok ra rc p13 p27 hHeld fA fAv fB f13 g13 f27 g27 n13_27
    rw [HG.out]
    refine wpAnyH_ready (rs := [13, 18]) (by kernel_rfl) (by simp) ?_
    refine AllReadyH.cons (o := _) rfl (fun K hK => ?_) (AllReadyH.cons (o := _) rfl (fun K hK => ?_) AllReadyH.nil)
    ·
      go_simp
      have hz : w.heap.size < W.heap.size := Nat.lt_of_lt_of_le HZ1b.out hHeld.2.size
      have HBB : Below W.heap.size W (W.alloc (.cells ((.slice ra xnl.length rc :: [] : List Value)).toArray 108)) := by exact belC (Below.refl _ _)
      have nX := FnAt.new W 108 ((.slice ra xnl.length rc :: [] : List Value)) 1 rfl
      have nG := hz
      have hKA := owKeep hHeld HBB
      try go_wp2_with fail
      refine hK.out _ (W.alloc (.cells ((.slice ra xnl.length rc :: [] : List Value)).toArray 108)) hKA (fun hHeld => ?_)
      clear hK K hKA
      try simp only [Act.put, List.setIfInBounds_toArray, List.set_cons_zero, List.set_cons_succ]
      refine takeL 14 ?_
      rw [← HG.out]
      exact L_A_B_13_18_27 _ oa oc ok ra rc p13 W.heap.size p27 hHeld (fA.below' HBB) fAv (fB.below' HBB) (f13.below HBB) g13 nX nG (f27.below HBB) g27 n13_27 (Nat.ne_of_gt f27.lt)
    ·
      go_simp
      have hz : w.heap.size ≤ W.heap.size := Nat.le_trans HZ1.out hHeld.2.size
      refine (HCC.out W hHeld.2).mono ?_
      rintro e W2 ⟨ta, tc, rfl, hI, -, HBB⟩
      have nC := hI.sub (T := fun k => w.heap.size ≤ k ∧ k ≠ p27) (fun k hk h => ⟨Nat.le_trans hz h, Nat.ne_of_gt (Nat.lt_of_lt_of_le f27.lt h)⟩)
      have hKA := owKeep hHeld HBB
      try go_wp2_with fail
      refine hK.out _ _ hKA (fun hHeld => ?_)
      clear hK K hKA
      try simp only [Act.put, List.setIfInBounds_toArray, List.set_cons_zero, List.set_cons_succ]
      refine takeL 19 ?_
      rw [← HG.out]
      exact L_A_B_C_13_27 _ oa oc ok ra rc ta tc p13 p27 hHeld (fA.below' HBB) fAv (fB.below' HBB) nC (f13.below HBB) g13 (f27.below HBB) g27 n13_27
  have L_A_B_18_27 : ∀ (W : World) (oa : Option Addr) (oc : Nat) (ok : List InC) (ra : Option Addr) (rc : Nat) (p18 : Nat) (p27 : Nat), ((W.cell? ⟨w.heap.size, 0, none⟩ = some (.int .i64 xn) ∧ W.cell? ⟨w.heap.size, 1, none⟩ = some (.slice xia xik.length xic) ∧ W.cell? ⟨w.heap.size, 2, none⟩ = some (.int .i64 xm) ∧ W.cell? ⟨w.heap.size, 3, none⟩ = some (.slice xna xnl.length xnc) ∧ W.cell? ⟨w.heap.size, 4, none⟩ = some (.slice xha xhl.length xhc)) ∧ Below W1.heap.size W1 W) → (InosAt W (fun k => w.heap.size ≤ k ∧ k ≠ p27) oa ok) → (ok.map InC.val = xik.map InC.val) → (RwAt W (fun k => w.heap.size ≤ k ∧ k ≠ p27) 3 xnl.length ra (xnl.flatMap enC)) → (FnAt W p18 1 (fun j => ((.slice ra xnl.length rc :: [] : List Value)[j]?).getD undef)) → (w.heap.size < p18) → (FnAt W p27 24 (fun j => ((.int .i64 0 :: .int .i64 0 :: .int .i64 0 :: .int .i64 0 :: .int .i64 0 :: .int .i64 0 :: .int .i64 0 :: .int .i64 0 :: .int .i64 0 :: .int .i64 0 :: .int .i64 0 :: .int .i64 0 :: .int .i64 0 :: .int .i64 0 :: .int .i64 0 :: .int .i64 0 :: .int .i64 0 :: .int .i64 0 :: .int .i64 0 :: .int .i64 0 :: .int .i64 0 :: .int .i64 0 :: .int .i64 0 :: .int .i64 0 :: [] : List Value)[j]?).getD undef)) → (w.heap.size < p27) → (p18 ≠ p27) → G 9 (true :: true :: true :: true :: true :: true :: true :: true :: false :: true :: true :: true :: true :: true :: false :: false :: true :: true :: false :: false :: false :: true :: true :: false :: false :: false :: [] : List Bool).toArray ⟨(v0 :: .pointer (some ⟨w.heap.size, 0, none⟩) :: .pointer none :: undef :: undef :: .pointer (some ⟨w.heap.size, 0, none⟩) :: .int .i64 xn :: .pointer (some ⟨w.heap.size, 1, none⟩) :: .slice xia xik.length xic :: .slice oa ok.length oc :: .pointer (some ⟨w.heap.size, 2, none⟩) :: .int .i64 xm :: .agg (.slice oa ok.length oc :: .int .i64 xm :: [] : List Value).toArray :: undef :: .pointer (some ⟨w.heap.size, 3, none⟩) :: .slice xna xnl.length xnc :: .slice ra xnl.length rc :: .agg (.slice ra xnl.length rc :: [] : List Value).toArray :: .pointer (some ⟨p18, 0, none⟩) :: undef :: undef :: .pointer (some ⟨w.heap.size, 4, none⟩) :: .slice xha xhl.length xhc :: undef :: undef :: undef :: .agg (.int .i64 0 :: .int .i64 0 :: .int .i64 0 :: .int .i64 0 :: .int .i64 0 :: .int .i64 0 :: .int .i64 0 :: .int .i64 0 :: .int .i64 0 :: .int .i64 0 :: .int .i64 0 :: .int .i64 0 :: .int .i64 0 :: .int .i64 0 :: .int .i64 0 :: .int .i64 0 :: .int .i64 0 :: .int .i64 0 :: .int .i64 0 :: .int .i64 0 :: .int .i64 0 :: .int .i64 0 :: .int .i64 0 :: .int .i64 0 :: [] : List Value).toArray :: .pointer (some ⟨p27, 0, none⟩) :: undef :: undef :: undef :: undef :: undef :: undef :: undef :: undef :: undef :: undef :: undef :: undef :: undef :: undef :: undef :: undef :: undef :: undef :: undef :: undef :: undef :: undef :: undef :: undef :: undef :: undef :: undef :: undef :: undef :: undef :: undef :: undef :: undef :: undef :: undef :: undef :: undef :: undef :: undef :: undef :: undef :: undef :: undef :: [] : List Value).toArray, []⟩ W := by
    intro W oa oc ok ra rc p18 p27 hHeld fA fAv fB f18 g18 f27 g27 n18_27
    rw [HG.out]
    refine wpAnyH_ready (rs := [8, 18]) (by kernel_rfl) (by simp) ?_
    refine AllReadyH.cons (o := _) rfl (fun K hK => ?_) (AllReadyH.cons (o := _) rfl (fun K hK => ?_) AllReadyH.nil)
    ·
      go_simp
      have hz : w.heap.size < W.heap.size := Nat.lt_of_lt_of_le HZ1b.out hHeld.2.size
      have HBB : Below W.heap.size W (W.alloc (.cells ((.slice oa ok.length oc :: .int .i64 xm :: [] : List Value)).toArray 92)) := by exact belC (Below.refl _ _)
      have nX := FnAt.new W 92 ((.slice oa ok.length oc :: .int .i64 xm :: [] : List Value)) 2 rfl
      have nG := hz
      have hKA := owKeep hHeld HBB
      try go_wp2_with fail
      refine hK.out _ (W.alloc (.cells ((.slice oa ok.length oc :: .int .i64 xm :: [] : List Value)).toArray 92)) hKA (fun hHeld => ?_)
      clear hK K hKA
      try simp only [Act.put, List.setIfInBounds_toArray, List.set_cons_zero, List.set_cons_succ]
      refine takeL 14 ?_
      rw [← HG.out]
      exact L_A_B_13_18_27 _ oa oc ok ra rc W.heap.size p18 p27 hHeld (fA.below' HBB) fAv (fB.below' HBB) nX nG (f18.below HBB) g18 (f27.below HBB) g27 (Nat.ne_of_gt f27.lt) n18_27
    ·
      go_simp
      have hz : w.heap.size ≤ W.heap.size := Nat.le_trans HZ1.out hHeld.2.size
      refine (HCC.out W hHeld.2).mono ?_
      rintro e W2 ⟨ta, tc, rfl, hI, -, HBB⟩
      have nC := hI.sub (T := fun k => w.heap.size ≤ k ∧ k ≠ p27) (fun k hk h => ⟨Nat.le_trans hz h, Nat.ne_of_gt (Nat.lt_of_lt_of_le f27.lt h)⟩)
      have hKA := owKeep hHeld HBB
      try go_wp2_with fail
      refine hK.out _ _ hKA (fun hHeld => ?_)
      clear hK K hKA
      try simp only [Act.put, List.setIfInBounds_toArray, List.set_cons_zero, List.set_cons_succ]
      refine takeL 19 ?_
      rw [← HG.out]
      exact L_A_B_C_18_27 _ oa oc ok ra rc ta tc p18 p27 hHeld (fA.below' HBB) fAv (fB.below' HBB) nC (f18.below HBB) g18 (f27.below HBB) g27 n18_27
  have L_A_B_C : ∀ (W : World) (oa : Option Addr) (oc : Nat) (ok : List InC) (ra : Option Addr) (rc : Nat) (ta : Option Addr) (tc : Nat), ((W.cell? ⟨w.heap.size, 0, none⟩ = some (.int .i64 xn) ∧ W.cell? ⟨w.heap.size, 1, none⟩ = some (.slice xia xik.length xic) ∧ W.cell? ⟨w.heap.size, 2, none⟩ = some (.int .i64 xm) ∧ W.cell? ⟨w.heap.size, 3, none⟩ = some (.slice xna xnl.length xnc) ∧ W.cell? ⟨w.heap.size, 4, none⟩ = some (.slice xha xhl.length xhc)) ∧ Below W1.heap.size W1 W) → (InosAt W (fun k => w.heap.size ≤ k) oa ok) → (ok.map InC.val = xik.map InC.val) → (RwAt W (fun k => w.heap.size ≤ k) 3 xnl.length ra (xnl.flatMap enC)) → (RwAt W (fun k => w.heap.size ≤ k) 3 xhl.length ta (xhl.flatMap hdC)) → G 9 (true :: true :: true :: true :: true :: true :: true :: true :: false :: true :: true :: true :: true :: false :: false :: false :: true :: true :: true :: true :: false :: true :: false :: false :: false :: false :: [] : List Bool).toArray ⟨(v0 :: .pointer (some ⟨w.heap.size, 0, none⟩) :: .pointer none :: undef :: undef :: .pointer (some ⟨w.heap.size, 0, none⟩) :: .int .i64 xn :: .pointer (some ⟨w.heap.size, 1, none⟩) :: .slice xia xik.length xic :: .slice oa ok.length oc :: .pointer (some ⟨w.heap.size, 2, none⟩) :: .int .i64 xm :: .agg (.slice oa ok.length oc :: .int .i64 xm :: [] : List Value).toArray :: undef :: .pointer (some ⟨w.heap.size, 3, none⟩) :: .slice xna xnl.length xnc :: .slice ra xnl.length rc :: .agg (.slice ra xnl.length rc :: [] : List Value).toArray :: undef :: undef :: undef :: .pointer (some ⟨w.heap.size, 4, none⟩) :: .slice xha xhl.length xhc :: .slice ta xhl.length tc :: .agg (.slice ta xhl.length tc :: .int .i64 0 :: .int .i64 0 :: .int .i64 0 :: .int .i64 0 :: .int .i64 0 :: .int .i64 0 :: .int .i64 0 :: .int .i64 0 :: [] : List Value).toArray :: undef :: .agg (.int .i64 0 :: .int .i64 0 :: .int .i64 0 :: .int .i64 0 :: .int .i64 0 :: .int .i64 0 :: .int .i64 0 :: .int .i64 0 :: .int .i64 0 :: .int .i64 0 :: .int .i64 0 :: .int .i64 0 :: .int .i64 0 :: .int .i64 0 :: .int .i64 0 :: .int .i64 0 :: .int .i64 0 :: .int .i64 0 :: .int .i64 0 :: .int .i64 0 :: .int .i64 0 :: .int .i64 0 :: .int .i64 0 :: .int .i64 0 :: [] : List Value).toArray :: undef :: undef :: undef :: undef :: undef :: undef :: undef :: undef :: undef :: undef :: undef :: undef :: undef :: undef :: undef :: undef :: undef :: undef :: undef :: undef :: undef :: undef :: undef :: undef :: undef :: undef :: undef :: undef :: undef :: undef :: undef :: undef :: undef :: undef :: undef :: undef :: undef :: undef :: undef :: undef :: undef :: undef :: undef :: undef :: [] : List Value).toArray, []⟩ W := by
    intro W oa oc ok ra rc ta tc hHeld fA fAv fB fC
    rw [HG.out]
    refine wpAnyH_ready (rs := [8, 13, 20, 22]) (by kernel_rfl) (by simp) ?_
    refine AllReadyH.cons (o := _) rfl (fun K hK => ?_) (AllReadyH.cons (o := _) rfl (fun K hK => ?_) (AllReadyH.cons (o := _) rfl (fun K hK => ?_) (AllReadyH.cons (o := _) rfl (fun K hK => ?_) AllReadyH.nil)))
    ·
      go_simp
      have hz : w.heap.size < W.heap.size := Nat.lt_of_lt_of_le HZ1b.out hHeld.2.size
      have HBB : Below W.heap.size W (W.alloc (.cells ((.slice oa ok.length oc :: .int .i64 xm :: [] : List Value)).toArray 92)) := by exact belC (Below.refl _ _)
      have nX := FnAt.new W 92 ((.slice oa ok.length oc :: .int .i64 xm :: [] : List Value)) 2 rfl
      have nG := hz
      have hKA := owKeep hHeld HBB
      try go_wp2_with fail
      refine hK.out _ (W.alloc (.cells ((.slice oa ok.length oc :: .int .i64 xm :: [] : List Value)).toArray 92)) hKA (fun hHeld => ?_)
      clear hK K hKA
      try simp only [Act.put, List.setIfInBounds_toArray, List.set_cons_zero, List.set_cons_succ]
      rw [← HG.out]
      exact L_A_B_C_13 _ oa oc ok ra rc ta tc W.heap.size hHeld (fA.below' HBB) fAv (fB.below' HBB) (fC.below' HBB) nX nG
    ·
      go_simp
      have hz : w.heap.size < W.heap.size := Nat.lt_of_lt_of_le HZ1b.out hHeld.2.size
      have HBB : Below W.heap.size W (W.alloc (.cells ((.slice ra xnl.length rc :: [] : List Value)).toArray 108)) := by exact belC (Below.refl _ _)
      have nX := FnAt.new W 108 ((.slice ra xnl.length rc :: [] : List Value)) 1 rfl
      have nG := hz
      have hKA := owKeep hHeld HBB
      try go_wp2_with fail
      refine hK.out _ (W.alloc (.cells ((.slice ra xnl.length rc :: [] : List Value)).toArray 108)) hKA (fun hHeld => ?_)
      clear hK K hKA
      try simp only [Act.put, List.setIfInBounds_toArray, List.set_cons_zero, List.set_cons_succ]
      rw [← HG.out]
      exact L_A_B_C_18 _ oa oc ok ra rc ta tc W.heap.size hHeld (fA.below' HBB) fAv (fB.below' HBB) (fC.below' HBB) nX nG
    ·
      go_simp
      have hz : w.heap.size < W.heap.size := Nat.lt_of_lt_of_le HZ1b.out hHeld.2.size
      have HBB : Below W.heap.size W (W.alloc (.cells ((.slice ta xhl.length tc :: .int .i64 0 :: .int .i64 0 :: .int .i64 0 :: .int .i64 0 :: .int .i64 0 :: .int .i64 0 :: .int .i64 0 :: .int .i64 0 :: [] : List Value)).toArray 101)) := by exact belC (Below.refl _ _)
      have nX := FnAt.new W 101 ((.slice ta xhl.length tc :: .int .i64 0 :: .int .i64 0 :: .int .i64 0 :: .int .i64 0 :: .int .i64 0 :: .int .i64 0 :: .int .i64 0 :: .int .i64 0 :: [] : List Value)) 9 rfl
      have nG := hz
      have hKA := owKeep hHeld HBB
      try go_wp2_with fail
      refine hK.out _ (W.alloc (.cells ((.slice ta xhl.length tc :: .int .i64 0 :: .int .i64 0 :: .int .i64 0 :: .int .i64 0 :: .int .i64 0 :: .int .i64 0 :: .int .i64 0 :: .int .i64 0 :: [] : List Value)).toArray 101)) hKA (fun hHeld => ?_)
      clear hK K hKA
      try simp only [Act.put, List.setIfInBounds_toArray, List.set_cons_zero, List.set_cons_succ]
      rw [← HG.out]
      exact L_A_B_C_25 _ oa oc ok ra rc ta tc W.heap.size hHeld ((fA.sub (T := fun k => w.heap.size ≤ k ∧ k ≠ W.heap.size) (fun k hk h => ⟨h, Nat.ne_of_lt hk⟩)).below' HBB) fAv ((fB.sub (T := fun k => w.heap.size ≤ k ∧ k ≠ W.heap.size) (fun k hk h => ⟨h, Nat.ne_of_lt hk⟩)).below' HBB) ((fC.sub (T := fun k => w.heap.size ≤ k ∧ k ≠ W.heap.size) (fun k hk h => ⟨h, Nat.ne_of_lt hk⟩)).below' HBB) nX nG
    ·
      go_simp
      have hz : w.heap.size < W.heap.size := Nat.lt_of_lt_of_le HZ1b.out hHeld.2.size
      have HBB : Below W.heap.size W (W.alloc (.cells ((.int .i64 0 :: .int .i64 0 :: .int .i64 0 :: .int .i64 0 :: .int .i64 0 :: .int .i64 0 :: .int .i64 0 :: .int .i64 0 :: .int .i64 0 :: .int .i64 0 :: .int .i64 0 :: .int .i64 0 :: .int .i64 0 :: .int .i64 0 :: .int .i64 0 :: .int .i64 0 :: .int .i64 0 :: .int .i64 0 :: .int .i64 0 :: .int .i64 0 :: .int .i64 0 :: .int .i64 0 :: .int .i64 0 :: .int .i64 0 :: [] : List Value)).toArray 103)) := by exact belC (Below.refl _ _)
      have nX := FnAt.new W 103 ((.int .i64 0 :: .int .i64 0 :: .int .i64 0 :: .int .i64 0 :: .int .i64 0 :: .int .i64 0 :: .int .i64 0 :: .int .i64 0 :: .int .i64 0 :: .int .i64 0 :: .int .i64 0 :: .int .i64 0 :: .int .i64 0 :: .int .i64 0 :: .int .i64 0 :: .int .i64 0 :: .int .i64 0 :: .int .i64 0 :: .int .i64 0 :: .int .i64 0 :: .int .i64 0 :: .int .i64 0 :: .int .i64 0 :: .int .i64 0 :: [] : List Value)) 24 rfl
      have nG := hz
      have hKA := owKeep hHeld HBB
      try go_wp2_with fail
      refine hK.out _ (W.alloc (.cells ((.int .i64 0 :: .int .i64 0 :: .int .i64 0 :: .int .i64 0 :: .int .i64 0 :: .int .i64 0 :: .int .i64 0 :: .int .i64 0 :: .int .i64 0 :: .int .i64 0 :: .int .i64 0 :: .int .i64 0 :: .int .i64 0 :: .int .i64 0 :: .int .i64 0 :: .int .i64 0 :: .int .i64 0 :: .int .i64 0 :: .int .i64 0 :: .int .i64 0 :: .int .i64 0 :: .int .i64 0 :: .int .i64 0 :: .int .i64 0 :: [] : List Value)).toArray 103)) hKA (fun hHeld => ?_)
      clear hK K hKA
      try simp only [Act.put, List.setIfInBounds_toArray, List.set_cons_zero, List.set_cons_succ]
      rw [← HG.out]
      exact L_A_B_C_27 _ oa oc ok ra rc ta tc W.heap.size hHeld ((fA.sub (T := fun k => w.heap.size ≤ k ∧ k ≠ W.heap.size) (fun k hk h => ⟨h, Nat.ne_of_lt hk⟩)).below' HBB) fAv ((fB.sub (T := fun k => w.heap.size ≤ k ∧ k ≠ W.heap.size) (fun k hk h => ⟨h, Nat.ne_of_lt hk⟩)).below' HBB) ((fC.sub (T := fun k => w.heap.size ≤ k ∧ k ≠ W.heap.size) (fun k hk h => ⟨h, Nat.ne_of_lt hk⟩)).below' HBB) nX nG
  have L_A_B_13 : ∀ (W : World) (oa : Option Addr) (oc : Nat) (ok : List InC) (ra : Option Addr) (rc : Nat) (p13 : Nat), ((W.cell? ⟨w.heap.size, 0, none⟩ = some (.int .i64 xn) ∧ W.cell? ⟨w.heap.size, 1, none⟩ = some (.slice xia xik.length xic) ∧ W.cell? ⟨w.heap.size, 2, none⟩ = some (.int .i64 xm) ∧ W.cell? ⟨w.heap.size, 3, none⟩ = some (.slice xna xnl.length xnc) ∧ W.cell? ⟨w.heap.size, 4, none⟩ = some (.slice xha xhl.length xhc)) ∧ Below W1.heap.size W1 W) → (InosAt W (fun k => w.heap.size ≤ k) oa ok) → (ok.map InC.val = xik.map InC.val) → (RwAt W (fun k => w.heap.size ≤ k) 3 xnl.length ra (xnl.flatMap enC)) → (FnAt W p13 2 (fun j => ((.slice oa ok.length oc :: .int .i64 xm :: [] : List Value)[j]?).getD undef)) → (w.heap.size < p13) → G 10 (true :: true :: true :: true :: true :: true :: true :: true :: true :: true :: true :: true :: true :: false :: false :: false :: true :: true :: false :: false :: false :: true :: false :: false :: false :: false :: [] : List Bool).toArray ⟨(v0 :: .pointer (some ⟨w.heap.size, 0, none⟩) :: .pointer none :: undef :: undef :: .pointer (some ⟨w.heap.size, 0, none⟩) :: .int .i64 xn :: .pointer (some ⟨w.heap.size, 1, none⟩) :: .slice xia xik.length xic :: .slice oa ok.length oc :: .pointer (some ⟨w.heap.size, 2, none⟩) :: .int .i64 xm :: .agg (.slice oa ok.length oc :: .int .i64 xm :: [] : List Value).toArray :: .pointer (some ⟨p13, 0, none⟩) :: .pointer (some ⟨w.heap.size, 3, none⟩) :: .slice xna xnl.length xnc :: .slice ra xnl.length rc :: .agg (.slice ra xnl.length rc :: [] : List Value).toArray :: undef :: undef :: undef :: .pointer (some ⟨w.heap.size, 4, none⟩) :: .slice xha xhl.length xhc :: undef :: undef :: undef :: .agg (.int .i64 0 :: .int .i64 0 :: .int .i64 0 :: .int .i64 0 :: .int .i64 0 :: .int .i64 0 :: .int .i64 0 :: .int .i64 0 :: .int .i64 0 :: .int .i64 0 :: .int .i64 0 :: .int .i64 0 :: .int .i64 0 :: .int .i64 0 :: .int .i64 0 :: .int .i64 0 :: .int .i64 0 :: .int .i64 0 :: .int .i64 0 :: .int .i64 0 :: .int .i64 0 :: .int .i64 0 :: .int .i64 0 :: .int .i64 0 :: [] : List Value).toArray :: undef :: undef :: undef :: undef :: undef :: undef :: undef :: undef :: undef :: undef :: undef :: undef :: undef :: undef :: undef :: undef :: undef :: undef :: undef :: undef :: undef :: undef :: undef :: undef :: undef :: undef :: undef :: undef :: undef :: undef :: undef :: undef :: undef :: undef :: undef :: undef :: undef :: undef :: undef :: undef :: undef :: undef :: undef :: undef :: [] : List Value).toArray, []⟩ W := by
    intro W oa oc ok ra rc p13 hHeld fA fAv fB f13 g13
    rw [HG.out]
    refine wpAnyH_ready (rs := [13, 18, 22]) (by kernel_rfl) (by simp) ?_
    refine AllReadyH.cons (o := _) rfl (fun K hK => ?_) (AllReadyH.cons (o := _) rfl (fun K hK => ?_) (AllReadyH.cons (o := _) rfl (fun K hK => ?_) AllReadyH.nil))
    ·
      go_simp
      have hz : w.heap.size < W.heap.size := Nat.lt_of_lt_of_le HZ1b.out hHeld.2.size
      have HBB : Below W.heap.size W (W.alloc (.cells ((.slice ra xnl.length rc :: [] : List Value)).toArray 108)) := by exact belC (Below.refl _ _)
      have nX := FnAt.new W 108 ((.slice ra xnl.length rc :: [] : List Value)) 1 rfl
      have nG := hz
      have hKA := owKeep hHeld HBB
      try go_wp2_with fail
      refine hK.out _ (W.alloc (.cells ((.slice ra xnl.length rc :: [] : List Value)).toArray 108)) hKA (fun hHeld => ?_)
      clear hK K hKA
      try simp only [Act.put, List.setIfInBounds_toArray, List.set_cons_zero, List.set_cons_succ]
      refine takeL 14 ?_
      rw [← HG.out]
      exact L_A_B_13_18 _ oa oc ok ra rc p13 W.heap.size hHeld (fA.below' HBB) fAv (fB.below' HBB) (f13.below HBB) g13 nX nG
    ·
      go_simp
      have hz : w.heap.size ≤ W.heap.size := Nat.le_trans HZ1.out hHeld.2.size
      refine (HCC.out W hHeld.2).mono ?_
      rintro e W2 ⟨ta, tc, rfl, hI, -, HBB⟩
      have nC := hI.sub (T := fun k => w.heap.size ≤ k) (fun k hk h => Nat.le_trans hz h)
      have hKA := owKeep hHeld HBB
      try go_wp2_with fail
      refine hK.out _ _ hKA (fun hHeld => ?_)
      clear hK K hKA
      try simp only [Act.put, List.setIfInBounds_toArray, List.set_cons_zero, List.set_cons_succ]
      refine takeL 19 ?_
      rw [← HG.out]
      exact L_A_B_C_13 _ oa oc ok ra rc ta tc p13 hHeld (fA.below' HBB) fAv (fB.below' HBB) nC (f13.below HBB) g13
    ·
      go_simp
      have hz : w.heap.size < W.heap.size := Nat.lt_of_lt_of_le HZ1b.out hHeld.2.size
      have HBB : Below W.heap.size W (W.alloc (.cells ((.int .i64 0 :: .int .i64 0 :: .int .i64 0 :: .int .i64 0 :: .int .i64 0 :: .int .i64 0 :: .int .i64 0 :: .int .i64 0 :: .int .i64 0 :: .int .i64 0 :: .int .i64 0 :: .int .i64 0 :: .int .i64 0 :: .int .i64 0 :: .int .i64 0 :: .int .i64 0 :: .int .i64 0 :: .int .i64 0 :: .int .i64 0 :: .int .i64 0 :: .int .i64 0 :: .int .i64 0 :: .int .i64 0 :: .int .i64 0 :: [] : List Value)).toArray 103)) := by exact belC (Below.refl _ _)
      have nX := FnAt.new W 103 ((.int .i64 0 :: .int .i64 0 :: .int .i64 0 :: .int .i64 0 :: .int .i64 0 :: .int .i64 0 :: .int .i64 0 :: .int .i64 0 :: .int .i64 0 :: .int .i64 0 :: .int .i64 0 :: .int .i64 0 :: .int .i64 0 :: .int .i64 0 :: .int .i64 0 :: .int .i64 0 :: .int .i64 0 :: .int .i64 0 :: .int .i64 0 :: .int .i64 0 :: .int .i64 0 :: .int .i64 0 :: .int .i64 0 :: .int .i64 0 :: [] : List Value)) 24 rfl
      have nG := hz
      have hKA := owKeep hHeld HBB
      try go_wp2_with fail
      refine hK.out _ (W.alloc (.cells ((.int .i64 0 :: .int .i64 0 :: .int .i64 0 :: .int .i64 0 :: .int .i64 0 :: .int .i64 0 :: .int .i64 0 :: .int .i64 0 :: .int .i64 0 :: .int .i64 0 :: .int .i64 0 :: .int .i64 0 :: .int .i64 0 :: .int .i64 0 :: .int .i64 0 :: .int .i64 0 :: .int .i64 0 :: .int .i64 0 :: .int .i64 0 :: .int .i64 0 :: .int .i64 0 :: .int .i64 0 :: .int .i64 0 :: .int .i64 0 :: [] : List Value)).toArray 103)) hKA (fun hHeld => ?_)
      clear hK K hKA
      try simp only [Act.put, List.setIfInBounds_toArray, List.set_cons_zero, List.set_cons_succ]
      rw [← HG.out]
      exact L_A_B_13_27 _ oa oc ok ra rc p13 W.heap.size hHeld ((fA.sub (T := fun k => w.heap.size ≤ k ∧ k ≠ W.heap.size) (fun k hk h => ⟨h, Nat.ne_of_lt hk⟩)).below' HBB) fAv ((fB.sub (T := fun k => w.heap.size ≤ k ∧ k ≠ W.heap.size) (fun k hk h => ⟨h, Nat.ne_of_lt hk⟩)).below' HBB) (f13.below HBB) g13 nX nG (Nat.ne_of_lt f13.lt)
  have L_A_B_18 : ∀ (W : World) (oa : Option Addr) (oc : Nat) (ok : List InC) (ra : Option Addr) (rc : Nat) (p18 : Nat), ((W.cell? ⟨w.heap.size, 0, none⟩ = some (.int .i64 xn) ∧ W.cell? ⟨w.heap.size, 1, none⟩ = some (.slice xia xik.length xic) ∧ W.cell? ⟨w.heap.size, 2, none⟩ = some (.int .i64 xm) ∧ W.cell? ⟨w.heap.size, 3, none⟩ = some (.slice xna xnl.length xnc) ∧ W.cell? ⟨w.heap.size, 4, none⟩ = some (.slice xha xhl.length xhc)) ∧ Below W1.heap.size W1 W) → (InosAt W (fun k => w.heap.size ≤ k) oa ok) → (ok.map InC.val = xik.map InC.val) → (RwAt W (fun k => w.heap.size ≤ k) 3 xnl.length ra (xnl.flatMap enC)) → (FnAt W p18 1 (fun j => ((.slice ra xnl.length rc :: [] : List Value)[j]?).getD undef)) → (w.heap.size < p18) → G 10 (true :: true :: true :: true :: true :: true :: true :: true :: false :: true :: true :: true :: true :: true :: false :: false :: true :: true :: false :: false :: false :: true :: false :: false :: false :: false :: [] : List Bool).toArray ⟨(v0 :: .pointer (some ⟨w.heap.size, 0, none⟩) :: .pointer none :: undef :: undef :: .pointer (some ⟨w.heap.size, 0, none⟩) :: .int .i64 xn :: .pointer (some ⟨w.heap.size, 1, none⟩) :: .slice xia xik.length xic :: .slice oa ok.length oc :: .pointer (some ⟨w.heap.size, 2, none⟩) :: .int .i64 xm :: .agg (.slice oa ok.length oc :: .int .i64 xm :: [] : List Value).toArray :: undef :: .pointer (some ⟨w.heap.size, 3, none⟩) :: .slice xna xnl.length xnc :: .slice ra xnl.length rc :: .agg (.slice ra xnl.length rc :: [] : List Value).toArray :: .pointer (some ⟨p18, 0, none⟩) :: undef :: undef :: .pointer (some ⟨w.heap.size, 4, none⟩) :: .slice xha xhl.length xhc :: undef :: undef :: undef :: .agg (.int .i64 0 :: .int .i64 0 :: .int .i64 0 :: .int .i64 0 :: .int .i64 0 :: .int .i64 0 :: .int .i64 0 :: .int .i64 0 :: .int .i64 0 :: .int .i64 0 :: .int .i64 0 :: .int .i64 0 :: .int .i64 0 :: .int .i64 0 :: .int .i64 0 :: .int .i64 0 :: .int .i64 0 :: .int .i64 0 :: .int .i64 0 :: .int .i64 0 :: .int .i64 0 :: .int .i64 0 :: .int .i64 0 :: .int .i64 0 :: [] : List Value).toArray :: undef :: undef :: undef :: undef :: undef :: undef :: undef :: undef :: undef :: undef :: undef :: undef :: undef :: undef :: undef :: undef :: undef :: undef :: undef :: undef :: undef :: undef :: undef :: undef :: undef :: undef :: undef :: undef :: undef :: undef :: undef :: undef :: undef :: undef :: undef :: undef :: undef :: undef :: undef :: undef :: undef :: undef :: undef :: undef :: [] : List Value).toArray, []⟩ W := by
    intro W oa oc ok ra rc p18 hHeld fA fAv fB f18 g18
    rw [HG.out]
    refine wpAnyH_ready (rs := [8, 18, 22]) (by kernel_rfl) (by simp) ?_
    refine AllReadyH.cons (o := _) rfl (fun K hK => ?_) (AllReadyH.cons (o := _) rfl (fun K hK => ?_) (AllReadyH.cons (o := _) rfl (fun K hK => ?_) AllReadyH.nil))
    ·
      go_simp
      have hz : w.heap.size < W.heap.size := Nat.lt_of_lt_of_le HZ1b.out hHeld.2.size
      have HBB : Below W.heap.size W (W.alloc (.cells ((.slice oa ok.length oc :: .int .i64 xm :: [] : List Value)).toArray 92)) := by exact belC (Below.refl _ _)
      have nX := FnAt.new W 92 ((.slice oa ok.length oc :: .int .i64 xm :: [] : List Value)) 2 rfl
      have nG := hz
      have hKA := owKeep hHeld HBB
      try go_wp2_with fail
      refine hK.out _ (W.alloc (.cells ((.slice oa ok.length oc :: .int .i64 xm :: [] : List Value)).toArray 92)) hKA (fun hHeld => ?_)
      clear hK K hKA
      try simp only [Act.put, List.setIfInBounds_toArray, List.set_cons_zero, List.set_cons_succ]
      refine takeL 14 ?_
      rw [← HG.out]
      exact L_A_B_13_18 _ oa oc ok ra rc W.heap.size p18 hHeld (fA.below' HBB) fAv (fB.below' HBB) nX nG (f18.below HBB) g18
    ·
      go_simp
      have hz : w.heap.size ≤ W.heap.size := Nat.le_trans HZ1.out hHeld.2.size
      refine (HCC.out W hHeld.2).mono ?_
      rintro e W2 ⟨ta, tc, rfl, hI, -, HBB⟩
      have nC := hI.sub (T := fun k => w.heap.size ≤ k) (fun k hk h => Nat.le_trans hz h)
      have hKA := owKeep hHeld HBB
      try go_wp2_with fail
      refine hK.out _ _ hKA (fun hHeld => ?_)
      clear hK K hKA
      try simp only [Act.put, List.setIfInBounds_toArray, List.set_cons_zero, List.set_cons_succ]
      refine takeL 19 ?_
      rw [← HG.out]
      exact L_A_B_C_18 _ oa oc ok ra rc ta tc p18 hHeld (fA.below' HBB) fAv (fB.below' HBB) nC (f18.below HBB) g18
    ·
      go_simp
      have hz : w.heap.size < W.heap.size := Nat.lt_of_lt_of_le HZ1b.out hHeld.2.size
      have HBB : Below W.heap.size W (W.alloc (.cells ((.int .i64 0 :: .int .i64 0 :: .int .i64 0 :: .int .i64 0 :: .int .i64 0 :: .int .i64 0 :: .int .i64 0 :: .int .i64 0 :: .int .i64 0 :: .int .i64 0 :: .int .i64 0 :: .int .i64 0 :: .int .i64 0 :: .int .i64 0 :: .int .i64 0 :: .int .i64 0 :: .int .i64 0 :: .int .i64 0 :: .int .i64 0 :: .int .i64 0 :: .int .i64 0 :: .int .i64 0 :: .int .i64 0 :: .int .i64 0 :: [] : List Value)).toArray 103)) := by exact belC (Below.refl _ _)
      have nX := FnAt.new W 103 ((.int .i64 0 :: .int .i64 0 :: .int .i64 0 :: .int .i64 0 :: .int .i64 0 :: .int .i64 0 :: .int .i64 0 :: .int .i64 0 :: .int .i64 0 :: .int .i64 0 :: .int .i64 0 :: .int .i64 0 :: .int .i64 0 :: .int .i64 0 :: .int .i64 0 :: .int .i64 0 :: .int .i64 0 :: .int .i64 0 :: .int .i64 0 :: .int .i64 0 :: .int .i64 0 :: .int .i64 0 :: .int .i64 0 :: .int .i64 0 :: [] : List Value)) 24 rfl
      have nG := hz
      have hKA := owKeep hHeld HBB
      try go_wp2_with fail
      refine hK.out _ (W.alloc (.cells ((.int .i64 0 :: .int .i64 0 :: .int .i64 0 :: .int .i64 0 :: .int .i64 0 :: .int .i64 0 :: .int .i64 0 :: .int .i64 0 :: .int .i64 0 :: .int .i64 0 :: .int .i64 0 :: .int .i64 0 :: .int .i64 0 :: .int .i64 0 :: .int .i64 0 :: .int .i64 0 :: .int .i64 0 :: .int .i64 0 :: .int .i64 0 :: .int .i64 0 :: .int .i64 0 :: .int .i64 0 :: .int .i64 0 :: .int .i64 0 :: [] : List Value)).toArray 103)) hKA (fun hHeld => ?_)
      clear hK K hKA
      try simp only [Act.put, List.setIfInBounds_toArray, List.set_cons_zero, List.set_cons_succ]
      rw [← HG.out]
      exact L_A_B_18_27 _ oa oc ok ra rc p18 W.heap.size hHeld ((fA.sub (T := fun k => w.heap.size ≤ k ∧ k ≠ W.heap.size) (fun k hk h => ⟨h, Nat.ne_of_lt hk⟩)).below' HBB) fAv ((fB.sub (T := fun k => w.heap.size ≤ k ∧ k ≠ W.heap.size) (fun k hk h => ⟨h, Nat.ne_of_lt hk⟩)).below' HBB) (f18.below HBB) g18 nX nG (Nat.ne_of_lt f18.lt)
  have L_A_B_27 : ∀ (W : World) (oa : Option Addr) (oc : Nat) (ok : List InC) (ra : Option Addr) (rc : Nat) (p27 : Nat), ((W.cell? ⟨w.heap.size, 0, none⟩ = some (.int .i64 xn) ∧ W.cell? ⟨w.heap.size, 1, none⟩ = some (.slice xia xik.length xic) ∧ W.cell? ⟨w.heap.size, 2, none⟩ = some (.int .i64 xm) ∧ W.cell? ⟨w.heap.size, 3, none⟩ = some (.slice xna xnl.length xnc) ∧ W.cell? ⟨w.heap.size, 4, none⟩ = some (.slice xha xhl.length xhc)) ∧ Below W1.heap.size W1 W) → (InosAt W (fun k => w.heap.size ≤ k ∧ k ≠ p27) oa ok) → (ok.map InC.val = xik.map InC.val) → (RwAt W (fun k => w.heap.size ≤ k ∧ k ≠ p27) 3 xnl.length ra (xnl.flatMap enC)) → (FnAt W p27 24 (fun j => ((.int .i64 0 :: .int .i64 0 :: .int .i64 0 :: .int .i64 0 :: .int .i64 0 :: .int .i64 0 :: .int .i64 0 :: .int .i64 0 :: .int .i64 0 :: .int .i64 0 :: .int .i64 0 :: .int .i64 0 :: .int .i64 0 :: .int .i64 0 :: .int .i64 0 :: .int .i64 0 :: .int .i64 0 :: .int .i64 0 :: .int .i64 0 :: .int .i64 0 :: .int .i64 0 :: .int .i64 0 :: .int .i64 0 :: .int .i64 0 :: [] : List Value)[j]?).getD undef)) → (w.heap.size < p27) → G 10 (true :: true :: true :: true :: true :: true :: true :: true :: false :: true :: true :: true :: true :: false :: false :: false :: true :: true :: false :: false :: false :: true :: true :: false :: false :: false :: [] : List Bool).toArray ⟨(v0 :: .pointer (some ⟨w.heap.size, 0, none⟩) :: .pointer none :: undef :: undef :: .pointer (some ⟨w.heap.size, 0, none⟩) :: .int .i64 xn :: .pointer (some ⟨w.heap.size, 1, none⟩) :: .slice xia xik.length xic :: .slice oa ok.length oc :: .pointer (some ⟨w.heap.size, 2, none⟩) :: .int .i64 xm :: .agg (.slice oa ok.length oc :: .int .i64 xm :: [] : List Value).toArray :: undef :: .pointer (some ⟨w.heap.size, 3, none⟩) :: .slice xna xnl.length xnc :: .slice ra xnl.length rc :: .agg (.slice ra xnl.length rc :: [] : List Value).toArray :: undef :: undef :: undef :: .pointer (some ⟨w.heap.size, 4, none⟩) :: .slice xha xhl.length xhc :: undef :: undef :: undef :: .agg (.int .i64 0 :: .int .i64 0 :: .int .i64 0 :: .int .i64 0 :: .int .i64 0 :: .int .i64 0 :: .int .i64 0 :: .int .i64 0 :: .int .i64 0 :: .int .i64 0 :: .int .i64 0 :: .int .i64 0 :: .int .i64 0 :: .int .i64 0 :: .int .i64 0 :: .int .i64 0 :: .int .i64 0 :: .int .i64 0 :: .int .i64 0 :: .int .i64 0 :: .int .i64 0 :: .int .i64 0 :: .int .i64 0 :: .int .i64 0 :: [] : List Value).toArray :: .pointer (some ⟨p27, 0, none⟩) :: undef :: undef :: undef :: undef :: undef :: undef :: undef :: undef :: undef :: undef :: undef :: undef :: undef :: undef :: undef :: undef :: undef :: undef :: undef :: undef :: undef :: undef :: undef :: undef :: undef :: undef :: undef :: undef :: undef :: undef :: undef :: undef :: undef :: undef :: undef :: undef :: undef :: undef :: undef :: undef :: undef :: undef :: undef :: [] : List Value).toArray, []⟩ W := by
    intro W oa oc ok ra rc p27 hHeld fA fAv fB f27 g27
    rw [HG.out]
    refine wpAnyH_ready (rs := [8, 13, 18]) (by kernel_rfl) (by simp) ?_
    refine AllReadyH.cons (o := _) rfl (fun K hK => ?_) (AllReadyH.cons (o := _) rfl (fun K hK => ?_) (AllReadyH.cons (o := _) rfl (fun K hK => ?_) AllReadyH.nil))
    ·
      go_simp
      have hz : w.heap.size < W.heap.size := Nat.lt_of_lt_of_le HZ1b.out hHeld.2.size
      have HBB : Below W.heap.size W (W.alloc (.cells ((.slice oa ok.length oc :: .int .i64 xm :: [] : List Value)).toArray 92)) := by exact belC (Below.refl _ _)
      have nX := FnAt.new W 92 ((.slice oa ok.length oc :: .int .i64 xm :: [] : List Value)) 2 rfl
      have nG := hz
      have hKA := owKeep hHeld HBB
      try go_wp2_with fail
      refine hK.out _ (W.alloc (.cells ((.slice oa ok.length oc :: .int .i64 xm :: [] : List Value)).toArray 92)) hKA (fun hHeld => ?_)
      clear hK K hKA
      try simp only [Act.put, List.setIfInBounds_toArray, List.set_cons_zero, List.set_cons_succ]
      rw [← HG.out]
      exact L_A_B_13_27 _ oa oc ok ra rc W.heap.size p27 hHeld (fA.below' HBB) fAv (fB.below' HBB) nX nG (f27.below HBB) g27 (Nat.ne_of_gt f27.lt)
    ·
      go_simp
      have hz : w.heap.size < W.heap.size := Nat.lt_of_lt_of_le HZ1b.out hHeld.2.size
      have HBB : Below W.heap.size W (W.alloc (.cells ((.slice ra xnl.length rc :: [] : List Value)).toArray 108)) := by exact belC (Below.refl _ _)
      have nX := FnAt.new W 108 ((.slice ra xnl.length rc :: [] : List Value)) 1 rfl
      have nG := hz
      have hKA := owKeep hHeld HBB
      try go_wp2_with fail
      refine hK.out _ (W.alloc (.cells ((.slice ra xnl.length rc :: [] : List Value)).toArray 108)) hKA (fun hHeld => ?_)
      clear hK K hKA
      try simp only [Act.put, List.setIfInBounds_toArray, List.set_cons_zero, List.set_cons_succ]
      rw [← HG.out]
      exact L_A_B_18_27 _ oa oc ok ra rc W.heap.size p27 hHeld (fA.below' HBB) fAv (fB.below' HBB) nX nG (f27.below HBB) g27 (Nat.ne_of_gt f27.lt)
    ·
      go_simp
      have hz : w.heap.size ≤ W.heap.size := Nat.le_trans HZ1.out hHeld.2.size
      refine (HCC.out W hHeld.2).mono ?_
      rintro e W2 ⟨ta, tc, rfl, hI, -, HBB⟩
      have nC := hI.sub (T := fun k => w.heap.size ≤ k ∧ k ≠ p27) (fun k hk h => ⟨Nat.le_trans hz h, Nat.ne_of_gt (Nat.lt_of_lt_of_le f27.lt h)⟩)
      have hKA := owKeep hHeld HBB
      try go_wp2_with fail
      refine hK.out _ _ hKA (fun hHeld => ?_)
      clear hK K hKA
      try simp only [Act.put, List.setIfInBounds_toArray, List.set_cons_zero, List.set_cons_succ]
      refine takeL 19 ?_
      rw [← HG.out]
      exact L_A_B_C_27 _ oa oc ok ra rc ta tc p27 hHeld (fA.below' HBB) fAv (fB.below' HBB) nC (f27.below HBB) g27
  have L_A_13_27 : ∀ (W : World) (oa : Option Addr) (oc : Nat) (ok : List InC) (p13 : Nat) (p27 : Nat), ((W.cell? ⟨w.heap.size, 0, none⟩ = some (.int .i64 xn) ∧ W.cell? ⟨w.heap.size, 1, none⟩ = some (.slice xia xik.length xic) ∧ W.cell? ⟨w.heap.size, 2, none⟩ = some (.int .i64 xm) ∧ W.cell? ⟨w.heap.size, 3, none⟩ = some (.slice xna xnl.length xnc) ∧ W.cell? ⟨w.heap.size, 4, none⟩ = some (.slice xha xhl.length xhc)) ∧ Below W1.heap.size W1 W) → (InosAt W (fun k => w.heap.size ≤ k ∧ k ≠ p27) oa ok) → (ok.map InC.val = xik.map InC.val) → (FnAt W p13 2 (fun j => ((.slice oa ok.length oc :: .int .i64 xm :: [] : List Value)[j]?).getD undef)) → (w.heap.size < p13) → (FnAt W p27 24 (fun j => ((.int .i64 0 :: .int .i64 0 :: .int .i64 0 :: .int .i64 0 :: .int .i64 0 :: .int .i64 0 :: .int .i64 0 :: .int .i64 0 :: .int .i64 0 :: .int .i64 0 :: .int .i64 0 :: .int .i64 0 :: .int .i64 0 :: .int .i64 0 :: .int .i64 0 :: .int .i64 0 :: .int .i64 0 :: .int .i64 0 :: .int .i64 0 :: .int .i64 0 :: .int .i64 0 :: .int .i64 0 :: .int .i64 0 :: .int .i64 0 :: [] : List Value)[j]?).getD undef)) → (w.heap.size < p27) → (p13 ≠ p27) → G 11 (true :: true :: true :: true :: true :: true :: true :: true :: true :: true :: true :: false :: false :: false :: false :: false :: true :: true :: false :: false :: false :: true :: true :: false :: false :: false :: [] : List Bool).toArray ⟨(v0 :: .pointer (some ⟨w.heap.size, 0, none⟩) :: .pointer none :: undef :: undef :: .pointer (some ⟨w.heap.size, 0, none⟩) :: .int .i64 xn :: .pointer (some ⟨w.heap.size, 1, none⟩) :: .slice xia xik.length xic :: .slice oa ok.length oc :: .pointer (some ⟨w.heap.size, 2, none⟩) :: .int .i64 xm :: .agg (.slice oa ok.length oc :: .int .i64 xm :: [] : List Value).toArray :: .pointer (some ⟨p13, 0, none⟩) :: .pointer (some ⟨w.heap.size, 3, none⟩) :: .slice xna xnl.length xnc :: undef :: undef :: undef :: undef :: undef :: .pointer (some ⟨w.heap.size, 4, none⟩) :: .slice xha xhl.length xhc :: undef :: undef :: undef :: .agg (.int .i64 0 :: .int .i64 0 :: .int .i64 0 :: .int .i64 0 :: .int .i64 0 :: .int .i64 0 :: .int .i64 0 :: .int .i64 0 :: .int .i64 0 :: .int .i64 0 :: .int .i64 0 :: .int .i64 0 :: .int .i64 0 :: .int .i64 0 :: .int .i64 0 :: .int .i64 0 :: .int .i64 0 :: .int .i64 0 :: .int .i64 0 :: .int .i64 0 :: .int .i64 0 :: .int .i64 0 :: .int .i64 0 :: .int .i64 0 :: [] : List Value).toArray :: .pointer (some ⟨p27, 0, none⟩) :: undef :: undef :: undef :: undef :: undef :: undef :: undef :: undef :: undef :: undef :: undef :: undef :: undef :: undef :: undef :: undef :: undef :: undef :: undef :: undef :: undef :: undef :: undef :: undef :: undef :: undef :: undef :: undef :: undef :: undef :: undef :: undef :: undef :: undef :: undef :: undef :: undef :: undef :: undef :: undef :: undef :: undef :: undef :: [] : List Value).toArray, []⟩ W := by
    intro W oa oc ok p13 p27 hHeld fA fAv f13 g13 f27 g27 n13_27
    rw [HG.out]
    refine wpAnyH_ready (rs := [11]) (by kernel_rfl) (by simp) ?_
    refine AllReadyH.cons (o := _) rfl (fun K hK => ?_) AllReadyH.nil
    ·
      go_simp
      have hz : w.heap.size ≤ W.heap.size := Nat.le_trans HZ1.out hHeld.2.size
      refine (HCB.out W hHeld.2).mono ?_
      rintro e W2 ⟨ra, rc, rfl, hI, -, HBB⟩
      have nB := hI.sub (T := fun k => w.heap.size ≤ k ∧ k ≠ p27) (fun k hk h => ⟨Nat.le_trans hz h, Nat.ne_of_gt (Nat.lt_of_lt_of_le f27.lt h)⟩)
      have hKA := owKeep hHeld HBB
      try go_wp2_with fail
      refine hK.out _ _ hKA (fun hHeld => ?_)
      clear hK K hKA
      try simp only [Act.put, List.setIfInBounds_toArray, List.set_cons_zero, List.set_cons_succ]
      refine takeL 12 ?_
      rw [← HG.out]
      exact L_A_B_13_27 _ oa oc ok ra rc p13 p27 hHeld (fA.below' HBB) fAv nB (f13.below HBB) g13 (f27.below HBB) g27 n13_27
  have L_A_B : ∀ (W : World) (oa : Option Addr) (oc : Nat) (ok : List InC) (ra : Option Addr) (rc : Nat), ((W.cell? ⟨w.heap.size, 0, none⟩ = some (.int .i64 xn) ∧ W.cell? ⟨w.heap.size, 1, none⟩ = some (.slice xia xik.length xic) ∧ W.cell? ⟨w.heap.size, 2, none⟩ = some (.int .i64 xm) ∧ W.cell? ⟨w.heap.size, 3, none⟩ = some (.slice xna xnl.length xnc) ∧ W.cell? ⟨w.heap.size, 4, none⟩ = some (.slice xha xhl.length xhc)) ∧ Below W1.heap.size W1 W) → (InosAt W (fun k => w.heap.size ≤ k) oa ok) → (ok.map InC.val = xik.map InC.val) → (RwAt W (fun k => w.heap.size ≤ k) 3 xnl.length ra (xnl.flatMap enC)) → G 11 (true :: true :: true :: true :: true :: true :: true :: true :: false :: true :: true :: true :: true :: false :: false :: false :: true :: true :: false :: false :: false :: true :: false :: false :: false :: false :: [] : List Bool).toArray ⟨(v0 :: .pointer (some ⟨w.heap.size, 0, none⟩) :: .pointer none :: undef :: undef :: .pointer (some ⟨w.heap.size, 0, none⟩) :: .int .i64 xn :: .pointer (some ⟨w.heap.size, 1, none⟩) :: .slice xia xik.length xic :: .slice oa ok.length oc :: .pointer (some ⟨w.heap.size, 2, none⟩) :: .int .i64 xm :: .agg (.slice oa ok.length oc :: .int .i64 xm :: [] : List Value).toArray :: undef :: .pointer (some ⟨w.heap.size, 3, none⟩) :: .slice xna xnl.length xnc :: .slice ra xnl.length rc :: .agg (.slice ra xnl.length rc :: [] : List Value).toArray :: undef :: undef :: undef :: .pointer (some ⟨w.heap.size, 4, none⟩) :: .slice xha xhl.length xhc :: undef :: undef :: undef :: .agg (.int .i64 0 :: .int .i64 0 :: .int .i64 0 :: .int .i64 0 :: .int .i64 0 :: .int .i64 0 :: .int .i64 0 :: .int .i64 0 :: .int .i64 0 :: .int .i64 0 :: .int .i64 0 :: .int .i64 0 :: .int .i64 0 :: .int .i64 0 :: .int .i64 0 :: .int .i64 0 :: .int .i64 0 :: .int .i64 0 :: .int .i64 0 :: .int .i64 0 :: .int .i64 0 :: .int .i64 0 :: .int .i64 0 :: .int .i64 0 :: [] : List Value).toArray :: undef :: undef :: undef :: undef :: undef :: undef :: undef :: undef :: undef :: undef :: undef :: undef :: undef :: undef :: undef :: undef :: undef :: undef :: undef :: undef :: undef :: undef :: undef :: undef :: undef :: undef :: undef :: undef :: undef :: undef :: undef :: undef :: undef :: undef :: undef :: undef :: undef :: undef :: undef :: undef :: undef :: undef :: undef :: undef :: [] : List Value).toArray, []⟩ W := by
    intro W oa oc ok ra rc hHeld fA fAv fB
    rw [HG.out]
    refine wpAnyH_ready (rs := [8, 13, 18, 22]) (by kernel_rfl) (by simp) ?_
    refine AllReadyH.cons (o := _) rfl (fun K hK => ?_) (AllReadyH.cons (o := _) rfl (fun K hK => ?_) (AllReadyH.cons (o := _) rfl (fun K hK => ?_) (AllReadyH.cons (o := _) rfl (fun K hK => ?_) AllReadyH.nil)))
    ·
      go_simp
      have hz : w.heap.size < W.heap.size := Nat.lt_of_lt_of_le HZ1b.out hHeld.2.size
      have HBB : Below W.heap.size W (W.alloc (.cells ((.slice oa ok.length oc :: .int .i64 xm :: [] : List Value)).toArray 92)) := by exact belC (Below.refl _ _)
      have nX := FnAt.new W 92 ((.slice oa ok.length oc :: .int .i64 xm :: [] : List Value)) 2 rfl
      have nG := hz
      have hKA := owKeep hHeld HBB
      try go_wp2_with fail
      refine hK.out _ (W.alloc (.cells ((.slice oa ok.length oc :: .int .i64 xm :: [] : List Value)).toArray 92)) hKA (fun hHeld => ?_)
      clear hK K hKA
      try simp only [Act.put, List.setIfInBounds_toArray, List.set_cons_zero, List.set_cons_succ]
      rw [← HG.out]
      exact L_A_B_13 _ oa oc ok ra rc W.heap.size hHeld (fA.below' HBB) fAv (fB.below' HBB) nX nG
    ·
      go_simp
      have hz : w.heap.size < W.heap.size := Nat.lt_of_lt_of_le HZ1b.out hHeld.2.size
      have HBB : Below W.heap.size W (W.alloc (.cells ((.slice ra xnl.length rc :: [] : List Value)).toArray 108)) := by exact belC (Below.refl _ _)
      have nX := FnAt.new W 108 ((.slice ra xnl.length rc :: [] : List Value)) 1 rfl
      have nG := hz
      have hKA := owKeep hHeld HBB
      try go_wp2_with fail
      refine hK.out _ (W.alloc (.cells ((.slice ra xnl.length rc :: [] : List Value)).toArray 108)) hKA (fun hHeld => ?_)
      clear hK K hKA
      try simp only [Act.put, List.setIfInBounds_toArray, List.set_cons_zero, List.set_cons_succ]
      rw [← HG.out]
      exact L_A_B_18 _ oa oc ok ra rc W.heap.size hHeld (fA.below' HBB) fAv (fB.below' HBB) nX nG
    ·
      go_simp
      have hz : w.heap.size ≤ W.heap.size := Nat.le_trans HZ1.out hHeld.2.size
      refine (HCC.out W hHeld.2).mono ?_
      rintro e W2 ⟨ta, tc, rfl, hI, -, HBB⟩
      have nC := hI.sub (T := fun k => w.heap.size ≤ k) (fun k hk h => Nat.le_trans hz h)
      have hKA := owKeep hHeld HBB
      try go_wp2_with fail
      refine hK.out _ _ hKA (fun hHeld => ?_)
      clear hK K hKA
      try simp only [Act.put, List.setIfInBounds_toArray, List.set_cons_zero, List.set_cons_succ]
      refine takeL 19 ?_
      rw [← HG.out]
      exact L_A_B_C _ oa oc ok ra rc ta tc hHeld (fA.below' HBB) fAv (fB.below' HBB) nC
    ·
      go_simp
      have hz : w.heap.size < W.heap.size := Nat.lt_of_lt_of_le HZ1b.out hHeld.2.size
      have HBB : Below W.heap.size W (W.alloc (.cells ((.int .i64 0 :: .int .i64 0 :: .int .i64 0 :: .int .i64 0 :: .int .i64 0 :: .int .i64 0 :: .int .i64 0 :: .int .i64 0 :: .int .i64 0 :: .int .i64 0 :: .int .i64 0 :: .int .i64 0 :: .int .i64 0 :: .int .i64 0 :: .int .i64 0 :: .int .i64 0 :: .int .i64 0 :: .int .i64 0 :: .int .i64 0 :: .int .i64 0 :: .int .i64 0 :: .int .i64 0 :: .int .i64 0 :: .int .i64 0 :: [] : List Value)).toArray 103)) := by exact belC (Below.refl _ _)
      have nX := FnAt.new W 103 ((.int .i64 0 :: .int .i64 0 :: .int .i64 0 :: .int .i64 0 :: .int .i64 0 :: .int .i64 0 :: .int .i64 0 :: .int .i64 0 :: .int .i64 0 :: .int .i64 0 :: .int .i64 0 :: .int .i64 0 :: .int .i64 0 :: .int .i64 0 :: .int .i64 0 :: .int .i64 0 :: .int .i64 0 :: .int .i64 0 :: .int .i64 0 :: .int .i64 0 :: .int .i64 0 :: .int .i64 0 :: .int .i64 0 :: .int .i64 0 :: [] : List Value)) 24 rfl
      have nG := hz
      have hKA := owKeep hHeld HBB
      try go_wp2_with fail
      refine hK.out _ (W.alloc (.cells ((.int .i64 0 :: .int .i64 0 :: .int .i64 0 :: .int .i64 0 :: .int .i64 0 :: .int .i64 0 :: .int .i64 0 :: .int .i64 0 :: .int .i64 0 :: .int .i64 0 :: .int .i64 0 :: .int .i64 0 :: .int .i64 0 :: .int .i64 0 :: .int .i64 0 :: .int .i64 0 :: .int .i64 0 :: .int .i64 0 :: .int .i64 0 :: .int .i64 0 :: .int .i64 0 :: .int .i64 0 :: .int .i64 0 :: .int .i64 0 :: [] : List Value)).toArray 103)) hKA (fun hHeld => ?_)
      clear hK K hKA
      try simp only [Act.put, List.setIfInBounds_toArray, List.set_cons_zero, List.set_cons_succ]
      rw [← HG.out]
      exact L_A_B_27 _ oa oc ok ra rc W.heap.size hHeld ((fA.sub (T := fun k => w.heap.size ≤ k ∧ k ≠ W.heap.size) (fun k hk h => ⟨h, Nat.ne_of_lt hk⟩)).below' HBB) fAv ((fB.sub (T := fun k => w.heap.size ≤ k ∧ k ≠ W.heap.size) (fun k hk h => ⟨h, Nat.ne_of_lt hk⟩)).below' HBB) nX nG
  have L_A_13 : ∀ (W : World) (oa : Option Addr) (oc : Nat) (ok : List InC) (p13 : Nat), ((W.cell? ⟨w.heap.size, 0, none⟩ = some (.int .i64 xn) ∧ W.cell? ⟨w.heap.size, 1, none⟩ = some (.slice xia xik.length xic) ∧ W.cell? ⟨w.heap.size, 2, none⟩ = some (.int .i64 xm) ∧ W.cell? ⟨w.heap.size, 3, none⟩ = some (.slice xna xnl.length xnc) ∧ W.cell? ⟨w.heap.size, 4, none⟩ = some (.slice xha xhl.length xhc)) ∧ Below W1.heap.size W1 W) → (InosAt W (fun k => w.heap.size ≤ k) oa ok) → (ok.map InC.val = xik.map InC.val) → (FnAt W p13 2 (fun j => ((.slice oa ok.length oc :: .int .i64 xm :: [] : List Value)[j]?).getD undef)) → (w.heap.size < p13) → G 12 (true :: true :: true :: true :: true :: true :: true :: true :: true :: true :: true :: false :: false :: false :: false :: false :: true :: true :: false :: false :: false :: true :: false :: false :: false :: false :: [] : List Bool).toArray ⟨(v0 :: .pointer (some ⟨w.heap.size, 0, none⟩) :: .pointer none :: undef :: undef :: .pointer (some ⟨w.heap.size, 0, none⟩) :: .int .i64 xn :: .pointer (some ⟨w.heap.size, 1, none⟩) :: .slice xia xik.length xic :: .slice oa ok.length oc :: .pointer (some ⟨w.heap.size, 2, none⟩) :: .int .i64 xm :: .agg (.slice oa ok.length oc :: .int .i64 xm :: [] : List Value).toArray :: .pointer (some ⟨p13, 0, none⟩) :: .pointer (some ⟨w.heap.size, 3, none⟩) :: .slice xna xnl.length xnc :: undef :: undef :: undef :: undef :: undef :: .pointer (some ⟨w.heap.size, 4, none⟩) :: .slice xha xhl.length xhc :: undef :: undef :: undef :: .agg (.int .i64 0 :: .int .i64 0 :: .int .i64 0 :: .int .i64 0 :: .int .i64 0 :: .int .i64 0 :: .int .i64 0 :: .int .i64 0 :: .int .i64 0 :: .int .i64 0 :: .int .i64 0 :: .int .i64 0 :: .int .i64 0 :: .int .i64 0 :: .int .i64 0 :: .int .i64 0 :: .int .i64 0 :: .int .i64 0 :: .int .i64 0 :: .int .i64 0 :: .int .i64 0 :: .int .i64 0 :: .int .i64 0 :: .int .i64 0 :: [] : List Value).toArray :: undef :: undef :: undef :: undef :: undef :: undef :: undef :: undef :: undef :: undef :: undef :: undef :: undef :: undef :: undef :: undef :: undef :: undef :: undef :: undef :: undef :: undef :: undef :: undef :: undef :: undef :: undef :: undef :: undef :: undef :: undef :: undef :: undef :: undef :: undef :: undef :: undef :: undef :: undef :: undef :: undef :: undef :: undef :: undef :: [] : List Value).toArray, []⟩ W := by
    intro W oa oc ok p13 hHeld fA fAv f13 g13
    rw [HG.out]
    refine wpAnyH_ready (rs := [11, 22]) (by kernel_rfl) (by simp) ?_
    refine AllReadyH.cons (o := _) rfl (fun K hK => ?_) (AllReadyH.cons (o := _) rfl (fun K hK => ?_) AllReadyH.nil)
    ·
      go_simp
      have hz : w.heap.size ≤ W.heap.size := Nat.le_trans HZ1.out hHeld.2.size
      refine (HCB.out W hHeld.2).mono ?_
      rintro e W2 ⟨ra, rc, rfl, hI, -, HBB⟩
      have nB := hI.sub (T := fun k => w.heap.size ≤ k) (fun k hk h => Nat.le_trans hz h)
      have hKA := owKeep hHeld HBB
      try go_wp2_with fail
      refine hK.out _ _ hKA (fun hHeld => ?_)
      clear hK K hKA
      try simp only [Act.put, List.setIfInBounds_toArray, List.set_cons_zero, List.set_cons_succ]
      refine takeL 12 ?_
      rw [← HG.out]
      exact L_A_B_13 _ oa oc ok ra rc p13 hHeld (fA.below' HBB) fAv nB (f13.below HBB) g13
    ·
      go_simp
      have hz : w.heap.size < W.heap.size := Nat.lt_of_lt_of_le HZ1b.out hHeld.2.size
      have HBB : Below W.heap.size W (W.alloc (.cells ((.int .i64 0 :: .int .i64 0 :: .int .i64 0 :: .int .i64 0 :: .int .i64 0 :: .int .i64 0 :: .int .i64 0 :: .int .i64 0 :: .int .i64 0 :: .int .i64 0 :: .int .i64 0 :: .int .i64 0 :: .int .i64 0 :: .int .i64 0 :: .int .i64 0 :: .int .i64 0 :: .int .i64 0 :: .int .i64 0 :: .int .i64 0 :: .int .i64 0 :: .int .i64 0 :: .int .i64 0 :: .int .i64 0 :: .int .i64 0 :: [] : List Value)).toArray 103)) := by exact belC (Below.refl _ _)
      have nX := FnAt.new W 103 ((.int .i64 0 :: .int .i64 0 :: .int .i64 0 :: .int .i64 0 :: .int .i64 0 :: .int .i64 0 :: .int .i64 0 :: .int .i64 0 :: .int .i64 0 :: .int .i64 0 :: .int .i64 0 :: .int .i64 0 :: .int .i64 0 :: .int .i64 0 :: .int .i64 0 :: .int .i64 0 :: .int .i64 0 :: .int .i64 0 :: .int .i64 0 :: .int .i64 0 :: .int .i64 0 :: .int .i64 0 :: .int .i64 0 :: .int .i64 0 :: [] : List Value)) 24 rfl
      have nG := hz
      have hKA := owKeep hHeld HBB
      try go_wp2_with fail
      refine hK.out _ (W.alloc (.cells ((.int .i64 0 :: .int .i64 0 :: .int .i64 0 :: .int .i64 0 :: .int .i64 0 :: .int .i64 0 :: .int .i64 0 :: .int .i64 0 :: .int .i64 0 :: .int .i64 0 :: .int .i64 0 :: .int .i64 0 :: .int .i64 0 :: .int .i64 0 :: .int .i64 0 :: .int .i64 0 :: .int .i64 0 :: .int .i64 0 :: .int .i64 0 :: .int .i64 0 :: .int .i64 0 :: .int .i64 0 :: .int .i64 0 :: .int .i64 0 :: [] : List Value)).toArray 103)) hKA (fun hHeld => ?_)
      clear hK K hKA
      try simp only [Act.put, List.setIfInBounds_toArray, List.set_cons_zero, List.set_cons_succ]
      rw [← HG.out]
      exact L_A_13_27 _ oa oc ok p13 W.heap.size hHeld ((fA.sub (T := fun k => w.heap.size ≤ k ∧ k ≠ W.heap.size) (fun k hk h => ⟨h, Nat.ne_of_lt hk⟩)).below' HBB) fAv (f13.below HBB) g13 nX nG (Nat.ne_of_lt f13.lt)
  have L_A_27 : ∀ (W : World) (oa : Option Addr) (oc : Nat) (ok : List InC) (p27 : Nat), ((W.cell? ⟨w.heap.size, 0, none⟩ = some (.int .i64 xn) ∧ W.cell? ⟨w.heap.size, 1, none⟩ = some (.slice xia xik.length xic) ∧ W.cell? ⟨w.heap.size, 2, none⟩ = some (.int .i64 xm) ∧ W.cell? ⟨w.heap.size, 3, none⟩ = some (.slice xna xnl.length xnc) ∧ W.cell? ⟨w.heap.size, 4, none⟩ = some (.slice xha xhl.length xhc)) ∧ Below W1.heap.size W1 W) → (InosAt W (fun k => w.heap.size ≤ k ∧ k ≠ p27) oa ok) → (ok.map InC.val = xik.map InC.val) → (FnAt W p27 24 (fun j => ((.int .i64 0 :: .int .i64 0 :: .int .i64 0 :: .int .i64 0 :: .int .i64 0 :: .int .i64 0 :: .int .i64 0 :: .int .i64 0 :: .int .i64 0 :: .int .i64 0 :: .int .i64 0 :: .int .i64 0 :: .int .i64 0 :: .int .i64 0 :: .int .i64 0 :: .int .i64 0 :: .int .i64 0 :: .int .i64 0 :: .int .i64 0 :: .int .i64 0 :: .int .i64 0 :: .int .i64 0 :: .int .i64 0 :: .int .i64 0 :: [] : List Value)[j]?).getD undef)) → (w.heap.size < p27) → G 12 (true :: true :: true :: true :: true :: true :: true :: true :: false :: true :: true :: false :: false :: false :: false :: false :: true :: true :: false :: false :: false :: true :: true :: false :: false :: false :: [] : List Bool).toArray ⟨(v0 :: .pointer (some ⟨w.heap.size, 0, none⟩) :: .pointer none :: undef :: undef :: .pointer (some ⟨w.heap.size, 0, none⟩) :: .int .i64 xn :: .pointer (some ⟨w.heap.size, 1, none⟩) :: .slice xia xik.length xic :: .slice oa ok.length oc :: .pointer (some ⟨w.heap.size, 2, none⟩) :: .int .i64 xm :: .agg (.slice oa ok.length oc :: .int .i64 xm :: [] : List Value).toArray :: undef :: .pointer (some ⟨w.heap.size, 3, none⟩) :: .slice xna xnl.length xnc :: undef :: undef :: undef :: undef :: undef :: .pointer (some ⟨w.heap.size, 4, none⟩) :: .slice xha xhl.length xhc :: undef :: undef :: undef :: .agg (.int .i64 0 :: .int .i64 0 :: .int .i64 0 :: .int .i64 0 :: .int .i64 0 :: .int .i64 0 :: .int .i64 0 :: .int .i64 0 :: .int .i64 0 :: .int .i64 0 :: .int .i64 0 :: .int .i64 0 :: .int .i64 0 :: .int .i64 0 :: .int .i64 0 :: .int .i64 0 :: .int .i64 0 :: .int .i64 0 :: .int .i64 0 :: .int .i64 0 :: .int .i64 0 :: .int .i64 0 :: .int .i64 0 :: .int .i64 0 :: [] : List Value).toArray :: .pointer (some ⟨p27, 0, none⟩) :: undef :: undef :: undef :: undef :: undef :: undef :: undef :: undef :: undef :: undef :: undef :: undef :: undef :: undef :: undef :: undef :: undef :: undef :: undef :: undef :: undef :: undef :: undef :: undef :: undef :: undef :: undef :: undef :: undef :: undef :: undef :: undef :: undef :: undef :: undef :: undef :: undef :: undef :: undef :: undef :: undef :: undef :: undef :: [] : List Value).toArray, []⟩ W := by
    intro W oa oc ok p27 hHeld fA fAv f27 g27
    rw [HG.out]
    refine wpAnyH_ready (rs := [8, 11]) (by kernel_rfl) (by simp) ?_
    refine AllReadyH.cons (o := _) rfl (fun K hK => ?_) (AllReadyH.cons (o := _) rfl (fun K hK => ?_) AllReadyH.nil)
    ·
      go_simp
      have hz : w.heap.size < W.heap.size := Nat.lt_of_lt_of_le HZ1b.out hHeld.2.size
      have HBB : Below W.heap.size W (W.alloc (.cells ((.slice oa ok.length oc :: .int .i64 xm :: [] : List Value)).toArray 92)) := by exact belC (Below.refl _ _)
      have nX := FnAt.new W 92 ((.slice oa ok.length oc :: .int .i64 xm :: [] : List Value)) 2 rfl
      have nG := hz
      have hKA := owKeep hHeld HBB
      try go_wp2_with fail
      refine hK.out _ (W.alloc (.cells ((.slice oa ok.length oc :: .int .i64 xm :: [] : List Value)).toArray 92)) hKA (fun hHeld => ?_)
      clear hK K hKA
      try simp only [Act.put, List.setIfInBounds_toArray, List.set_cons_zero, List.set_cons_succ]
      rw [← HG.out]
      exact L_A_13_27 _ oa oc ok W.heap.size p27 hHeld (fA.below' HBB) fAv nX nG (f27.below HBB) g27 (Nat.ne_of_gt f27.lt)
    ·
      go_simp
      have hz : w.heap.size ≤ W.heap.size := Nat.le_trans HZ1.out hHeld.2.size
      refine (HCB.out W hHeld.2).mono ?_
      rintro e W2 ⟨ra, rc, rfl, hI, -, HBB⟩
      have nB := hI.sub (T := fun k => w.heap.size ≤ k ∧ k ≠ p27) (fun k hk h => ⟨Nat.le_trans hz h, Nat.ne_of_gt (Nat.lt_of_lt_of_le f27.lt h)⟩)
      have hKA := owKeep hHeld HBB
      try go_wp2_with fail
      refine hK.out _ _ hKA (fun hHeld => ?_)
      clear hK K hKA
      try simp only [Act.put, List.setIfInBounds_toArray, List.set_cons_zero, List.set_cons_succ]
      refine takeL 12 ?_
      rw [← HG.out]
      exact L_A_B_27 _ oa oc ok ra rc p27 hHeld (fA.below' HBB) fAv nB (f27.below HBB) g27
  have L_A : ∀ (W : World) (oa : Option Addr) (oc : Nat) (ok : List InC), ((W.cell? ⟨w.heap.size, 0, none⟩ = some (.int .i64 xn) ∧ W.cell? ⟨w.heap.size, 1, none⟩ = some (.slice xia xik.length xic) ∧ W.cell? ⟨w.heap.size, 2, none⟩ = some (.int .i64 xm) ∧ W.cell? ⟨w.heap.size, 3, none⟩ = some (.slice xna xnl.length xnc) ∧ W.cell? ⟨w.heap.size, 4, none⟩ = some (.slice xha xhl.length xhc)) ∧ Below W1.heap.size W1 W) → (InosAt W (fun k => w.heap.size ≤ k) oa ok) → (ok.map InC.val = xik.map InC.val) → G 13 (true :: true :: true :: true :: true :: true :: true :: true :: false :: true :: true :: false :: false :: false :: false :: false :: true :: true :: false :: false :: false :: true :: false :: false :: false :: false :: [] : List Bool).toArray ⟨(v0 :: .pointer (some ⟨w.heap.size, 0, none⟩) :: .pointer none :: undef :: undef :: .pointer (some ⟨w.heap.size, 0, none⟩) :: .int .i64 xn :: .pointer (some ⟨w.heap.size, 1, none⟩) :: .slice xia xik.length xic :: .slice oa ok.length oc :: .pointer (some ⟨w.heap.size, 2, none⟩) :: .int .i64 xm :: .agg (.slice oa ok.length oc :: .int .i64 xm :: [] : List Value).toArray :: undef :: .pointer (some ⟨w.heap.size, 3, none⟩) :: .slice xna xnl.length xnc :: undef :: undef :: undef :: undef :: undef :: .pointer (some ⟨w.heap.size, 4, none⟩) :: .slice xha xhl.length xhc :: undef :: undef :: undef :: .agg (.int .i64 0 :: .int .i64 0 :: .int .i64 0 :: .int .i64 0 :: .int .i64 0 :: .int .i64 0 :: .int .i64 0 :: .int .i64 0 :: .int .i64 0 :: .int .i64 0 :: .int .i64 0 :: .int .i64 0 :: .int .i64 0 :: .int .i64 0 :: .int .i64 0 :: .int .i64 0 :: .int .i64 0 :: .int .i64 0 :: .int .i64 0 :: .int .i64 0 :: .int .i64 0 :: .int .i64 0 :: .int .i64 0 :: .int .i64 0 :: [] : List Value).toArray :: undef :: undef :: undef :: undef :: undef :: undef :: undef :: undef :: undef :: undef :: undef :: undef :: undef :: undef :: undef :: undef :: undef :: undef :: undef :: undef :: undef :: undef :: undef :: undef :: undef :: undef :: undef :: undef :: undef :: undef :: undef :: undef :: undef :: undef :: undef :: undef :: undef :: undef :: undef :: undef :: undef :: undef :: undef :: undef :: [] : List Value).toArray, []⟩ W := by
    intro W oa oc ok hHeld fA fAv
    rw [HG.out]
    refine wpAnyH_ready (rs := [8, 11, 22]) (by kernel_rfl) (by simp) ?_
    refine AllReadyH.cons (o := _) rfl (fun K hK => ?_) (AllReadyH.cons (o := _) rfl (fun K hK => ?_) (AllReadyH.cons (o := _) rfl (fun K hK => ?_) AllReadyH.nil))
    ·
      go_simp
      have hz : w.heap.size < W.heap.size := Nat.lt_of_lt_of_le HZ1b.out hHeld.2.size
      have HBB : Below W.heap.size W (W.alloc (.cells ((.slice oa ok.length oc :: .int .i64 xm :: [] : List Value)).toArray 92)) := by exact belC (Below.refl _ _)
      have nX := FnAt.new W 92 ((.slice oa ok.length oc :: .int .i64 xm :: [] : List Value)) 2 rfl
      have nG := hz
      have hKA := owKeep hHeld HBB
      try go_wp2_with fail
      refine hK.out _ (W.alloc (.cells ((.slice oa ok.length oc :: .int .i64 xm :: [] : List Value)).toArray 92)) hKA (fun hHeld => ?_)
      clear hK K hKA
      try simp only [Act.put, List.setIfInBounds_toArray, List.set_cons_zero, List.set_cons_succ]
      rw [← HG.out]
      exact L_A_13 _ oa oc ok W.heap.size hHeld (fA.below' HBB) fAv nX nG
    ·
      go_simp
      have hz : w.heap.size ≤ W.heap.size := Nat.le_trans HZ1.out hHeld.2.size
      refine (HCB.out W hHeld.2).mono ?_
      rintro e W2 ⟨ra, rc, rfl, hI, -, HBB⟩
      have nB := hI.sub (T := fun k => w.heap.size ≤ k) (fun k hk h => Nat.le_trans hz h)
      have hKA := owKeep hHeld HBB
      try go_wp2_with fail
      refine hK.out _ _ hKA (fun hHeld => ?_)
      clear hK K hKA
      try simp only [Act.put, List.setIfInBounds_toArray, List.set_cons_zero, List.set_cons_succ]
      refine takeL 12 ?_
      rw [← HG.out]
      exact L_A_B _ oa oc ok ra rc hHeld (fA.below' HBB) fAv nB
    ·
      go_simp
      have hz : w.heap.size < W.heap.size := Nat.lt_of_lt_of_le HZ1b.out hHeld.2.size
      have HBB : Below W.heap.size W (W.alloc (.cells ((.int .i64 0 :: .int .i64 0 :: .int .i64 0 :: .int .i64 0 :: .int .i64 0 :: .int .i64 0 :: .int .i64 0 :: .int .i64 0 :: .int .i64 0 :: .int .i64 0 :: .int .i64 0 :: .int .i64 0 :: .int .i64 0 :: .int .i64 0 :: .int .i64 0 :: .int .i64 0 :: .int .i64 0 :: .int .i64 0 :: .int .i64 0 :: .int .i64 0 :: .int .i64 0 :: .int .i64 0 :: .int .i64 0 :: .int .i64 0 :: [] : List Value)).toArray 103)) := by exact belC (Below.refl _ _)
      have nX := FnAt.new W 103 ((.int .i64 0 :: .int .i64 0 :: .int .i64 0 :: .int .i64 0 :: .int .i64 0 :: .int .i64 0 :: .int .i64 0 :: .int .i64 0 :: .int .i64 0 :: .int .i64 0 :: .int .i64 0 :: .int .i64 0 :: .int .i64 0 :: .int .i64 0 :: .int .i64 0 :: .int .i64 0 :: .int .i64 0 :: .int .i64 0 :: .int .i64 0 :: .int .i64 0 :: .int .i64 0 :: .int .i64 0 :: .int .i64 0 :: .int .i64 0 :: [] : List Value)) 24 rfl
      have nG := hz
      have hKA := owKeep hHeld HBB
      try go_wp2_with fail
      refine hK.out _ (W.alloc (.cells ((.int .i64 0 :: .int .i64 0 :: .int .i64 0 :: .int .i64 0 :: .int .i64 0 :: .int .i64 0 :: .int .i64 0 :: .int .i64 0 :: .int .i64 0 :: .int .i64 0 :: .int .i64 0 :: .int .i64 0 :: .int .i64 0 :: .int .i64 0 :: .int .i64 0 :: .int .i64 0 :: .int .i64 0 :: .int .i64 0 :: .int .i64 0 :: .int .i64 0 :: .int .i64 0 :: .int .i64 0 :: .int .i64 0 :: .int .i64 0 :: [] : List Value)).toArray 103)) hKA (fun hHeld => ?_)
      clear hK K hKA
      try simp only [Act.put, List.setIfInBounds_toArray, List.set_cons_zero, List.set_cons_succ]
      rw [← HG.out]
      exact L_A_27 _ oa oc ok W.heap.size hHeld ((fA.sub (T := fun k => w.heap.size ≤ k ∧ k ≠ W.heap.size) (fun k hk h => ⟨h, Nat.ne_of_lt hk⟩)).below' HBB) fAv nX nG
  have L_27 : ∀ (W : World) (p27 : Nat), ((W.cell? ⟨w.heap.size, 0, none⟩ = some (.int .i64 xn) ∧ W.cell? ⟨w.heap.size, 1, none⟩ = some (.slice xia xik.length xic) ∧ W.cell? ⟨w.heap.size, 2, none⟩ = some (.int .i64 xm) ∧ W.cell? ⟨w.heap.size, 3, none⟩ = some (.slice xna xnl.length xnc) ∧ W.cell? ⟨w.heap.size, 4, none⟩ = some (.slice xha xhl.length xhc)) ∧ Below W1.heap.size W1 W) → (FnAt W p27 24 (fun j => ((.int .i64 0 :: .int .i64 0 :: .int .i64 0 :: .int .i64 0 :: .int .i64 0 :: .int .i64 0 :: .int .i64 0 :: .int .i64 0 :: .int .i64 0 :: .int .i64 0 :: .int .i64 0 :: .int .i64 0 :: .int .i64 0 :: .int .i64 0 :: .int .i64 0 :: .int .i64 0 :: .int .i64 0 :: .int .i64 0 :: .int .i64 0 :: .int .i64 0 :: .int .i64 0 :: .int .i64 0 :: .int .i64 0 :: .int .i64 0 :: [] : List Value)[j]?).getD undef)) → (w.heap.size < p27) → G 14 (true :: true :: true :: true :: false :: true :: true :: false :: false :: true :: true :: false :: false :: false :: false :: false :: true :: true :: false :: false :: false :: true :: true :: false :: false :: false :: [] : List Bool).toArray ⟨(v0 :: .pointer (some ⟨w.heap.size, 0, none⟩) :: .pointer none :: undef :: undef :: .pointer (some ⟨w.heap.size, 0, none⟩) :: .int .i64 xn :: .pointer (some ⟨w.heap.size, 1, none⟩) :: .slice xia xik.length xic :: undef :: .pointer (some ⟨w.heap.size, 2, none⟩) :: .int .i64 xm :: undef :: undef :: .pointer (some ⟨w.heap.size, 3, none⟩) :: .slice xna xnl.length xnc :: undef :: undef :: undef :: undef :: undef :: .pointer (some ⟨w.heap.size, 4, none⟩) :: .slice xha xhl.length xhc :: undef :: undef :: undef :: .agg (.int .i64 0 :: .int .i64 0 :: .int .i64 0 :: .int .i64 0 :: .int .i64 0 :: .int .i64 0 :: .int .i64 0 :: .int .i64 0 :: .int .i64 0 :: .int .i64 0 :: .int .i64 0 :: .int .i64 0 :: .int .i64 0 :: .int .i64 0 :: .int .i64 0 :: .int .i64 0 :: .int .i64 0 :: .int .i64 0 :: .int .i64 0 :: .int .i64 0 :: .int .i64 0 :: .int .i64 0 :: .int .i64 0 :: .int .i64 0 :: [] : List Value).toArray :: .pointer (some ⟨p27, 0, none⟩) :: undef :: undef :: undef :: undef :: undef :: undef :: undef :: undef :: undef :: undef :: undef :: undef :: undef :: undef :: undef :: undef :: undef :: undef :: undef :: undef :: undef :: undef :: undef :: undef :: undef :: undef :: undef :: undef :: undef :: undef :: undef :: undef :: undef :: undef :: undef :: undef :: undef :: undef :: undef :: undef :: undef :: undef :: undef :: [] : List Value).toArray, []⟩ W := by
    intro W p27 hHeld f27 g27
    rw [HG.out]
    refine wpAnyH_ready (rs := [4]) (by kernel_rfl) (by simp) ?_
    refine AllReadyH.cons (o := _) rfl (fun K hK => ?_) AllReadyH.nil
    ·
      go_simp
      have hz : w.heap.size ≤ W.heap.size := Nat.le_trans HZ1.out hHeld.2.size
      refine (HCA.out W hHeld.2).mono ?_
      rintro e W2 ⟨oa, oc, ok, rfl, hI, nAv, HBB⟩
      have nA := hI.sub (T := fun k => w.heap.size ≤ k ∧ k ≠ p27) (fun k hk h => ⟨Nat.le_trans hz h, Nat.ne_of_gt (Nat.lt_of_lt_of_le f27.lt h)⟩)
      have hKA := owKeep hHeld HBB
      try go_wp2_with fail
      refine hK.out _ _ hKA (fun hHeld => ?_)
      clear hK K hKA
      try simp only [Act.put, List.setIfInBounds_toArray, List.set_cons_zero, List.set_cons_succ]
      refine takeL 7 ?_
      rw [← HG.out]
      exact L_A_27 _ oa oc ok p27 hHeld nA nAv (f27.below HBB) g27
  have L_0 : ∀ (W : World) , ((W.cell? ⟨w.heap.size, 0, none⟩ = some (.int .i64 xn) ∧ W.cell? ⟨w.heap.size, 1, none⟩ = some (.slice xia xik.length xic) ∧ W.cell? ⟨w.heap.size, 2, none⟩ = some (.int .i64 xm) ∧ W.cell? ⟨w.heap.size, 3, none⟩ = some (.slice xna xnl.length xnc) ∧ W.cell? ⟨w.heap.size, 4, none⟩ = some (.slice xha xhl.length xhc)) ∧ Below W1.heap.size W1 W) → G 15 (true :: true :: true :: true :: false :: true :: true :: false :: false :: true :: true :: false :: false :: false :: false :: false :: true :: true :: false :: false :: false :: true :: false :: false :: false :: false :: [] : List Bool).toArray ⟨(v0 :: .pointer (some ⟨w.heap.size, 0, none⟩) :: .pointer none :: undef :: undef :: .pointer (some ⟨w.heap.size, 0, none⟩) :: .int .i64 xn :: .pointer (some ⟨w.heap.size, 1, none⟩) :: .slice xia xik.length xic :: undef :: .pointer (some ⟨w.heap.size, 2, none⟩) :: .int .i64 xm :: undef :: undef :: .pointer (some ⟨w.heap.size, 3, none⟩) :: .slice xna xnl.length xnc :: undef :: undef :: undef :: undef :: undef :: .pointer (some ⟨w.heap.size, 4, none⟩) :: .slice xha xhl.length xhc :: undef :: undef :: undef :: .agg (.int .i64 0 :: .int .i64 0 :: .int .i64 0 :: .int .i64 0 :: .int .i64 0 :: .int .i64 0 :: .int .i64 0 :: .int .i64 0 :: .int .i64 0 :: .int .i64 0 :: .int .i64 0 :: .int .i64 0 :: .int .i64 0 :: .int .i64 0 :: .int .i64 0 :: .int .i64 0 :: .int .i64 0 :: .int .i64 0 :: .int .i64 0 :: .int .i64 0 :: .int .i64 0 :: .int .i64 0 :: .int .i64 0 :: .int .i64 0 :: [] : List Value).toArray :: undef :: undef :: undef :: undef :: undef :: undef :: undef :: undef :: undef :: undef :: undef :: undef :: undef :: undef :: undef :: undef :: undef :: undef :: undef :: undef :: undef :: undef :: undef :: undef :: undef :: undef :: undef :: undef :: undef :: undef :: undef :: undef :: undef :: undef :: undef :: undef :: undef :: undef :: undef :: undef :: undef :: undef :: undef :: undef :: [] : List Value).toArray, []⟩ W := by
    intro W  hHeld 
    rw [HG.out]
    refine wpAnyH_ready (rs := [4, 22]) (by kernel_rfl) (by simp) ?_
    refine AllReadyH.cons (o := _) rfl (fun K hK => ?_) (AllReadyH.cons (o := _) rfl (fun K hK => ?_) AllReadyH.nil)
    ·
      go_simp
      have hz : w.heap.size ≤ W.heap.size := Nat.le_trans HZ1.out hHeld.2.size
      refine (HCA.out W hHeld.2).mono ?_
      rintro e W2 ⟨oa, oc, ok, rfl, hI, nAv, HBB⟩
      have nA := hI.sub (T := fun k => w.heap.size ≤ k) (fun k hk h => Nat.le_trans hz h)
      have hKA := owKeep hHeld HBB
      try go_wp2_with fail
      refine hK.out _ _ hKA (fun hHeld => ?_)
      clear hK K hKA
      try simp only [Act.put, List.setIfInBounds_toArray, List.set_cons_zero, List.set_cons_succ]
      refine takeL 7 ?_
      rw [← HG.out]
      exact L_A _ oa oc ok hHeld nA nAv
    ·
      go_simp
      have hz : w.heap.size < W.heap.size := Nat.lt_of_lt_of_le HZ1b.out hHeld.2.size
      have HBB : Below W.heap.size W (W.alloc (.cells ((.int .i64 0 :: .int .i64 0 :: .int .i64 0 :: .int .i64 0 :: .int .i64 0 :: .int .i64 0 :: .int .i64 0 :: .int .i64 0 :: .int .i64 0 :: .int .i64 0 :: .int .i64 0 :: .int .i64 0 :: .int .i64 0 :: .int .i64 0 :: .int .i64 0 :: .int .i64 0 :: .int .i64 0 :: .int .i64 0 :: .int .i64 0 :: .int .i64 0 :: .int .i64 0 :: .int .i64 0 :: .int .i64 0 :: .int .i64 0 :: [] : List Value)).toArray 103)) := by exact belC (Below.refl _ _)
      have nX := FnAt.new W 103 ((.int .i64 0 :: .int .i64 0 :: .int .i64 0 :: .int .i64 0 :: .int .i64 0 :: .int .i64 0 :: .int .i64 0 :: .int .i64 0 :: .int .i64 0 :: .int .i64 0 :: .int .i64 0 :: .int .i64 0 :: .int .i64 0 :: .int .i64 0 :: .int .i64 0 :: .int .i64 0 :: .int .i64 0 :: .int .i64 0 :: .int .i64 0 :: .int .i64 0 :: .int .i64 0 :: .int .i64 0 :: .int .i64 0 :: .int .i64 0 :: [] : List Value)) 24 rfl
      have nG := hz
      have hKA := owKeep hHeld HBB
      try go_wp2_with fail
      refine hK.out _ (W.alloc (.cells ((.int .i64 0 :: .int .i64 0 :: .int .i64 0 :: .int .i64 0 :: .int .i64 0 :: .int .i64 0 :: .int .i64 0 :: .int .i64 0 :: .int .i64 0 :: .int .i64 0 :: .int .i64 0 :: .int .i64 0 :: .int .i64 0 :: .int .i64 0 :: .int .i64 0 :: .int .i64 0 :: .int .i64 0 :: .int .i64 0 :: .int .i64 0 :: .int .i64 0 :: .int .i64 0 :: .int .i64 0 :: .int .i64 0 :: .int .i64 0 :: [] : List Value)).toArray 103)) hKA (fun hHeld => ?_)
      clear hK K hKA
      try simp only [Act.put, List.setIfInBounds_toArray, List.set_cons_zero, List.set_cons_succ]
      rw [← HG.out]
      exact L_27 _ W.heap.size hHeld nX nG
  exact L_0 _ hHeld
end Go.Proofs.YtpiogibkleaaaaaGreatDoor
