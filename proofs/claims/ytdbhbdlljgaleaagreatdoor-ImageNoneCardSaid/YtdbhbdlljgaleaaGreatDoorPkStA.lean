import Derived.Test.YtdbhbdlljgaleaaGreatDoorStM
import Derived.Test.YtdbhbdlljgaleaaGreatDoorPkTrf
import Derived.Test.YtdbhbdlljgaleaaGreatDoorPkTrg
/- package state: where a state lies; New, Next, Tree, Handles, Once -/
namespace Go.Proofs.YtdbhbdlljgaleaaGreatDoor
open Go.RowKit Esch Go.Shelf

/-- a state's parts, each in its own blocks -/
structure StIn (w : World) (b tb hb ob mb : Nat) (S1 S2 : Nat → Prop) (s : StS) : Prop where
  c0 : w.cell? ⟨b, 0, none⟩ = some (.pointer (some ⟨tb, 0, none⟩))
  c1 : w.cell? ⟨b, 1, none⟩ = some (.pointer (some ⟨hb, 0, none⟩))
  c2 : w.cell? ⟨b, 2, none⟩ = some (.pointer (some ⟨ob, 0, none⟩))
  c3 : w.cell? ⟨b, 3, none⟩ = some (.int .i64 s.next)
  fz : ∀ j, w.frozen? ⟨b, j, none⟩ = false
  tr : TreeAt w tb S1 s.t
  hd : HdlAt w hb S2 s.h
  on : OnceAt w ob mb s.o
  ap : ∀ k, S1 k → ¬ S2 k
  b1 : ¬ S1 b
  b2 : ¬ S2 b
  o1 : ¬ S1 ob
  o2 : ¬ S2 ob
  m1 : ¬ S1 mb
  m2 : ¬ S2 mb
  om : ob ≠ mb
  bo : b ≠ ob
  bm : b ≠ mb
structure SttAt (w : World) (b : Nat) (S : Nat → Prop) (s : StS) : Prop where
  sb : S b
  lt : ∀ k, S k → k < w.heap.size
  ex : ∃ tb hb ob mb S1 S2, StIn w b tb hb ob mb S1 S2 s ∧ (∀ k, S1 k → S k) ∧ (∀ k, S2 k → S k) ∧ S ob ∧ S mb
theorem StIn.mod {w w' : World} {b tb hb ob mb : Nat} {S1 S2 F : Nat → Prop} {s : StS} (h : StIn w b tb hb ob mb S1 S2 s) (hM : Mod F w w') (fb : ¬ F b) (fo : ¬ F ob) (fm : ¬ F mb) (f1 : ∀ k, S1 k → ¬ F k) (f2 : ∀ k, S2 k → ¬ F k) : StIn w' b tb hb ob mb S1 S2 s :=
  ⟨hM.at h.c0 fb, hM.at h.c1 fb, hM.at h.c2 fb, hM.at h.c3 fb, fun j => (hM.frozen (p := ⟨b, j, none⟩) (cell_lt h.c0) fb).trans (h.fz j), h.tr.mod hM f1, h.hd.mod hM f2, h.on.mod hM fo fm, h.ap, h.b1, h.b2, h.o1, h.o2, h.m1, h.m2, h.om, h.bo, h.bm⟩
theorem SttAt.mod {w w' : World} {b : Nat} {S F : Nat → Prop} {s : StS} (h : SttAt w b S s) (hM : Mod F w w') (hF : ∀ k, S k → ¬ F k) : SttAt w' b S s := by
  obtain ⟨sb, lt, tb, hb, ob, mb, S1, S2, hi, s1, s2, so, sm⟩ := h
  exact ⟨sb, fun k hk => Nat.lt_of_lt_of_le (lt k hk) hM.size, tb, hb, ob, mb, S1, S2, hi.mod hM (hF b sb) (hF ob so) (hF mb sm) (fun k hk => hF k (s1 k hk)) (fun k hk => hF k (s2 k hk)), s1, s2, so, sm⟩
theorem SttAt.below' {w w' : World} {b : Nat} {S : Nat → Prop} {s : StS} (h : SttAt w b S s) (hB : Below w.heap.size w w') : SttAt w' b S s := h.mod (F := none') (Mod.of_below hB) fun _ _ => id
theorem SttAt.wide {w : World} {b : Nat} {S T : Nat → Prop} {s : StS} (h : SttAt w b S s) (hS : ∀ k, S k → T k) (hl : ∀ k, T k → k < w.heap.size) : SttAt w b T s := by
  obtain ⟨sb, lt, tb, hb, ob, mb, S1, S2, hi, s1, s2, so, sm⟩ := h
  exact ⟨hS b sb, hl, tb, hb, ob, mb, S1, S2, hi, fun k hk => hS k (s1 k hk), fun k hk => hS k (s2 k hk), hS ob so, hS mb sm⟩
theorem SttAt.grow {w w0 : World} {b : Nat} {S : Nat → Prop} {s : StS} (h : SttAt w b S s) : SttAt w b (growI S w0 w) s := h.wide (fun _ => Or.inl) (fun k hk => hk.elim (h.lt k) (fun h => h.2))
theorem SttAt.grow2 {w w0 w2 : World} {b : Nat} {S : Nat → Prop} {s : StS} (h : SttAt w b (growI S w2 w) s) (hz : w0.heap.size ≤ w2.heap.size) : SttAt w b (growI S w0 w) s := h.wide (fun _ hk => hk.imp id fun h => ⟨Nat.le_trans hz h.1, h.2⟩) (fun k hk => hk.elim (fun hs => h.lt k (Or.inl hs)) (fun h => h.2))
/-- what grew first and then again -/
theorem SttAt.grow3 {w w0 w2 : World} {b : Nat} {S : Nat → Prop} {s : StS} (h : SttAt w b (growI (growI S w0 w2) w2 w) s) (hz : w0.heap.size ≤ w2.heap.size) (hz2 : w2.heap.size ≤ w.heap.size) : SttAt w b (growI S w0 w) s :=
  h.wide (fun k hk => by
    rcases hk with (hk | hk) | hk
    · exact Or.inl hk
    · exact Or.inr ⟨hk.1, Nat.lt_of_lt_of_le hk.2 hz2⟩
    · exact Or.inr ⟨Nat.le_trans hz hk.1, hk.2⟩) (fun k hk => hk.elim (fun hs => h.lt k (Or.inl (Or.inl hs))) (fun h => h.2))
theorem Mod.grow {S : Nat → Prop} {w w1 w2 : World} (h : Mod S w w1) (h2 : Mod (growI S w w1) w1 w2) : Mod S w w2 := h.trans' h2 fun _ hk hg => hg.elim id fun h => absurd hk (Nat.not_lt.2 h.1)
/-- the tree alone was written, and more has come -/
theorem StIn.tree {w w' : World} {b tb hb ob mb : Nat} {S1 S2 : Nat → Prop} {s : StS} {t' : TrS} (h : StIn w b tb hb ob mb S1 S2 s) (ht : TreeAt w' tb (growI S1 w w') t') (hM : Mod S1 w w') : StIn w' b tb hb ob mb (growI S1 w w') S2 { s with t := t' } := by
  have hno : ∀ k, k < w.heap.size → ¬ S1 k → ¬ growI S1 w w' k := fun _ hk h1 hg => hg.elim h1 fun h => absurd hk (Nat.not_lt.2 h.1)
  have hbl : b < w.heap.size := cell_lt h.c0
  have hol : ob < w.heap.size := cell_lt h.on.1
  exact ⟨hM.at h.c0 h.b1, hM.at h.c1 h.b1, hM.at h.c2 h.b1, hM.at h.c3 h.b1, fun j => (hM.frozen (p := ⟨b, j, none⟩) hbl h.b1).trans (h.fz j), ht, h.hd.mod hM (fun k hk h1 => h.ap k h1 hk), h.on.mod hM h.o1 h.m1, fun k hk h2 => hno k (h.hd.lt k h2) (fun h1 => h.ap k h1 h2) hk, hno b hbl h.b1, h.b2, hno ob hol h.o1, h.o2, hno mb h.on.lt h.m1, h.m2, h.om, h.bo, h.bm⟩
theorem StIn.hdl {w w' : World} {b tb hb ob mb : Nat} {S1 S2 : Nat → Prop} {s : StS} {h' : HdS} (h : StIn w b tb hb ob mb S1 S2 s) (hh : HdlAt w' hb S2 h') (hM : Mod S2 w w') : StIn w' b tb hb ob mb S1 S2 { s with h := h' } :=
  ⟨hM.at h.c0 h.b2, hM.at h.c1 h.b2, hM.at h.c2 h.b2, hM.at h.c3 h.b2, fun j => (hM.frozen (p := ⟨b, j, none⟩) (cell_lt h.c0) h.b2).trans (h.fz j), h.tr.mod hM h.ap, hh, h.on.mod hM h.o2 h.m2, h.ap, h.b1, h.b2, h.o1, h.o2, h.m1, h.m2, h.om, h.bo, h.bm⟩
theorem StIn.once {w w' : World} {b tb hb ob mb : Nat} {S1 S2 : Nat → Prop} {s : StS} {o' : OM} (h : StIn w b tb hb ob mb S1 S2 s) (ho : OnceAt w' ob mb o') (hM : Mod (· = mb) w w') : StIn w' b tb hb ob mb S1 S2 { s with o := o' } :=
  ⟨hM.at h.c0 h.bm, hM.at h.c1 h.bm, hM.at h.c2 h.bm, hM.at h.c3 h.bm, fun j => (hM.frozen (p := ⟨b, j, none⟩) (cell_lt h.c0) h.bm).trans (h.fz j), h.tr.mod hM (fun k hk e => h.m1 (by rw [← e]; exact hk)), h.hd.mod hM (fun k hk e => h.m2 (by rw [← e]; exact hk)), ho, h.ap, h.b1, h.b2, h.o1, h.o2, h.m1, h.m2, h.om, h.bo, h.bm⟩
theorem StIn.nxt {w : World} {b tb hb ob mb : Nat} {S1 S2 : Nat → Prop} {s : StS} (h : StIn w b tb hb ob mb S1 S2 s) (n : Int) : StIn (w.setCell ⟨b, 3, none⟩ (.int .i64 n)) b tb hb ob mb S1 S2 { s with next := n } := by
  have hM : Mod (· = b) w (w.setCell ⟨b, 3, none⟩ (.int .i64 n)) := (Mod.refl (· = b) w).setCellAt (fun _ => rfl) _
  have hc3 := h.c3
  exact ⟨by have := h.c0; go_simp, by have := h.c1; go_simp, by have := h.c2; go_simp, by go_simp, fun j => (World.frozen?_setCell _ _ _ _).trans (h.fz j), h.tr.mod hM (fun k hk e => h.b1 (by rw [← e]; exact hk)), h.hd.mod hM (fun k hk e => h.b2 (by rw [← e]; exact hk)), h.on.mod hM (fun e => h.bo e.symm) (fun e => h.bm e.symm), h.ap, h.b1, h.b2, h.o1, h.o2, h.m1, h.m2, h.om, h.bo, h.bm⟩
/-- the whole from its parts, grown -/
theorem StIn.at {w w' : World} {b tb hb ob mb : Nat} {S S1 S2 : Nat → Prop} {s' : StS} (h : StIn w' b tb hb ob mb S1 S2 s') (sb : S b) (lt : ∀ k, S k → k < w.heap.size) (hz : w.heap.size ≤ w'.heap.size) (s1 : ∀ k, S1 k → growI S w w' k) (s2 : ∀ k, S2 k → growI S w w' k) (so : S ob) (sm : S mb) : SttAt w' b (growI S w w') s' :=
  ⟨Or.inl sb, fun k hk => hk.elim (fun h => Nat.lt_of_lt_of_le (lt k h) hz) (fun h => h.2), tb, hb, ob, mb, S1, S2, h, s1, s2, Or.inl so, Or.inl sm⟩
set_option maxRecDepth 100000 in
set_option maxHeartbeats 1000000 in
theorem stNew_any (w : World) : Calls Tryz.prog 17 #[] w fun e w' => ∃ b, e = .returned (.pointer (some ⟨b, 0, none⟩)) ∧ SttAt w' b (fun k => w.heap.size ≤ k ∧ k < w'.heap.size) st0 ∧ Below w.heap.size w w' := by
  go_enter Tryz.func17, Tryz.ntmps17
  go_wp2_with fail
  refine (trNew_any _).mono ?_
  rintro e w1 ⟨tb, rfl, hT1, hB1⟩
  go_wp2_with fail
  refine (hdlNew_any _).mono ?_
  rintro e w2 ⟨hb, rfl, hH2, hB2⟩
  go_wp2_with fail
  refine (onceNew_any _).mono ?_
  rintro e w3 ⟨ob, mb, rfl, hO3, ho, hm, hom, hB3⟩
  go_wp2_with fail
  go_ret
  have hB4 : Below w3.heap.size w3 (w3.alloc (.cells #[.pointer (some ⟨tb, 0, none⟩), .pointer (some ⟨hb, 0, none⟩), .pointer (some ⟨ob, 0, none⟩), .int .i64 0] 77)) := by exact belC (Below.refl _ _)
  have z1 := hB1.size
  have z2 := hB2.size
  have z3 := hB3.size
  have hol : ob < w3.heap.size := cell_lt hO3.1
  have hml := hO3.lt
  refine ⟨w3.heap.size, rfl, ⟨⟨by omega, by simp⟩, fun k hk => hk.2, tb, hb, ob, mb, _, _, ⟨by go_simp, by go_simp, by go_simp, by go_simp; rfl, fun j => by go_simp, ((hT1.below' hB2).below' hB3).below' hB4, (hH2.below' hB3).below' hB4, hO3.mod (F := none') (Mod.of_below hB4) id id, fun k h1 h2 => by omega, fun h => by omega, fun h => by omega, fun h => by omega, fun h => by omega, fun h => by omega, fun h => by omega, hom, by omega, by omega⟩, fun k hk => ⟨hk.1, by simp; omega⟩, fun k hk => ⟨by omega, by simp; omega⟩, ⟨by omega, by simp; omega⟩, ⟨by omega, by simp; omega⟩⟩, hB1.trans (((hB2.trans (hB3.mono z2)).trans (hB4.mono (by omega))).mono z1)⟩
end Go.Proofs.YtdbhbdlljgaleaaGreatDoor
/- package state: what is done by paths -/
namespace Go.Proofs.YtdbhbdlljgaleaaGreatDoor
open Go.RowKit Esch Go.Shelf

/-- what a kind of record leaves -/
def DoesPost (w : World) (b : Nat) (S : Nat → Prop) (r : RSt) (e : Ending) (w' : World) : Prop := e = .returned (.agg #[.int .i64 r.1.1, .int .i64 r.1.2]) ∧ SttAt w' b (growI S w w') r.2 ∧ Mod S w w'
abbrev opCells (o : OpS) : Value := .agg o.cells.toArray
/-- the state behind a call on its tree -/
theorem tree_done {w W1 W2 w' : World} {b tb hb ob mb : Nat} {S S1 S2 : Nat → Prop} {s : StS} {t' : TrS} (hi : StIn W1 b tb hb ob mb S1 S2 s) (hM1 : Mod S w W1) (ht : TreeAt W2 tb (growI S1 W1 W2) t') (hM : Mod S1 W1 W2) (hB : Mod (· = w.heap.size + 1) W2 w') (n1 : w.heap.size + 1 < W1.heap.size) (hlt : ∀ k, S k → k < w.heap.size) (sb : S b) (s1 : ∀ k, S1 k → S k) (s2 : ∀ k, S2 k → S k) (so : S ob) (sm : S mb) :
    SttAt w' b (growI S w w') { s with t := t' } ∧ Mod S w w' := by
  have hz1 := hM1.size
  have hz2 := hM.size
  have hz3 := hB.size
  have hne : ∀ k, S k → ¬ k = w.heap.size + 1 := fun k hk e => by have := hlt k hk; omega
  have h2 := (hi.tree ht hM).mod hB (hne b sb) (hne ob so) (hne mb sm) (fun k hk e => by
    rcases hk with hk | hk
    · exact hne k (s1 k hk) e
    · omega) (fun k hk => hne k (s2 k hk))
  refine ⟨h2.at sb hlt (by omega) (fun k hk => ?_) (fun k hk => Or.inl (s2 k hk)) so sm, ?_⟩
  · rcases hk with hk | hk
    · exact Or.inl (s1 k hk)
    · exact Or.inr ⟨by omega, by omega⟩
  · exact (hM1.trans (hM.mono fun k _ hk => s1 k hk)).trans' hB (fun k hk e => by have e : k = w.heap.size + 1 := e; omega)
end Go.Proofs.YtdbhbdlljgaleaaGreatDoor
/- package state: close, write, renew, image -/
namespace Go.Proofs.YtdbhbdlljgaleaaGreatDoor
open Go.RowKit Esch Go.Shelf

/-- the state on the way: what was at w is now as it stands at W -/
structure StCur (w W : World) (b tb hb ob mb : Nat) (S S1 S2 : Nat → Prop) (s : StS) : Prop where
  hi : StIn W b tb hb ob mb S1 S2 s
  mod : Mod S w W
  s1 : ∀ k, S1 k → growI S w W k
  s2 : ∀ k, S2 k → S k
  sb : S b
  so : S ob
  sm : S mb
  lt : ∀ k, S k → k < w.heap.size
theorem StCur.other {w W W' : World} {b tb hb ob mb : Nat} {S S1 S2 F : Nat → Prop} {s : StS} (h : StCur w W b tb hb ob mb S S1 S2 s) (hM : Mod F W W') (hF : ∀ k, F k → w.heap.size ≤ k) (h1 : ∀ k, S1 k → ¬ F k) : StCur w W' b tb hb ob mb S S1 S2 s := by
  have hno : ∀ k, S k → ¬ F k := fun k hk hf => by have := h.lt k hk; have := hF k hf; omega
  exact ⟨h.hi.mod hM (hno b h.sb) (hno ob h.so) (hno mb h.sm) h1 (fun k hk => hno k (h.s2 k hk)), h.mod.trans' hM (fun k hk hf => by have := hF k hf; omega), fun k hk => (h.s1 k hk).imp id fun h => ⟨h.1, Nat.lt_of_lt_of_le h.2 hM.size⟩, h.s2, h.sb, h.so, h.sm, h.lt⟩
theorem StCur.below {w W W' : World} {b tb hb ob mb : Nat} {S S1 S2 : Nat → Prop} {s : StS} (h : StCur w W b tb hb ob mb S S1 S2 s) (hB : Below W.heap.size W W') : StCur w W' b tb hb ob mb S S1 S2 s := h.other (F := none') (Mod.of_below hB) (fun _ h => h.elim) (fun _ _ => id)
theorem StCur.tree {w W W' : World} {b tb hb ob mb : Nat} {S S1 S2 : Nat → Prop} {s : StS} {t' : TrS} (h : StCur w W b tb hb ob mb S S1 S2 s) (ht : TreeAt W' tb (growI S1 W W') t') (hM : Mod S1 W W') : StCur w W' b tb hb ob mb S (growI S1 W W') S2 { s with t := t' } := by
  have hz := h.mod.size
  refine ⟨h.hi.tree ht hM, h.mod.trans' hM (fun k hk hf => (h.s1 k hf).elim id fun h => by omega), fun k hk => ?_, h.s2, h.sb, h.so, h.sm, h.lt⟩
  rcases hk with hk | hk
  · exact (h.s1 k hk).imp id fun h => ⟨h.1, Nat.lt_of_lt_of_le h.2 hM.size⟩
  · exact Or.inr ⟨by omega, hk.2⟩
theorem StCur.hdl {w W W' : World} {b tb hb ob mb : Nat} {S S1 S2 : Nat → Prop} {s : StS} {h' : HdS} (h : StCur w W b tb hb ob mb S S1 S2 s) (hh : HdlAt W' hb S2 h') (hM : Mod S2 W W') : StCur w W' b tb hb ob mb S S1 S2 { s with h := h' } :=
  ⟨h.hi.hdl hh hM, h.mod.trans (hM.mono fun k _ hk => h.s2 k hk), fun k hk => (h.s1 k hk).imp id fun h => ⟨h.1, Nat.lt_of_lt_of_le h.2 hM.size⟩, h.s2, h.sb, h.so, h.sm, h.lt⟩
theorem StCur.done {w W : World} {b tb hb ob mb : Nat} {S S1 S2 : Nat → Prop} {s : StS} (h : StCur w W b tb hb ob mb S S1 S2 s) : SttAt W b (growI S w W) s ∧ Mod S w W :=
  ⟨h.hi.at h.sb h.lt h.mod.size h.s1 (fun k hk => Or.inl (h.s2 k hk)) h.so h.sm, h.mod⟩
/-- a block that is new since w, and no part of the tree's -/
theorem StCur.fresh {w W : World} {b tb hb ob mb : Nat} {S S1 S2 : Nat → Prop} {s : StS} (h : StCur w W b tb hb ob mb S S1 S2 s) {k : Nat} (hk : w.heap.size ≤ k) : ¬ S2 k := fun h2 => by have := h.lt k (h.s2 k h2); omega
/-- the table of a tree -/
theorem tree_tab {w : World} {tb : Nat} {S1 : Nat → Prop} {t : TrS} (h : TreeAt w tb S1 t) : ∃ ib Sa, TabAt w ib Sa t.t ∧ (∀ k, Sa k → S1 k) ∧ Calls Tryz.prog 28 #[.pointer (some ⟨tb, 0, none⟩)] w (fun e w' => e = .returned (.pointer (some ⟨ib, 0, none⟩)) ∧ w' = w) ∧
    ∀ w' t', TabAt w' ib (growI Sa w w') t' → Mod Sa w w' → TreeAt w' tb (growI S1 w w') ⟨t', t.n⟩ ∧ Mod S1 w w' := by
  obtain ⟨sb, lt, ib, nb, Sa, S2, c0, c1, ht, hn, s1, s2, dd, b1, b2⟩ := h
  refine ⟨ib, Sa, ht, s1, ?_, fun w' t' h1 h2 => TreeAt.tabG (s := t) sb lt c0 c1 hn s1 s2 dd b1 b2 h1 h2⟩
  clear ht hn
  go_enter Tryz.func28, Tryz.ntmps28
  go_wp2_with fail
  go_ret
  exact ⟨rfl, rfl⟩
theorem TabPost.g {w w' : World} {b : Nat} {S : Nat → Prop} {r : Int × TabS} {e : Ending} (h : TabPost w b S r e w') (hl : ∀ k, S k → k < w.heap.size) : e = .returned (.int .i64 r.1) ∧ TabAt w' b (growI S w w') r.2 ∧ Mod S w w' :=
  ⟨h.1, h.2.1.wide (fun _ => Or.inl) (fun k hk => hk.elim (fun hs => Nat.lt_of_lt_of_le (hl k hs) h.2.2.size) (fun h => h.2)), h.2.2⟩
set_option linter.unusedSimpArgs false
theorem close_err (s : HdS) (c n : Int) (h : (s.close c n).1.2 ≠ 0) : (s.close c n).2 = s := by
  unfold HdS.close at *
  split at h
  · rfl
  · exact absurd rfl h
end Go.Proofs.YtdbhbdlljgaleaaGreatDoor
/- package state: write, open -/
namespace Go.Proofs.YtdbhbdlljgaleaaGreatDoor
open Go.RowKit Esch Go.Shelf

set_option linter.unusedSimpArgs false
theorem res_err (s : TrS) : ∀ (l : List Nm) (d e : Int), s.res d l = .err e → e ≠ 0
  | [], _, _, h => by cases h
  | n :: l, d, e, h => by
    unfold TrS.res at h
    split at h
    · cases h; decide
    · split at h
      · cases h; decide
      · exact res_err s l _ e h
theorem resolve_err (s : TrS) (p : Nm) (e : Int) (h : s.resolve p = .err e) : e ≠ 0 := by
  unfold TrS.resolve at h
  split at h
  · cases h; decide
  · exact res_err s _ _ _ h
theorem hopn_err (s : HdS) (c n i : Int) (h : (s.opn c n i).1 ≠ 0) : (s.opn c n i).2 = s := by
  unfold HdS.opn at *
  split
  · rfl
  split
  · rfl
  split
  · rfl
  · rename_i h1 h2 h3
    rw [if_neg h1, if_neg h2, if_neg h3] at h
    exact absurd rfl h
theorem topn_err (s : TabS) (i d : Int) (h : (s.opn i d).1 ≠ 0) : (s.opn i d).2 = s := by
  unfold TabS.opn at *
  split
  · rfl
  split
  · rfl
  split
  · rfl
  split
  · rfl
  · rename_i h1 h2 h3 h4
    rw [if_neg h1, if_neg h2, if_neg h3, if_neg h4] at h
    exact absurd rfl h
end Go.Proofs.YtdbhbdlljgaleaaGreatDoor
