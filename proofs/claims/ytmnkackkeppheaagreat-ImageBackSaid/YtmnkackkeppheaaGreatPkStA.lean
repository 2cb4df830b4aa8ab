import Derived.Test.YtmnkackkeppheaaGreatPkOpA
import Derived.Test.YtmnkackkeppheaaGreatPkTre
/- package state: where a state lies; New, Next, Tree, Handles, Once -/
namespace Go.Proofs.YtmnkackkeppheaaGreat
open Go.RowKit Esch Go.Shelf

/-- a state's parts, each in its own blocks -/
structure StIn (w : World) (b tb hb ob mb : Nat) (S1 S2 : Nat → Prop) (s : StS) : Prop where
  c0 : w.cell? ⟨b, 0, none⟩ = some (.pointer (some ⟨tb, 0, none⟩))
  c1 : w.cell? ⟨b, 1, none⟩ = some (.pointer (some ⟨hb, 0, none⟩))
  c2 : w.cell? ⟨b, 2, none⟩ = some (.pointer (some ⟨ob, 0, none⟩))
  c3 : w.cell? ⟨b, 3, none⟩ = some (.int .i64 s.next)
  fz : ∀ j, w.frozen? ⟨b, j, none⟩ = false
  tr : TreeAt w tb S1 s.t
  hd : HdlAt w hb S2 s.h
  on : OnceAt w ob mb s.o
  ap : ∀ k, S1 k → ¬ S2 k
  b1 : ¬ S1 b
  b2 : ¬ S2 b
  o1 : ¬ S1 ob
  o2 : ¬ S2 ob
  m1 : ¬ S1 mb
  m2 : ¬ S2 mb
  om : ob ≠ mb
  bo : b ≠ ob
  bm : b ≠ mb
structure SttAt (w : World) (b : Nat) (S : Nat → Prop) (s : StS) : Prop where
  sb : S b
  lt : ∀ k, S k → k < w.heap.size
  ex : ∃ tb hb ob mb S1 S2, StIn w b tb hb ob mb S1 S2 s ∧ (∀ k, S1 k → S k) ∧ (∀ k, S2 k → S k) ∧ S ob ∧ S mb
theorem StIn.mod {w w' : World} {b tb hb ob mb : Nat} {S1 S2 F : Nat → Prop} {s : StS} (h : StIn w b tb hb ob mb S1 S2 s) (hM : Mod F w w') (fb : ¬ F b) (fo : ¬ F ob) (fm : ¬ F mb) (f1 : ∀ k, S1 k → ¬ F k) (f2 : ∀ k, S2 k → ¬ F k) : StIn w' b tb hb ob mb S1 S2 s :=
  ⟨hM.at h.c0 fb, hM.at h.c1 fb, hM.at h.c2 fb, hM.at h.c3 fb, fun j => (hM.frozen (p := ⟨b, j, none⟩) (cell_lt h.c0) fb).trans (h.fz j), h.tr.mod hM f1, h.hd.mod hM f2, h.on.mod hM fo fm, h.ap, h.b1, h.b2, h.o1, h.o2, h.m1, h.m2, h.om, h.bo, h.bm⟩
/-- the tree alone was written, and more has come -/
theorem StIn.tree {w w' : World} {b tb hb ob mb : Nat} {S1 S2 : Nat → Prop} {s : StS} {t' : TrS} (h : StIn w b tb hb ob mb S1 S2 s) (ht : TreeAt w' tb (growI S1 w w') t') (hM : Mod S1 w w') : StIn w' b tb hb ob mb (growI S1 w w') S2 { s with t := t' } := by
  have hno : ∀ k, k < w.heap.size → ¬ S1 k → ¬ growI S1 w w' k := fun _ hk h1 hg => hg.elim h1 fun h => absurd hk (Nat.not_lt.2 h.1)
  have hbl : b < w.heap.size := cell_lt h.c0
  have hol : ob < w.heap.size := cell_lt h.on.1
  exact ⟨hM.at h.c0 h.b1, hM.at h.c1 h.b1, hM.at h.c2 h.b1, hM.at h.c3 h.b1, fun j => (hM.frozen (p := ⟨b, j, none⟩) hbl h.b1).trans (h.fz j), ht, h.hd.mod hM (fun k hk h1 => h.ap k h1 hk), h.on.mod hM h.o1 h.m1, fun k hk h2 => hno k (h.hd.lt k h2) (fun h1 => h.ap k h1 h2) hk, hno b hbl h.b1, h.b2, hno ob hol h.o1, h.o2, hno mb h.on.lt h.m1, h.m2, h.om, h.bo, h.bm⟩
theorem StIn.hdl {w w' : World} {b tb hb ob mb : Nat} {S1 S2 : Nat → Prop} {s : StS} {h' : HdS} (h : StIn w b tb hb ob mb S1 S2 s) (hh : HdlAt w' hb S2 h') (hM : Mod S2 w w') : StIn w' b tb hb ob mb S1 S2 { s with h := h' } :=
  ⟨hM.at h.c0 h.b2, hM.at h.c1 h.b2, hM.at h.c2 h.b2, hM.at h.c3 h.b2, fun j => (hM.frozen (p := ⟨b, j, none⟩) (cell_lt h.c0) h.b2).trans (h.fz j), h.tr.mod hM h.ap, hh, h.on.mod hM h.o2 h.m2, h.ap, h.b1, h.b2, h.o1, h.o2, h.m1, h.m2, h.om, h.bo, h.bm⟩
theorem StIn.once {w w' : World} {b tb hb ob mb : Nat} {S1 S2 : Nat → Prop} {s : StS} {o' : OM} (h : StIn w b tb hb ob mb S1 S2 s) (ho : OnceAt w' ob mb o') (hM : Mod (· = mb) w w') : StIn w' b tb hb ob mb S1 S2 { s with o := o' } :=
  ⟨hM.at h.c0 h.bm, hM.at h.c1 h.bm, hM.at h.c2 h.bm, hM.at h.c3 h.bm, fun j => (hM.frozen (p := ⟨b, j, none⟩) (cell_lt h.c0) h.bm).trans (h.fz j), h.tr.mod hM (fun k hk e => h.m1 (by rw [← e]; exact hk)), h.hd.mod hM (fun k hk e => h.m2 (by rw [← e]; exact hk)), ho, h.ap, h.b1, h.b2, h.o1, h.o2, h.m1, h.m2, h.om, h.bo, h.bm⟩
theorem StIn.nxt {w : World} {b tb hb ob mb : Nat} {S1 S2 : Nat → Prop} {s : StS} (h : StIn w b tb hb ob mb S1 S2 s) (n : Int) : StIn (w.setCell ⟨b, 3, none⟩ (.int .i64 n)) b tb hb ob mb S1 S2 { s with next := n } := by
  have hM : Mod (· = b) w (w.setCell ⟨b, 3, none⟩ (.int .i64 n)) := (Mod.refl (· = b) w).setCellAt (fun _ => rfl) _
  have hc3 := h.c3
  exact ⟨by have := h.c0; go_simp, by have := h.c1; go_simp, by have := h.c2; go_simp, by go_simp, fun j => (World.frozen?_setCell _ _ _ _).trans (h.fz j), h.tr.mod hM (fun k hk e => h.b1 (by rw [← e]; exact hk)), h.hd.mod hM (fun k hk e => h.b2 (by rw [← e]; exact hk)), h.on.mod hM (fun e => h.bo e.symm) (fun e => h.bm e.symm), h.ap, h.b1, h.b2, h.o1, h.o2, h.m1, h.m2, h.om, h.bo, h.bm⟩
set_option maxRecDepth 100000 in
set_option maxHeartbeats 1000000 in
theorem stNew_any (w : World) : Calls Tryz.prog 14 #[] w fun e w' => ∃ b, e = .returned (.pointer (some ⟨b, 0, none⟩)) ∧ SttAt w' b (fun k => w.heap.size ≤ k ∧ k < w'.heap.size) st0 ∧ Below w.heap.size w w' := by
  go_enter Tryz.func14, Tryz.ntmps14
  go_wp2_with fail
  refine (trNew_any _).mono ?_
  rintro e w1 ⟨tb, rfl, hT1, hB1⟩
  go_wp2_with fail
  refine (hdlNew_any _).mono ?_
  rintro e w2 ⟨hb, rfl, hH2, hB2⟩
  go_wp2_with fail
  refine (onceNew_any _).mono ?_
  rintro e w3 ⟨ob, mb, rfl, hO3, ho, hm, hom, hB3⟩
  go_wp2_with fail
  go_ret
  have hB4 : Below w3.heap.size w3 (w3.alloc (.cells #[.pointer (some ⟨tb, 0, none⟩), .pointer (some ⟨hb, 0, none⟩), .pointer (some ⟨ob, 0, none⟩), .int .i64 0] 129)) := by exact belC (Below.refl _ _)
  have z1 := hB1.size
  have z2 := hB2.size
  have z3 := hB3.size
  have hol : ob < w3.heap.size := cell_lt hO3.1
  have hml := hO3.lt
  refine ⟨w3.heap.size, rfl, ⟨⟨by omega, by simp⟩, fun k hk => hk.2, tb, hb, ob, mb, _, _, ⟨by go_simp, by go_simp, by go_simp, by go_simp; rfl, fun j => by go_simp, ((hT1.below' hB2).below' hB3).below' hB4, (hH2.below' hB3).below' hB4, hO3.mod (F := none') (Mod.of_below hB4) id id, fun k h1 h2 => by omega, fun h => by omega, fun h => by omega, fun h => by omega, fun h => by omega, fun h => by omega, fun h => by omega, hom, by omega, by omega⟩, fun k hk => ⟨hk.1, by simp; omega⟩, fun k hk => ⟨by omega, by simp; omega⟩, ⟨by omega, by simp; omega⟩, ⟨by omega, by simp; omega⟩⟩, hB1.trans (((hB2.trans (hB3.mono z2)).trans (hB4.mono (by omega))).mono z1)⟩
end Go.Proofs.YtmnkackkeppheaaGreat
/- package state: what is done by paths -/
namespace Go.Proofs.YtmnkackkeppheaaGreat
open Go.RowKit Esch Go.Shelf

end Go.Proofs.YtmnkackkeppheaaGreat
/- package state: close, write, renew, image -/
namespace Go.Proofs.YtmnkackkeppheaaGreat
open Go.RowKit Esch Go.Shelf

set_option linter.unusedSimpArgs false
end Go.Proofs.YtmnkackkeppheaaGreat
/- package state: write, open -/
namespace Go.Proofs.YtmnkackkeppheaaGreat
open Go.RowKit Esch Go.Shelf

set_option linter.unusedSimpArgs false
end Go.Proofs.YtmnkackkeppheaaGreat
