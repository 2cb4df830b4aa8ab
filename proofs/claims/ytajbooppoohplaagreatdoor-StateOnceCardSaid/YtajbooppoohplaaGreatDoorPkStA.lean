import Derived.Test.YtajbooppoohplaaGreatDoorMac
import Derived.Test.YtajbooppoohplaaGreatDoorStM
import Derived.Test.YtajbooppoohplaaGreatDoorPkTrf
import Derived.Test.YtajbooppoohplaaGreatDoorPkTrg
/- package state: where a state lies; New, Next, Tree, Handles, Once -/
set_option maxRecDepth 100000
set_option maxHeartbeats 4000000
namespace Go.Proofs.YtajbooppoohplaaGreatDoor
open Go.RowKit Esch Go.Shelf

/-- a state's parts, each in its own blocks -/
structure StIn (w : World) (b tb hb ob mb : Nat) (S1 S2 : Nat → Prop) (s : StS) : Prop where
  c0 : w.cell? ⟨b, 0, none⟩ = some (.pointer (some ⟨tb, 0, none⟩))
  c1 : w.cell? ⟨b, 1, none⟩ = some (.pointer (some ⟨hb, 0, none⟩))
  c2 : w.cell? ⟨b, 2, none⟩ = some (.pointer (some ⟨ob, 0, none⟩))
  c3 : w.cell? ⟨b, 3, none⟩ = some (.int .i64 s.next)
  fz : ∀ j, w.frozen? ⟨b, j, none⟩ = false
  tr : TreeAt w tb S1 s.t
  hd : HdlAt w hb S2 s.h
  on : OnceAt w ob mb s.o
  ap : ∀ k, S1 k → ¬ S2 k
  b1 : ¬ S1 b
  b2 : ¬ S2 b
  o1 : ¬ S1 ob
  o2 : ¬ S2 ob
  m1 : ¬ S1 mb
  m2 : ¬ S2 mb
  om : ob ≠ mb
  bo : b ≠ ob
  bm : b ≠ mb
structure SttAt (w : World) (b : Nat) (S : Nat → Prop) (s : StS) : Prop where
  sb : S b
  lt : ∀ k, S k → k < w.heap.size
  ex : ∃ tb hb ob mb S1 S2, StIn w b tb hb ob mb S1 S2 s ∧ (∀ k, S1 k → S k) ∧ (∀ k, S2 k → S k) ∧ S ob ∧ S mb
theorem StIn.mod {w w' : World} {b tb hb ob mb : Nat} {S1 S2 F : Nat → Prop} {s : StS} (h : StIn w b tb hb ob mb S1 S2 s) (hM : Mod F w w') (fb : ¬ F b) (fo : ¬ F ob) (fm : ¬ F mb) (f1 : ∀ k, S1 k → ¬ F k) (f2 : ∀ k, S2 k → ¬ F k) : StIn w' b tb hb ob mb S1 S2 s :=
  ⟨hM.at h.c0 fb, hM.at h.c1 fb, hM.at h.c2 fb, hM.at h.c3 fb, fun j => (hM.frozen (p := ⟨b, j, none⟩) (cell_lt h.c0) fb).trans (h.fz j), h.tr.mod hM f1, h.hd.mod hM f2, h.on.mod hM fo fm, h.ap, h.b1, h.b2, h.o1, h.o2, h.m1, h.m2, h.om, h.bo, h.bm⟩
theorem SttAt.mod {w w' : World} {b : Nat} {S F : Nat → Prop} {s : StS} (h : SttAt w b S s) (hM : Mod F w w') (hF : ∀ k, S k → ¬ F k) : SttAt w' b S s := by
 obtain ⟨sb, lt, tb, hb, ob, mb, S1, S2, hi, s1, s2, so, sm⟩ := h
 exact ⟨sb, fun k hk => Nat.lt_of_lt_of_le (lt k hk) hM.size, tb, hb, ob, mb, S1, S2, hi.mod hM (hF b sb) (hF ob so) (hF mb sm) (fun k hk => hF k (s1 k hk)) (fun k hk => hF k (s2 k hk)), s1, s2, so, sm⟩
theorem SttAt.below' {w w' : World} {b : Nat} {S : Nat → Prop} {s : StS} (h : SttAt w b S s) (hB : Below w.heap.size w w') : SttAt w' b S s := h.mod (F := none') (Mod.of_below hB) fun _ _ => id
theorem SttAt.wide {w : World} {b : Nat} {S T : Nat → Prop} {s : StS} (h : SttAt w b S s) (hS : ∀ k, S k → T k) (hl : ∀ k, T k → k < w.heap.size) : SttAt w b T s := by
 obtain ⟨sb, lt, tb, hb, ob, mb, S1, S2, hi, s1, s2, so, sm⟩ := h
 exact ⟨hS b sb, hl, tb, hb, ob, mb, S1, S2, hi, fun k hk => hS k (s1 k hk), fun k hk => hS k (s2 k hk), hS ob so, hS mb sm⟩
/-- the tree alone was written, and more has come -/
theorem StIn.tree {w w' : World} {b tb hb ob mb : Nat} {S1 S2 : Nat → Prop} {s : StS} {t' : TrS} (h : StIn w b tb hb ob mb S1 S2 s) (ht : TreeAt w' tb (growI S1 w w') t') (hM : Mod S1 w w') : StIn w' b tb hb ob mb (growI S1 w w') S2 { s with t := t' } := by
 have hno : ∀ k, k < w.heap.size → ¬ S1 k → ¬ growI S1 w w' k := fun _ hk h1 hg => hg.elim h1 fun h => absurd hk (Nat.not_lt.2 h.1)
 have hbl : b < w.heap.size := cell_lt h.c0
 have hol : ob < w.heap.size := cell_lt h.on.1
 exact ⟨hM.at h.c0 h.b1, hM.at h.c1 h.b1, hM.at h.c2 h.b1, hM.at h.c3 h.b1, fun j => (hM.frozen (p := ⟨b, j, none⟩) hbl h.b1).trans (h.fz j), ht, h.hd.mod hM (fun k hk h1 => h.ap k h1 hk), h.on.mod hM h.o1 h.m1, fun k hk h2 => hno k (h.hd.lt k h2) (fun h1 => h.ap k h1 h2) hk, hno b hbl h.b1, h.b2, hno ob hol h.o1, h.o2, hno mb h.on.lt h.m1, h.m2, h.om, h.bo, h.bm⟩
theorem StIn.hdl {w w' : World} {b tb hb ob mb : Nat} {S1 S2 : Nat → Prop} {s : StS} {h' : HdS} (h : StIn w b tb hb ob mb S1 S2 s) (hh : HdlAt w' hb S2 h') (hM : Mod S2 w w') : StIn w' b tb hb ob mb S1 S2 { s with h := h' } :=
  ⟨hM.at h.c0 h.b2, hM.at h.c1 h.b2, hM.at h.c2 h.b2, hM.at h.c3 h.b2, fun j => (hM.frozen (p := ⟨b, j, none⟩) (cell_lt h.c0) h.b2).trans (h.fz j), h.tr.mod hM h.ap, hh, h.on.mod hM h.o2 h.m2, h.ap, h.b1, h.b2, h.o1, h.o2, h.m1, h.m2, h.om, h.bo, h.bm⟩
theorem StIn.once {w w' : World} {b tb hb ob mb : Nat} {S1 S2 : Nat → Prop} {s : StS} {o' : OM} (h : StIn w b tb hb ob mb S1 S2 s) (ho : OnceAt w' ob mb o') (hM : Mod (· = mb) w w') : StIn w' b tb hb ob mb S1 S2 { s with o := o' } :=
  ⟨hM.at h.c0 h.bm, hM.at h.c1 h.bm, hM.at h.c2 h.bm, hM.at h.c3 h.bm, fun j => (hM.frozen (p := ⟨b, j, none⟩) (cell_lt h.c0) h.bm).trans (h.fz j), h.tr.mod hM (fun k hk e => h.m1 (by rw [← e]; exact hk)), h.hd.mod hM (fun k hk e => h.m2 (by rw [← e]; exact hk)), ho, h.ap, h.b1, h.b2, h.o1, h.o2, h.m1, h.m2, h.om, h.bo, h.bm⟩
theorem StIn.nxt {w : World} {b tb hb ob mb : Nat} {S1 S2 : Nat → Prop} {s : StS} (h : StIn w b tb hb ob mb S1 S2 s) (n : Int) : StIn (w.setCell ⟨b, 3, none⟩ (.int .i64 n)) b tb hb ob mb S1 S2 { s with next := n } := by
 have hM : Mod (· = b) w (w.setCell ⟨b, 3, none⟩ (.int .i64 n)) := (Mod.refl (· = b) w).setCellAt (fun _ => rfl) _
 have hc3 := h.c3
 exact ⟨by have := h.c0; go_simp, by have := h.c1; go_simp, by have := h.c2; go_simp, by go_simp, fun j => (World.frozen?_setCell _ _ _ _).trans (h.fz j), h.tr.mod hM (fun k hk e => h.b1 (by rw [← e]; exact hk)), h.hd.mod hM (fun k hk e => h.b2 (by rw [← e]; exact hk)), h.on.mod hM (fun e => h.bo e.symm) (fun e => h.bm e.symm), h.ap, h.b1, h.b2, h.o1, h.o2, h.m1, h.m2, h.om, h.bo, h.bm⟩
/-- the whole from its parts, grown -/
theorem StIn.at {w w' : World} {b tb hb ob mb : Nat} {S S1 S2 : Nat → Prop} {s' : StS} (h : StIn w' b tb hb ob mb S1 S2 s') (sb : S b) (lt : ∀ k, S k → k < w.heap.size) (hz : w.heap.size ≤ w'.heap.size) (s1 : ∀ k, S1 k → growI S w w' k) (s2 : ∀ k, S2 k → growI S w w' k) (so : S ob) (sm : S mb) : SttAt w' b (growI S w w') s' :=
  ⟨Or.inl sb, fun k hk => hk.elim (fun h => Nat.lt_of_lt_of_le (lt k h) hz) (fun h => h.2), tb, hb, ob, mb, S1, S2, h, s1, s2, Or.inl so, Or.inl sm⟩
theorem stNew_any (w : World) : Calls Tryz.prog 8 #[] w fun e w' => ∃ b, e = .returned (.pointer (some ⟨b, 0, none⟩)) ∧ SttAt w' b (fun k => w.heap.size ≤ k ∧ k < w'.heap.size) st0 ∧ Below w.heap.size w w' := by
 go_enter Tryz.func8, Tryz.ntmps8
 go_wp2_with fail
 refine (trNew_any _).mono ?_
 rintro e w1 ⟨tb, rfl, hT1, hB1⟩
 go_wp2_with fail
 refine (hdlNew_any _).mono ?_
 rintro e w2 ⟨hb, rfl, hH2, hB2⟩
 go_wp2_with fail
 refine (onceNew_any _).mono ?_
 rintro e w3 ⟨ob, mb, rfl, hO3, ho, hm, hom, hB3⟩
 go_wp2_with fail
 go_ret
 have hB4 : Below w3.heap.size w3 (w3.alloc (.cells #[.pointer (some ⟨tb, 0, none⟩), .pointer (some ⟨hb, 0, none⟩), .pointer (some ⟨ob, 0, none⟩), .int .i64 0] 73)) := by exact belC (Below.refl _ _)
 have z1 := hB1.size
 have z2 := hB2.size
 have z3 := hB3.size
 have hol : ob < w3.heap.size := cell_lt hO3.1
 have hml := hO3.lt
 refine ⟨w3.heap.size, rfl, ⟨⟨by omega, by simp⟩, fun k hk => hk.2, tb, hb, ob, mb, _, _, ⟨by go_simp, by go_simp, by go_simp, by go_simp; rfl, fun j => by go_simp, ((hT1.below' hB2).below' hB3).below' hB4, (hH2.below' hB3).below' hB4, hO3.mod (F := none') (Mod.of_below hB4) id id, fun k h1 h2 => by omega, fun h => by omega, fun h => by omega, fun h => by omega, fun h => by omega, fun h => by omega, fun h => by omega, hom, by omega, by omega⟩, fun k hk => ⟨hk.1, by simp; omega⟩, fun k hk => ⟨by omega, by simp; omega⟩, ⟨by omega, by simp; omega⟩, ⟨by omega, by simp; omega⟩⟩, hB1.trans (((hB2.trans (hB3.mono z2)).trans (hB4.mono (by omega))).mono z1)⟩
theorem stNext_any (w : World) (b : Nat) (S : Nat → Prop) (s : StS) (h : SttAt w b S s) : Calls Tryz.prog 11 #[.pointer (some ⟨b, 0, none⟩)] w fun e w' => e = .returned (.int .i64 s.next) ∧ w' = w := by
 obtain ⟨sb, lt, tb, hb, ob, mb, S1, S2, hi, s1, s2, so, sm⟩ := h
 have H := Lib.hid hi
 have d0 := hi.c0
 have d1 := hi.c1
 have d2 := hi.c2
 have d3 := hi.c3
 clear hi
 go_enter Tryz.func11, Tryz.ntmps11
 go_wp2_with fail
 go_ret
 exact ⟨rfl, rfl⟩
theorem stTree_any (w : World) (b : Nat) (S : Nat → Prop) (s : StS) (h : SttAt w b S s) : Calls Tryz.prog 14 #[.pointer (some ⟨b, 0, none⟩)] w fun e w' => (∃ tb S1, e = .returned (.pointer (some ⟨tb, 0, none⟩)) ∧ TreeAt w tb S1 s.t) ∧ w' = w := by
 obtain ⟨sb, lt, tb, hb, ob, mb, S1, S2, hi, s1, s2, so, sm⟩ := h
 have H := Lib.hid hi
 have d0 := hi.c0
 have d1 := hi.c1
 have d2 := hi.c2
 have d3 := hi.c3
 clear hi
 go_enter Tryz.func14, Tryz.ntmps14
 go_wp2_with fail
 go_ret
 exact ⟨⟨tb, S1, rfl, H.out.tr⟩, rfl⟩
theorem stOnce_any (w : World) (b : Nat) (S : Nat → Prop) (s : StS) (h : SttAt w b S s) : Calls Tryz.prog 22 #[.pointer (some ⟨b, 0, none⟩)] w fun e w' => (∃ ob mb, e = .returned (.pointer (some ⟨ob, 0, none⟩)) ∧ OnceAt w ob mb s.o) ∧ w' = w := by
 obtain ⟨sb, lt, tb, hb, ob, mb, S1, S2, hi, s1, s2, so, sm⟩ := h
 have H := Lib.hid hi
 have d0 := hi.c0
 have d1 := hi.c1
 have d2 := hi.c2
 have d3 := hi.c3
 clear hi
 go_enter Tryz.func22, Tryz.ntmps22
 go_wp2_with fail
 go_ret
 exact ⟨⟨ob, mb, rfl, H.out.on⟩, rfl⟩
theorem code_any (w : World) (e0 : Int) : Calls Tryz.prog 126 #[.int .i64 e0] w fun e w' => e = .returned (.agg #[.int .i64 e0, .int .i64 0]) ∧ Below w.heap.size w w' := by
 go_enter Tryz.func126, Tryz.ntmps126
 go_wp2_with fail
 refine bodyPost_ret (v := .agg #[.int .i64 e0, .int .i64 0]) (by simp [results, Tryz.results126, go_sem]) rfl ?_
 exact ⟨rfl, by exact belC (Below.refl _ _)⟩
end Go.Proofs.YtajbooppoohplaaGreatDoor
/- package state: what is done by paths -/
namespace Go.Proofs.YtajbooppoohplaaGreatDoor
open Go.RowKit Esch Go.Shelf

/-- what a kind of record leaves -/
def DoesPost (w : World) (b : Nat) (S : Nat → Prop) (r : RSt) (e : Ending) (w' : World) : Prop := e = .returned (.agg #[.int .i64 r.1.1, .int .i64 r.1.2]) ∧ SttAt w' b (growI S w w') r.2 ∧ Mod S w w'
abbrev opCells (o : OpS) : Value := .agg o.cells.toArray
/-- the state behind a call on its tree -/
theorem tree_done {w W1 W2 w' : World} {b tb hb ob mb : Nat} {S S1 S2 : Nat → Prop} {s : StS} {t' : TrS} (hi : StIn W1 b tb hb ob mb S1 S2 s) (hM1 : Mod S w W1) (ht : TreeAt W2 tb (growI S1 W1 W2) t') (hM : Mod S1 W1 W2) (hB : Mod (· = w.heap.size + 1) W2 w') (n1 : w.heap.size + 1 < W1.heap.size) (hlt : ∀ k, S k → k < w.heap.size) (sb : S b) (s1 : ∀ k, S1 k → S k) (s2 : ∀ k, S2 k → S k) (so : S ob) (sm : S mb) :
    SttAt w' b (growI S w w') { s with t := t' } ∧ Mod S w w' := by
 have hz1 := hM1.size
 have hz2 := hM.size
 have hz3 := hB.size
 have hne : ∀ k, S k → ¬ k = w.heap.size + 1 := fun k hk e => by have := hlt k hk; omega
 have h2 := (hi.tree ht hM).mod hB (hne b sb) (hne ob so) (hne mb sm) (fun k hk e => by
   rcases hk with hk | hk
   · exact hne k (s1 k hk) e
   · omega) (fun k hk => hne k (s2 k hk))
 refine ⟨h2.at sb hlt (by omega) (fun k hk => ?_) (fun k hk => Or.inl (s2 k hk)) so sm, ?_⟩
 · rcases hk with hk | hk
   · exact Or.inl (s1 k hk)
   · exact Or.inr ⟨by omega, by omega⟩
 · exact (hM1.trans (hM.mono fun k _ hk => s1 k hk)).trans' hB (fun k hk e => by have e : k = w.heap.size + 1 := e; omega)
theorem name1_any (w : World) (b : Nat) (S : Nat → Prop) (s : StS) (h : SttAt w b S s) (hok : s.t.ok) (addr : Int) (o : OpS) (hk : o.kind = 1) :
    Calls Tryz.prog 75 #[.pointer (some ⟨b, 0, none⟩), .int .i64 addr, opCells o] w (DoesPost w b S (s.tr ((s.t.mk' o.path 1).run s.t))) := by
 obtain ⟨xc, xs, xk, p, q, xz, xh, xo, xt, xi, xn, mp, ml, mc⟩ := o
 simp only at hk
 subst hk
 simp only [StS.tr, opCells, OpS.cells]
 obtain ⟨sb, lt, tb, hb, ob, mb, S1, S2, hi, s1, s2, so, sm⟩ := h
 have hbl : b < w.heap.size := cell_lt hi.c0
 have e0 := hi.c0
 have e1 := hi.c1
 obtain ⟨W1, hW1⟩ : ∃ W1, W1 = (w.alloc (.cells #[.int .i64 xc, .int .i64 xs, .int .i64 1, .string (bs p), .string (bs q), .int .i64 xz, .int .i64 xh, .int .i64 xo, .string xt, .int .i64 xi, .int .i64 xn, .slice mp ml mc] 31)).alloc (.cells #[.int .i64 0, .int .i64 0] 36) := ⟨_, rfl⟩
 have hB1 : Below w.heap.size w W1 := by rw [hW1]; exact belC (Below.refl _ _)
 have hz1 : W1.heap.size = w.heap.size + 2 := by rw [hW1]; simp
 have d0 : W1.cell? ⟨b, 0, none⟩ = some (.pointer (some ⟨tb, 0, none⟩)) := below_at hB1 hi.c0 hbl
 have d1 : W1.cell? ⟨b, 1, none⟩ = some (.pointer (some ⟨hb, 0, none⟩)) := below_at hB1 hi.c1 hbl
 have r0 : W1.cell? ⟨w.heap.size + 1, 0, none⟩ = some (.int .i64 0) := by rw [hW1]; go_simp
 have r1 : W1.cell? ⟨w.heap.size + 1, 1, none⟩ = some (.int .i64 0) := by rw [hW1]; go_simp
 have f0 : W1.frozen? ⟨w.heap.size + 1, 0, none⟩ = false := by rw [hW1]; go_simp
 have f1 : W1.frozen? ⟨w.heap.size + 1, 1, none⟩ = false := by rw [hW1]; go_simp
 have a0 : W1.cell? ⟨w.heap.size, 0, none⟩ = some (.int .i64 xc) := by rw [hW1]; go_simp
 have a2 : W1.cell? ⟨w.heap.size, 2, none⟩ = some (.int .i64 1) := by rw [hW1]; go_simp
 have a3 : W1.cell? ⟨w.heap.size, 3, none⟩ = some (.string (bs p)) := by rw [hW1]; go_simp
 have a4 : W1.cell? ⟨w.heap.size, 4, none⟩ = some (.string (bs q)) := by rw [hW1]; go_simp
 have a5 : W1.cell? ⟨w.heap.size, 5, none⟩ = some (.int .i64 xz) := by rw [hW1]; go_simp
 have a6 : W1.cell? ⟨w.heap.size, 6, none⟩ = some (.int .i64 xh) := by rw [hW1]; go_simp
 have a7 : W1.cell? ⟨w.heap.size, 7, none⟩ = some (.int .i64 xo) := by rw [hW1]; go_simp
 have a8 : W1.cell? ⟨w.heap.size, 8, none⟩ = some (.string xt) := by rw [hW1]; go_simp
 have a9 : W1.cell? ⟨w.heap.size, 9, none⟩ = some (.int .i64 xi) := by rw [hW1]; go_simp
 have HI := Lib.hid (hi.mod (F := none') (Mod.of_below hB1) id id id (fun _ _ => id) (fun _ _ => id))
 have HM1 := Lib.hid (Mod.of_below (F := S) hB1)
 have HW1 := Lib.hid hW1
 have n1 : ¬ S (w.heap.size + 1) := fun h => by have := lt _ h; omega
 have n0 : ¬ S w.heap.size := fun h => by have := lt _ h; omega
 have hol := cell_lt a0
 have hrl := cell_lt r0
 have HLT := Lib.hid lt
 have HS1 := Lib.hid s1
 have HS2 := Lib.hid s2
 clear hi hW1 hB1 lt s1 s2
 have hT := HI.out.tr
 have hcall := trMkdir_any W1 tb S1 s.t hT hok p
 obtain ⟨r, hr⟩ : ∃ r, r = (s.t.mk' p 1).run s.t := ⟨_, rfl⟩
 exact mK115
theorem name2_any (w : World) (b : Nat) (S : Nat → Prop) (s : StS) (h : SttAt w b S s) (hok : s.t.ok) (addr : Int) (o : OpS) (hk : o.kind = 2) :
    Calls Tryz.prog 75 #[.pointer (some ⟨b, 0, none⟩), .int .i64 addr, opCells o] w (DoesPost w b S (s.tr ((s.t.rmdir o.path).run s.t))) := by
 obtain ⟨xc, xs, xk, p, q, xz, xh, xo, xt, xi, xn, mp, ml, mc⟩ := o
 simp only at hk
 subst hk
 simp only [StS.tr, opCells, OpS.cells]
 obtain ⟨sb, lt, tb, hb, ob, mb, S1, S2, hi, s1, s2, so, sm⟩ := h
 have hbl : b < w.heap.size := cell_lt hi.c0
 have e0 := hi.c0
 have e1 := hi.c1
 obtain ⟨W1, hW1⟩ : ∃ W1, W1 = (w.alloc (.cells #[.int .i64 xc, .int .i64 xs, .int .i64 2, .string (bs p), .string (bs q), .int .i64 xz, .int .i64 xh, .int .i64 xo, .string xt, .int .i64 xi, .int .i64 xn, .slice mp ml mc] 31)).alloc (.cells #[.int .i64 0, .int .i64 0] 36) := ⟨_, rfl⟩
 have hB1 : Below w.heap.size w W1 := by rw [hW1]; exact belC (Below.refl _ _)
 have hz1 : W1.heap.size = w.heap.size + 2 := by rw [hW1]; simp
 have d0 : W1.cell? ⟨b, 0, none⟩ = some (.pointer (some ⟨tb, 0, none⟩)) := below_at hB1 hi.c0 hbl
 have d1 : W1.cell? ⟨b, 1, none⟩ = some (.pointer (some ⟨hb, 0, none⟩)) := below_at hB1 hi.c1 hbl
 have r0 : W1.cell? ⟨w.heap.size + 1, 0, none⟩ = some (.int .i64 0) := by rw [hW1]; go_simp
 have r1 : W1.cell? ⟨w.heap.size + 1, 1, none⟩ = some (.int .i64 0) := by rw [hW1]; go_simp
 have f0 : W1.frozen? ⟨w.heap.size + 1, 0, none⟩ = false := by rw [hW1]; go_simp
 have f1 : W1.frozen? ⟨w.heap.size + 1, 1, none⟩ = false := by rw [hW1]; go_simp
 have a0 : W1.cell? ⟨w.heap.size, 0, none⟩ = some (.int .i64 xc) := by rw [hW1]; go_simp
 have a2 : W1.cell? ⟨w.heap.size, 2, none⟩ = some (.int .i64 2) := by rw [hW1]; go_simp
 have a3 : W1.cell? ⟨w.heap.size, 3, none⟩ = some (.string (bs p)) := by rw [hW1]; go_simp
 have a4 : W1.cell? ⟨w.heap.size, 4, none⟩ = some (.string (bs q)) := by rw [hW1]; go_simp
 have a5 : W1.cell? ⟨w.heap.size, 5, none⟩ = some (.int .i64 xz) := by rw [hW1]; go_simp
 have a6 : W1.cell? ⟨w.heap.size, 6, none⟩ = some (.int .i64 xh) := by rw [hW1]; go_simp
 have a7 : W1.cell? ⟨w.heap.size, 7, none⟩ = some (.int .i64 xo) := by rw [hW1]; go_simp
 have a8 : W1.cell? ⟨w.heap.size, 8, none⟩ = some (.string xt) := by rw [hW1]; go_simp
 have a9 : W1.cell? ⟨w.heap.size, 9, none⟩ = some (.int .i64 xi) := by rw [hW1]; go_simp
 have HI := Lib.hid (hi.mod (F := none') (Mod.of_below hB1) id id id (fun _ _ => id) (fun _ _ => id))
 have HM1 := Lib.hid (Mod.of_below (F := S) hB1)
 have HW1 := Lib.hid hW1
 have n1 : ¬ S (w.heap.size + 1) := fun h => by have := lt _ h; omega
 have n0 : ¬ S w.heap.size := fun h => by have := lt _ h; omega
 have hol := cell_lt a0
 have hrl := cell_lt r0
 have HLT := Lib.hid lt
 have HS1 := Lib.hid s1
 have HS2 := Lib.hid s2
 clear hi hW1 hB1 lt s1 s2
 have hT := HI.out.tr
 have hcall := trRmdir_any W1 tb S1 s.t hT hok p
 obtain ⟨r, hr⟩ : ∃ r, r = (s.t.rmdir p).run s.t := ⟨_, rfl⟩
 exact mK115
theorem name3_any (w : World) (b : Nat) (S : Nat → Prop) (s : StS) (h : SttAt w b S s) (hok : s.t.ok) (addr : Int) (o : OpS) (hk : o.kind = 3) :
    Calls Tryz.prog 75 #[.pointer (some ⟨b, 0, none⟩), .int .i64 addr, opCells o] w (DoesPost w b S (s.tr ((s.t.mk' o.path 2).run s.t))) := by
 obtain ⟨xc, xs, xk, p, q, xz, xh, xo, xt, xi, xn, mp, ml, mc⟩ := o
 simp only at hk
 subst hk
 simp only [StS.tr, opCells, OpS.cells]
 obtain ⟨sb, lt, tb, hb, ob, mb, S1, S2, hi, s1, s2, so, sm⟩ := h
 have hbl : b < w.heap.size := cell_lt hi.c0
 have e0 := hi.c0
 have e1 := hi.c1
 obtain ⟨W1, hW1⟩ : ∃ W1, W1 = (w.alloc (.cells #[.int .i64 xc, .int .i64 xs, .int .i64 3, .string (bs p), .string (bs q), .int .i64 xz, .int .i64 xh, .int .i64 xo, .string xt, .int .i64 xi, .int .i64 xn, .slice mp ml mc] 31)).alloc (.cells #[.int .i64 0, .int .i64 0] 36) := ⟨_, rfl⟩
 have hB1 : Below w.heap.size w W1 := by rw [hW1]; exact belC (Below.refl _ _)
 have hz1 : W1.heap.size = w.heap.size + 2 := by rw [hW1]; simp
 have d0 : W1.cell? ⟨b, 0, none⟩ = some (.pointer (some ⟨tb, 0, none⟩)) := below_at hB1 hi.c0 hbl
 have d1 : W1.cell? ⟨b, 1, none⟩ = some (.pointer (some ⟨hb, 0, none⟩)) := below_at hB1 hi.c1 hbl
 have r0 : W1.cell? ⟨w.heap.size + 1, 0, none⟩ = some (.int .i64 0) := by rw [hW1]; go_simp
 have r1 : W1.cell? ⟨w.heap.size + 1, 1, none⟩ = some (.int .i64 0) := by rw [hW1]; go_simp
 have f0 : W1.frozen? ⟨w.heap.size + 1, 0, none⟩ = false := by rw [hW1]; go_simp
 have f1 : W1.frozen? ⟨w.heap.size + 1, 1, none⟩ = false := by rw [hW1]; go_simp
 have a0 : W1.cell? ⟨w.heap.size, 0, none⟩ = some (.int .i64 xc) := by rw [hW1]; go_simp
 have a2 : W1.cell? ⟨w.heap.size, 2, none⟩ = some (.int .i64 3) := by rw [hW1]; go_simp
 have a3 : W1.cell? ⟨w.heap.size, 3, none⟩ = some (.string (bs p)) := by rw [hW1]; go_simp
 have a4 : W1.cell? ⟨w.heap.size, 4, none⟩ = some (.string (bs q)) := by rw [hW1]; go_simp
 have a5 : W1.cell? ⟨w.heap.size, 5, none⟩ = some (.int .i64 xz) := by rw [hW1]; go_simp
 have a6 : W1.cell? ⟨w.heap.size, 6, none⟩ = some (.int .i64 xh) := by rw [hW1]; go_simp
 have a7 : W1.cell? ⟨w.heap.size, 7, none⟩ = some (.int .i64 xo) := by rw [hW1]; go_simp
 have a8 : W1.cell? ⟨w.heap.size, 8, none⟩ = some (.string xt) := by rw [hW1]; go_simp
 have a9 : W1.cell? ⟨w.heap.size, 9, none⟩ = some (.int .i64 xi) := by rw [hW1]; go_simp
 have HI := Lib.hid (hi.mod (F := none') (Mod.of_below hB1) id id id (fun _ _ => id) (fun _ _ => id))
 have HM1 := Lib.hid (Mod.of_below (F := S) hB1)
 have HW1 := Lib.hid hW1
 have n1 : ¬ S (w.heap.size + 1) := fun h => by have := lt _ h; omega
 have n0 : ¬ S w.heap.size := fun h => by have := lt _ h; omega
 have hol := cell_lt a0
 have hrl := cell_lt r0
 have HLT := Lib.hid lt
 have HS1 := Lib.hid s1
 have HS2 := Lib.hid s2
 clear hi hW1 hB1 lt s1 s2
 have hT := HI.out.tr
 have hcall := trCreate_any W1 tb S1 s.t hT hok p
 obtain ⟨r, hr⟩ : ∃ r, r = (s.t.mk' p 2).run s.t := ⟨_, rfl⟩
 exact mK115
theorem name4_any (w : World) (b : Nat) (S : Nat → Prop) (s : StS) (h : SttAt w b S s) (hok : s.t.ok) (addr : Int) (o : OpS) (hk : o.kind = 4) :
    Calls Tryz.prog 75 #[.pointer (some ⟨b, 0, none⟩), .int .i64 addr, opCells o] w (DoesPost w b S (s.tr ((s.t.lnk o.path o.dest).run s.t))) := by
 obtain ⟨xc, xs, xk, p, q, xz, xh, xo, xt, xi, xn, mp, ml, mc⟩ := o
 simp only at hk
 subst hk
 simp only [StS.tr, opCells, OpS.cells]
 obtain ⟨sb, lt, tb, hb, ob, mb, S1, S2, hi, s1, s2, so, sm⟩ := h
 have hbl : b < w.heap.size := cell_lt hi.c0
 have e0 := hi.c0
 have e1 := hi.c1
 obtain ⟨W1, hW1⟩ : ∃ W1, W1 = (w.alloc (.cells #[.int .i64 xc, .int .i64 xs, .int .i64 4, .string (bs p), .string (bs q), .int .i64 xz, .int .i64 xh, .int .i64 xo, .string xt, .int .i64 xi, .int .i64 xn, .slice mp ml mc] 31)).alloc (.cells #[.int .i64 0, .int .i64 0] 36) := ⟨_, rfl⟩
 have hB1 : Below w.heap.size w W1 := by rw [hW1]; exact belC (Below.refl _ _)
 have hz1 : W1.heap.size = w.heap.size + 2 := by rw [hW1]; simp
 have d0 : W1.cell? ⟨b, 0, none⟩ = some (.pointer (some ⟨tb, 0, none⟩)) := below_at hB1 hi.c0 hbl
 have d1 : W1.cell? ⟨b, 1, none⟩ = some (.pointer (some ⟨hb, 0, none⟩)) := below_at hB1 hi.c1 hbl
 have r0 : W1.cell? ⟨w.heap.size + 1, 0, none⟩ = some (.int .i64 0) := by rw [hW1]; go_simp
 have r1 : W1.cell? ⟨w.heap.size + 1, 1, none⟩ = some (.int .i64 0) := by rw [hW1]; go_simp
 have f0 : W1.frozen? ⟨w.heap.size + 1, 0, none⟩ = false := by rw [hW1]; go_simp
 have f1 : W1.frozen? ⟨w.heap.size + 1, 1, none⟩ = false := by rw [hW1]; go_simp
 have a0 : W1.cell? ⟨w.heap.size, 0, none⟩ = some (.int .i64 xc) := by rw [hW1]; go_simp
 have a2 : W1.cell? ⟨w.heap.size, 2, none⟩ = some (.int .i64 4) := by rw [hW1]; go_simp
 have a3 : W1.cell? ⟨w.heap.size, 3, none⟩ = some (.string (bs p)) := by rw [hW1]; go_simp
 have a4 : W1.cell? ⟨w.heap.size, 4, none⟩ = some (.string (bs q)) := by rw [hW1]; go_simp
 have a5 : W1.cell? ⟨w.heap.size, 5, none⟩ = some (.int .i64 xz) := by rw [hW1]; go_simp
 have a6 : W1.cell? ⟨w.heap.size, 6, none⟩ = some (.int .i64 xh) := by rw [hW1]; go_simp
 have a7 : W1.cell? ⟨w.heap.size, 7, none⟩ = some (.int .i64 xo) := by rw [hW1]; go_simp
 have a8 : W1.cell? ⟨w.heap.size, 8, none⟩ = some (.string xt) := by rw [hW1]; go_simp
 have a9 : W1.cell? ⟨w.heap.size, 9, none⟩ = some (.int .i64 xi) := by rw [hW1]; go_simp
 have HI := Lib.hid (hi.mod (F := none') (Mod.of_below hB1) id id id (fun _ _ => id) (fun _ _ => id))
 have HM1 := Lib.hid (Mod.of_below (F := S) hB1)
 have HW1 := Lib.hid hW1
 have n1 : ¬ S (w.heap.size + 1) := fun h => by have := lt _ h; omega
 have n0 : ¬ S w.heap.size := fun h => by have := lt _ h; omega
 have hol := cell_lt a0
 have hrl := cell_lt r0
 have HLT := Lib.hid lt
 have HS1 := Lib.hid s1
 have HS2 := Lib.hid s2
 clear hi hW1 hB1 lt s1 s2
 have hT := HI.out.tr
 have hcall := trLink_any W1 tb S1 s.t hT hok p q
 obtain ⟨r, hr⟩ : ∃ r, r = (s.t.lnk p q).run s.t := ⟨_, rfl⟩
 exact mK115
theorem name5_any (w : World) (b : Nat) (S : Nat → Prop) (s : StS) (h : SttAt w b S s) (hok : s.t.ok) (addr : Int) (o : OpS) (hk : o.kind = 5) :
    Calls Tryz.prog 75 #[.pointer (some ⟨b, 0, none⟩), .int .i64 addr, opCells o] w (DoesPost w b S (s.tr ((s.t.unlink o.path).run s.t))) := by
 obtain ⟨xc, xs, xk, p, q, xz, xh, xo, xt, xi, xn, mp, ml, mc⟩ := o
 simp only at hk
 subst hk
 simp only [StS.tr, opCells, OpS.cells]
 obtain ⟨sb, lt, tb, hb, ob, mb, S1, S2, hi, s1, s2, so, sm⟩ := h
 have hbl : b < w.heap.size := cell_lt hi.c0
 have e0 := hi.c0
 have e1 := hi.c1
 obtain ⟨W1, hW1⟩ : ∃ W1, W1 = (w.alloc (.cells #[.int .i64 xc, .int .i64 xs, .int .i64 5, .string (bs p), .string (bs q), .int .i64 xz, .int .i64 xh, .int .i64 xo, .string xt, .int .i64 xi, .int .i64 xn, .slice mp ml mc] 31)).alloc (.cells #[.int .i64 0, .int .i64 0] 36) := ⟨_, rfl⟩
 have hB1 : Below w.heap.size w W1 := by rw [hW1]; exact belC (Below.refl _ _)
 have hz1 : W1.heap.size = w.heap.size + 2 := by rw [hW1]; simp
 have d0 : W1.cell? ⟨b, 0, none⟩ = some (.pointer (some ⟨tb, 0, none⟩)) := below_at hB1 hi.c0 hbl
 have d1 : W1.cell? ⟨b, 1, none⟩ = some (.pointer (some ⟨hb, 0, none⟩)) := below_at hB1 hi.c1 hbl
 have r0 : W1.cell? ⟨w.heap.size + 1, 0, none⟩ = some (.int .i64 0) := by rw [hW1]; go_simp
 have r1 : W1.cell? ⟨w.heap.size + 1, 1, none⟩ = some (.int .i64 0) := by rw [hW1]; go_simp
 have f0 : W1.frozen? ⟨w.heap.size + 1, 0, none⟩ = false := by rw [hW1]; go_simp
 have f1 : W1.frozen? ⟨w.heap.size + 1, 1, none⟩ = false := by rw [hW1]; go_simp
 have a0 : W1.cell? ⟨w.heap.size, 0, none⟩ = some (.int .i64 xc) := by rw [hW1]; go_simp
 have a2 : W1.cell? ⟨w.heap.size, 2, none⟩ = some (.int .i64 5) := by rw [hW1]; go_simp
 have a3 : W1.cell? ⟨w.heap.size, 3, none⟩ = some (.string (bs p)) := by rw [hW1]; go_simp
 have a4 : W1.cell? ⟨w.heap.size, 4, none⟩ = some (.string (bs q)) := by rw [hW1]; go_simp
 have a5 : W1.cell? ⟨w.heap.size, 5, none⟩ = some (.int .i64 xz) := by rw [hW1]; go_simp
 have a6 : W1.cell? ⟨w.heap.size, 6, none⟩ = some (.int .i64 xh) := by rw [hW1]; go_simp
 have a7 : W1.cell? ⟨w.heap.size, 7, none⟩ = some (.int .i64 xo) := by rw [hW1]; go_simp
 have a8 : W1.cell? ⟨w.heap.size, 8, none⟩ = some (.string xt) := by rw [hW1]; go_simp
 have a9 : W1.cell? ⟨w.heap.size, 9, none⟩ = some (.int .i64 xi) := by rw [hW1]; go_simp
 have HI := Lib.hid (hi.mod (F := none') (Mod.of_below hB1) id id id (fun _ _ => id) (fun _ _ => id))
 have HM1 := Lib.hid (Mod.of_below (F := S) hB1)
 have HW1 := Lib.hid hW1
 have n1 : ¬ S (w.heap.size + 1) := fun h => by have := lt _ h; omega
 have n0 : ¬ S w.heap.size := fun h => by have := lt _ h; omega
 have hol := cell_lt a0
 have hrl := cell_lt r0
 have HLT := Lib.hid lt
 have HS1 := Lib.hid s1
 have HS2 := Lib.hid s2
 clear hi hW1 hB1 lt s1 s2
 have hT := HI.out.tr
 have hcall := trUnlink_any W1 tb S1 s.t hT hok p
 obtain ⟨r, hr⟩ : ∃ r, r = (s.t.unlink p).run s.t := ⟨_, rfl⟩
 exact mK115
theorem name6_any (w : World) (b : Nat) (S : Nat → Prop) (s : StS) (h : SttAt w b S s) (hok : s.t.ok) (addr : Int) (o : OpS) (hk : o.kind = 6) :
    Calls Tryz.prog 75 #[.pointer (some ⟨b, 0, none⟩), .int .i64 addr, opCells o] w (DoesPost w b S (s.tr ((s.t.rename o.path o.dest).run s.t))) := by
 obtain ⟨xc, xs, xk, p, q, xz, xh, xo, xt, xi, xn, mp, ml, mc⟩ := o
 simp only at hk
 subst hk
 simp only [StS.tr, opCells, OpS.cells]
 obtain ⟨sb, lt, tb, hb, ob, mb, S1, S2, hi, s1, s2, so, sm⟩ := h
 have hbl : b < w.heap.size := cell_lt hi.c0
 have e0 := hi.c0
 have e1 := hi.c1
 obtain ⟨W1, hW1⟩ : ∃ W1, W1 = (w.alloc (.cells #[.int .i64 xc, .int .i64 xs, .int .i64 6, .string (bs p), .string (bs q), .int .i64 xz, .int .i64 xh, .int .i64 xo, .string xt, .int .i64 xi, .int .i64 xn, .slice mp ml mc] 31)).alloc (.cells #[.int .i64 0, .int .i64 0] 36) := ⟨_, rfl⟩
 have hB1 : Below w.heap.size w W1 := by rw [hW1]; exact belC (Below.refl _ _)
 have hz1 : W1.heap.size = w.heap.size + 2 := by rw [hW1]; simp
 have d0 : W1.cell? ⟨b, 0, none⟩ = some (.pointer (some ⟨tb, 0, none⟩)) := below_at hB1 hi.c0 hbl
 have d1 : W1.cell? ⟨b, 1, none⟩ = some (.pointer (some ⟨hb, 0, none⟩)) := below_at hB1 hi.c1 hbl
 have r0 : W1.cell? ⟨w.heap.size + 1, 0, none⟩ = some (.int .i64 0) := by rw [hW1]; go_simp
 have r1 : W1.cell? ⟨w.heap.size + 1, 1, none⟩ = some (.int .i64 0) := by rw [hW1]; go_simp
 have f0 : W1.frozen? ⟨w.heap.size + 1, 0, none⟩ = false := by rw [hW1]; go_simp
 have f1 : W1.frozen? ⟨w.heap.size + 1, 1, none⟩ = false := by rw [hW1]; go_simp
 have a0 : W1.cell? ⟨w.heap.size, 0, none⟩ = some (.int .i64 xc) := by rw [hW1]; go_simp
 have a2 : W1.cell? ⟨w.heap.size, 2, none⟩ = some (.int .i64 6) := by rw [hW1]; go_simp
 have a3 : W1.cell? ⟨w.heap.size, 3, none⟩ = some (.string (bs p)) := by rw [hW1]; go_simp
 have a4 : W1.cell? ⟨w.heap.size, 4, none⟩ = some (.string (bs q)) := by rw [hW1]; go_simp
 have a5 : W1.cell? ⟨w.heap.size, 5, none⟩ = some (.int .i64 xz) := by rw [hW1]; go_simp
 have a6 : W1.cell? ⟨w.heap.size, 6, none⟩ = some (.int .i64 xh) := by rw [hW1]; go_simp
 have a7 : W1.cell? ⟨w.heap.size, 7, none⟩ = some (.int .i64 xo) := by rw [hW1]; go_simp
 have a8 : W1.cell? ⟨w.heap.size, 8, none⟩ = some (.string xt) := by rw [hW1]; go_simp
 have a9 : W1.cell? ⟨w.heap.size, 9, none⟩ = some (.int .i64 xi) := by rw [hW1]; go_simp
 have HI := Lib.hid (hi.mod (F := none') (Mod.of_below hB1) id id id (fun _ _ => id) (fun _ _ => id))
 have HM1 := Lib.hid (Mod.of_below (F := S) hB1)
 have HW1 := Lib.hid hW1
 have n1 : ¬ S (w.heap.size + 1) := fun h => by have := lt _ h; omega
 have n0 : ¬ S w.heap.size := fun h => by have := lt _ h; omega
 have hol := cell_lt a0
 have hrl := cell_lt r0
 have HLT := Lib.hid lt
 have HS1 := Lib.hid s1
 have HS2 := Lib.hid s2
 clear hi hW1 hB1 lt s1 s2
 have hT := HI.out.tr
 have hcall := trRename_any W1 tb S1 s.t hT hok p q
 obtain ⟨r, hr⟩ : ∃ r, r = (s.t.rename p q).run s.t := ⟨_, rfl⟩
 exact mK115
theorem name7_any (w : World) (b : Nat) (S : Nat → Prop) (s : StS) (h : SttAt w b S s) (hok : s.t.ok) (addr : Int) (o : OpS) (hk : o.kind = 7) :
    Calls Tryz.prog 75 #[.pointer (some ⟨b, 0, none⟩), .int .i64 addr, opCells o] w (DoesPost w b S (s.tr ((s.t.trunc o.path o.size).run s.t))) := by
 obtain ⟨xc, xs, xk, p, q, xz, xh, xo, xt, xi, xn, mp, ml, mc⟩ := o
 simp only at hk
 subst hk
 simp only [StS.tr, opCells, OpS.cells]
 obtain ⟨sb, lt, tb, hb, ob, mb, S1, S2, hi, s1, s2, so, sm⟩ := h
 have hbl : b < w.heap.size := cell_lt hi.c0
 have e0 := hi.c0
 have e1 := hi.c1
 obtain ⟨W1, hW1⟩ : ∃ W1, W1 = (w.alloc (.cells #[.int .i64 xc, .int .i64 xs, .int .i64 7, .string (bs p), .string (bs q), .int .i64 xz, .int .i64 xh, .int .i64 xo, .string xt, .int .i64 xi, .int .i64 xn, .slice mp ml mc] 31)).alloc (.cells #[.int .i64 0, .int .i64 0] 36) := ⟨_, rfl⟩
 have hB1 : Below w.heap.size w W1 := by rw [hW1]; exact belC (Below.refl _ _)
 have hz1 : W1.heap.size = w.heap.size + 2 := by rw [hW1]; simp
 have d0 : W1.cell? ⟨b, 0, none⟩ = some (.pointer (some ⟨tb, 0, none⟩)) := below_at hB1 hi.c0 hbl
 have d1 : W1.cell? ⟨b, 1, none⟩ = some (.pointer (some ⟨hb, 0, none⟩)) := below_at hB1 hi.c1 hbl
 have r0 : W1.cell? ⟨w.heap.size + 1, 0, none⟩ = some (.int .i64 0) := by rw [hW1]; go_simp
 have r1 : W1.cell? ⟨w.heap.size + 1, 1, none⟩ = some (.int .i64 0) := by rw [hW1]; go_simp
 have f0 : W1.frozen? ⟨w.heap.size + 1, 0, none⟩ = false := by rw [hW1]; go_simp
 have f1 : W1.frozen? ⟨w.heap.size + 1, 1, none⟩ = false := by rw [hW1]; go_simp
 have a0 : W1.cell? ⟨w.heap.size, 0, none⟩ = some (.int .i64 xc) := by rw [hW1]; go_simp
 have a2 : W1.cell? ⟨w.heap.size, 2, none⟩ = some (.int .i64 7) := by rw [hW1]; go_simp
 have a3 : W1.cell? ⟨w.heap.size, 3, none⟩ = some (.string (bs p)) := by rw [hW1]; go_simp
 have a4 : W1.cell? ⟨w.heap.size, 4, none⟩ = some (.string (bs q)) := by rw [hW1]; go_simp
 have a5 : W1.cell? ⟨w.heap.size, 5, none⟩ = some (.int .i64 xz) := by rw [hW1]; go_simp
 have a6 : W1.cell? ⟨w.heap.size, 6, none⟩ = some (.int .i64 xh) := by rw [hW1]; go_simp
 have a7 : W1.cell? ⟨w.heap.size, 7, none⟩ = some (.int .i64 xo) := by rw [hW1]; go_simp
 have a8 : W1.cell? ⟨w.heap.size, 8, none⟩ = some (.string xt) := by rw [hW1]; go_simp
 have a9 : W1.cell? ⟨w.heap.size, 9, none⟩ = some (.int .i64 xi) := by rw [hW1]; go_simp
 have HI := Lib.hid (hi.mod (F := none') (Mod.of_below hB1) id id id (fun _ _ => id) (fun _ _ => id))
 have HM1 := Lib.hid (Mod.of_below (F := S) hB1)
 have HW1 := Lib.hid hW1
 have n1 : ¬ S (w.heap.size + 1) := fun h => by have := lt _ h; omega
 have n0 : ¬ S w.heap.size := fun h => by have := lt _ h; omega
 have hol := cell_lt a0
 have hrl := cell_lt r0
 have HLT := Lib.hid lt
 have HS1 := Lib.hid s1
 have HS2 := Lib.hid s2
 clear hi hW1 hB1 lt s1 s2
 have hT := HI.out.tr
 have hcall := trTruncate_any W1 tb S1 s.t hT hok p xz
 obtain ⟨r, hr⟩ : ∃ r, r = (s.t.trunc p xz).run s.t := ⟨_, rfl⟩
 rw [← hr] at hcall ⊢
 have hol1 := cell_lt d0
 clear hT hr hok
 go_enter Tryz.func75, Tryz.ntmps75
 go_wp2_with fail
 rw [← HW1.out]
 refine hcall.mono ?_
 clear hcall
 rintro e W2 ⟨rfl, hT2, hM2⟩
 have r0 := hM2.at r0 (fun h => n1 (HS1.out _ h))
 have r1 := hM2.at r1 (fun h => n1 (HS1.out _ h))
 have f0 := (hM2.frozen (p := ⟨w.heap.size + 1, 0, none⟩) hrl (fun h => n1 (HS1.out _ h))).trans f0
 have f1 := (hM2.frozen (p := ⟨w.heap.size + 1, 1, none⟩) hrl (fun h => n1 (HS1.out _ h))).trans f1
 have hrl2 := cell_lt r0
 have HT2 := Lib.hid hT2
 have HM2 := Lib.hid hM2
 clear hT2 hM2
 go_wp2_with fail
 refine (code_any _ _).mono ?_
 rintro e W3 ⟨rfl, hB3⟩
 have r0 := below_at hB3 r0 hrl2
 have r1 := below_at hB3 r1 hrl2
 have f0 := (hB3.frozen (p := ⟨w.heap.size + 1, 0, none⟩) hrl2).trans f0
 have f1 := (hB3.frozen (p := ⟨w.heap.size + 1, 1, none⟩) hrl2).trans f1
 have hrl3 := cell_lt r0
 have HB3 := Lib.hid hB3
 clear hB3
 go_wp2_with fail
 refine bodyPost_ret (v := .agg #[.int .i64 r.1, .int .i64 0]) (by simp [results, Tryz.results75, go_sem, *]) rfl ?_
 refine ⟨rfl, tree_done HI.out HM1.out (HT2.out) HM2.out ?_ (by omega) HLT.out sb HS1.out HS2.out so sm⟩
 exact (((Mod.of_below (F := (· = w.heap.size + 1)) HB3.out)).setCellAt (fun _ => rfl) _).setCellAt (fun _ => rfl) _
end Go.Proofs.YtajbooppoohplaaGreatDoor
/- package state: close, write, renew, image -/
namespace Go.Proofs.YtajbooppoohplaaGreatDoor
open Go.RowKit Esch Go.Shelf

/-- the state on the way: what was at w is now as it stands at W -/
structure StCur (w W : World) (b tb hb ob mb : Nat) (S S1 S2 : Nat → Prop) (s : StS) : Prop where
  hi : StIn W b tb hb ob mb S1 S2 s
  mod : Mod S w W
  s1 : ∀ k, S1 k → growI S w W k
  s2 : ∀ k, S2 k → S k
  sb : S b
  so : S ob
  sm : S mb
  lt : ∀ k, S k → k < w.heap.size
theorem StCur.other {w W W' : World} {b tb hb ob mb : Nat} {S S1 S2 F : Nat → Prop} {s : StS} (h : StCur w W b tb hb ob mb S S1 S2 s) (hM : Mod F W W') (hF : ∀ k, F k → w.heap.size ≤ k) (h1 : ∀ k, S1 k → ¬ F k) : StCur w W' b tb hb ob mb S S1 S2 s := by
 have hno : ∀ k, S k → ¬ F k := fun k hk hf => by have := h.lt k hk; have := hF k hf; omega
 exact ⟨h.hi.mod hM (hno b h.sb) (hno ob h.so) (hno mb h.sm) h1 (fun k hk => hno k (h.s2 k hk)), h.mod.trans' hM (fun k hk hf => by have := hF k hf; omega), fun k hk => (h.s1 k hk).imp id fun h => ⟨h.1, Nat.lt_of_lt_of_le h.2 hM.size⟩, h.s2, h.sb, h.so, h.sm, h.lt⟩
theorem StCur.below {w W W' : World} {b tb hb ob mb : Nat} {S S1 S2 : Nat → Prop} {s : StS} (h : StCur w W b tb hb ob mb S S1 S2 s) (hB : Below W.heap.size W W') : StCur w W' b tb hb ob mb S S1 S2 s := h.other (F := none') (Mod.of_below hB) (fun _ h => h.elim) (fun _ _ => id)
theorem StCur.tree {w W W' : World} {b tb hb ob mb : Nat} {S S1 S2 : Nat → Prop} {s : StS} {t' : TrS} (h : StCur w W b tb hb ob mb S S1 S2 s) (ht : TreeAt W' tb (growI S1 W W') t') (hM : Mod S1 W W') : StCur w W' b tb hb ob mb S (growI S1 W W') S2 { s with t := t' } := by
 have hz := h.mod.size
 refine ⟨h.hi.tree ht hM, h.mod.trans' hM (fun k hk hf => (h.s1 k hf).elim id fun h => by omega), fun k hk => ?_, h.s2, h.sb, h.so, h.sm, h.lt⟩
 rcases hk with hk | hk
 · exact (h.s1 k hk).imp id fun h => ⟨h.1, Nat.lt_of_lt_of_le h.2 hM.size⟩
 · exact Or.inr ⟨by omega, hk.2⟩
theorem StCur.hdl {w W W' : World} {b tb hb ob mb : Nat} {S S1 S2 : Nat → Prop} {s : StS} {h' : HdS} (h : StCur w W b tb hb ob mb S S1 S2 s) (hh : HdlAt W' hb S2 h') (hM : Mod S2 W W') : StCur w W' b tb hb ob mb S S1 S2 { s with h := h' } :=
  ⟨h.hi.hdl hh hM, h.mod.trans (hM.mono fun k _ hk => h.s2 k hk), fun k hk => (h.s1 k hk).imp id fun h => ⟨h.1, Nat.lt_of_lt_of_le h.2 hM.size⟩, h.s2, h.sb, h.so, h.sm, h.lt⟩
theorem StCur.done {w W : World} {b tb hb ob mb : Nat} {S S1 S2 : Nat → Prop} {s : StS} (h : StCur w W b tb hb ob mb S S1 S2 s) : SttAt W b (growI S w W) s ∧ Mod S w W :=
  ⟨h.hi.at h.sb h.lt h.mod.size h.s1 (fun k hk => Or.inl (h.s2 k hk)) h.so h.sm, h.mod⟩
/-- the table of a tree -/
theorem tree_tab {w : World} {tb : Nat} {S1 : Nat → Prop} {t : TrS} (h : TreeAt w tb S1 t) : ∃ ib Sa, TabAt w ib Sa t.t ∧ (∀ k, Sa k → S1 k) ∧ Calls Tryz.prog 38 #[.pointer (some ⟨tb, 0, none⟩)] w (fun e w' => e = .returned (.pointer (some ⟨ib, 0, none⟩)) ∧ w' = w) ∧
    ∀ w' t', TabAt w' ib (growI Sa w w') t' → Mod Sa w w' → TreeAt w' tb (growI S1 w w') ⟨t', t.n⟩ ∧ Mod S1 w w' := by
 obtain ⟨sb, lt, ib, nb, Sa, S2, c0, c1, ht, hn, s1, s2, dd, b1, b2⟩ := h
 refine ⟨ib, Sa, ht, s1, ?_, fun w' t' h1 h2 => TreeAt.tabG (s := t) sb lt c0 c1 hn s1 s2 dd b1 b2 h1 h2⟩
 clear ht hn
 exact mK116
theorem TabPost.g {w w' : World} {b : Nat} {S : Nat → Prop} {r : Int × TabS} {e : Ending} (h : TabPost w b S r e w') (hl : ∀ k, S k → k < w.heap.size) : e = .returned (.int .i64 r.1) ∧ TabAt w' b (growI S w w') r.2 ∧ Mod S w w' :=
  ⟨h.1, h.2.1.wide (fun _ => Or.inl) (fun k hk => hk.elim (fun hs => Nat.lt_of_lt_of_le (hl k hs) h.2.2.size) (fun h => h.2)), h.2.2⟩
set_option linter.unusedSimpArgs false
theorem image_any (w : World) (b : Nat) (S : Nat → Prop) (s : StS) (h : SttAt w b S s) (addr : Int) (o : OpS) :
    Calls Tryz.prog 82 #[.pointer (some ⟨b, 0, none⟩), .int .i64 addr, opCells o] w (DoesPost w b S ((0, 0), s)) := by
 obtain ⟨xc, xs, xk, p, q, xz, xh, xo, xt, xi, xn, mp, ml, mc⟩ := o
 simp only [StS.tr, StS.tab, opCells, OpS.cells]
 obtain ⟨sb, lt, tb, hb, ob, mb, S1, S2, hi, s1, s2, so, sm⟩ := h
 have hbl : b < w.heap.size := cell_lt hi.c0
 obtain ⟨W1, hW1⟩ : ∃ W1, W1 = (w.alloc (.cells #[.int .i64 xc, .int .i64 xs, .int .i64 xk, .string (bs p), .string (bs q), .int .i64 xz, .int .i64 xh, .int .i64 xo, .string xt, .int .i64 xi, .int .i64 xn, .slice mp ml mc] 31)).alloc (.cells #[.int .i64 0, .int .i64 0] 36) := ⟨_, rfl⟩
 have hB1 : Below w.heap.size w W1 := by rw [hW1]; exact belC (Below.refl _ _)
 have hz1 : W1.heap.size = w.heap.size + 2 := by rw [hW1]; simp
 have HC : Hid (StCur w W1 b tb hb ob mb S S1 S2 s) := Lib.hid ⟨hi.mod (F := none') (Mod.of_below hB1) id id id (fun _ _ => id) (fun _ _ => id), Mod.of_below hB1, fun k hk => Or.inl (s1 k hk), s2, sb, so, sm, lt⟩
 have r0 : W1.cell? ⟨w.heap.size + 1, 0, none⟩ = some (.int .i64 0) := by rw [hW1]; go_simp
 have r1 : W1.cell? ⟨w.heap.size + 1, 1, none⟩ = some (.int .i64 0) := by rw [hW1]; go_simp
 have f0 : W1.frozen? ⟨w.heap.size + 1, 0, none⟩ = false := by rw [hW1]; go_simp
 have f1 : W1.frozen? ⟨w.heap.size + 1, 1, none⟩ = false := by rw [hW1]; go_simp
 have a0 : W1.cell? ⟨w.heap.size, 0, none⟩ = some (.int .i64 xc) := by rw [hW1]; go_simp
 have a3 : W1.cell? ⟨w.heap.size, 3, none⟩ = some (.string (bs p)) := by rw [hW1]; go_simp
 have a6 : W1.cell? ⟨w.heap.size, 6, none⟩ = some (.int .i64 xh) := by rw [hW1]; go_simp
 have a7 : W1.cell? ⟨w.heap.size, 7, none⟩ = some (.int .i64 xo) := by rw [hW1]; go_simp
 have a8 : W1.cell? ⟨w.heap.size, 8, none⟩ = some (.string xt) := by rw [hW1]; go_simp
 have a9 : W1.cell? ⟨w.heap.size, 9, none⟩ = some (.int .i64 xi) := by rw [hW1]; go_simp
 have HW1 := Lib.hid hW1
 have hol := cell_lt a0
 have hrl := cell_lt r0
 have NS1 : Hid (∀ k, w.heap.size ≤ k → k < w.heap.size + 2 → ¬ S1 k) := Lib.hid (fun k h1 h2 h => by have := lt k (s1 k h); omega)
 have NS2 : Hid (∀ k, w.heap.size ≤ k → ¬ S2 k) := Lib.hid (fun k h1 h => by have := lt k (s2 k h); omega)
 have NS0 := Lib.hid s1
 clear hi hW1 hB1 lt s1 s2 sb so sm
 go_enter Tryz.func82, Tryz.ntmps82
 go_wp2_with fail
 rw [← HW1.out]
 refine (code_any _ _).mono ?_
 rintro e WZ ⟨rfl, hBz⟩
 have r0 := below_at hBz r0 hrl
 have r1 := below_at hBz r1 hrl
 have f0 := (hBz.frozen (p := ⟨w.heap.size + 1, 0, none⟩) hrl).trans f0
 have f1 := (hBz.frozen (p := ⟨w.heap.size + 1, 1, none⟩) hrl).trans f1
 have hrl := cell_lt r0
 have HCZ := Lib.hid (HC.out.below hBz)
 go_wp2_with fail
 refine bodyPost_ret (v := .agg #[.int .i64 (0), .int .i64 0]) (by simp [results, Tryz.results82, go_sem, *]) rfl ?_
 exact ⟨rfl, (HCZ.out.other (F := (· = w.heap.size + 1)) (((Mod.refl (· = w.heap.size + 1) _).setCellAt (fun _ => rfl) _).setCellAt (fun _ => rfl) _) (fun k hk => by have e : k = w.heap.size + 1 := hk; omega) (fun k hk e => NS1.out k (by omega) (by omega) hk)).done⟩
theorem renew_any (w : World) (b : Nat) (S : Nat → Prop) (s : StS) (h : SttAt w b S s) (addr : Int) (o : OpS) :
    Calls Tryz.prog 79 #[.pointer (some ⟨b, 0, none⟩), .int .i64 addr, opCells o] w (DoesPost w b S (((s.h.renew o.client o.tick).1, 0), { s with h := (s.h.renew o.client o.tick).2 })) := by
 obtain ⟨xc, xs, xk, p, q, xz, xh, xo, xt, xi, xn, mp, ml, mc⟩ := o
 simp only [StS.tr, StS.tab, opCells, OpS.cells]
 obtain ⟨sb, lt, tb, hb, ob, mb, S1, S2, hi, s1, s2, so, sm⟩ := h
 have hbl : b < w.heap.size := cell_lt hi.c0
 obtain ⟨W1, hW1⟩ : ∃ W1, W1 = (w.alloc (.cells #[.int .i64 xc, .int .i64 xs, .int .i64 xk, .string (bs p), .string (bs q), .int .i64 xz, .int .i64 xh, .int .i64 xo, .string xt, .int .i64 xi, .int .i64 xn, .slice mp ml mc] 31)).alloc (.cells #[.int .i64 0, .int .i64 0] 36) := ⟨_, rfl⟩
 have hB1 : Below w.heap.size w W1 := by rw [hW1]; exact belC (Below.refl _ _)
 have hz1 : W1.heap.size = w.heap.size + 2 := by rw [hW1]; simp
 have HC : Hid (StCur w W1 b tb hb ob mb S S1 S2 s) := Lib.hid ⟨hi.mod (F := none') (Mod.of_below hB1) id id id (fun _ _ => id) (fun _ _ => id), Mod.of_below hB1, fun k hk => Or.inl (s1 k hk), s2, sb, so, sm, lt⟩
 have r0 : W1.cell? ⟨w.heap.size + 1, 0, none⟩ = some (.int .i64 0) := by rw [hW1]; go_simp
 have r1 : W1.cell? ⟨w.heap.size + 1, 1, none⟩ = some (.int .i64 0) := by rw [hW1]; go_simp
 have f0 : W1.frozen? ⟨w.heap.size + 1, 0, none⟩ = false := by rw [hW1]; go_simp
 have f1 : W1.frozen? ⟨w.heap.size + 1, 1, none⟩ = false := by rw [hW1]; go_simp
 have a0 : W1.cell? ⟨w.heap.size, 0, none⟩ = some (.int .i64 xc) := by rw [hW1]; go_simp
 have a3 : W1.cell? ⟨w.heap.size, 3, none⟩ = some (.string (bs p)) := by rw [hW1]; go_simp
 have a6 : W1.cell? ⟨w.heap.size, 6, none⟩ = some (.int .i64 xh) := by rw [hW1]; go_simp
 have a7 : W1.cell? ⟨w.heap.size, 7, none⟩ = some (.int .i64 xo) := by rw [hW1]; go_simp
 have a8 : W1.cell? ⟨w.heap.size, 8, none⟩ = some (.string xt) := by rw [hW1]; go_simp
 have a9 : W1.cell? ⟨w.heap.size, 9, none⟩ = some (.int .i64 xi) := by rw [hW1]; go_simp
 have HW1 := Lib.hid hW1
 have hol := cell_lt a0
 have hrl := cell_lt r0
 have NS1 : Hid (∀ k, w.heap.size ≤ k → k < w.heap.size + 2 → ¬ S1 k) := Lib.hid (fun k h1 h2 h => by have := lt k (s1 k h); omega)
 have NS2 : Hid (∀ k, w.heap.size ≤ k → ¬ S2 k) := Lib.hid (fun k h1 h => by have := lt k (s2 k h); omega)
 have NS0 := Lib.hid s1
 clear hi hW1 hB1 lt s1 s2 sb so sm
 have d1 := HC.out.hi.c1
 have hcall := hdlRenew_any W1.drew hb S2 s.h (HC.out.hi.hd.mod (F := none') ((Mod.refl none' _).drew) (fun _ _ => id)) xc xi
 obtain ⟨r, hr⟩ : ∃ r, r = s.h.renew xc xi := ⟨_, rfl⟩
 rw [← hr] at hcall ⊢
 have hbl1 := cell_lt d1
 have nb2 := HC.out.hi.b2
 clear hr
 go_enter Tryz.func79, Tryz.ntmps79
 go_wp2_with fail
 rw [← HW1.out]
 refine wp_region_held_drew (S := fun W' => W'.cell? ⟨b, 1, none⟩ = some (.pointer (some ⟨hb, 0, none⟩)) ∧ W'.cell? ⟨w.heap.size, 0, none⟩ = some (.int .i64 xc) ∧ W'.cell? ⟨w.heap.size, 9, none⟩ = some (.int .i64 xi)) (by kernel_rfl) ⟨d1, a0, a9⟩ (fun hHeld => ?_)
 refine takeL 0 ?_
 refine takeL 1 ?_
 refine takeL 2 ?_
 refine takeL 3 ?_
 refine takeL 4 ?_
 refine takeL 5 ?_
 refine takeL 6 ?_
 refine takeL 7 ?_
 refine wpAnyH_ready (rs := [8]) (by kernel_rfl) (by simp) ?_
 refine AllReadyH.cons (o := _) rfl (fun K hK => ?_) AllReadyH.nil
 go_simp
 refine hcall.mono ?_
 clear hcall
 rintro e W2 ⟨rfl, hH2, hM2⟩
 have d1 := hM2.at d1 nb2
 have a0 := hM2.at a0 (NS2.out _ (Nat.le_refl _))
 have a9 := hM2.at a9 (NS2.out _ (Nat.le_refl _))
 have r0 := hM2.at r0 (NS2.out (w.heap.size + 1) (by omega))
 have r1 := hM2.at r1 (NS2.out (w.heap.size + 1) (by omega))
 have f0 := (hM2.frozen (p := ⟨w.heap.size + 1, 0, none⟩) hrl (NS2.out (w.heap.size + 1) (by omega))).trans f0
 have f1 := (hM2.frozen (p := ⟨w.heap.size + 1, 1, none⟩) hrl (NS2.out (w.heap.size + 1) (by omega))).trans f1
 have hrl := cell_lt r0
 have HC2 : Hid (StCur w W2 b tb hb ob mb S S1 S2 { s with h := r.2 }) := Lib.hid (StCur.hdl (W := W1.drew) (s := s) (HC.out.other (F := none') ((Mod.refl none' _).drew) (fun _ h => h.elim) (fun _ _ => id)) hH2 hM2)
 have hbl2 := cell_lt d1
 have hol := cell_lt a0
 clear hH2 hM2 HC
 try go_wp2_with fail
 refine hK.out _ _ ⟨d1, a0, a9⟩ (fun hHeld => ?_)
 clear hK K
 try simp only [Act.put, List.setIfInBounds_toArray, List.set_cons_zero, List.set_cons_succ]
 refine wpAnyH_ready (rs := [9]) (by kernel_rfl) (by simp) ?_
 refine AllReadyH.cons (o := _) rfl (fun K hK => ?_) AllReadyH.nil
 go_simp
 refine (code_any _ _).mono ?_
 rintro e WZ ⟨rfl, hBz⟩
 have r0 := below_at hBz r0 hrl
 have r1 := below_at hBz r1 hrl
 have f0 := (hBz.frozen (p := ⟨w.heap.size + 1, 0, none⟩) hrl).trans f0
 have f1 := (hBz.frozen (p := ⟨w.heap.size + 1, 1, none⟩) hrl).trans f1
 have hrl := cell_lt r0
 have HCZ := Lib.hid (HC2.out.below hBz)
 have d1 := HCZ.out.hi.c1
 have a0 := below_at hBz a0 hol
 have a9 := below_at hBz a9 hol
 have hbz := cell_lt d1
 have hol := cell_lt a0
 clear hBz
 try go_wp2_with fail
 refine hK.out _ _ ⟨d1, a0, a9⟩ (fun hHeld => ?_)
 clear hK K
 try simp only [Act.put, List.setIfInBounds_toArray, List.set_cons_zero, List.set_cons_succ]
 refine wpAnyH_ready (rs := [10]) (by kernel_rfl) (by simp) ?_
 refine AllReadyH.cons (o := _) rfl (fun K hK => ?_) AllReadyH.nil
 go_simp
 try go_wp2_with fail
 refine hK.out _ _ ⟨by go_simp, by go_simp, by go_simp⟩ (fun hHeld => ?_)
 clear hK K
 try simp only [Act.put, List.setIfInBounds_toArray, List.set_cons_zero, List.set_cons_succ]
 refine wpAnyH_done (by kernel_rfl) ?_ _
 clear hHeld
 go_wp2_with fail
 refine bodyPost_ret (v := .agg #[.int .i64 (r.1), .int .i64 0]) (by simp [results, Tryz.results79, go_sem, *]) rfl ?_
 exact ⟨rfl, (HCZ.out.other (F := (· = w.heap.size + 1)) (((Mod.refl (· = w.heap.size + 1) _).setCellAt (fun _ => rfl) _).setCellAt (fun _ => rfl) _) (fun k hk => by have e : k = w.heap.size + 1 := hk; omega) (fun k hk e => NS1.out k (by omega) (by omega) hk)).done⟩
theorem close_err (s : HdS) (c n : Int) (h : (s.close c n).1.2 ≠ 0) : (s.close c n).2 = s := by
 unfold HdS.close at *
 split at h
 · rfl
 · exact absurd rfl h
theorem close_any (w : World) (b : Nat) (S : Nat → Prop) (s : StS) (h : SttAt w b S s) (hok : s.t.t.ok) (addr : Int) (o : OpS) :
    Calls Tryz.prog 77 #[.pointer (some ⟨b, 0, none⟩), .int .i64 addr, opCells o] w (DoesPost w b S (s.cls o)) := by
 obtain ⟨xc, xs, xk, p, q, xz, xh, xo, xt, xi, xn, mp, ml, mc⟩ := o
 simp only [StS.tr, StS.tab, opCells, OpS.cells]
 obtain ⟨sb, lt, tb, hb, ob, mb, S1, S2, hi, s1, s2, so, sm⟩ := h
 have hbl : b < w.heap.size := cell_lt hi.c0
 obtain ⟨W1, hW1⟩ : ∃ W1, W1 = (w.alloc (.cells #[.int .i64 xc, .int .i64 xs, .int .i64 xk, .string (bs p), .string (bs q), .int .i64 xz, .int .i64 xh, .int .i64 xo, .string xt, .int .i64 xi, .int .i64 xn, .slice mp ml mc] 31)).alloc (.cells #[.int .i64 0, .int .i64 0] 36) := ⟨_, rfl⟩
 have hB1 : Below w.heap.size w W1 := by rw [hW1]; exact belC (Below.refl _ _)
 have hz1 : W1.heap.size = w.heap.size + 2 := by rw [hW1]; simp
 have HC : Hid (StCur w W1 b tb hb ob mb S S1 S2 s) := Lib.hid ⟨hi.mod (F := none') (Mod.of_below hB1) id id id (fun _ _ => id) (fun _ _ => id), Mod.of_below hB1, fun k hk => Or.inl (s1 k hk), s2, sb, so, sm, lt⟩
 have r0 : W1.cell? ⟨w.heap.size + 1, 0, none⟩ = some (.int .i64 0) := by rw [hW1]; go_simp
 have r1 : W1.cell? ⟨w.heap.size + 1, 1, none⟩ = some (.int .i64 0) := by rw [hW1]; go_simp
 have f0 : W1.frozen? ⟨w.heap.size + 1, 0, none⟩ = false := by rw [hW1]; go_simp
 have f1 : W1.frozen? ⟨w.heap.size + 1, 1, none⟩ = false := by rw [hW1]; go_simp
 have a0 : W1.cell? ⟨w.heap.size, 0, none⟩ = some (.int .i64 xc) := by rw [hW1]; go_simp
 have a3 : W1.cell? ⟨w.heap.size, 3, none⟩ = some (.string (bs p)) := by rw [hW1]; go_simp
 have a6 : W1.cell? ⟨w.heap.size, 6, none⟩ = some (.int .i64 xh) := by rw [hW1]; go_simp
 have a7 : W1.cell? ⟨w.heap.size, 7, none⟩ = some (.int .i64 xo) := by rw [hW1]; go_simp
 have a8 : W1.cell? ⟨w.heap.size, 8, none⟩ = some (.string xt) := by rw [hW1]; go_simp
 have a9 : W1.cell? ⟨w.heap.size, 9, none⟩ = some (.int .i64 xi) := by rw [hW1]; go_simp
 have HW1 := Lib.hid hW1
 have hol := cell_lt a0
 have hrl := cell_lt r0
 have NS1 : Hid (∀ k, w.heap.size ≤ k → k < w.heap.size + 2 → ¬ S1 k) := Lib.hid (fun k h1 h2 h => by have := lt k (s1 k h); omega)
 have NS2 : Hid (∀ k, w.heap.size ≤ k → ¬ S2 k) := Lib.hid (fun k h1 h => by have := lt k (s2 k h); omega)
 have NS0 := Lib.hid s1
 clear hi hW1 hB1 lt s1 s2 sb so sm
 have d1 := HC.out.hi.c1
 have hcall := hdlClose_any W1.drew hb S2 s.h (HC.out.hi.hd.mod (F := none') ((Mod.refl none' _).drew) (fun _ _ => id)) xc xh
 unfold StS.cls
 simp only
 have herr := close_err s.h xc xh
 obtain ⟨r, hr⟩ : ∃ r, r = s.h.close xc xh := ⟨_, rfl⟩
 rw [← hr] at hcall herr ⊢
 have hbl1 := cell_lt d1
 have nb2 := HC.out.hi.b2
 clear hr
 obtain ⟨⟨r1', r2'⟩, rh⟩ := r
 simp only at herr hcall ⊢
 have HERR := Lib.hid herr
 clear herr
 by_cases hc : r2' ≠ 0
 · rw [if_pos hc]
   have hc' : (r2' != 0) = true := by simpa using hc
   obtain rfl : rh = s.h := HERR.out hc
   clear hc HERR
   go_enter Tryz.func77, Tryz.ntmps77
   go_wp2_with fail
   rw [← HW1.out]
   refine wp_region_held_drew (S := fun W' => W'.cell? ⟨b, 1, none⟩ = some (.pointer (some ⟨hb, 0, none⟩)) ∧ W'.cell? ⟨w.heap.size, 0, none⟩ = some (.int .i64 xc) ∧ W'.cell? ⟨w.heap.size, 6, none⟩ = some (.int .i64 xh)) (by kernel_rfl) ⟨d1, a0, a6⟩ (fun hHeld => ?_)
   refine takeL 0 ?_
   refine takeL 1 ?_
   refine takeL 2 ?_
   refine takeL 3 ?_
   refine takeL 4 ?_
   refine takeL 5 ?_
   refine takeL 6 ?_
   refine takeL 7 ?_
   refine wpAnyH_ready (rs := [8]) (by kernel_rfl) (by simp) ?_
   refine AllReadyH.cons (o := _) rfl (fun K hK => ?_) AllReadyH.nil
   go_simp
   refine hcall.mono ?_
   clear hcall
   rintro e W2 ⟨rfl, hH2, hM2⟩
   have d1 := hM2.at d1 nb2
   have a0 := hM2.at a0 (NS2.out _ (Nat.le_refl _))
   have a6 := hM2.at a6 (NS2.out _ (Nat.le_refl _))
   have r0 := hM2.at r0 (NS2.out (w.heap.size + 1) (by omega))
   have r1 := hM2.at r1 (NS2.out (w.heap.size + 1) (by omega))
   have f0 := (hM2.frozen (p := ⟨w.heap.size + 1, 0, none⟩) hrl (NS2.out (w.heap.size + 1) (by omega))).trans f0
   have f1 := (hM2.frozen (p := ⟨w.heap.size + 1, 1, none⟩) hrl (NS2.out (w.heap.size + 1) (by omega))).trans f1
   have hrl := cell_lt r0
   have HC2 : Hid (StCur w W2 b tb hb ob mb S S1 S2 s) := Lib.hid (StCur.hdl (W := W1.drew) (s := s) (HC.out.other (F := none') ((Mod.refl none' _).drew) (fun _ h => h.elim) (fun _ _ => id)) hH2 hM2)
   clear hH2 hM2 HC
   try go_wp2_with fail
   refine hK.out _ _ ⟨d1, a0, a6⟩ (fun hHeld => ?_)
   clear hK K
   try simp only [Act.put, List.setIfInBounds_toArray, List.set_cons_zero, List.set_cons_succ]
   refine takeL 9 ?_
   refine takeL 10 ?_
   refine takeL 11 ?_
   refine takeL 12 ?_
   refine takeL 13 ?_
   refine wpAnyH_done (by kernel_rfl) ?_ _
   clear hHeld
   go_wp2_with fail
   refine (code_any _ _).mono ?_
   rintro e WZ ⟨rfl, hBz⟩
   have r0 := below_at hBz r0 hrl
   have r1 := below_at hBz r1 hrl
   have f0 := (hBz.frozen (p := ⟨w.heap.size + 1, 0, none⟩) hrl).trans f0
   have f1 := (hBz.frozen (p := ⟨w.heap.size + 1, 1, none⟩) hrl).trans f1
   have hrl := cell_lt r0
   have HCZ := Lib.hid (HC2.out.below hBz)
   clear hBz
   go_wp2_with fail
   refine bodyPost_ret (v := .agg #[.int .i64 (r2'), .int .i64 0]) (by simp [results, Tryz.results77, go_sem, *]) rfl ?_
   exact ⟨rfl, (HCZ.out.other (F := (· = w.heap.size + 1)) (((Mod.refl (· = w.heap.size + 1) _).setCellAt (fun _ => rfl) _).setCellAt (fun _ => rfl) _) (fun k hk => by have e : k = w.heap.size + 1 := hk; omega) (fun k hk e => NS1.out k (by omega) (by omega) hk)).done⟩
 · rw [if_neg hc]
   obtain rfl : r2' = 0 := Classical.not_not.1 hc
   obtain ⟨q, hq⟩ : ∃ q, q = s.t.t.opn r1' (-1) := ⟨_, rfl⟩
   rw [← hq]
   have HQ := Lib.hid hq
   have HOK := Lib.hid (hok.x r1')
   clear hc HERR hq
   go_enter Tryz.func77, Tryz.ntmps77
   go_wp2_with fail
   rw [← HW1.out]
   refine wp_region_held_drew (S := fun W' => W'.cell? ⟨b, 1, none⟩ = some (.pointer (some ⟨hb, 0, none⟩)) ∧ W'.cell? ⟨w.heap.size, 0, none⟩ = some (.int .i64 xc) ∧ W'.cell? ⟨w.heap.size, 6, none⟩ = some (.int .i64 xh)) (by kernel_rfl) ⟨d1, a0, a6⟩ (fun hHeld => ?_)
   refine takeL 0 ?_
   refine takeL 1 ?_
   refine takeL 2 ?_
   refine takeL 3 ?_
   refine takeL 4 ?_
   refine takeL 5 ?_
   refine takeL 6 ?_
   refine takeL 7 ?_
   refine wpAnyH_ready (rs := [8]) (by kernel_rfl) (by simp) ?_
   refine AllReadyH.cons (o := _) rfl (fun K hK => ?_) AllReadyH.nil
   go_simp
   refine hcall.mono ?_
   clear hcall
   rintro e W2 ⟨rfl, hH2, hM2⟩
   have d1 := hM2.at d1 nb2
   have a0 := hM2.at a0 (NS2.out _ (Nat.le_refl _))
   have a6 := hM2.at a6 (NS2.out _ (Nat.le_refl _))
   have r0 := hM2.at r0 (NS2.out (w.heap.size + 1) (by omega))
   have r1 := hM2.at r1 (NS2.out (w.heap.size + 1) (by omega))
   have f0 := (hM2.frozen (p := ⟨w.heap.size + 1, 0, none⟩) hrl (NS2.out (w.heap.size + 1) (by omega))).trans f0
   have f1 := (hM2.frozen (p := ⟨w.heap.size + 1, 1, none⟩) hrl (NS2.out (w.heap.size + 1) (by omega))).trans f1
   have hrl := cell_lt r0
   have HC2 : Hid (StCur w W2 b tb hb ob mb S S1 S2 { s with h := rh }) := Lib.hid (StCur.hdl (W := W1.drew) (s := s) (HC.out.other (F := none') ((Mod.refl none' _).drew) (fun _ h => h.elim) (fun _ _ => id)) hH2 hM2)
   have hz2 : W1.heap.size ≤ W2.heap.size := hM2.size
   have d0 := HC2.out.hi.c0
   have hbl2 := cell_lt d0
   obtain ⟨ib, Sa, hta, hsa, hin, hup⟩ := tree_tab (HC2.out.hi.tr)
   have hop := (inoOpen_any W2 ib Sa s.t.t hta r1' (-1) (Or.inr rfl) HOK.out).mono (fun e w' hp => TabPost.g hp hta.lt)
   rw [← HQ.out] at hop
   have HUP := Lib.hid hup
   have NSA : Hid (∀ k, w.heap.size ≤ k → k < w.heap.size + 2 → ¬ Sa k) := Lib.hid (fun k h1 h2 h => NS1.out k h1 h2 (hsa k h))
   clear hH2 hM2 HC hta hsa hup
   try go_wp2_with fail
   refine hK.out _ _ ⟨d1, a0, a6⟩ (fun hHeld => ?_)
   clear hK K
   try simp only [Act.put, List.setIfInBounds_toArray, List.set_cons_zero, List.set_cons_succ]
   refine takeL 9 ?_
   refine takeL 10 ?_
   refine takeL 11 ?_
   refine takeL 12 ?_
   refine takeL 13 ?_
   refine wpAnyH_done (by kernel_rfl) ?_ _
   clear hHeld
   go_wp2_with fail
   refine hin.mono ?_
   clear hin
   rintro e W3 ⟨rfl, hw3⟩
   obtain rfl := hw3.symm
   go_wp2_with fail
   refine hop.mono ?_
   clear hop
   rintro e W4 ⟨rfl, hT4, hM4⟩
   obtain ⟨hT5, hM5⟩ := HUP.out W4 q.2 hT4 hM4
   have r0 := hM4.at r0 (NSA.out (w.heap.size + 1) (by omega) (by omega))
   have r1 := hM4.at r1 (NSA.out (w.heap.size + 1) (by omega) (by omega))
   have f0 := (hM4.frozen (p := ⟨w.heap.size + 1, 0, none⟩) hrl (NSA.out (w.heap.size + 1) (by omega) (by omega))).trans f0
   have f1 := (hM4.frozen (p := ⟨w.heap.size + 1, 1, none⟩) hrl (NSA.out (w.heap.size + 1) (by omega) (by omega))).trans f1
   have hrl := cell_lt r0
   have HC4 : Hid (StCur w W4 b tb hb ob mb S (growI S1 W2 W4) S2 { s with h := rh, t := ⟨q.2, s.t.n⟩ }) := Lib.hid (StCur.tree (s := { s with h := rh }) HC2.out hT5 hM5)
   have NS4 : Hid (∀ k, growI S1 W2 W4 k → ¬ k = w.heap.size + 1) := Lib.hid (fun k hk e => by
     rcases hk with hk | hk
     · exact NS1.out k (by omega) (by omega) hk
     · omega)
   clear hT4 hM4 hT5 hM5 HC2
   go_wp2_with fail
   refine (code_any _ _).mono ?_
   rintro e WZ ⟨rfl, hBz⟩
   have r0 := below_at hBz r0 hrl
   have r1 := below_at hBz r1 hrl
   have f0 := (hBz.frozen (p := ⟨w.heap.size + 1, 0, none⟩) hrl).trans f0
   have f1 := (hBz.frozen (p := ⟨w.heap.size + 1, 1, none⟩) hrl).trans f1
   have hrl := cell_lt r0
   have HCZ := Lib.hid (HC4.out.below hBz)
   clear hBz
   go_wp2_with fail
   refine bodyPost_ret (v := .agg #[.int .i64 (q.1), .int .i64 0]) (by simp [results, Tryz.results77, go_sem, *]) rfl ?_
   exact ⟨rfl, (HCZ.out.other (F := (· = w.heap.size + 1)) (((Mod.refl (· = w.heap.size + 1) _).setCellAt (fun _ => rfl) _).setCellAt (fun _ => rfl) _) (fun k hk => by have e : k = w.heap.size + 1 := hk; omega) NS4.out).done⟩
end Go.Proofs.YtajbooppoohplaaGreatDoor
/- package state: write, open -/
namespace Go.Proofs.YtajbooppoohplaaGreatDoor
open Go.RowKit Esch Go.Shelf

set_option linter.unusedSimpArgs false
theorem res_err (s : TrS) : ∀ (l : List Nm) (d e : Int), s.res d l = .err e → e ≠ 0
  | [], _, _, h => by cases h
  | n :: l, d, e, h => by
    unfold TrS.res at h
    split at h
    · cases h; decide
    · split at h
      · cases h; decide
      · exact res_err s l _ e h
theorem resolve_err (s : TrS) (p : Nm) (e : Int) (h : s.resolve p = .err e) : e ≠ 0 := by
 unfold TrS.resolve at h
 split at h
 · cases h; decide
 · exact res_err s _ _ _ h
theorem hopn_err (s : HdS) (c n i : Int) (h : (s.opn c n i).1 ≠ 0) : (s.opn c n i).2 = s := by
 unfold HdS.opn at *
 split
 · rfl
 split
 · rfl
 split
 · rfl
 · rename_i h1 h2 h3
   rw [if_neg h1, if_neg h2, if_neg h3] at h
   exact absurd rfl h
theorem topn_err (s : TabS) (i d : Int) (h : (s.opn i d).1 ≠ 0) : (s.opn i d).2 = s := by
 unfold TabS.opn at *
 split
 · rfl
 split
 · rfl
 split
 · rfl
 split
 · rfl
 · rename_i h1 h2 h3 h4
   rw [if_neg h1, if_neg h2, if_neg h3, if_neg h4] at h
   exact absurd rfl h
theorem write_any (w : World) (b : Nat) (S : Nat → Prop) (s : StS) (h : SttAt w b S s) (hok : s.t.t.ok) (addr : Int) (o : OpS) :
    Calls Tryz.prog 78 #[.pointer (some ⟨b, 0, none⟩), .int .i64 addr, opCells o] w (DoesPost w b S (s.wrt o addr)) := by
 obtain ⟨xc, xs, xk, p, q, xz, xh, xo, xt, xi, xn, mp, ml, mc⟩ := o
 simp only [StS.tr, StS.tab, opCells, OpS.cells]
 obtain ⟨sb, lt, tb, hb, ob, mb, S1, S2, hi, s1, s2, so, sm⟩ := h
 have hbl : b < w.heap.size := cell_lt hi.c0
 obtain ⟨W1, hW1⟩ : ∃ W1, W1 = (w.alloc (.cells #[.int .i64 xc, .int .i64 xs, .int .i64 xk, .string (bs p), .string (bs q), .int .i64 xz, .int .i64 xh, .int .i64 xo, .string xt, .int .i64 xi, .int .i64 xn, .slice mp ml mc] 31)).alloc (.cells #[.int .i64 0, .int .i64 0] 36) := ⟨_, rfl⟩
 have hB1 : Below w.heap.size w W1 := by rw [hW1]; exact belC (Below.refl _ _)
 have hz1 : W1.heap.size = w.heap.size + 2 := by rw [hW1]; simp
 have HC : Hid (StCur w W1 b tb hb ob mb S S1 S2 s) := Lib.hid ⟨hi.mod (F := none') (Mod.of_below hB1) id id id (fun _ _ => id) (fun _ _ => id), Mod.of_below hB1, fun k hk => Or.inl (s1 k hk), s2, sb, so, sm, lt⟩
 have r0 : W1.cell? ⟨w.heap.size + 1, 0, none⟩ = some (.int .i64 0) := by rw [hW1]; go_simp
 have r1 : W1.cell? ⟨w.heap.size + 1, 1, none⟩ = some (.int .i64 0) := by rw [hW1]; go_simp
 have f0 : W1.frozen? ⟨w.heap.size + 1, 0, none⟩ = false := by rw [hW1]; go_simp
 have f1 : W1.frozen? ⟨w.heap.size + 1, 1, none⟩ = false := by rw [hW1]; go_simp
 have a0 : W1.cell? ⟨w.heap.size, 0, none⟩ = some (.int .i64 xc) := by rw [hW1]; go_simp
 have a3 : W1.cell? ⟨w.heap.size, 3, none⟩ = some (.string (bs p)) := by rw [hW1]; go_simp
 have a6 : W1.cell? ⟨w.heap.size, 6, none⟩ = some (.int .i64 xh) := by rw [hW1]; go_simp
 have a7 : W1.cell? ⟨w.heap.size, 7, none⟩ = some (.int .i64 xo) := by rw [hW1]; go_simp
 have a8 : W1.cell? ⟨w.heap.size, 8, none⟩ = some (.string xt) := by rw [hW1]; go_simp
 have a9 : W1.cell? ⟨w.heap.size, 9, none⟩ = some (.int .i64 xi) := by rw [hW1]; go_simp
 have HW1 := Lib.hid hW1
 have hol := cell_lt a0
 have hrl := cell_lt r0
 have NS1 : Hid (∀ k, w.heap.size ≤ k → k < w.heap.size + 2 → ¬ S1 k) := Lib.hid (fun k h1 h2 h => by have := lt k (s1 k h); omega)
 have NS2 : Hid (∀ k, w.heap.size ≤ k → ¬ S2 k) := Lib.hid (fun k h1 h => by have := lt k (s2 k h); omega)
 have NS0 := Lib.hid s1
 clear hi hW1 hB1 lt s1 s2 sb so sm
 have d1 := HC.out.hi.c1
 have hcall := hdlOf_any W1.drew hb S2 s.h (HC.out.hi.hd.mod (F := none') ((Mod.refl none' _).drew) (fun _ _ => id)) xc xh
 unfold StS.wrt
 simp only
 obtain ⟨r, hr⟩ : ∃ r, r = s.h.of xc xh := ⟨_, rfl⟩
 rw [← hr] at hcall ⊢
 have hbl1 := cell_lt d1
 clear hr
 have HC2 : Hid (StCur w W1.drew b tb hb ob mb S S1 S2 s) := Lib.hid (HC.out.other (F := none') ((Mod.refl none' _).drew) (fun _ h => h.elim) (fun _ _ => id))
 cases r with
 | none =>
   simp only [Option.getD_none, Option.isSome_none] at hcall ⊢
   go_enter Tryz.func78, Tryz.ntmps78
   go_wp2_with fail
   rw [← HW1.out]
   refine wp_region_held_drew (S := fun W' => W'.cell? ⟨b, 1, none⟩ = some (.pointer (some ⟨hb, 0, none⟩)) ∧ W'.cell? ⟨w.heap.size, 0, none⟩ = some (.int .i64 xc) ∧ W'.cell? ⟨w.heap.size, 6, none⟩ = some (.int .i64 xh)) (by kernel_rfl) ⟨d1, a0, a6⟩ (fun hHeld => ?_)
   refine takeL 0 ?_
   refine takeL 1 ?_
   refine takeL 2 ?_
   refine takeL 3 ?_
   refine takeL 4 ?_
   refine takeL 5 ?_
   refine takeL 6 ?_
   refine takeL 7 ?_
   refine wpAnyH_ready (rs := [8]) (by kernel_rfl) (by simp) ?_
   refine AllReadyH.cons (o := _) rfl (fun K hK => ?_) AllReadyH.nil
   go_simp
   refine hcall.mono ?_
   clear hcall
   rintro e W2 ⟨rfl, hw2⟩
   obtain rfl := hw2.symm
   try go_wp2_with fail
   refine hK.out _ _ ⟨d1, a0, a6⟩ (fun hHeld => ?_)
   clear hK K
   try simp only [Act.put, List.setIfInBounds_toArray, List.set_cons_zero, List.set_cons_succ]
   refine takeL 9 ?_
   refine takeL 10 ?_
   refine takeL 11 ?_
   refine takeL 12 ?_
   refine takeL 13 ?_
   refine wpAnyH_done (by kernel_rfl) ?_ _
   clear hHeld
   go_wp2_with fail
   refine (code_any _ _).mono ?_
   rintro e WZ ⟨rfl, hBz⟩
   have r0 := below_at hBz r0 hrl
   have r1 := below_at hBz r1 hrl
   have f0 := (hBz.frozen (p := ⟨w.heap.size + 1, 0, none⟩) hrl).trans f0
   have f1 := (hBz.frozen (p := ⟨w.heap.size + 1, 1, none⟩) hrl).trans f1
   have hrl := cell_lt r0
   have HCZ := Lib.hid (HC2.out.below hBz)
   clear hBz
   go_wp2_with fail
   refine bodyPost_ret (v := .agg #[.int .i64 (68), .int .i64 0]) (by simp [results, Tryz.results78, go_sem, *]) rfl ?_
   exact ⟨rfl, (HCZ.out.other (F := (· = w.heap.size + 1)) (((Mod.refl (· = w.heap.size + 1) _).setCellAt (fun _ => rfl) _).setCellAt (fun _ => rfl) _) (fun k hk => by have e : k = w.heap.size + 1 := hk; omega) (fun k hk e => NS1.out k (by omega) (by omega) hk)).done⟩
 | some i =>
   simp only [Option.getD_some, Option.isSome_some, StS.tab] at hcall ⊢
   obtain ⟨q, hq⟩ : ∃ q, q = s.t.t.write i xo (xt.size : Int) addr := ⟨_, rfl⟩
   rw [← hq]
   obtain ⟨W2, hW2⟩ : ∃ W2, W2 = W1.drew.drew := ⟨_, rfl⟩
   have HC3 : Hid (StCur w W2 b tb hb ob mb S S1 S2 s) := Lib.hid (by rw [hW2]; exact HC2.out.other (F := none') ((Mod.refl none' _).drew) (fun _ h => h.elim) (fun _ _ => id))
   obtain ⟨ib, Sa, hta, hsa, hin, hup⟩ := tree_tab (HC3.out.hi.tr)
   have hwr := inoWrite_any W2 ib Sa s.t.t hta i xo (xt.size : Int) addr (hok.x i)
   rw [← hq] at hwr
   have HUP := Lib.hid hup
   have NSA : Hid (∀ k, w.heap.size ≤ k → k < w.heap.size + 2 → ¬ Sa k) := Lib.hid (fun k h1 h2 h => NS1.out k h1 h2 (hsa k h))
   have NBA : Hid (¬ Sa b) := Lib.hid (fun h => HC3.out.hi.b1 (hsa _ h))
   have HW2 := Lib.hid hW2
   have hz2 : W2.heap.size = w.heap.size + 2 := by rw [hW2]; exact hz1
   have b0 : W2.cell? ⟨b, 0, none⟩ = some (.pointer (some ⟨tb, 0, none⟩)) := HC3.out.hi.c0
   have b7 : W2.cell? ⟨w.heap.size, 7, none⟩ = some (.int .i64 xo) := by rw [hW2]; exact a7
   have b8 : W2.cell? ⟨w.heap.size, 8, none⟩ = some (.string xt) := by rw [hW2]; exact a8
   have q0 : W2.cell? ⟨w.heap.size + 1, 0, none⟩ = some (.int .i64 0) := by rw [hW2]; exact r0
   have q1 : W2.cell? ⟨w.heap.size + 1, 1, none⟩ = some (.int .i64 0) := by rw [hW2]; exact r1
   have g0 : W2.frozen? ⟨w.heap.size + 1, 0, none⟩ = false := by rw [hW2]; exact f0
   have g1 : W2.frozen? ⟨w.heap.size + 1, 1, none⟩ = false := by rw [hW2]; exact f1
   clear hq hta hsa hup hW2 HC
   go_enter Tryz.func78, Tryz.ntmps78
   go_wp2_with fail
   rw [← HW1.out]
   refine wp_region_held_drew (S := fun W' => W'.cell? ⟨b, 1, none⟩ = some (.pointer (some ⟨hb, 0, none⟩)) ∧ W'.cell? ⟨w.heap.size, 0, none⟩ = some (.int .i64 xc) ∧ W'.cell? ⟨w.heap.size, 6, none⟩ = some (.int .i64 xh)) (by kernel_rfl) ⟨d1, a0, a6⟩ (fun hHeld => ?_)
   refine takeL 0 ?_
   refine takeL 1 ?_
   refine takeL 2 ?_
   refine takeL 3 ?_
   refine takeL 4 ?_
   refine takeL 5 ?_
   refine takeL 6 ?_
   refine takeL 7 ?_
   refine wpAnyH_ready (rs := [8]) (by kernel_rfl) (by simp) ?_
   refine AllReadyH.cons (o := _) rfl (fun K hK => ?_) AllReadyH.nil
   go_simp
   refine hcall.mono ?_
   clear hcall
   rintro e W2' ⟨rfl, hw2⟩
   obtain rfl := hw2.symm
   try go_wp2_with fail
   refine hK.out _ _ ⟨d1, a0, a6⟩ (fun hHeld => ?_)
   clear hK K
   try simp only [Act.put, List.setIfInBounds_toArray, List.set_cons_zero, List.set_cons_succ]
   refine takeL 9 ?_
   refine takeL 10 ?_
   refine takeL 11 ?_
   refine takeL 12 ?_
   refine takeL 13 ?_
   refine wpAnyH_done (by kernel_rfl) ?_ _
   clear hHeld
   clear r0 r1 f0 f1 a0 a3 a6 a7 a8 a9 d1
   go_wp2_with fail
   have r0 := q0
   have r1 := q1
   have f0 := g0
   have f1 := g1
   have hrl := cell_lt q0
   have hb2 := cell_lt b0
   have ho2 := cell_lt b7
   have nbr : ¬ b = w.heap.size + 1 := by omega
   refine wp_region_held_drew (S := fun W' => W'.cell? ⟨b, 0, none⟩ = some (.pointer (some ⟨tb, 0, none⟩)) ∧ W'.cell? ⟨w.heap.size, 7, none⟩ = some (.int .i64 xo) ∧ W'.cell? ⟨w.heap.size, 8, none⟩ = some (.string xt)) (by kernel_rfl) (by rw [← HW2.out]; exact ⟨b0, b7, b8⟩) (fun hHeld => ?_)
   rw [← HW2.out] at hHeld ⊢
   refine takeL 0 ?_
   refine takeL 1 ?_
   refine takeL 2 ?_
   refine takeL 3 ?_
   refine takeL 5 ?_
   refine takeL 6 ?_
   refine takeL 7 ?_
   refine takeL 8 ?_
   refine takeL 9 ?_
   refine takeL 10 ?_
   refine takeL 11 ?_
   refine wpAnyH_ready (rs := [4]) (by kernel_rfl) (by simp) ?_
   refine AllReadyH.cons (o := _) rfl (fun K hK => ?_) AllReadyH.nil
   go_simp
   refine hin.mono ?_
   clear hin
   rintro e W3 ⟨rfl, hw3⟩
   obtain rfl := hw3.symm
   try go_wp2_with fail
   refine hK.out _ _ ⟨b0, b7, b8⟩ (fun hHeld => ?_)
   clear hK K
   try simp only [Act.put, List.setIfInBounds_toArray, List.set_cons_zero, List.set_cons_succ]
   refine wpAnyH_ready (rs := [12]) (by kernel_rfl) (by simp) ?_
   refine AllReadyH.cons (o := _) rfl (fun K hK => ?_) AllReadyH.nil
   go_simp
   refine hwr.mono ?_
   clear hwr
   rintro e W4 ⟨rfl, hT4, hM4⟩
   obtain ⟨hT5, hM5⟩ := HUP.out W4 q.2 hT4 hM4
   have b0 := hM4.at b0 NBA.out
   have b7 := hM4.at b7 (NSA.out _ (Nat.le_refl _) (by omega))
   have b8 := hM4.at b8 (NSA.out _ (Nat.le_refl _) (by omega))
   have r0 := hM4.at r0 (NSA.out (w.heap.size + 1) (by omega) (by omega))
   have r1 := hM4.at r1 (NSA.out (w.heap.size + 1) (by omega) (by omega))
   have f0 := (hM4.frozen (p := ⟨w.heap.size + 1, 0, none⟩) hrl (NSA.out (w.heap.size + 1) (by omega) (by omega))).trans f0
   have f1 := (hM4.frozen (p := ⟨w.heap.size + 1, 1, none⟩) hrl (NSA.out (w.heap.size + 1) (by omega) (by omega))).trans f1
   have hrl := cell_lt r0
   have HC4 : Hid (StCur w W4 b tb hb ob mb S (growI S1 W2 W4) S2 { s with t := ⟨q.2, s.t.n⟩ }) := Lib.hid (StCur.tree (s := s) HC3.out hT5 hM5)
   have NS4 : Hid (∀ k, growI S1 W2 W4 k → ¬ k = w.heap.size + 1) := Lib.hid (fun k hk e => by
     rcases hk with hk | hk
     · exact NS1.out k (by omega) (by omega) hk
     · omega)
   clear hT4 hM4 hT5 hM5 HC2 HC3
   try go_wp2_with fail
   refine hK.out _ _ ⟨b0, b7, b8⟩ (fun hHeld => ?_)
   clear hK K
   try simp only [Act.put, List.setIfInBounds_toArray, List.set_cons_zero, List.set_cons_succ]
   refine wpAnyH_ready (rs := [13]) (by kernel_rfl) (by simp) ?_
   refine AllReadyH.cons (o := _) rfl (fun K hK => ?_) AllReadyH.nil
   go_simp
   refine (code_any _ _).mono ?_
   rintro e WZ ⟨rfl, hBz⟩
   have r0 := below_at hBz r0 hrl
   have r1 := below_at hBz r1 hrl
   have f0 := (hBz.frozen (p := ⟨w.heap.size + 1, 0, none⟩) hrl).trans f0
   have f1 := (hBz.frozen (p := ⟨w.heap.size + 1, 1, none⟩) hrl).trans f1
   have hrl := cell_lt r0
   have HCZ := Lib.hid (HC4.out.below hBz)
   have b0 := HCZ.out.hi.c0
   have b7 := below_at hBz b7 (cell_lt b7)
   have b8 := below_at hBz b8 (cell_lt b8)
   have hbz := cell_lt b0
   have hol := cell_lt b7
   clear hBz
   try go_wp2_with fail
   refine hK.out _ _ ⟨b0, b7, b8⟩ (fun hHeld => ?_)
   clear hK K
   try simp only [Act.put, List.setIfInBounds_toArray, List.set_cons_zero, List.set_cons_succ]
   refine wpAnyH_ready (rs := [14]) (by kernel_rfl) (by simp) ?_
   refine AllReadyH.cons (o := _) rfl (fun K hK => ?_) AllReadyH.nil
   go_simp
   try go_wp2_with fail
   refine hK.out _ _ ⟨by go_simp, by go_simp, by go_simp⟩ (fun hHeld => ?_)
   clear hK K
   try simp only [Act.put, List.setIfInBounds_toArray, List.set_cons_zero, List.set_cons_succ]
   refine wpAnyH_done (by kernel_rfl) ?_ _
   clear hHeld
   go_wp2_with fail
   refine bodyPost_ret (v := .agg #[.int .i64 (q.1), .int .i64 0]) (by simp [results, Tryz.results78, go_sem, *]) rfl ?_
   exact ⟨rfl, (HCZ.out.other (F := (· = w.heap.size + 1)) (((Mod.refl (· = w.heap.size + 1) _).setCellAt (fun _ => rfl) _).setCellAt (fun _ => rfl) _) (fun k hk => by have e : k = w.heap.size + 1 := hk; omega) NS4.out).done⟩
end Go.Proofs.YtajbooppoohplaaGreatDoor
