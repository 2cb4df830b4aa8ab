import Derived.Test.YtpiogibkleaaaaaGreatDoorStM
import Derived.Test.YtpiogibkleaaaaaGreatDoorPkTrf
import Derived.Test.YtpiogibkleaaaaaGreatDoorPkTrg
/- package state: where a state lies; New, Next, Tree, Handles, Once -/
namespace Go.Proofs.YtpiogibkleaaaaaGreatDoor
open Go.RowKit Esch Go.Shelf

/-- a state's parts, each in its own blocks -/
structure StIn (w : World) (b tb hb ob mb : Nat) (S1 S2 : Nat → Prop) (s : StS) : Prop where
  c0 : w.cell? ⟨b, 0, none⟩ = some (.pointer (some ⟨tb, 0, none⟩))
  c1 : w.cell? ⟨b, 1, none⟩ = some (.pointer (some ⟨hb, 0, none⟩))
  c2 : w.cell? ⟨b, 2, none⟩ = some (.pointer (some ⟨ob, 0, none⟩))
  c3 : w.cell? ⟨b, 3, none⟩ = some (.int .i64 s.next)
  fz : ∀ j, w.frozen? ⟨b, j, none⟩ = false
  tr : TreeAt w tb S1 s.t
  hd : HdlAt w hb S2 s.h
  on : OnceAt w ob mb s.o
  ap : ∀ k, S1 k → ¬ S2 k
  b1 : ¬ S1 b
  b2 : ¬ S2 b
  o1 : ¬ S1 ob
  o2 : ¬ S2 ob
  m1 : ¬ S1 mb
  m2 : ¬ S2 mb
  om : ob ≠ mb
  bo : b ≠ ob
  bm : b ≠ mb
structure SttAt (w : World) (b : Nat) (S : Nat → Prop) (s : StS) : Prop where
  sb : S b
  lt : ∀ k, S k → k < w.heap.size
  ex : ∃ tb hb ob mb S1 S2, StIn w b tb hb ob mb S1 S2 s ∧ (∀ k, S1 k → S k) ∧ (∀ k, S2 k → S k) ∧ S ob ∧ S mb
theorem StIn.mod {w w' : World} {b tb hb ob mb : Nat} {S1 S2 F : Nat → Prop} {s : StS} (h : StIn w b tb hb ob mb S1 S2 s) (hM : Mod F w w') (fb : ¬ F b) (fo : ¬ F ob) (fm : ¬ F mb) (f1 : ∀ k, S1 k → ¬ F k) (f2 : ∀ k, S2 k → ¬ F k) : StIn w' b tb hb ob mb S1 S2 s :=
  ⟨hM.at h.c0 fb, hM.at h.c1 fb, hM.at h.c2 fb, hM.at h.c3 fb, fun j => (hM.frozen (p := ⟨b, j, none⟩) (cell_lt h.c0) fb).trans (h.fz j), h.tr.mod hM f1, h.hd.mod hM f2, h.on.mod hM fo fm, h.ap, h.b1, h.b2, h.o1, h.o2, h.m1, h.m2, h.om, h.bo, h.bm⟩
theorem SttAt.mod {w w' : World} {b : Nat} {S F : Nat → Prop} {s : StS} (h : SttAt w b S s) (hM : Mod F w w') (hF : ∀ k, S k → ¬ F k) : SttAt w' b S s := by
  obtain ⟨sb, lt, tb, hb, ob, mb, S1, S2, hi, s1, s2, so, sm⟩ := h
  exact ⟨sb, fun k hk => Nat.lt_of_lt_of_le (lt k hk) hM.size, tb, hb, ob, mb, S1, S2, hi.mod hM (hF b sb) (hF ob so) (hF mb sm) (fun k hk => hF k (s1 k hk)) (fun k hk => hF k (s2 k hk)), s1, s2, so, sm⟩
theorem SttAt.below' {w w' : World} {b : Nat} {S : Nat → Prop} {s : StS} (h : SttAt w b S s) (hB : Below w.heap.size w w') : SttAt w' b S s := h.mod (F := none') (Mod.of_below hB) fun _ _ => id
theorem SttAt.wide {w : World} {b : Nat} {S T : Nat → Prop} {s : StS} (h : SttAt w b S s) (hS : ∀ k, S k → T k) (hl : ∀ k, T k → k < w.heap.size) : SttAt w b T s := by
  obtain ⟨sb, lt, tb, hb, ob, mb, S1, S2, hi, s1, s2, so, sm⟩ := h
  exact ⟨hS b sb, hl, tb, hb, ob, mb, S1, S2, hi, fun k hk => hS k (s1 k hk), fun k hk => hS k (s2 k hk), hS ob so, hS mb sm⟩
/-- the tree alone was written, and more has come -/
theorem StIn.tree {w w' : World} {b tb hb ob mb : Nat} {S1 S2 : Nat → Prop} {s : StS} {t' : TrS} (h : StIn w b tb hb ob mb S1 S2 s) (ht : TreeAt w' tb (growI S1 w w') t') (hM : Mod S1 w w') : StIn w' b tb hb ob mb (growI S1 w w') S2 { s with t := t' } := by
  have hno : ∀ k, k < w.heap.size → ¬ S1 k → ¬ growI S1 w w' k := fun _ hk h1 hg => hg.elim h1 fun h => absurd hk (Nat.not_lt.2 h.1)
  have hbl : b < w.heap.size := cell_lt h.c0
  have hol : ob < w.heap.size := cell_lt h.on.1
  exact ⟨hM.at h.c0 h.b1, hM.at h.c1 h.b1, hM.at h.c2 h.b1, hM.at h.c3 h.b1, fun j => (hM.frozen (p := ⟨b, j, none⟩) hbl h.b1).trans (h.fz j), ht, h.hd.mod hM (fun k hk h1 => h.ap k h1 hk), h.on.mod hM h.o1 h.m1, fun k hk h2 => hno k (h.hd.lt k h2) (fun h1 => h.ap k h1 h2) hk, hno b hbl h.b1, h.b2, hno ob hol h.o1, h.o2, hno mb h.on.lt h.m1, h.m2, h.om, h.bo, h.bm⟩
theorem StIn.once {w w' : World} {b tb hb ob mb : Nat} {S1 S2 : Nat → Prop} {s : StS} {o' : OM} (h : StIn w b tb hb ob mb S1 S2 s) (ho : OnceAt w' ob mb o') (hM : Mod (· = mb) w w') : StIn w' b tb hb ob mb S1 S2 { s with o := o' } :=
  ⟨hM.at h.c0 h.bm, hM.at h.c1 h.bm, hM.at h.c2 h.bm, hM.at h.c3 h.bm, fun j => (hM.frozen (p := ⟨b, j, none⟩) (cell_lt h.c0) h.bm).trans (h.fz j), h.tr.mod hM (fun k hk e => h.m1 (by rw [← e]; exact hk)), h.hd.mod hM (fun k hk e => h.m2 (by rw [← e]; exact hk)), ho, h.ap, h.b1, h.b2, h.o1, h.o2, h.m1, h.m2, h.om, h.bo, h.bm⟩
theorem StIn.nxt {w : World} {b tb hb ob mb : Nat} {S1 S2 : Nat → Prop} {s : StS} (h : StIn w b tb hb ob mb S1 S2 s) (n : Int) : StIn (w.setCell ⟨b, 3, none⟩ (.int .i64 n)) b tb hb ob mb S1 S2 { s with next := n } := by
  have hM : Mod (· = b) w (w.setCell ⟨b, 3, none⟩ (.int .i64 n)) := (Mod.refl (· = b) w).setCellAt (fun _ => rfl) _
  have hc3 := h.c3
  exact ⟨by have := h.c0; go_simp, by have := h.c1; go_simp, by have := h.c2; go_simp, by go_simp, fun j => (World.frozen?_setCell _ _ _ _).trans (h.fz j), h.tr.mod hM (fun k hk e => h.b1 (by rw [← e]; exact hk)), h.hd.mod hM (fun k hk e => h.b2 (by rw [← e]; exact hk)), h.on.mod hM (fun e => h.bo e.symm) (fun e => h.bm e.symm), h.ap, h.b1, h.b2, h.o1, h.o2, h.m1, h.m2, h.om, h.bo, h.bm⟩
/-- the whole from its parts, grown -/
theorem StIn.at {w w' : World} {b tb hb ob mb : Nat} {S S1 S2 : Nat → Prop} {s' : StS} (h : StIn w' b tb hb ob mb S1 S2 s') (sb : S b) (lt : ∀ k, S k → k < w.heap.size) (hz : w.heap.size ≤ w'.heap.size) (s1 : ∀ k, S1 k → growI S w w' k) (s2 : ∀ k, S2 k → growI S w w' k) (so : S ob) (sm : S mb) : SttAt w' b (growI S w w') s' :=
  ⟨Or.inl sb, fun k hk => hk.elim (fun h => Nat.lt_of_lt_of_le (lt k h) hz) (fun h => h.2), tb, hb, ob, mb, S1, S2, h, s1, s2, Or.inl so, Or.inl sm⟩
set_option maxRecDepth 100000 in
set_option maxHeartbeats 1000000 in
theorem stNew_any (w : World) : Calls Tryz.prog 20 #[] w fun e w' => ∃ b, e = .returned (.pointer (some ⟨b, 0, none⟩)) ∧ SttAt w' b (fun k => w.heap.size ≤ k ∧ k < w'.heap.size) st0 ∧ Below w.heap.size w w' := by
  go_enter Tryz.func20, Tryz.ntmps20
  go_wp2_with fail
  refine (trNew_any _).mono ?_
  rintro e w1 ⟨tb, rfl, hT1, hB1⟩
  go_wp2_with fail
  refine (hdlNew_any _).mono ?_
  rintro e w2 ⟨hb, rfl, hH2, hB2⟩
  go_wp2_with fail
  refine (onceNew_any _).mono ?_
  rintro e w3 ⟨ob, mb, rfl, hO3, ho, hm, hom, hB3⟩
  go_wp2_with fail
  go_ret
  have hB4 : Below w3.heap.size w3 (w3.alloc (.cells #[.pointer (some ⟨tb, 0, none⟩), .pointer (some ⟨hb, 0, none⟩), .pointer (some ⟨ob, 0, none⟩), .int .i64 0] 113)) := by exact belC (Below.refl _ _)
  have z1 := hB1.size
  have z2 := hB2.size
  have z3 := hB3.size
  have hol : ob < w3.heap.size := cell_lt hO3.1
  have hml := hO3.lt
  refine ⟨w3.heap.size, rfl, ⟨⟨by omega, by simp⟩, fun k hk => hk.2, tb, hb, ob, mb, _, _, ⟨by go_simp, by go_simp, by go_simp, by go_simp; rfl, fun j => by go_simp, ((hT1.below' hB2).below' hB3).below' hB4, (hH2.below' hB3).below' hB4, hO3.mod (F := none') (Mod.of_below hB4) id id, fun k h1 h2 => by omega, fun h => by omega, fun h => by omega, fun h => by omega, fun h => by omega, fun h => by omega, fun h => by omega, hom, by omega, by omega⟩, fun k hk => ⟨hk.1, by simp; omega⟩, fun k hk => ⟨by omega, by simp; omega⟩, ⟨by omega, by simp; omega⟩, ⟨by omega, by simp; omega⟩⟩, hB1.trans (((hB2.trans (hB3.mono z2)).trans (hB4.mono (by omega))).mono z1)⟩
theorem stNext_any (w : World) (b : Nat) (S : Nat → Prop) (s : StS) (h : SttAt w b S s) : Calls Tryz.prog 14 #[.pointer (some ⟨b, 0, none⟩)] w fun e w' => e = .returned (.int .i64 s.next) ∧ w' = w := by
  obtain ⟨sb, lt, tb, hb, ob, mb, S1, S2, hi, s1, s2, so, sm⟩ := h
  have H := Lib.hid hi
  have d0 := hi.c0
  have d1 := hi.c1
  have d2 := hi.c2
  have d3 := hi.c3
  clear hi
  go_enter Tryz.func14, Tryz.ntmps14
  go_wp2_with fail
  go_ret
  exact ⟨rfl, rfl⟩
theorem stTree_any (w : World) (b : Nat) (S : Nat → Prop) (s : StS) (h : SttAt w b S s) : Calls Tryz.prog 15 #[.pointer (some ⟨b, 0, none⟩)] w fun e w' => (∃ tb S1, e = .returned (.pointer (some ⟨tb, 0, none⟩)) ∧ TreeAt w tb S1 s.t) ∧ w' = w := by
  obtain ⟨sb, lt, tb, hb, ob, mb, S1, S2, hi, s1, s2, so, sm⟩ := h
  have H := Lib.hid hi
  have d0 := hi.c0
  have d1 := hi.c1
  have d2 := hi.c2
  have d3 := hi.c3
  clear hi
  go_enter Tryz.func15, Tryz.ntmps15
  go_wp2_with fail
  go_ret
  exact ⟨⟨tb, S1, rfl, H.out.tr⟩, rfl⟩
theorem stOnce_any (w : World) (b : Nat) (S : Nat → Prop) (s : StS) (h : SttAt w b S s) : Calls Tryz.prog 17 #[.pointer (some ⟨b, 0, none⟩)] w fun e w' => (∃ ob mb, e = .returned (.pointer (some ⟨ob, 0, none⟩)) ∧ OnceAt w ob mb s.o) ∧ w' = w := by
  obtain ⟨sb, lt, tb, hb, ob, mb, S1, S2, hi, s1, s2, so, sm⟩ := h
  have H := Lib.hid hi
  have d0 := hi.c0
  have d1 := hi.c1
  have d2 := hi.c2
  have d3 := hi.c3
  clear hi
  go_enter Tryz.func17, Tryz.ntmps17
  go_wp2_with fail
  go_ret
  exact ⟨⟨ob, mb, rfl, H.out.on⟩, rfl⟩
theorem code_any (w : World) (e0 : Int) : Calls Tryz.prog 113 #[.int .i64 e0] w fun e w' => e = .returned (.agg #[.int .i64 e0, .int .i64 0]) ∧ Below w.heap.size w w' := by
  go_enter Tryz.func113, Tryz.ntmps113
  go_wp2_with fail
  refine bodyPost_ret (v := .agg #[.int .i64 e0, .int .i64 0]) (by simp [results, Tryz.results113, go_sem]) rfl ?_
  exact ⟨rfl, by exact belC (Below.refl _ _)⟩
end Go.Proofs.YtpiogibkleaaaaaGreatDoor
/- package state: what is done by paths -/
namespace Go.Proofs.YtpiogibkleaaaaaGreatDoor
open Go.RowKit Esch Go.Shelf

/-- what a kind of record leaves -/
def DoesPost (w : World) (b : Nat) (S : Nat → Prop) (r : RSt) (e : Ending) (w' : World) : Prop := e = .returned (.agg #[.int .i64 r.1.1, .int .i64 r.1.2]) ∧ SttAt w' b (growI S w w') r.2 ∧ Mod S w w'
abbrev opCells (o : OpS) : Value := .agg o.cells.toArray
/-- the state behind a call on its tree -/
theorem tree_done {w W1 W2 w' : World} {b tb hb ob mb : Nat} {S S1 S2 : Nat → Prop} {s : StS} {t' : TrS} (hi : StIn W1 b tb hb ob mb S1 S2 s) (hM1 : Mod S w W1) (ht : TreeAt W2 tb (growI S1 W1 W2) t') (hM : Mod S1 W1 W2) (hB : Mod (· = w.heap.size + 1) W2 w') (n1 : w.heap.size + 1 < W1.heap.size) (hlt : ∀ k, S k → k < w.heap.size) (sb : S b) (s1 : ∀ k, S1 k → S k) (s2 : ∀ k, S2 k → S k) (so : S ob) (sm : S mb) :
    SttAt w' b (growI S w w') { s with t := t' } ∧ Mod S w w' := by
  have hz1 := hM1.size
  have hz2 := hM.size
  have hz3 := hB.size
  have hne : ∀ k, S k → ¬ k = w.heap.size + 1 := fun k hk e => by have := hlt k hk; omega
  have h2 := (hi.tree ht hM).mod hB (hne b sb) (hne ob so) (hne mb sm) (fun k hk e => by
    rcases hk with hk | hk
    · exact hne k (s1 k hk) e
    · omega) (fun k hk => hne k (s2 k hk))
  refine ⟨h2.at sb hlt (by omega) (fun k hk => ?_) (fun k hk => Or.inl (s2 k hk)) so sm, ?_⟩
  · rcases hk with hk | hk
    · exact Or.inl (s1 k hk)
    · exact Or.inr ⟨by omega, by omega⟩
  · exact (hM1.trans (hM.mono fun k _ hk => s1 k hk)).trans' hB (fun k hk e => by have e : k = w.heap.size + 1 := e; omega)
set_option maxRecDepth 100000 in
set_option maxHeartbeats 4000000 in
theorem name1_any (w : World) (b : Nat) (S : Nat → Prop) (s : StS) (h : SttAt w b S s) (hok : s.t.ok) (addr : Int) (o : OpS) (hk : o.kind = 1) :
    Calls Tryz.prog 69 #[.pointer (some ⟨b, 0, none⟩), .int .i64 addr, opCells o] w (DoesPost w b S (s.tr ((s.t.mk' o.path 1).run s.t))) := by
  obtain ⟨xc, xs, xk, p, q, xz, xh, xo, xt, xi, xn, mp, ml, mc⟩ := o
  simp only at hk
  subst hk
  simp only [StS.tr, opCells, OpS.cells]
  obtain ⟨sb, lt, tb, hb, ob, mb, S1, S2, hi, s1, s2, so, sm⟩ := h
  have hbl : b < w.heap.size := cell_lt hi.c0
  have e0 := hi.c0
  have e1 := hi.c1
  obtain ⟨W1, hW1⟩ : ∃ W1, W1 = (w.alloc (.cells #[.int .i64 xc, .int .i64 xs, .int .i64 1, .string (bs p), .string (bs q), .int .i64 xz, .int .i64 xh, .int .i64 xo, .string xt, .int .i64 xi, .int .i64 xn, .slice mp ml mc] 41)).alloc (.cells #[.int .i64 0, .int .i64 0] 28) := ⟨_, rfl⟩
  have hB1 : Below w.heap.size w W1 := by rw [hW1]; exact belC (Below.refl _ _)
  have hz1 : W1.heap.size = w.heap.size + 2 := by rw [hW1]; simp
  have d0 : W1.cell? ⟨b, 0, none⟩ = some (.pointer (some ⟨tb, 0, none⟩)) := below_at hB1 hi.c0 hbl
  have d1 : W1.cell? ⟨b, 1, none⟩ = some (.pointer (some ⟨hb, 0, none⟩)) := below_at hB1 hi.c1 hbl
  have r0 : W1.cell? ⟨w.heap.size + 1, 0, none⟩ = some (.int .i64 0) := by rw [hW1]; go_simp
  have r1 : W1.cell? ⟨w.heap.size + 1, 1, none⟩ = some (.int .i64 0) := by rw [hW1]; go_simp
  have f0 : W1.frozen? ⟨w.heap.size + 1, 0, none⟩ = false := by rw [hW1]; go_simp
  have f1 : W1.frozen? ⟨w.heap.size + 1, 1, none⟩ = false := by rw [hW1]; go_simp
  have a0 : W1.cell? ⟨w.heap.size, 0, none⟩ = some (.int .i64 xc) := by rw [hW1]; go_simp
  have a2 : W1.cell? ⟨w.heap.size, 2, none⟩ = some (.int .i64 1) := by rw [hW1]; go_simp
  have a3 : W1.cell? ⟨w.heap.size, 3, none⟩ = some (.string (bs p)) := by rw [hW1]; go_simp
  have a4 : W1.cell? ⟨w.heap.size, 4, none⟩ = some (.string (bs q)) := by rw [hW1]; go_simp
  have a5 : W1.cell? ⟨w.heap.size, 5, none⟩ = some (.int .i64 xz) := by rw [hW1]; go_simp
  have a6 : W1.cell? ⟨w.heap.size, 6, none⟩ = some (.int .i64 xh) := by rw [hW1]; go_simp
  have a7 : W1.cell? ⟨w.heap.size, 7, none⟩ = some (.int .i64 xo) := by rw [hW1]; go_simp
  have a8 : W1.cell? ⟨w.heap.size, 8, none⟩ = some (.string xt) := by rw [hW1]; go_simp
  have a9 : W1.cell? ⟨w.heap.size, 9, none⟩ = some (.int .i64 xi) := by rw [hW1]; go_simp
  have HI := Lib.hid (hi.mod (F := none') (Mod.of_below hB1) id id id (fun _ _ => id) (fun _ _ => id))
  have HM1 := Lib.hid (Mod.of_below (F := S) hB1)
  have HW1 := Lib.hid hW1
  have n1 : ¬ S (w.heap.size + 1) := fun h => by have := lt _ h; omega
  have n0 : ¬ S w.heap.size := fun h => by have := lt _ h; omega
  have hol := cell_lt a0
  have hrl := cell_lt r0
  have HLT := Lib.hid lt
  have HS1 := Lib.hid s1
  have HS2 := Lib.hid s2
  clear hi hW1 hB1 lt s1 s2
  have hT := HI.out.tr
  have hcall := trMkdir_any W1 tb S1 s.t hT hok p
  obtain ⟨r, hr⟩ : ∃ r, r = (s.t.mk' p 1).run s.t := ⟨_, rfl⟩
  rw [← hr] at hcall ⊢
  have hol1 := cell_lt d0
  clear hT hr hok
  go_enter Tryz.func69, Tryz.ntmps69
  go_wp2_with fail
  rw [← HW1.out]
  refine hcall.mono ?_
  clear hcall
  rintro e W2 ⟨rfl, hT2, hM2⟩
  have r0 := hM2.at r0 (fun h => n1 (HS1.out _ h))
  have r1 := hM2.at r1 (fun h => n1 (HS1.out _ h))
  have f0 := (hM2.frozen (p := ⟨w.heap.size + 1, 0, none⟩) hrl (fun h => n1 (HS1.out _ h))).trans f0
  have f1 := (hM2.frozen (p := ⟨w.heap.size + 1, 1, none⟩) hrl (fun h => n1 (HS1.out _ h))).trans f1
  have hrl2 := cell_lt r0
  have HT2 := Lib.hid hT2
  have HM2 := Lib.hid hM2
  clear hT2 hM2
  go_wp2_with fail
  refine (code_any _ _).mono ?_
  rintro e W3 ⟨rfl, hB3⟩
  have r0 := below_at hB3 r0 hrl2
  have r1 := below_at hB3 r1 hrl2
  have f0 := (hB3.frozen (p := ⟨w.heap.size + 1, 0, none⟩) hrl2).trans f0
  have f1 := (hB3.frozen (p := ⟨w.heap.size + 1, 1, none⟩) hrl2).trans f1
  have hrl3 := cell_lt r0
  have HB3 := Lib.hid hB3
  clear hB3
  go_wp2_with fail
  refine bodyPost_ret (v := .agg #[.int .i64 r.1, .int .i64 0]) (by simp [results, Tryz.results69, go_sem, *]) rfl ?_
  refine ⟨rfl, tree_done HI.out HM1.out (HT2.out.grow W1) HM2.out ?_ (by omega) HLT.out sb HS1.out HS2.out so sm⟩
  exact (((Mod.of_below (F := (· = w.heap.size + 1)) HB3.out)).setCellAt (fun _ => rfl) _).setCellAt (fun _ => rfl) _
end Go.Proofs.YtpiogibkleaaaaaGreatDoor
/- package state: close, write, renew, image -/
namespace Go.Proofs.YtpiogibkleaaaaaGreatDoor
open Go.RowKit Esch Go.Shelf

/-- the state on the way: what was at w is now as it stands at W -/
structure StCur (w W : World) (b tb hb ob mb : Nat) (S S1 S2 : Nat → Prop) (s : StS) : Prop where
  hi : StIn W b tb hb ob mb S1 S2 s
  mod : Mod S w W
  s1 : ∀ k, S1 k → growI S w W k
  s2 : ∀ k, S2 k → S k
  sb : S b
  so : S ob
  sm : S mb
  lt : ∀ k, S k → k < w.heap.size
theorem StCur.other {w W W' : World} {b tb hb ob mb : Nat} {S S1 S2 F : Nat → Prop} {s : StS} (h : StCur w W b tb hb ob mb S S1 S2 s) (hM : Mod F W W') (hF : ∀ k, F k → w.heap.size ≤ k) (h1 : ∀ k, S1 k → ¬ F k) : StCur w W' b tb hb ob mb S S1 S2 s := by
  have hno : ∀ k, S k → ¬ F k := fun k hk hf => by have := h.lt k hk; have := hF k hf; omega
  exact ⟨h.hi.mod hM (hno b h.sb) (hno ob h.so) (hno mb h.sm) h1 (fun k hk => hno k (h.s2 k hk)), h.mod.trans' hM (fun k hk hf => by have := hF k hf; omega), fun k hk => (h.s1 k hk).imp id fun h => ⟨h.1, Nat.lt_of_lt_of_le h.2 hM.size⟩, h.s2, h.sb, h.so, h.sm, h.lt⟩
theorem StCur.below {w W W' : World} {b tb hb ob mb : Nat} {S S1 S2 : Nat → Prop} {s : StS} (h : StCur w W b tb hb ob mb S S1 S2 s) (hB : Below W.heap.size W W') : StCur w W' b tb hb ob mb S S1 S2 s := h.other (F := none') (Mod.of_below hB) (fun _ h => h.elim) (fun _ _ => id)
theorem StCur.done {w W : World} {b tb hb ob mb : Nat} {S S1 S2 : Nat → Prop} {s : StS} (h : StCur w W b tb hb ob mb S S1 S2 s) : SttAt W b (growI S w W) s ∧ Mod S w W :=
  ⟨h.hi.at h.sb h.lt h.mod.size h.s1 (fun k hk => Or.inl (h.s2 k hk)) h.so h.sm, h.mod⟩
set_option linter.unusedSimpArgs false
end Go.Proofs.YtpiogibkleaaaaaGreatDoor
/- package state: write, open -/
namespace Go.Proofs.YtpiogibkleaaaaaGreatDoor
open Go.RowKit Esch Go.Shelf

set_option linter.unusedSimpArgs false
end Go.Proofs.YtpiogibkleaaaaaGreatDoor
