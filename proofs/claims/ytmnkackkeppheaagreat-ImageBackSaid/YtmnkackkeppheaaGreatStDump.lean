/- package state: Dump of a state -/
import Derived.Test.YtmnkackkeppheaaGreatPkStA
import Derived.Test.YtmnkackkeppheaaGreatInoDmp
import Derived.Test.YtmnkackkeppheaaGreatXCall
import Derived.Deep.MidRow
namespace Esch
open Go Go.RowKit
def upd (f : Nat → Value) (k : Nat) (v : Value) : Nat → Value := fun j => if j = k then v else f j
/-- a dump's cells: five, and zeros -/
def dmZ (a b c d e : Value) : List Value := a :: b :: c :: d :: e :: List.replicate 32 (.int .i64 0)
theorem dmZ_one (n m : Int) (a b c : Option Addr) (i j k i2 j2 k2 : Nat) : (dmZ (.int .i64 n) (.slice a i i2) (.int .i64 m) (.slice b j j2) (.slice c k k2)).toArray.all (·.oneCell') = true := by
  simp [dmZ, Value.oneCell']
structure DmBox (w : World) (xb : Nat) (f : Nat → Value) : Prop where
  at' : ∀ j, j < 37 → w.cell? ⟨xb, j, none⟩ = some (f j)
  fz : ∀ j, w.frozen? ⟨xb, j, none⟩ = false
theorem DmBox.set {w : World} {xb : Nat} {f : Nat → Value} (h : DmBox w xb f) {k : Nat} (hk : k < 37) (v : Value) : DmBox (w.setCell ⟨xb, k, none⟩ v) xb (upd f k v) := by
  refine ⟨fun j hj => ?_, fun j => (World.frozen?_setCell _ _ _ _).trans (h.fz j)⟩
  unfold upd
  by_cases e : j = k
  · subst e
    have := h.at' j hj
    rw [if_pos rfl]
    go_simp
  · rw [if_neg e, ← h.at' j hj]
    have hne : (⟨xb, k, none⟩ : Addr) ≠ ⟨xb, j, none⟩ := fun e' => e (by have := congrArg Addr.off e'; simp only at this; omega)
    apply World.cell?_setCell_other; exact hne
theorem DmBox.below {w w' : World} {xb : Nat} {f : Nat → Value} (h : DmBox w xb f) (hB : Below w.heap.size w w') : DmBox w' xb f := by
  have hl := cell_lt (h.at' 0 (by decide))
  exact ⟨fun j hj => below_at hB (h.at' j hj) hl, fun j => ((Mod.of_below (F := none') hB).frozen (p := ⟨xb, j, none⟩) hl id).trans (h.fz j)⟩
theorem DmBox.new (w : World) (T : TypeId) (l : List Value) (hl : l.length = 37) : DmBox (w.alloc (.cells l.toArray T)) w.heap.size (fun j => (l[j]?).getD undef) := by
  have hb : (w.alloc (.cells l.toArray T)).heap[w.heap.size]? = some (.cells l.toArray T) := heap_alloc_new _ _
  refine ⟨fun j hj => ?_, fun j => by go_simp⟩
  have h2 : l[j]? = some (l[j]'(by omega)) := List.getElem?_eq_getElem _
  unfold World.cell?
  simp only [hb, h2, Option.getD_some]
  simp [h2]
theorem DmBox.congr {w : World} {xb : Nat} {f g : Nat → Value} (h : DmBox w xb f) (e : ∀ j, j < 37 → f j = g j) : DmBox w xb g := ⟨fun j hj => by rw [← e j hj]; exact h.at' j hj, h.fz⟩
theorem Mod.setCellsAt {F : Nat → Prop} {w0 : World} {b : Nat} (hb : F b) : ∀ (vs : List Value) (o : Nat) (w : World), Mod F w0 w → Mod F w0 (w.setCells b o vs)
  | [], _, _, h => h
  | v :: r, o, _, h => Mod.setCellsAt hb r (o + 1) _ (h.setCellAt (fun _ => hb) v)
theorem frozen_setCells (b : Nat) (x : Addr) : ∀ (vs : List Value) (o : Nat) (w : World), (w.setCells b o vs).frozen? x = w.frozen? x
  | [], _, _ => rfl
  | _ :: r, o, _ => (frozen_setCells b x r (o + 1) _).trans (World.frozen?_setCell _ _ _ _)
theorem DmBox.there {w : World} {xb : Nat} {f : Nat → Value} (h : DmBox w xb f) : w.there xb 0 37 := fun j hj => ⟨by rw [Nat.zero_add, h.at' j hj]; rfl, h.fz _⟩
theorem DmBox.store {w : World} {xb : Nat} {f : Nat → Value} (h : DmBox w xb f) (vs : List Value) (hl : vs.length = 37) : DmBox (w.setCells xb 0 vs) xb (fun j => (vs[j]?).getD undef) := by
  refine ⟨fun j hj => ?_, fun j => (frozen_setCells _ _ _ _ _).trans (h.fz j)⟩
  have h2 : vs[j]? = some (vs[j]'(by omega)) := List.getElem?_eq_getElem _
  have := World.rangeAt_setCells_same w xb 0 vs (by rw [hl]; exact h.there) j _ h2
  rw [Nat.zero_add] at this
  rw [this, h2]; rfl
theorem DmBox.other {w w' : World} {xb rb : Nat} {f : Nat → Value} (h : DmBox w rb f) (hM : Mod (· = xb) w w') (hne : rb ≠ xb) : DmBox w' rb f := by
  have hl := cell_lt (h.at' 0 (by decide))
  exact ⟨fun j hj => hM.at (h.at' j hj) hne, fun j => (hM.frozen (p := ⟨rb, j, none⟩) hl hne).trans (h.fz j)⟩
theorem EntsAt.to {S T : Nat → Prop} {w : World} {a : Option Addr} {l : List Ent} (h : EntsAt S w a l) (hS : ∀ k, k < w.heap.size → S k → T k) : EntsAt T w a l := fun h0 => by
  obtain ⟨b, off, e, hb, hl, r⟩ := h h0
  exact ⟨b, off, e, hS b hl hb, hl, r⟩
theorem HdsAt.to {S T : Nat → Prop} {w : World} {a : Option Addr} {l : List Hd} (h : HdsAt S w a l) (hS : ∀ k, k < w.heap.size → S k → T k) : HdsAt T w a l := fun h0 => by
  obtain ⟨b, off, e, hb, hl, r⟩ := h h0
  exact ⟨b, off, e, hS b hl hb, hl, r⟩
theorem DmBox.range {w : World} {xb : Nat} {f : Nat → Value} (h : DmBox w xb f) : w.rangeAt xb 0 ((List.range 37).map f) := fun j v hv => by
  have hj : j < 37 := by simpa using (List.getElem?_eq_some_iff.1 hv).1
  rw [Nat.zero_add, h.at' j hj]
  simpa [hj] using hv
end Esch
namespace Go.Proofs.YtmnkackkeppheaaGreat
open Go.RowKit Esch Go.Shelf

set_option linter.unusedSimpArgs false
/-- a dump's cells: the first five, and zeros -/
def dm0 (s : StS) (a b c : Value) : Nat → Value
  | 0 => .int .i64 s.next
  | 1 => a
  | 2 => .int .i64 s.t.t.next
  | 3 => b
  | 4 => c
  | _ => .int .i64 0
/-- .. and those of the first clients -/
def dmV (s : StS) (a b c : Value) : Nat → Nat → Value
  | 0 => dm0 s a b c
  | i + 1 => upd (upd (upd (upd (dmV s a b c i) (5 + i) (.int .i64 (s.h.lease i))) (13 + i) (.int .i64 (olast s.o i).1)) (21 + i * 2) (.int .i64 (olast s.o i).2.1)) (21 + i * 2 + 1) (.int .i64 (olast s.o i).2.2)
def dmCells (s : StS) (a b c : Value) : List Value := (List.range 37).map (dmV s a b c 8)
theorem dmV_one (s : StS) (a b c : Value) (ha : a.oneCell' = true) (hb : b.oneCell' = true) (hc : c.oneCell' = true) : ∀ i j, (dmV s a b c i j).oneCell' = true
  | 0, 0 | 0, 2 => rfl
  | 0, 1 => ha
  | 0, 3 => hb
  | 0, 4 => hc
  | 0, _ + 5 => rfl
  | i + 1, j => by
    show (upd _ _ _ j).oneCell' = true
    unfold upd
    split
    · rfl
    split
    · rfl
    split
    · rfl
    split
    · rfl
    exact dmV_one s a b c ha hb hc i j
theorem dmC_len (s : StS) (a b c : Value) : (dmCells s a b c).length = 37 := by simp [dmCells]
theorem dmZ_0 (s : StS) (a b c : Value) : ∀ j, j < 37 → ((dmZ (.int .i64 s.next) a (.int .i64 s.t.t.next) b c)[j]?).getD undef = dmV s a b c 0 j
  | 0, _ | 1, _ | 2, _ | 3, _ | 4, _ => rfl
  | j + 5, hj => by
    show ((List.replicate 32 (Value.int .i64 0))[j]?).getD undef = .int .i64 0
    rw [List.getElem?_replicate, if_pos (by omega)]
    rfl
/-- what a dump tells: the cells, and where its lists lie -/
def Dump25Post (w : World) (s : StS) (e : Ending) (w' : World) : Prop := ∃ (ia : Option Addr) (ic : Nat) (ik : List InC) (na : Option Addr) (nc : Nat) (nl : List Ent) (ha : Option Addr) (hc : Nat) (hl : List Hd),
  e = .returned (.agg (dmCells s (.slice ia ik.length ic) (.slice na nl.length nc) (.slice ha hl.length hc)).toArray) ∧ InosAt w' (From w.heap.size) ia ik ∧ ik.map InC.val = s.t.t.dump ∧ SortedOf s.t.n.m (fun _ => true) nl ∧ EntsAt (From w.heap.size) w' na nl ∧ HSorted s.h.m hl ∧ HdsAt (From w.heap.size) w' ha hl ∧ Below w.heap.size w w'
def DmRel (w0 : World) (xb : Nat) (s : StS) (a b c : Value) (g : Nat) (v : Value) (wr : World) : Prop := ∃ i : Nat, g = 8 - i ∧ i ≤ 8 ∧ v = .int .i64 i ∧ DmBox wr xb (dmV s a b c i) ∧ Mod (· = xb) w0 wr
theorem dmKeep {w W W2 : World} {b : Nat} {v0 v1 v3 : Value} (h : (W.cell? ⟨b, 0, none⟩ = some v0 ∧ W.cell? ⟨b, 1, none⟩ = some v1 ∧ W.cell? ⟨b, 3, none⟩ = some v3) ∧ Below w.heap.size w W) (hB : Below W.heap.size W W2) : (W2.cell? ⟨b, 0, none⟩ = some v0 ∧ W2.cell? ⟨b, 1, none⟩ = some v1 ∧ W2.cell? ⟨b, 3, none⟩ = some v3) ∧ Below w.heap.size w W2 :=
  ⟨⟨below_at hB h.1.1 (cell_lt h.1.1), below_at hB h.1.2.1 (cell_lt h.1.2.1), below_at hB h.1.2.2 (cell_lt h.1.2.2)⟩, h.2.trans (hB.mono h.2.size)⟩
theorem inodes_is (w : World) (tb ib : Nat) (h : w.cell? ⟨tb, 0, none⟩ = some (.pointer (some ⟨ib, 0, none⟩))) : Calls Tryz.prog 49 #[.pointer (some ⟨tb, 0, none⟩)] w fun e w' => e = .returned (.pointer (some ⟨ib, 0, none⟩)) ∧ w' = w := by
  go_enter Tryz.func49, Tryz.ntmps49
  go_wp2_with fail
  go_ret
  exact ⟨rfl, rfl⟩
theorem names_is (w : World) (tb nb : Nat) (h : w.cell? ⟨tb, 1, none⟩ = some (.pointer (some ⟨nb, 0, none⟩))) : Calls Tryz.prog 52 #[.pointer (some ⟨tb, 0, none⟩)] w fun e w' => e = .returned (.pointer (some ⟨nb, 0, none⟩)) ∧ w' = w := by
  go_enter Tryz.func52, Tryz.ntmps52
  go_wp2_with fail
  go_ret
  exact ⟨rfl, rfl⟩
theorem dm_results (w : World) (rb : Nat) (cs : List Value) (tmps : Array Value) (h : tmps.getD 2 undef = .pointer (some ⟨rb, 0, none⟩)) (hc : w.rangeAt rb 0 cs) (hl : cs.length = 37) : (results Tryz.f15 tmps).run Tryz.prog w = .ok (.agg cs.toArray) w := by
  have h2 := run_loadVar_mid (P := Tryz.prog) w rb 0 32 cs _ hc Tryz.underlying32 rfl (by rw [hl]; kernel_rfl)
  have h3 : tmps[2]?.getD undef = .pointer (some ⟨rb, 0, none⟩) := by simpa using h
  unfold results
  rw [Tryz.results15]
  simp [h3, asAddr, h2]
def dumpZ : List Value := dmZ (.int .i64 0) (.slice none 0 0) (.int .i64 0) (.slice none 0 0) (.slice none 0 0)
set_option maxRecDepth 100000 in
set_option maxHeartbeats 8000000 in
theorem stDump_any (w : World) (b : Nat) (S : Nat → Prop) (s : StS) (h : SttAt w b S s) (h1 : s.t.t.m.length ≤ 100000) (h2 : s.t.n.m.length ≤ 100000) (h3 : s.h.m.length ≤ 100000) :
    Calls Tryz.prog 15 #[.pointer (some ⟨b, 0, none⟩)] w (Dump25Post w s) := by
  obtain ⟨sb, lt, tb, hb, ob, mb, S1, S2, hi, s1, s2, so, sm⟩ := h
  obtain ⟨-, -, ib, nb, T1, T2, g0, g1, ht, hn, -, -, -, -, -⟩ := hi.tr
  have d0 := hi.c0
  have d1 := hi.c1
  have d2 := hi.c2
  have d3 := hi.c3
  have hbl := cell_lt d0
  have htl := cell_lt g0
  have HIN : Hid (∀ W, Below w.heap.size w W → Calls Tryz.prog 49 #[.pointer (some ⟨tb, 0, none⟩)] W fun e w' => e = .returned (.pointer (some ⟨ib, 0, none⟩)) ∧ w' = W) := Lib.hid (fun W hB => inodes_is W tb ib (below_at hB g0 htl))
  have HNM : Hid (∀ W, Below w.heap.size w W → Calls Tryz.prog 52 #[.pointer (some ⟨tb, 0, none⟩)] W fun e w' => e = .returned (.pointer (some ⟨nb, 0, none⟩)) ∧ w' = W) := Lib.hid (fun W hB => names_is W tb nb (below_at hB g1 htl))
  have HNX : Hid (∀ W, Below w.heap.size w W → Calls Tryz.prog 51 #[.pointer (some ⟨ib, 0, none⟩)] W fun e w' => e = .returned (.int .i64 s.t.t.next) ∧ w' = W) := Lib.hid (fun W hB => inoNext_any W ib T1 s.t.t (ht.below' hB))
  have HDM : Hid (∀ W, Below w.heap.size w W → Calls Tryz.prog 50 #[.pointer (some ⟨ib, 0, none⟩)] W (DumpPost W s.t.t)) := Lib.hid (fun W hB => inoDump_any W ib T1 s.t.t (ht.below' hB) h1)
  have HAL : Hid (∀ W, Below w.heap.size w W → Calls Tryz.prog 53 #[.pointer (some ⟨nb, 0, none⟩)] W (SomePost W s.t.n.m (fun _ => true))) := Lib.hid (fun W hB => dirAll_any W nb T2 s.t.n (hn.below' hB) h2)
  have HHA : Hid (∀ W, Below w.heap.size w W → Calls Tryz.prog 54 #[.pointer (some ⟨hb, 0, none⟩)] W (HAllPost W s.h.m)) := Lib.hid (fun W hB => hdlAll_any W hb S2 s.h (hi.hd.below' hB) h3)
  have HLE : Hid (∀ W c, Below w.heap.size w W → Calls Tryz.prog 55 #[.pointer (some ⟨hb, 0, none⟩), .int .i64 c] W fun e w' => e = .returned (.int .i64 (s.h.lease c)) ∧ w' = W) := Lib.hid (fun W c hB => hdlLease_any W hb S2 s.h (hi.hd.below' hB) c)
  have HLA : Hid (∀ W c, Below w.heap.size w W → Calls Tryz.prog 56 #[.pointer (some ⟨ob, 0, none⟩), .int .i64 c] W (LastPost W (olast s.o c))) := Lib.hid (fun W c hB => onceLast_any c W ob mb s.o (hi.on.mod (F := none') (Mod.of_below hB) id id))
  clear hi ht hn s1 s2 so sm sb lt g0 g1
  obtain ⟨nx, hnx⟩ : ∃ nx, nx = s.next := ⟨_, rfl⟩
  rw [← hnx] at d3
  have HNXT := Lib.hid hnx
  clear hnx
  obtain ⟨W1, hW1⟩ : ∃ W1, W1 = w.alloc (.cells #[.int .i64 0, .slice none 0 0, .int .i64 0, .slice none 0 0, .slice none 0 0, .int .i64 0, .int .i64 0, .int .i64 0, .int .i64 0, .int .i64 0, .int .i64 0, .int .i64 0, .int .i64 0, .int .i64 0, .int .i64 0, .int .i64 0, .int .i64 0, .int .i64 0, .int .i64 0, .int .i64 0, .int .i64 0, .int .i64 0, .int .i64 0, .int .i64 0, .int .i64 0, .int .i64 0, .int .i64 0, .int .i64 0, .int .i64 0, .int .i64 0, .int .i64 0, .int .i64 0, .int .i64 0, .int .i64 0, .int .i64 0, .int .i64 0, .int .i64 0] 32) := ⟨_, rfl⟩
  have hB1 : Below w.heap.size w W1 := by rw [hW1]; exact belC (Below.refl _ _)
  have hrb := DmBox.new w 32 (dmZ (.int .i64 0) (.slice none 0 0) (.int .i64 0) (.slice none 0 0) (.slice none 0 0)) rfl
  rw [show w.alloc (.cells (dmZ (.int .i64 0) (.slice none 0 0) (.int .i64 0) (.slice none 0 0) (.slice none 0 0)).toArray 32) = W1 from hW1.symm] at hrb
  obtain ⟨W0, hW0⟩ : ∃ W0, W0 = W1.drew := ⟨_, rfl⟩
  have hB0 : Below w.heap.size w W0 := by rw [hW0]; exact hB1.drew
  have HRB := Lib.hid (hrb.below (w' := W0) (by rw [hW0]; exact belC (Below.refl _ _)))
  have HS1 : Hid ((W0.cell? ⟨b, 0, none⟩ = some (.pointer (some ⟨tb, 0, none⟩)) ∧ W0.cell? ⟨b, 1, none⟩ = some (.pointer (some ⟨hb, 0, none⟩)) ∧ W0.cell? ⟨b, 3, none⟩ = some (.int .i64 nx)) ∧ Below w.heap.size w W0) := Lib.hid ⟨⟨below_at hB0 d0 hbl, below_at hB0 d1 hbl, below_at hB0 d3 hbl⟩, hB0⟩
  have HW0 := Lib.hid hW0
  have HW1 := Lib.hid hW1
  clear hW1 hB1 hrb hW0 hB0
  go_enter Tryz.func15, Tryz.ntmps15
  go_wp2_with fail
  rw [← HW1.out]
  refine wp_region_held_drew (S := fun W' => (W'.cell? ⟨b, 0, none⟩ = some (.pointer (some ⟨tb, 0, none⟩)) ∧ W'.cell? ⟨b, 1, none⟩ = some (.pointer (some ⟨hb, 0, none⟩)) ∧ W'.cell? ⟨b, 3, none⟩ = some (.int .i64 nx)) ∧ Below w.heap.size w W') (by kernel_rfl) (by rw [← HW0.out]; exact HS1.out) (fun hHeld => ?_)
  rw [← HW0.out] at hHeld ⊢
  refine wpAnyH_name (fun Qn HQ => ?_)
  have key : ∀ (W : World) (xb : Nat) (ia : Option Addr) (ic : Nat) (ik : List InC) (na : Option Addr) (nc : Nat) (nl : List Ent) (ha : Option Addr) (hc : Nat) (hl : List Hd), DmBox W xb (fun j => ((dmZ (.int .i64 nx) (.slice ia ik.length ic) (.int .i64 s.t.t.next) (.slice na nl.length nc) (.slice ha hl.length hc))[j]?).getD undef) → w.heap.size < xb → DmBox W w.heap.size (fun j => ((dmZ (.int .i64 0) (.slice none 0 0) (.int .i64 0) (.slice none 0 0) (.slice none 0 0))[j]?).getD undef) →
      W.cell? ⟨b, 0, none⟩ = some (.pointer (some ⟨tb, 0, none⟩)) → W.cell? ⟨b, 1, none⟩ = some (.pointer (some ⟨hb, 0, none⟩)) → Below w.heap.size w W → InosAt W (fun k => w.heap.size < k ∧ k ≠ xb) ia ik → ik.map InC.val = s.t.t.dump → SortedOf s.t.n.m (fun _ => true) nl → EntsAt (fun k => w.heap.size < k ∧ k ≠ xb) W na nl → HSorted s.h.m hl → HdsAt (fun k => w.heap.size < k ∧ k ≠ xb) W ha hl →
      Qn ⟨#[.pointer (some ⟨b, 0, none⟩), undef, .pointer (some ⟨w.heap.size, 0, none⟩), .pointer (some ⟨xb, 0, none⟩), undef, .pointer (some ⟨b, 0, none⟩), .bool false, undef, .pointer (some ⟨b, 0, none⟩), .pointer (some ⟨b, 0, none⟩), .pointer (some ⟨b, 3, none⟩), .int .i64 nx, .pointer (some ⟨b, 0, none⟩), .pointer (some ⟨b, 0, none⟩), .pointer (some ⟨b, 0, none⟩), .pointer (some ⟨tb, 0, none⟩), .pointer (some ⟨ib, 0, none⟩), .slice ia ik.length ic, .pointer (some ⟨b, 0, none⟩), .pointer (some ⟨b, 0, none⟩), .pointer (some ⟨b, 0, none⟩), .pointer (some ⟨tb, 0, none⟩), .pointer (some ⟨ib, 0, none⟩), .int .i64 s.t.t.next, .pointer (some ⟨b, 0, none⟩), .pointer (some ⟨b, 0, none⟩), .pointer (some ⟨b, 0, none⟩), .pointer (some ⟨tb, 0, none⟩), .pointer (some ⟨nb, 0, none⟩), .slice na nl.length nc, .pointer (some ⟨b, 0, none⟩), .pointer (some ⟨b, 0, none⟩), .pointer (some ⟨b, 1, none⟩), .pointer (some ⟨hb, 0, none⟩), .slice ha hl.length hc, .agg (dmZ (.int .i64 nx) (.slice ia ik.length ic) (.int .i64 s.t.t.next) (.slice na nl.length nc) (.slice ha hl.length hc)).toArray, undef, undef, undef, undef, undef, undef, undef, undef, undef, undef, undef, undef, undef, undef, undef, undef, undef, undef, undef, undef, undef, undef, undef, undef, undef, undef, undef, undef, undef], []⟩ W := by
    intro W xb ia ic ik na nc nl ha hc hl hbx hxl hrb k0 k1 hBW hIA hIV hNS hNA hHS hHL
    rw [HQ.out]
    go_wp2_with fail
    have HBW := Lib.hid hBW
    have HIA := Lib.hid hIA
    have HIV := Lib.hid hIV
    have HNS := Lib.hid hNS
    have HNA := Lib.hid hNA
    have HHS := Lib.hid hHS
    have HHL := Lib.hid hHL
    have HRB := Lib.hid hrb
    have HXL := Lib.hid hxl
    obtain ⟨va, hva⟩ : ∃ va, va = Value.slice ia ik.length ic := ⟨_, rfl⟩
    obtain ⟨vb, hvb⟩ : ∃ vb, vb = Value.slice na nl.length nc := ⟨_, rfl⟩
    obtain ⟨vc, hvc⟩ : ∃ vc, vc = Value.slice ha hl.length hc := ⟨_, rfl⟩
    have hbx0 : DmBox W xb (dmV s va vb vc 0) := hbx.congr (fun j hj => by
      rw [hva, hvb, hvc, HNXT.out]
      exact dmZ_0 s _ _ _ j hj)
    have HBX := Lib.hid hbx0
    have HVA := Lib.hid hva
    have HVB := Lib.hid hvb
    have HVC := Lib.hid hvc
    clear hBW hIA hIV hNS hNA hHS hHL hrb hbx hbx0 hva hvb hvc hxl
    go_loopg [36] 8 (fun g v wr => DmRel W xb s va vb vc g v wr)
    case atStart => exact ⟨0, rfl, Nat.zero_le _, rfl, HBX.out, Mod.refl _ _⟩
    case round =>
      obtain ⟨i, rfl, hi, rfl, hbx, hM⟩ := hrel
      have HM := Lib.hid hM
      have HB := Lib.hid (HBW.out.trans (hM.below_at (B := w.heap.size) HBW.out.size (fun k hk e => by have e : k = xb := e; have := HXL.out; omega)))
      have k0 := hM.at k0 (fun e => by have := HXL.out; omega)
      have k1 := hM.at k1 (fun e => by have := HXL.out; omega)
      clear hM
      by_cases hlt : i < 8
      · have hil2 : (0 : Int) ≤ i ∧ (i : Int) < 8 := by omega
        have k2 := below_at HB.out d2 hbl
        have cA := hbx.at' (5 + i) (by omega)
        have fz := hbx.fz
        have hle := HLE.out wr i HB.out
        have hxbl := cell_lt cA
        have HBX := Lib.hid hbx
        clear hbx
        go_wp2_with fail
        refine hle.mono ?_
        clear hle
        rintro e w2 ⟨rfl, hw2⟩
        obtain rfl := hw2.symm
        go_wp2_with fail
        clear cA fz
        have hb1 := HBX.out.set (k := 5 + i) (by omega) (.int .i64 (s.h.lease i))
        obtain ⟨w3, hw3⟩ : ∃ w3, w3 = wr.setCell ⟨xb, 5 + i, none⟩ (.int .i64 (s.h.lease i)) := ⟨_, rfl⟩
        have hM3 : Mod (· = xb) wr w3 := by rw [hw3]; exact (Mod.refl (· = xb) wr).setCellAt (b := xb) (fun _ => rfl) _
        rw [← hw3] at hb1 ⊢
        clear hw3
        have HM3 := Lib.hid (HM.out.trans hM3)
        have HB3 := Lib.hid (HB.out.trans (hM3.below_at (B := w.heap.size) HB.out.size (fun k hk e => by have e : k = xb := e; have := HXL.out; omega)))
        have hla := HLA.out w3 i HB3.out
        clear hM3
        refine hla.mono ?_
        clear hla k0 k1 k2
        rintro e w4 ⟨rfl, hB4⟩
        have hb4 := hb1.below hB4
        have k0 := below_at (HB3.out.trans (hB4.mono HB3.out.size)) d0 hbl
        have k1 := below_at (HB3.out.trans (hB4.mono HB3.out.size)) d1 hbl
        have cB := hb4.at' (13 + i) (by omega)
        have cC := hb4.at' (21 + i * 2) (by omega)
        have cD := hb4.at' (21 + i * 2 + 1) (by omega)
        have fz4 := hb4.fz
        have HB4 := Lib.hid hb4
        have HM4 := Lib.hid (HM3.out.trans (Mod.of_below hB4))
        clear hb1 hb4 hB4
        go_wp2_with fail
        go_roundg (8 - (i + 1))
        case measure => exact Nat.sub_lt_sub_left hlt (Nat.lt_succ_self i)
        case rel => exact ⟨i + 1, rfl, hlt, rfl, ((HB4.out.set (k := 13 + i) (by omega) _).set (k := 21 + i * 2) (by omega) _).set (k := 21 + i * 2 + 1) (by omega) _, ((HM4.out.setCellAt (b := xb) (fun _ => rfl) _).setCellAt (b := xb) (fun _ => rfl) _).setCellAt (b := xb) (fun _ => rfl) _⟩
      · obtain rfl : i = 8 := by omega
        have hrng : wr.rangeAt xb 0 (dmCells s va vb vc) := hbx.range
        have hrb : DmBox wr w.heap.size _ := HRB.out.other HM.out (by have := HXL.out; omega)
        have hth : wr.there w.heap.size 0 (dmCells s va vb vc).toArray.size := by rw [show (dmCells s va vb vc).toArray.size = 37 from dmC_len s va vb vc]; exact hrb.there
        have hinf : ∀ n, n = 37 → (Tryz.prog.info? 32).map (·.size) = some n := fun n e => by rw [e]; kernel_rfl
        have hone : (dmCells s va vb vc).toArray.all (·.oneCell') = true := all_oneCell_toArray (fun v hv => by
          obtain ⟨j, -, rfl⟩ := List.mem_map.1 hv
          exact dmV_one s va vb vc (by rw [HVA.out]; rfl) (by rw [HVB.out]; rfl) (by rw [HVC.out]; rfl) 8 j)
        have hM2 : Mod (· = w.heap.size) wr (wr.setCells w.heap.size 0 (dmCells s va vb vc)) := Mod.setCellsAt (F := (· = w.heap.size)) (show (· = w.heap.size) w.heap.size from rfl) _ _ _ (Mod.refl _ _)
        have HRG := Lib.hid hrng
        have HTH := Lib.hid hth
        have HIN2 := Lib.hid hinf
        have HON := Lib.hid hone
        have HM2 := Lib.hid hM2
        have HLN := Lib.hid (dmC_len s va vb vc)
        have HDC : Hid (dmCells s va vb vc = dmCells s (.slice ia ik.length ic) (.slice na nl.length nc) (.slice ha hl.length hc)) := Lib.hid (by rw [← HVA.out, ← HVB.out, ← HVC.out])
        clear hrng hth hinf hone hM2 hrb hbx
        generalize dmCells s va vb vc = dc at *
        go_wp2_with (first | (refine wpList_load_mid (by rfl) 32 _ (by rfl) xb 0 (by rfl) dc _ HRG.out Tryz.underlying32 rfl (HIN2.out _ HLN.out) ?_) | (refine wpList_store_mid (by rfl) 32 _ _ (by rfl) w.heap.size 0 dc.toArray (by rfl) (by rfl) HTH.out (HIN2.out _ HLN.out) HON.out ?_))
        refine bodyPost_ret (dm_results _ w.heap.size dc _ (by rfl) (World.rangeAt_setCells_same _ _ _ _ HTH.out) HLN.out) rfl ?_
        refine ⟨ia, ic, ik, na, nc, nl, ha, hc, hl, by rw [HDC.out], ?_, HIV.out, HNS.out, ?_, HHS.out, ?_, HB.out.trans (HM2.out.below_at (B := w.heap.size) HB.out.size (fun k hk e => by have e : k = w.heap.size := e; omega))⟩
        · exact ((HIA.out.mod HM.out (fun k hk _ e => hk.2 e)).mod HM2.out (fun k hk _ e => by have e : k = w.heap.size := e; omega)).sub (fun k _ hk => Nat.le_of_lt hk.1)
        · exact ((HNA.out.mod HM.out (fun k hk _ e => hk.2 e)).mod HM2.out (fun k hk _ e => by have e : k = w.heap.size := e; omega)).to (fun k _ hk => Nat.le_of_lt hk.1)
        · exact ((HHL.out.mod HM.out (fun k hk _ e => hk.2 e)).mod HM2.out (fun k hk _ e => by have e : k = w.heap.size := e; omega)).to (fun k _ hk => Nat.le_of_lt hk.1)
  refine takeL 0 ?_
  refine takeL 1 ?_
  refine takeL 2 ?_
  refine takeL 3 ?_
  refine takeL 4 ?_
  refine takeL 5 ?_
  refine takeL 6 ?_
  refine takeL 7 ?_
  refine takeL 10 ?_
  refine takeL 11 ?_
  refine takeL 12 ?_
  refine takeL 13 ?_
  refine takeL 16 ?_
  refine takeL 17 ?_
  refine takeL 18 ?_
  refine takeL 19 ?_
  refine takeL 22 ?_
  refine takeL 23 ?_
  refine takeL 24 ?_
  refine takeL 25 ?_
  refine takeC 8 (f := 49) (args := #[.pointer (some ⟨tb, 0, none⟩)]) (v := .pointer (some ⟨ib, 0, none⟩)) (fun W hS => HIN.out W hS.2) ?_
  refine wpAnyH_ready (rs := [9, 28]) (by kernel_rfl) (by simp) ?_
  refine AllReadyH.cons (o := _) rfl (fun K hK => ?_) (AllReadyH.cons (o := _) rfl (fun K hK => ?_) AllReadyH.nil)
  ·
    go_simp
    refine (HDM.out _ hHeld.2).mono ?_
    rintro e wI ⟨ia, ic, ik, rfl, hIA, hIV, hBI⟩
    have hz := cell_lt (HRB.out.at' 0 (by decide))
    try have hxbl := cell_lt (HBX.out.at' 0 (by decide))
    have hKA := dmKeep hHeld hBI
    have HRB := Lib.hid (HRB.out.below hBI)
    try have HBX := Lib.hid (HBX.out.below hBI)
    try have HIA := Lib.hid (HIA.out.below' hBI)
    try have HNA := Lib.hid (HNA.out.below hBI)
    try have HHL := Lib.hid (HHL.out.below hBI)
    have HIA := Lib.hid (hIA.sub (T := fun k => w.heap.size < k) (fun k hk h => Nat.lt_of_lt_of_le hz h))
    have HIV := Lib.hid hIV
    clear hIA hIV hBI hz
    try go_wp2_with fail
    refine hK.out _ _ hKA (fun hHeld => ?_)
    clear hK K hKA
    try simp only [Act.put, List.setIfInBounds_toArray, List.set_cons_zero, List.set_cons_succ]
    refine takeC 14 (f := 49) (args := #[.pointer (some ⟨tb, 0, none⟩)]) (v := .pointer (some ⟨ib, 0, none⟩)) (fun W hS => HIN.out W hS.2) ?_
    refine takeC 15 (f := 51) (args := #[.pointer (some ⟨ib, 0, none⟩)]) (v := .int .i64 s.t.t.next) (fun W hS => HNX.out W hS.2) ?_
    refine takeC 20 (f := 52) (args := #[.pointer (some ⟨tb, 0, none⟩)]) (v := .pointer (some ⟨nb, 0, none⟩)) (fun W hS => HNM.out W hS.2) ?_
    refine wpAnyH_ready (rs := [21, 28]) (by kernel_rfl) (by simp) ?_
    refine AllReadyH.cons (o := _) rfl (fun K hK => ?_) (AllReadyH.cons (o := _) rfl (fun K hK => ?_) AllReadyH.nil)
    ·
      go_simp
      refine (HAL.out _ hHeld.2).mono ?_
      rintro e wN ⟨na, nc, nl, rfl, hNS, hNA, -, hBN⟩
      have hz := cell_lt (HRB.out.at' 0 (by decide))
      try have hxbl := cell_lt (HBX.out.at' 0 (by decide))
      have hKA := dmKeep hHeld hBN
      have HRB := Lib.hid (HRB.out.below hBN)
      try have HBX := Lib.hid (HBX.out.below hBN)
      try have HIA := Lib.hid (HIA.out.below' hBN)
      try have HNA := Lib.hid (HNA.out.below hBN)
      try have HHL := Lib.hid (HHL.out.below hBN)
      have HNA := Lib.hid (hNA.to (T := fun k => w.heap.size < k) (fun k hk h => Nat.lt_of_lt_of_le hz h))
      have HNS := Lib.hid hNS
      clear hNA hNS hBN hz
      try go_wp2_with fail
      refine hK.out _ _ hKA (fun hHeld => ?_)
      clear hK K hKA
      try simp only [Act.put, List.setIfInBounds_toArray, List.set_cons_zero, List.set_cons_succ]
      refine wpAnyH_ready (rs := [26, 28]) (by kernel_rfl) (by simp) ?_
      refine AllReadyH.cons (o := _) rfl (fun K hK => ?_) (AllReadyH.cons (o := _) rfl (fun K hK => ?_) AllReadyH.nil)
      ·
        go_simp
        refine (HHA.out _ hHeld.2).mono ?_
        rintro e wH ⟨ha, hc, hl, rfl, hHS, hHL, -, hBH⟩
        have hz := cell_lt (HRB.out.at' 0 (by decide))
        try have hxbl := cell_lt (HBX.out.at' 0 (by decide))
        have hKA := dmKeep hHeld hBH
        have HRB := Lib.hid (HRB.out.below hBH)
        try have HBX := Lib.hid (HBX.out.below hBH)
        try have HIA := Lib.hid (HIA.out.below' hBH)
        try have HNA := Lib.hid (HNA.out.below hBH)
        try have HHL := Lib.hid (HHL.out.below hBH)
        have HHL := Lib.hid (hHL.to (T := fun k => w.heap.size < k) (fun k hk h => Nat.lt_of_lt_of_le hz h))
        have HHS := Lib.hid hHS
        clear hHL hHS hBH hz
        try go_wp2_with fail
        refine hK.out _ _ hKA (fun hHeld => ?_)
        clear hK K hKA
        try simp only [Act.put, List.setIfInBounds_toArray, List.set_cons_zero, List.set_cons_succ]
        refine takeL 27 ?_
        refine wpAnyH_ready (rs := [28]) (by kernel_rfl) (by simp) ?_
        refine AllReadyH.cons (o := _) rfl (fun K hK => ?_) AllReadyH.nil
        go_simp
        have hBX := (show Below (wH).heap.size wH ((wH).alloc (.cells (dmZ (.int .i64 0) (.slice none 0 0) (.int .i64 0) (.slice none 0 0) (.slice none 0 0)).toArray 32)) by exact belC (Below.refl _ _))
        have hbx := DmBox.new wH 32 (dmZ (.int .i64 0) (.slice none 0 0) (.int .i64 0) (.slice none 0 0) (.slice none 0 0)) rfl
        obtain ⟨xb, hxb⟩ : ∃ xb, xb = (wH).heap.size := ⟨_, rfl⟩
        have HXL : Hid (w.heap.size < xb) := Lib.hid (by have := cell_lt (HRB.out.at' 0 (by decide)); rw [hxb]; exact this)
        rw [← hxb] at hbx ⊢
        try have HIA := Lib.hid (HIA.out.sub (T := fun k => w.heap.size < k ∧ k ≠ xb) (fun k hk h => ⟨h, fun e => by rw [e, hxb] at hk; exact absurd hk (Nat.lt_irrefl _)⟩))
        try have HNA := Lib.hid (HNA.out.to (T := fun k => w.heap.size < k ∧ k ≠ xb) (fun k hk h => ⟨h, fun e => by rw [e, hxb] at hk; exact absurd hk (Nat.lt_irrefl _)⟩))
        try have HHL := Lib.hid (HHL.out.to (T := fun k => w.heap.size < k ∧ k ≠ xb) (fun k hk h => ⟨h, fun e => by rw [e, hxb] at hk; exact absurd hk (Nat.lt_irrefl _)⟩))
        clear hxb
        have hKA := dmKeep hHeld hBX
        have HRB := Lib.hid (HRB.out.below hBX)
        try have HBX := Lib.hid (HBX.out.below hBX)
        try have HIA := Lib.hid (HIA.out.below' hBX)
        try have HNA := Lib.hid (HNA.out.below hBX)
        try have HHL := Lib.hid (HHL.out.below hBX)
        have HBX := Lib.hid hbx
        obtain ⟨wA, hwA⟩ : ∃ wA, wA = (wH).alloc (.cells (dmZ (.int .i64 0) (.slice none 0 0) (.int .i64 0) (.slice none 0 0) (.slice none 0 0)).toArray 32) := ⟨_, rfl⟩
        try go_wp2_with fail
        refine hK.out _ ((wH).alloc (.cells (dmZ (.int .i64 0) (.slice none 0 0) (.int .i64 0) (.slice none 0 0) (.slice none 0 0)).toArray 32)) hKA (fun hHeld => ?_)
        clear hK K hKA
        try simp only [Act.put, List.setIfInBounds_toArray, List.set_cons_zero, List.set_cons_succ]
        rw [← hwA] at hHeld HRB HBX ⊢
        try rw [← hwA] at HIA
        try rw [← hwA] at HNA
        try rw [← hwA] at HHL
        clear hwA hbx hBX
        refine wpAnyH_ready (rs := [29]) (by kernel_rfl) (by simp) ?_
        refine AllReadyH.cons (o := _) rfl (fun K hK => ?_) AllReadyH.nil
        rw [if_pos (by rfl)]
        refine wp_store_mid _ _ _ rfl xb 0 (dmZ (.int .i64 nx) (.slice ia ik.length ic) (.int .i64 s.t.t.next) (.slice na nl.length nc) (.slice ha hl.length hc)).toArray rfl rfl HBX.out.there (by kernel_rfl) (dmZ_one _ _ _ _ _ _ _ _ _ _ _) ?_
        have hM : Mod (· = xb) wA ((wA).setCells xb 0 (dmZ (.int .i64 nx) (.slice ia ik.length ic) (.int .i64 s.t.t.next) (.slice na nl.length nc) (.slice ha hl.length hc))) := Mod.setCellsAt (F := (· = xb)) (show (· = xb) xb from rfl) _ _ _ (Mod.refl _ _)
        have hB : Below w.heap.size w ((wA).setCells xb 0 (dmZ (.int .i64 nx) (.slice ia ik.length ic) (.int .i64 s.t.t.next) (.slice na nl.length nc) (.slice ha hl.length hc))) := hHeld.2.trans (hM.below_at hHeld.2.size (fun k hk e => by have e : k = xb := e; have := HXL.out; omega))
        refine hK.out _ _ ⟨⟨hM.at hHeld.1.1 (by have := HXL.out; omega), hM.at hHeld.1.2.1 (by have := HXL.out; omega), hM.at hHeld.1.2.2 (by have := HXL.out; omega)⟩, hB⟩ (fun hHeld2 => ?_)
        clear hK K
        try simp only [Act.put, List.setIfInBounds_toArray, List.set_cons_zero, List.set_cons_succ]
        refine wpAnyH_done (by kernel_rfl) ?_ _
        show Qn _ _
        exact key _ xb ia ic ik na nc nl ha hc hl (HBX.out.store _ rfl) HXL.out (HRB.out.other hM (by have := HXL.out; omega)) hHeld2.1.1 hHeld2.1.2.1 hHeld2.2 (HIA.out.mod (F := (· = xb)) hM (fun k hk _ e => hk.2 e)) HIV.out HNS.out (HNA.out.mod hM (fun k hk _ e => hk.2 e)) HHS.out (HHL.out.mod hM (fun k hk _ e => hk.2 e))
      ·
        go_simp
        have hBX := (show Below (wN).heap.size wN ((wN).alloc (.cells (dmZ (.int .i64 0) (.slice none 0 0) (.int .i64 0) (.slice none 0 0) (.slice none 0 0)).toArray 32)) by exact belC (Below.refl _ _))
        have hbx := DmBox.new wN 32 (dmZ (.int .i64 0) (.slice none 0 0) (.int .i64 0) (.slice none 0 0) (.slice none 0 0)) rfl
        obtain ⟨xb, hxb⟩ : ∃ xb, xb = (wN).heap.size := ⟨_, rfl⟩
        have HXL : Hid (w.heap.size < xb) := Lib.hid (by have := cell_lt (HRB.out.at' 0 (by decide)); rw [hxb]; exact this)
        rw [← hxb] at hbx ⊢
        try have HIA := Lib.hid (HIA.out.sub (T := fun k => w.heap.size < k ∧ k ≠ xb) (fun k hk h => ⟨h, fun e => by rw [e, hxb] at hk; exact absurd hk (Nat.lt_irrefl _)⟩))
        try have HNA := Lib.hid (HNA.out.to (T := fun k => w.heap.size < k ∧ k ≠ xb) (fun k hk h => ⟨h, fun e => by rw [e, hxb] at hk; exact absurd hk (Nat.lt_irrefl _)⟩))
        try have HHL := Lib.hid (HHL.out.to (T := fun k => w.heap.size < k ∧ k ≠ xb) (fun k hk h => ⟨h, fun e => by rw [e, hxb] at hk; exact absurd hk (Nat.lt_irrefl _)⟩))
        clear hxb
        have hKA := dmKeep hHeld hBX
        have HRB := Lib.hid (HRB.out.below hBX)
        try have HBX := Lib.hid (HBX.out.below hBX)
        try have HIA := Lib.hid (HIA.out.below' hBX)
        try have HNA := Lib.hid (HNA.out.below hBX)
        try have HHL := Lib.hid (HHL.out.below hBX)
        have HBX := Lib.hid hbx
        obtain ⟨wA, hwA⟩ : ∃ wA, wA = (wN).alloc (.cells (dmZ (.int .i64 0) (.slice none 0 0) (.int .i64 0) (.slice none 0 0) (.slice none 0 0)).toArray 32) := ⟨_, rfl⟩
        try go_wp2_with fail
        refine hK.out _ ((wN).alloc (.cells (dmZ (.int .i64 0) (.slice none 0 0) (.int .i64 0) (.slice none 0 0) (.slice none 0 0)).toArray 32)) hKA (fun hHeld => ?_)
        clear hK K hKA
        try simp only [Act.put, List.setIfInBounds_toArray, List.set_cons_zero, List.set_cons_succ]
        rw [← hwA] at hHeld HRB HBX ⊢
        try rw [← hwA] at HIA
        try rw [← hwA] at HNA
        try rw [← hwA] at HHL
        clear hwA hbx hBX
        refine wpAnyH_ready (rs := [26]) (by kernel_rfl) (by simp) ?_
        refine AllReadyH.cons (o := _) rfl (fun K hK => ?_) AllReadyH.nil
        go_simp
        refine (HHA.out _ hHeld.2).mono ?_
        rintro e wH ⟨ha, hc, hl, rfl, hHS, hHL, -, hBH⟩
        have hz := cell_lt (HRB.out.at' 0 (by decide))
        try have hxbl := cell_lt (HBX.out.at' 0 (by decide))
        have hKA := dmKeep hHeld hBH
        have HRB := Lib.hid (HRB.out.below hBH)
        try have HBX := Lib.hid (HBX.out.below hBH)
        try have HIA := Lib.hid (HIA.out.below' hBH)
        try have HNA := Lib.hid (HNA.out.below hBH)
        try have HHL := Lib.hid (HHL.out.below hBH)
        have HHL := Lib.hid (hHL.to (T := fun k => w.heap.size < k ∧ k ≠ xb) (fun k hk h => ⟨Nat.lt_of_lt_of_le hz h, fun e => Nat.lt_irrefl xb (Nat.lt_of_lt_of_le hxbl (Nat.le_trans h (Nat.le_of_eq e)))⟩))
        have HHS := Lib.hid hHS
        clear hHL hHS hBH hz
        try go_wp2_with fail
        refine hK.out _ _ hKA (fun hHeld => ?_)
        clear hK K hKA
        try simp only [Act.put, List.setIfInBounds_toArray, List.set_cons_zero, List.set_cons_succ]
        refine takeL 27 ?_
        refine wpAnyH_ready (rs := [29]) (by kernel_rfl) (by simp) ?_
        refine AllReadyH.cons (o := _) rfl (fun K hK => ?_) AllReadyH.nil
        rw [if_pos (by rfl)]
        refine wp_store_mid _ _ _ rfl xb 0 (dmZ (.int .i64 nx) (.slice ia ik.length ic) (.int .i64 s.t.t.next) (.slice na nl.length nc) (.slice ha hl.length hc)).toArray rfl rfl HBX.out.there (by kernel_rfl) (dmZ_one _ _ _ _ _ _ _ _ _ _ _) ?_
        have hM : Mod (· = xb) wH ((wH).setCells xb 0 (dmZ (.int .i64 nx) (.slice ia ik.length ic) (.int .i64 s.t.t.next) (.slice na nl.length nc) (.slice ha hl.length hc))) := Mod.setCellsAt (F := (· = xb)) (show (· = xb) xb from rfl) _ _ _ (Mod.refl _ _)
        have hB : Below w.heap.size w ((wH).setCells xb 0 (dmZ (.int .i64 nx) (.slice ia ik.length ic) (.int .i64 s.t.t.next) (.slice na nl.length nc) (.slice ha hl.length hc))) := hHeld.2.trans (hM.below_at hHeld.2.size (fun k hk e => by have e : k = xb := e; have := HXL.out; omega))
        refine hK.out _ _ ⟨⟨hM.at hHeld.1.1 (by have := HXL.out; omega), hM.at hHeld.1.2.1 (by have := HXL.out; omega), hM.at hHeld.1.2.2 (by have := HXL.out; omega)⟩, hB⟩ (fun hHeld2 => ?_)
        clear hK K
        try simp only [Act.put, List.setIfInBounds_toArray, List.set_cons_zero, List.set_cons_succ]
        refine wpAnyH_done (by kernel_rfl) ?_ _
        show Qn _ _
        exact key _ xb ia ic ik na nc nl ha hc hl (HBX.out.store _ rfl) HXL.out (HRB.out.other hM (by have := HXL.out; omega)) hHeld2.1.1 hHeld2.1.2.1 hHeld2.2 (HIA.out.mod (F := (· = xb)) hM (fun k hk _ e => hk.2 e)) HIV.out HNS.out (HNA.out.mod hM (fun k hk _ e => hk.2 e)) HHS.out (HHL.out.mod hM (fun k hk _ e => hk.2 e))
    ·
      go_simp
      have hBX := (show Below (wI).heap.size wI ((wI).alloc (.cells (dmZ (.int .i64 0) (.slice none 0 0) (.int .i64 0) (.slice none 0 0) (.slice none 0 0)).toArray 32)) by exact belC (Below.refl _ _))
      have hbx := DmBox.new wI 32 (dmZ (.int .i64 0) (.slice none 0 0) (.int .i64 0) (.slice none 0 0) (.slice none 0 0)) rfl
      obtain ⟨xb, hxb⟩ : ∃ xb, xb = (wI).heap.size := ⟨_, rfl⟩
      have HXL : Hid (w.heap.size < xb) := Lib.hid (by have := cell_lt (HRB.out.at' 0 (by decide)); rw [hxb]; exact this)
      rw [← hxb] at hbx ⊢
      try have HIA := Lib.hid (HIA.out.sub (T := fun k => w.heap.size < k ∧ k ≠ xb) (fun k hk h => ⟨h, fun e => by rw [e, hxb] at hk; exact absurd hk (Nat.lt_irrefl _)⟩))
      try have HNA := Lib.hid (HNA.out.to (T := fun k => w.heap.size < k ∧ k ≠ xb) (fun k hk h => ⟨h, fun e => by rw [e, hxb] at hk; exact absurd hk (Nat.lt_irrefl _)⟩))
      try have HHL := Lib.hid (HHL.out.to (T := fun k => w.heap.size < k ∧ k ≠ xb) (fun k hk h => ⟨h, fun e => by rw [e, hxb] at hk; exact absurd hk (Nat.lt_irrefl _)⟩))
      clear hxb
      have hKA := dmKeep hHeld hBX
      have HRB := Lib.hid (HRB.out.below hBX)
      try have HBX := Lib.hid (HBX.out.below hBX)
      try have HIA := Lib.hid (HIA.out.below' hBX)
      try have HNA := Lib.hid (HNA.out.below hBX)
      try have HHL := Lib.hid (HHL.out.below hBX)
      have HBX := Lib.hid hbx
      obtain ⟨wA, hwA⟩ : ∃ wA, wA = (wI).alloc (.cells (dmZ (.int .i64 0) (.slice none 0 0) (.int .i64 0) (.slice none 0 0) (.slice none 0 0)).toArray 32) := ⟨_, rfl⟩
      try go_wp2_with fail
      refine hK.out _ ((wI).alloc (.cells (dmZ (.int .i64 0) (.slice none 0 0) (.int .i64 0) (.slice none 0 0) (.slice none 0 0)).toArray 32)) hKA (fun hHeld => ?_)
      clear hK K hKA
      try simp only [Act.put, List.setIfInBounds_toArray, List.set_cons_zero, List.set_cons_succ]
      rw [← hwA] at hHeld HRB HBX ⊢
      try rw [← hwA] at HIA
      try rw [← hwA] at HNA
      try rw [← hwA] at HHL
      clear hwA hbx hBX
      refine wpAnyH_ready (rs := [21]) (by kernel_rfl) (by simp) ?_
      refine AllReadyH.cons (o := _) rfl (fun K hK => ?_) AllReadyH.nil
      go_simp
      refine (HAL.out _ hHeld.2).mono ?_
      rintro e wN ⟨na, nc, nl, rfl, hNS, hNA, -, hBN⟩
      have hz := cell_lt (HRB.out.at' 0 (by decide))
      try have hxbl := cell_lt (HBX.out.at' 0 (by decide))
      have hKA := dmKeep hHeld hBN
      have HRB := Lib.hid (HRB.out.below hBN)
      try have HBX := Lib.hid (HBX.out.below hBN)
      try have HIA := Lib.hid (HIA.out.below' hBN)
      try have HNA := Lib.hid (HNA.out.below hBN)
      try have HHL := Lib.hid (HHL.out.below hBN)
      have HNA := Lib.hid (hNA.to (T := fun k => w.heap.size < k ∧ k ≠ xb) (fun k hk h => ⟨Nat.lt_of_lt_of_le hz h, fun e => Nat.lt_irrefl xb (Nat.lt_of_lt_of_le hxbl (Nat.le_trans h (Nat.le_of_eq e)))⟩))
      have HNS := Lib.hid hNS
      clear hNA hNS hBN hz
      try go_wp2_with fail
      refine hK.out _ _ hKA (fun hHeld => ?_)
      clear hK K hKA
      try simp only [Act.put, List.setIfInBounds_toArray, List.set_cons_zero, List.set_cons_succ]
      refine wpAnyH_ready (rs := [26]) (by kernel_rfl) (by simp) ?_
      refine AllReadyH.cons (o := _) rfl (fun K hK => ?_) AllReadyH.nil
      go_simp
      refine (HHA.out _ hHeld.2).mono ?_
      rintro e wH ⟨ha, hc, hl, rfl, hHS, hHL, -, hBH⟩
      have hz := cell_lt (HRB.out.at' 0 (by decide))
      try have hxbl := cell_lt (HBX.out.at' 0 (by decide))
      have hKA := dmKeep hHeld hBH
      have HRB := Lib.hid (HRB.out.below hBH)
      try have HBX := Lib.hid (HBX.out.below hBH)
      try have HIA := Lib.hid (HIA.out.below' hBH)
      try have HNA := Lib.hid (HNA.out.below hBH)
      try have HHL := Lib.hid (HHL.out.below hBH)
      have HHL := Lib.hid (hHL.to (T := fun k => w.heap.size < k ∧ k ≠ xb) (fun k hk h => ⟨Nat.lt_of_lt_of_le hz h, fun e => Nat.lt_irrefl xb (Nat.lt_of_lt_of_le hxbl (Nat.le_trans h (Nat.le_of_eq e)))⟩))
      have HHS := Lib.hid hHS
      clear hHL hHS hBH hz
      try go_wp2_with fail
      refine hK.out _ _ hKA (fun hHeld => ?_)
      clear hK K hKA
      try simp only [Act.put, List.setIfInBounds_toArray, List.set_cons_zero, List.set_cons_succ]
      refine takeL 27 ?_
      refine wpAnyH_ready (rs := [29]) (by kernel_rfl) (by simp) ?_
      refine AllReadyH.cons (o := _) rfl (fun K hK => ?_) AllReadyH.nil
      rw [if_pos (by rfl)]
      refine wp_store_mid _ _ _ rfl xb 0 (dmZ (.int .i64 nx) (.slice ia ik.length ic) (.int .i64 s.t.t.next) (.slice na nl.length nc) (.slice ha hl.length hc)).toArray rfl rfl HBX.out.there (by kernel_rfl) (dmZ_one _ _ _ _ _ _ _ _ _ _ _) ?_
      have hM : Mod (· = xb) wH ((wH).setCells xb 0 (dmZ (.int .i64 nx) (.slice ia ik.length ic) (.int .i64 s.t.t.next) (.slice na nl.length nc) (.slice ha hl.length hc))) := Mod.setCellsAt (F := (· = xb)) (show (· = xb) xb from rfl) _ _ _ (Mod.refl _ _)
      have hB : Below w.heap.size w ((wH).setCells xb 0 (dmZ (.int .i64 nx) (.slice ia ik.length ic) (.int .i64 s.t.t.next) (.slice na nl.length nc) (.slice ha hl.length hc))) := hHeld.2.trans (hM.below_at hHeld.2.size (fun k hk e => by have e : k = xb := e; have := HXL.out; omega))
      refine hK.out _ _ ⟨⟨hM.at hHeld.1.1 (by have := HXL.out; omega), hM.at hHeld.1.2.1 (by have := HXL.out; omega), hM.at hHeld.1.2.2 (by have := HXL.out; omega)⟩, hB⟩ (fun hHeld2 => ?_)
      clear hK K
      try simp only [Act.put, List.setIfInBounds_toArray, List.set_cons_zero, List.set_cons_succ]
      refine wpAnyH_done (by kernel_rfl) ?_ _
      show Qn _ _
      exact key _ xb ia ic ik na nc nl ha hc hl (HBX.out.store _ rfl) HXL.out (HRB.out.other hM (by have := HXL.out; omega)) hHeld2.1.1 hHeld2.1.2.1 hHeld2.2 (HIA.out.mod (F := (· = xb)) hM (fun k hk _ e => hk.2 e)) HIV.out HNS.out (HNA.out.mod hM (fun k hk _ e => hk.2 e)) HHS.out (HHL.out.mod hM (fun k hk _ e => hk.2 e))
  ·
    go_simp
    have hBX := (show Below (W0).heap.size W0 ((W0).alloc (.cells (dmZ (.int .i64 0) (.slice none 0 0) (.int .i64 0) (.slice none 0 0) (.slice none 0 0)).toArray 32)) by exact belC (Below.refl _ _))
    have hbx := DmBox.new W0 32 (dmZ (.int .i64 0) (.slice none 0 0) (.int .i64 0) (.slice none 0 0) (.slice none 0 0)) rfl
    obtain ⟨xb, hxb⟩ : ∃ xb, xb = (W0).heap.size := ⟨_, rfl⟩
    have HXL : Hid (w.heap.size < xb) := Lib.hid (by have := cell_lt (HRB.out.at' 0 (by decide)); rw [hxb]; exact this)
    rw [← hxb] at hbx ⊢
    try have HIA := Lib.hid (HIA.out.sub (T := fun k => w.heap.size < k ∧ k ≠ xb) (fun k hk h => ⟨h, fun e => by rw [e, hxb] at hk; exact absurd hk (Nat.lt_irrefl _)⟩))
    try have HNA := Lib.hid (HNA.out.to (T := fun k => w.heap.size < k ∧ k ≠ xb) (fun k hk h => ⟨h, fun e => by rw [e, hxb] at hk; exact absurd hk (Nat.lt_irrefl _)⟩))
    try have HHL := Lib.hid (HHL.out.to (T := fun k => w.heap.size < k ∧ k ≠ xb) (fun k hk h => ⟨h, fun e => by rw [e, hxb] at hk; exact absurd hk (Nat.lt_irrefl _)⟩))
    clear hxb
    have hKA := dmKeep hHeld hBX
    have HRB := Lib.hid (HRB.out.below hBX)
    try have HBX := Lib.hid (HBX.out.below hBX)
    try have HIA := Lib.hid (HIA.out.below' hBX)
    try have HNA := Lib.hid (HNA.out.below hBX)
    try have HHL := Lib.hid (HHL.out.below hBX)
    have HBX := Lib.hid hbx
    obtain ⟨wA, hwA⟩ : ∃ wA, wA = (W0).alloc (.cells (dmZ (.int .i64 0) (.slice none 0 0) (.int .i64 0) (.slice none 0 0) (.slice none 0 0)).toArray 32) := ⟨_, rfl⟩
    try go_wp2_with fail
    refine hK.out _ ((W0).alloc (.cells (dmZ (.int .i64 0) (.slice none 0 0) (.int .i64 0) (.slice none 0 0) (.slice none 0 0)).toArray 32)) hKA (fun hHeld => ?_)
    clear hK K hKA
    try simp only [Act.put, List.setIfInBounds_toArray, List.set_cons_zero, List.set_cons_succ]
    rw [← hwA] at hHeld HRB HBX ⊢
    try rw [← hwA] at HIA
    try rw [← hwA] at HNA
    try rw [← hwA] at HHL
    clear hwA hbx hBX
    refine wpAnyH_ready (rs := [9]) (by kernel_rfl) (by simp) ?_
    refine AllReadyH.cons (o := _) rfl (fun K hK => ?_) AllReadyH.nil
    go_simp
    refine (HDM.out _ hHeld.2).mono ?_
    rintro e wI ⟨ia, ic, ik, rfl, hIA, hIV, hBI⟩
    have hz := cell_lt (HRB.out.at' 0 (by decide))
    try have hxbl := cell_lt (HBX.out.at' 0 (by decide))
    have hKA := dmKeep hHeld hBI
    have HRB := Lib.hid (HRB.out.below hBI)
    try have HBX := Lib.hid (HBX.out.below hBI)
    try have HIA := Lib.hid (HIA.out.below' hBI)
    try have HNA := Lib.hid (HNA.out.below hBI)
    try have HHL := Lib.hid (HHL.out.below hBI)
    have HIA := Lib.hid (hIA.sub (T := fun k => w.heap.size < k ∧ k ≠ xb) (fun k hk h => ⟨Nat.lt_of_lt_of_le hz h, fun e => Nat.lt_irrefl xb (Nat.lt_of_lt_of_le hxbl (Nat.le_trans h (Nat.le_of_eq e)))⟩))
    have HIV := Lib.hid hIV
    clear hIA hIV hBI hz
    try go_wp2_with fail
    refine hK.out _ _ hKA (fun hHeld => ?_)
    clear hK K hKA
    try simp only [Act.put, List.setIfInBounds_toArray, List.set_cons_zero, List.set_cons_succ]
    refine takeC 14 (f := 49) (args := #[.pointer (some ⟨tb, 0, none⟩)]) (v := .pointer (some ⟨ib, 0, none⟩)) (fun W hS => HIN.out W hS.2) ?_
    refine takeC 15 (f := 51) (args := #[.pointer (some ⟨ib, 0, none⟩)]) (v := .int .i64 s.t.t.next) (fun W hS => HNX.out W hS.2) ?_
    refine takeC 20 (f := 52) (args := #[.pointer (some ⟨tb, 0, none⟩)]) (v := .pointer (some ⟨nb, 0, none⟩)) (fun W hS => HNM.out W hS.2) ?_
    refine wpAnyH_ready (rs := [21]) (by kernel_rfl) (by simp) ?_
    refine AllReadyH.cons (o := _) rfl (fun K hK => ?_) AllReadyH.nil
    go_simp
    refine (HAL.out _ hHeld.2).mono ?_
    rintro e wN ⟨na, nc, nl, rfl, hNS, hNA, -, hBN⟩
    have hz := cell_lt (HRB.out.at' 0 (by decide))
    try have hxbl := cell_lt (HBX.out.at' 0 (by decide))
    have hKA := dmKeep hHeld hBN
    have HRB := Lib.hid (HRB.out.below hBN)
    try have HBX := Lib.hid (HBX.out.below hBN)
    try have HIA := Lib.hid (HIA.out.below' hBN)
    try have HNA := Lib.hid (HNA.out.below hBN)
    try have HHL := Lib.hid (HHL.out.below hBN)
    have HNA := Lib.hid (hNA.to (T := fun k => w.heap.size < k ∧ k ≠ xb) (fun k hk h => ⟨Nat.lt_of_lt_of_le hz h, fun e => Nat.lt_irrefl xb (Nat.lt_of_lt_of_le hxbl (Nat.le_trans h (Nat.le_of_eq e)))⟩))
    have HNS := Lib.hid hNS
    clear hNA hNS hBN hz
    try go_wp2_with fail
    refine hK.out _ _ hKA (fun hHeld => ?_)
    clear hK K hKA
    try simp only [Act.put, List.setIfInBounds_toArray, List.set_cons_zero, List.set_cons_succ]
    refine wpAnyH_ready (rs := [26]) (by kernel_rfl) (by simp) ?_
    refine AllReadyH.cons (o := _) rfl (fun K hK => ?_) AllReadyH.nil
    go_simp
    refine (HHA.out _ hHeld.2).mono ?_
    rintro e wH ⟨ha, hc, hl, rfl, hHS, hHL, -, hBH⟩
    have hz := cell_lt (HRB.out.at' 0 (by decide))
    try have hxbl := cell_lt (HBX.out.at' 0 (by decide))
    have hKA := dmKeep hHeld hBH
    have HRB := Lib.hid (HRB.out.below hBH)
    try have HBX := Lib.hid (HBX.out.below hBH)
    try have HIA := Lib.hid (HIA.out.below' hBH)
    try have HNA := Lib.hid (HNA.out.below hBH)
    try have HHL := Lib.hid (HHL.out.below hBH)
    have HHL := Lib.hid (hHL.to (T := fun k => w.heap.size < k ∧ k ≠ xb) (fun k hk h => ⟨Nat.lt_of_lt_of_le hz h, fun e => Nat.lt_irrefl xb (Nat.lt_of_lt_of_le hxbl (Nat.le_trans h (Nat.le_of_eq e)))⟩))
    have HHS := Lib.hid hHS
    clear hHL hHS hBH hz
    try go_wp2_with fail
    refine hK.out _ _ hKA (fun hHeld => ?_)
    clear hK K hKA
    try simp only [Act.put, List.setIfInBounds_toArray, List.set_cons_zero, List.set_cons_succ]
    refine takeL 27 ?_
    refine wpAnyH_ready (rs := [29]) (by kernel_rfl) (by simp) ?_
    refine AllReadyH.cons (o := _) rfl (fun K hK => ?_) AllReadyH.nil
    rw [if_pos (by rfl)]
    refine wp_store_mid _ _ _ rfl xb 0 (dmZ (.int .i64 nx) (.slice ia ik.length ic) (.int .i64 s.t.t.next) (.slice na nl.length nc) (.slice ha hl.length hc)).toArray rfl rfl HBX.out.there (by kernel_rfl) (dmZ_one _ _ _ _ _ _ _ _ _ _ _) ?_
    have hM : Mod (· = xb) wH ((wH).setCells xb 0 (dmZ (.int .i64 nx) (.slice ia ik.length ic) (.int .i64 s.t.t.next) (.slice na nl.length nc) (.slice ha hl.length hc))) := Mod.setCellsAt (F := (· = xb)) (show (· = xb) xb from rfl) _ _ _ (Mod.refl _ _)
    have hB : Below w.heap.size w ((wH).setCells xb 0 (dmZ (.int .i64 nx) (.slice ia ik.length ic) (.int .i64 s.t.t.next) (.slice na nl.length nc) (.slice ha hl.length hc))) := hHeld.2.trans (hM.below_at hHeld.2.size (fun k hk e => by have e : k = xb := e; have := HXL.out; omega))
    refine hK.out _ _ ⟨⟨hM.at hHeld.1.1 (by have := HXL.out; omega), hM.at hHeld.1.2.1 (by have := HXL.out; omega), hM.at hHeld.1.2.2 (by have := HXL.out; omega)⟩, hB⟩ (fun hHeld2 => ?_)
    clear hK K
    try simp only [Act.put, List.setIfInBounds_toArray, List.set_cons_zero, List.set_cons_succ]
    refine wpAnyH_done (by kernel_rfl) ?_ _
    show Qn _ _
    exact key _ xb ia ic ik na nc nl ha hc hl (HBX.out.store _ rfl) HXL.out (HRB.out.other hM (by have := HXL.out; omega)) hHeld2.1.1 hHeld2.1.2.1 hHeld2.2 (HIA.out.mod (F := (· = xb)) hM (fun k hk _ e => hk.2 e)) HIV.out HNS.out (HNA.out.mod hM (fun k hk _ e => hk.2 e)) HHS.out (HHL.out.mod hM (fun k hk _ e => hk.2 e))
end Go.Proofs.YtmnkackkeppheaaGreat
