import Derived.Test.YtakbalmbkokklaaGreatPkDir
import Derived.StillTailTactics
import Derived.Deep.RegionHeld3
/- package inode, as far as no file has parts: the table; get, Stat, Opens, Next, New -/
namespace Esch
open Go Go.RowKit
structure InS where
  ino : Int
  kind : Int
  links : Int
  opens : Int
  size : Int
deriving DecidableEq
def in0 : InS := ⟨0, 0, 0, 0, 0⟩
def inV (x : InS) : Value := .agg #[.int .i64 x.ino, .int .i64 x.kind, .int .i64 x.links, .int .i64 x.opens, .int .i64 x.size, .slice none 0 0]
structure TabS where
  m : List (Int × InS)
  next : Int
def TabS.at (s : TabS) (i : Int) : InS := (get s.m i).getD in0
def TabS.has (s : TabS) (i : Int) : Bool := (get s.m i).isSome
def TabS.make (s : TabS) (kind : Int) : (Int × Int) × TabS :=
  if kind ≠ 1 ∧ kind ≠ 2 then ((0, 1), s) else if 64 ≤ s.m.length ∨ 2147483647 ≤ s.next then ((0, 67), s) else ((s.next, 0), ⟨set s.m s.next ⟨s.next, kind, 0, 0, 0⟩, s.next + 1⟩)
def TabS.keep (s : TabS) (x : InS) (may : Bool) : TabS := if may = true ∧ x.links + x.opens = 0 then { s with m := del (set s.m x.ino x) x.ino } else { s with m := set s.m x.ino x }
def TabS.link (s : TabS) (i by' : Int) : Int × TabS :=
  if s.has i = false then (60, s) else if (by' ≠ 1 ∧ by' ≠ -1) ∨ i = 1 then (1, s) else if (s.at i).links + by' < 0 ∨ 8 < (s.at i).links + by' then (66, s)
  else (0, s.keep { s.at i with links := (s.at i).links + by' } (decide (by' < 0)))
def TabS.cut (s : TabS) (i size : Int) : Int × TabS :=
  if s.has i = false then (60, s) else if (s.at i).kind = 1 then (63, s) else if size < 0 ∨ 8192 < size then (67, s) else (0, s.keep { s.at i with size := size } false)
structure TabAt (w : World) (b : Nat) (S : Nat → Prop) (s : TabS) : Prop where
  sb : S b
  lt : ∀ k, S k → k < w.heap.size
  ex : ∃ mb, w.cell? ⟨b, 0, none⟩ = some (.map (some mb)) ∧ w.cell? ⟨b, 1, none⟩ = some (.int .i64 s.next) ∧ w.frozen? ⟨b, 1, none⟩ = false ∧ MpAt w mb iV inV s.m ∧ S mb ∧ mb ≠ b
theorem TabAt.mod {w w' : World} {b : Nat} {S F : Nat → Prop} {s : TabS} (h : TabAt w b S s) (hM : Mod F w w') (hF : ∀ k, S k → ¬ F k) : TabAt w' b S s := by
  obtain ⟨sb, lt, mb, c0, c1, f1, hm, sm, n1⟩ := h
  exact ⟨sb, fun k hk => Nat.lt_of_lt_of_le (lt k hk) hM.size, mb, hM.at c0 (hF b sb), hM.at c1 (hF b sb), (hM.frozen (p := ⟨b, 1, none⟩) (cell_lt c1) (hF b sb)).trans f1, hm.mod hM (hF mb sm), sm, n1⟩
theorem TabAt.below' {w w' : World} {b : Nat} {S : Nat → Prop} {s : TabS} (h : TabAt w b S s) (hB : Below w.heap.size w w') : TabAt w' b S s := h.mod (F := none') (Mod.of_below hB) fun _ _ => id
end Esch
namespace Go.Proofs.YtakbalmbkokklaaGreat
open Go.RowKit Esch Go.Shelf

theorem MapAt.upz {P : Program} {K V : Type} [DecidableEq K] {κ : K → Value} {ν : V → Value} {m : List (K × V)} {w : World} {b : Nat} {mt kt et : TypeId} (h : MpAt w b κ ν m) (hK : KeyOK P kt κ) (ht : P.underlying mt = some (.map kt et)) (k : K) (u : V) :
    ∃ W, (Instr.mapUpdate mt (.map (some b)) (κ k) (ν u)).run P w = .ok () W ∧ MpAt W b κ ν (Esch.set m k u) ∧ Mod (· = b) w W ∧ W.heap.size = w.heap.size := by
  obtain ⟨es, c, h⟩ := h
  obtain ⟨es', c', h1, h2⟩ := h.update hK ht k u
  exact ⟨_, h1, ⟨_, _, h2⟩, (Mod.refl (· = b) w).putObj (fun _ => rfl) _, putObj_size _ _ _⟩
theorem MapAt.delz {P : Program} {K V : Type} [DecidableEq K] {κ : K → Value} {ν : V → Value} {m : List (K × V)} {w : World} {b : Nat} {mt kt et : TypeId} (h : MpAt w b κ ν m) (hK : KeyOK P kt κ) (ht : P.underlying mt = some (.map kt et)) (k : K) (ts : Array TypeId) (rt : TypeId) (hts : ts[0]? = some mt) :
    ∃ W, (Builtin.delete_ ts rt #[.map (some b), κ k]).run P w = .ok (.tuple #[]) W ∧ MpAt W b κ ν (del m k) ∧ Mod (· = b) w W ∧ W.heap.size = w.heap.size := by
  obtain ⟨es, c, h⟩ := h
  obtain ⟨es', h1, h2⟩ := h.delete hK ht k ts rt hts
  exact ⟨_, h1, ⟨_, _, h2⟩, (Mod.refl (· = b) w).putObj (fun _ => rfl) _, putObj_size _ _ _⟩
theorem zeroIn (w : World) : (zeroValue 85).run Tryz.prog w = .ok (inV in0) w := Tryz.zeroValue85 w
set_option maxRecDepth 100000 in
set_option maxHeartbeats 1000000 in
theorem inoNew_any (w : World) : Calls Tryz.prog 35 #[] w fun e w' => ∃ b, e = .returned (.pointer (some ⟨b, 0, none⟩)) ∧ TabAt w' b (fun k => w.heap.size ≤ k ∧ k < w'.heap.size) ⟨[(1, ⟨1, 1, 1, 0, 0⟩)], 2⟩ ∧ Below w.heap.size w w' := by
  have hmm := @run_makeMap Tryz.prog
  have h0 : MpAt (w.alloc (.map #[] 0)) w.heap.size iV inV ([] : List (Int × InS)) := ⟨#[], 0, alloc_new _ _, rfl, List.nodup_nil, List.Pairwise.nil, fun e h => by simp at h⟩
  obtain ⟨W1, hu, hm, hM, hz⟩ := MapAt.upz h0 keyInt Tryz.underlying82 1 ⟨1, 1, 1, 0, 0⟩
  simp only [iV, inV] at hu
  have hB1 : Below w.heap.size w W1 := ((Below.refl _ w).alloc (Nat.le_refl _) _).trans (hM.below_at (by simp) (fun k hk e => by omega))
  simp only [World.size_alloc] at hz
  have HZ := Lib.hid hz
  clear hz h0
  go_enter Tryz.func35, Tryz.ntmps35
  go_wp2_with fail
  go_ret
  have hz := HZ.out
  have hm2 := hm.mod (F := none') (w' := W1.alloc (.cells #[.map (some w.heap.size), .int .i64 2] 87)) (by exact modC (Mod.refl _ _)) id
  refine ⟨W1.heap.size, rfl, ⟨⟨by omega, by simp⟩, fun k hk => hk.2, w.heap.size, by go_simp, by go_simp, by go_simp, hm2, ⟨Nat.le_refl _, by simp; omega⟩, by omega⟩, by exact belC hB1⟩
set_option maxRecDepth 100000 in
set_option maxHeartbeats 1000000 in
theorem inoGet_any (w : World) (b : Nat) (S : Nat → Prop) (s : TabS) (h : TabAt w b S s) (i : Int) :
    Calls Tryz.prog 61 #[.pointer (some ⟨b, 0, none⟩), .int .i64 i] w fun e w' => e = .returned (.tuple #[inV (s.at i), .bool (s.has i)]) ∧ Below w.heap.size w w' := by
  obtain ⟨sb, lt, mb, c0, c1, f1, ⟨es, ck, hm⟩, sm, n1⟩ := h
  have hl0 := cell_lt c0
  obtain ⟨W1, hW1⟩ : ∃ W1, W1 = w.alloc (.cells #[.int .i64 0, .int .i64 0, .int .i64 0, .int .i64 0, .int .i64 0, .slice none 0 0] 85) := ⟨_, rfl⟩
  have hB1 : Below w.heap.size w W1 := by rw [hW1]; exact belC (Below.refl _ _)
  have hl := (hm.of_block (hB1.block mb (block_lt hm.block))).look keyInt Tryz.underlying82 zeroIn i true
  rw [show ((get s.m i).map inV).getD (inV in0) = inV (s.at i) by unfold TabS.at; cases get s.m i <;> rfl] at hl
  simp only [if_true] at hl
  have d0 := below_at hB1 c0 hl0
  show Calls Tryz.prog 61 #[.pointer (some ⟨b, 0, none⟩), .int .i64 i] w fun e w' => e = .returned (.tuple #[inV (s.at i), .bool (get s.m i).isSome]) ∧ Below w.heap.size w w'
  obtain ⟨⟨x0, x1, x2, x3, x4⟩, hx⟩ : ∃ x, x = s.at i := ⟨_, rfl⟩
  rw [← hx] at hl ⊢
  generalize (get s.m i).isSome = y at hl ⊢
  simp only [inV, iV] at hl ⊢
  rw [hW1] at hl d0
  clear hm hx hW1 hB1 c1 f1
  go_enter Tryz.func61, Tryz.ntmps61
  go_wp2_with fail
  refine bodyPost_ret (v := .tuple #[.agg #[.int .i64 x0, .int .i64 x1, .int .i64 x2, .int .i64 x3, .int .i64 x4, .slice none 0 0], .bool y]) (by simp [results, Tryz.results61, go_sem]) rfl ?_
  exact ⟨rfl, by exact belC (Below.refl _ _)⟩
theorem inoGet_nil (w : World) (i : Int) : Calls Tryz.prog 61 #[.pointer none, .int .i64 i] w fun e w' => e = .returned (.tuple #[inV in0, .bool false]) ∧ Below w.heap.size w w' := by
  go_enter Tryz.func61, Tryz.ntmps61
  go_wp2_with fail
  refine bodyPost_ret (v := .tuple #[inV in0, .bool false]) (by simp [results, Tryz.results61, go_sem, inV, in0]) rfl ?_
  exact ⟨rfl, by exact belC (Below.refl _ _)⟩
def statV (x : InS) : Value := .agg #[.int .i64 x.ino, .int .i64 x.kind, .int .i64 x.links, .int .i64 x.size]
set_option maxRecDepth 100000 in
set_option maxHeartbeats 1000000 in
theorem inoStat_any (w : World) (b : Nat) (S : Nat → Prop) (s : TabS) (h : TabAt w b S s) (i : Int) :
    Calls Tryz.prog 28 #[.pointer (some ⟨b, 0, none⟩), .int .i64 i] w fun e w' => e = .returned (.tuple #[statV (s.at i), .bool (s.has i)]) ∧ Below w.heap.size w w' := by
  obtain ⟨W1, hW1⟩ : ∃ W1, W1 = w.alloc (.cells #[.int .i64 0, .int .i64 0, .int .i64 0, .int .i64 0] 32) := ⟨_, rfl⟩
  have hB1 : Below w.heap.size w W1 := by rw [hW1]; exact belC (Below.refl _ _)
  have hg := inoGet_any W1 b S s (h.below' hB1) i
  have c0 : W1.cell? ⟨w.heap.size, 0, none⟩ = some (.int .i64 0) := by rw [hW1]; go_simp
  have c1 : W1.cell? ⟨w.heap.size, 1, none⟩ = some (.int .i64 0) := by rw [hW1]; go_simp
  have c2 : W1.cell? ⟨w.heap.size, 2, none⟩ = some (.int .i64 0) := by rw [hW1]; go_simp
  have c3 : W1.cell? ⟨w.heap.size, 3, none⟩ = some (.int .i64 0) := by rw [hW1]; go_simp
  have f0 : W1.frozen? ⟨w.heap.size, 0, none⟩ = false := by rw [hW1]; go_simp
  have f1 : W1.frozen? ⟨w.heap.size, 1, none⟩ = false := by rw [hW1]; go_simp
  have f2 : W1.frozen? ⟨w.heap.size, 2, none⟩ = false := by rw [hW1]; go_simp
  have f3 : W1.frozen? ⟨w.heap.size, 3, none⟩ = false := by rw [hW1]; go_simp
  obtain ⟨⟨x0, x1, x2, x3, x4⟩, hx⟩ : ∃ x, x = s.at i := ⟨_, rfl⟩
  rw [← hx] at hg ⊢
  generalize s.has i = y at hg ⊢
  simp only [inV, statV] at hg ⊢
  have HW1 := Lib.hid hW1
  have HB1 := Lib.hid hB1
  clear hx hW1 hB1 h
  go_enter Tryz.func28, Tryz.ntmps28
  go_wp2_with fail
  rw [← HW1.out]
  refine hg.mono ?_
  clear hg
  rintro e W2 ⟨rfl, hB2⟩
  have hl : w.heap.size < W1.heap.size := cell_lt c0
  have c0 := below_at hB2 c0 hl
  have c1 := below_at hB2 c1 hl
  have c2 := below_at hB2 c2 hl
  have c3 := below_at hB2 c3 hl
  have f0 := (hB2.frozen (p := ⟨w.heap.size, 0, none⟩) hl).trans f0
  have f1 := (hB2.frozen (p := ⟨w.heap.size, 1, none⟩) hl).trans f1
  have f2 := (hB2.frozen (p := ⟨w.heap.size, 2, none⟩) hl).trans f2
  have f3 := (hB2.frozen (p := ⟨w.heap.size, 3, none⟩) hl).trans f3
  have hlt := cell_lt c0
  have HB2 := Lib.hid (HB1.out.trans (hB2.mono HB1.out.size))
  clear hB2
  go_wp2_with fail
  refine bodyPost_ret (v := .tuple #[.agg #[.int .i64 x0, .int .i64 x1, .int .i64 x2, .int .i64 x4], .bool y]) (by simp [results, Tryz.results28, go_sem, *]) rfl ?_
  exact ⟨rfl, by exact belC HB2.out⟩
theorem inoOpens_any (w : World) (b : Nat) (S : Nat → Prop) (s : TabS) (h : TabAt w b S s) (i : Int) :
    Calls Tryz.prog 52 #[.pointer (some ⟨b, 0, none⟩), .int .i64 i] w fun e w' => e = .returned (.int .i64 (s.at i).opens) ∧ Below w.heap.size w w' := by
  have hg := inoGet_any w b S s h i
  obtain ⟨⟨x0, x1, x2, x3, x4⟩, hx⟩ : ∃ x, x = s.at i := ⟨_, rfl⟩
  rw [← hx] at hg ⊢
  generalize s.has i = y at hg
  simp only [inV] at hg ⊢
  clear hx h
  go_enter Tryz.func52, Tryz.ntmps52
  go_wp2_with fail
  refine hg.mono ?_
  clear hg
  rintro e W2 ⟨rfl, hB2⟩
  go_wp2_with fail
  go_ret
  have hz := hB2.size
  exact ⟨rfl, by exact belC hB2⟩
theorem inoNext_any (w : World) (b : Nat) (S : Nat → Prop) (s : TabS) (h : TabAt w b S s) :
    Calls Tryz.prog 113 #[.pointer (some ⟨b, 0, none⟩)] w fun e w' => e = .returned (.int .i64 s.next) ∧ w' = w := by
  obtain ⟨sb, lt, mb, c0, c1, f1, hm, sm, n1⟩ := h
  go_enter Tryz.func113, Tryz.ntmps113
  go_wp2_with fail
  go_ret
  exact ⟨rfl, rfl⟩
end Go.Proofs.YtakbalmbkokklaaGreat
/- package inode: keep, Make, Link, Truncate -/
namespace Esch
open Go Go.RowKit
theorem keep_m (s : TabS) (x : InS) (may : Bool) : (s.keep x may).next = s.next := by unfold TabS.keep; split <;> rfl
end Esch
namespace Go.Proofs.YtakbalmbkokklaaGreat
open Go.RowKit Esch Go.Shelf

def TabPost (w : World) (b : Nat) (S : Nat → Prop) (r : Int × TabS) (e : Ending) (w' : World) : Prop := e = .returned (.int .i64 r.1) ∧ TabAt w' b S r.2 ∧ Mod S w w'
/-- the map alone is written -/
theorem _root_.Esch.TabAt.put {w W : World} {b mb : Nat} {S : Nat → Prop} {s : TabS} {m' : List (Int × InS)} (h : TabAt w b S s) (c0 : w.cell? ⟨b, 0, none⟩ = some (.map (some mb))) (hM : Mod (· = mb) w W) (hm : MpAt W mb iV inV m') : TabAt W b S { s with m := m' } ∧ Mod S w W := by
  obtain ⟨sb, lt, mb', d0, d1, f1, -, sm, n1⟩ := h
  obtain rfl : mb' = mb := by rw [d0] at c0; cases c0; rfl
  have hb : ¬ b = mb' := fun e => n1 e.symm
  exact ⟨⟨sb, fun k hk => Nat.lt_of_lt_of_le (lt k hk) hM.size, mb', hM.at d0 hb, hM.at d1 hb, (hM.frozen (p := ⟨b, 1, none⟩) (cell_lt d1) hb).trans f1, hm, sm, n1⟩, hM.mono fun k _ hk => by have hk : k = mb' := hk; rw [hk]; exact sm⟩
set_option maxRecDepth 100000 in
set_option maxHeartbeats 4000000 in
theorem inoKeep_any (w : World) (b : Nat) (S : Nat → Prop) (s : TabS) (h : TabAt w b S s) (x : InS) (may : Bool) (hb0 : 0 ≤ x.links) (hb1 : x.links ≤ 1000) (hb2 : 0 ≤ x.opens) (hb3 : x.opens ≤ 1000) :
    Calls Tryz.prog 92 #[.pointer (some ⟨b, 0, none⟩), inV x, .bool may] w (TabPost w b S (0, s.keep x may)) := by
  obtain ⟨W1, hW1⟩ : ∃ W1, W1 = w.alloc (.cells #[.int .i64 x.ino, .int .i64 x.kind, .int .i64 x.links, .int .i64 x.opens, .int .i64 x.size, .slice none 0 0] 85) := ⟨_, rfl⟩
  have hB1 : Below w.heap.size w W1 := by rw [hW1]; exact belC (Below.refl _ _)
  have H1 := h.below' hB1
  have hm1 : Mod S w W1 := Mod.of_below hB1
  have bx : w.heap.size ≠ b := fun e => by have := h.lt b h.sb; omega
  obtain ⟨sb, lt, mb, c0, c1, f1, hm, sm, n1⟩ := H1
  have bm : w.heap.size ≠ mb := fun e => by
    obtain ⟨-, hlt, mb', d0, -, -, -, sm', -⟩ := h
    have := below_at hB1 d0 (cell_lt d0)
    rw [c0] at this
    cases this
    have := hlt _ sm'
    omega
  have x0 : W1.cell? ⟨w.heap.size, 0, none⟩ = some (.int .i64 x.ino) := by rw [hW1]; go_simp
  have x1 : W1.cell? ⟨w.heap.size, 1, none⟩ = some (.int .i64 x.kind) := by rw [hW1]; go_simp
  have x2 : W1.cell? ⟨w.heap.size, 2, none⟩ = some (.int .i64 x.links) := by rw [hW1]; go_simp
  have x3 : W1.cell? ⟨w.heap.size, 3, none⟩ = some (.int .i64 x.opens) := by rw [hW1]; go_simp
  have x4 : W1.cell? ⟨w.heap.size, 4, none⟩ = some (.int .i64 x.size) := by rw [hW1]; go_simp
  have x5 : W1.cell? ⟨w.heap.size, 5, none⟩ = some (.slice none 0 0) := by rw [hW1]; go_simp
  have hmd := hm.mod (F := none') (w' := W1.drew) (by exact modC (Mod.refl _ _)) id
  obtain ⟨W2, hu, hm2, hM2, hz2⟩ := MapAt.upz hmd keyInt Tryz.underlying82 x.ino x
  have hM2' : Mod (· = mb) W1 W2 := (show Mod (· = mb) W1 W1.drew by exact modC (Mod.refl _ _)).trans hM2
  have e0 := hM2'.at c0 (fun e => n1 e.symm)
  have y0 := hM2'.at x0 bm
  have y2 := hM2'.at x2 bm
  have y3 := hM2'.at x3 bm
  have hP2 := (show TabAt W1 b S s from ⟨sb, lt, mb, c0, c1, f1, hm, sm, n1⟩).put c0 hM2' hm2
  simp only [iV, inV] at hu ⊢
  have d0 : W1.drew.cell? ⟨b, 0, none⟩ = some (.map (some mb)) := c0
  have z0 : W1.drew.cell? ⟨w.heap.size, 0, none⟩ = some (.int .i64 x.ino) := x0
  have z1 : W1.drew.cell? ⟨w.heap.size, 1, none⟩ = some (.int .i64 x.kind) := x1
  have z2 : W1.drew.cell? ⟨w.heap.size, 2, none⟩ = some (.int .i64 x.links) := x2
  have z3 : W1.drew.cell? ⟨w.heap.size, 3, none⟩ = some (.int .i64 x.opens) := x3
  have z4 : W1.drew.cell? ⟨w.heap.size, 4, none⟩ = some (.int .i64 x.size) := x4
  have z5 : W1.drew.cell? ⟨w.heap.size, 5, none⟩ = some (.slice none 0 0) := x5
  have HW1 := Lib.hid hW1
  have HP2 := Lib.hid hP2
  have Hm1 := Lib.hid hm1
  have hwr : wrap64 (x.links + x.opens) = x.links + x.opens := by unfold wrap64; omega
  cases may
  · have hk : s.keep x false = { s with m := set s.m x.ino x } := by unfold TabS.keep; rw [if_neg (by simp)]
    rw [hk]
    obtain ⟨xi, xk, xl, xo, xs⟩ := x
    simp only at *
    clear hm hmd hM2 hM2' hm2 hP2 hm1 h hB1 hW1 hk x0 x1 x2 x3 x4 x5 hwr hb0 hb1 hb2 hb3 bx bm y0 y2 y3
    go_enter Tryz.func92, Tryz.ntmps92
    go_wp2_with fail
    rw [← HW1.out]
    refine region_tail 7 (by kernel_rfl) (by kernel_rfl) (fun T hT K hK => ?_)
    simp only [List.take_succ_cons, List.take_zero]
    repeat still_step
    refine wpStill_nil (hK _ ?_)
    clear hK
    simp only [List.drop_succ_cons, List.drop_zero] at hT
    subst hT
    go_wp2_with fail
    go_ret
    exact ⟨rfl, HP2.out.1, Hm1.out.trans HP2.out.2⟩
  · by_cases hz : x.links + x.opens = 0
    rotate_left 1
    · have hk : s.keep x true = { s with m := set s.m x.ino x } := by unfold TabS.keep; rw [if_neg (fun h => hz h.2)]
      rw [hk]
      have hz2 : (x.links + x.opens == 0) = false := by simpa using hz
      obtain ⟨xi, xk, xl, xo, xs⟩ := x
      simp only at *
      clear hm hmd hM2 hM2' hm2 hP2 hm1 h hB1 hW1 hk x0 x1 x2 x3 x4 x5 hb0 hb1 hb2 hb3 bx bm hz
      go_enter Tryz.func92, Tryz.ntmps92
      go_wp2_with fail
      rw [← HW1.out]
      refine region_tail 7 (by kernel_rfl) (by kernel_rfl) (fun T hT K hK => ?_)
      simp only [List.take_succ_cons, List.take_zero]
      repeat still_step
      refine wpStill_nil (hK _ ?_)
      clear hK
      simp only [List.drop_succ_cons, List.drop_zero] at hT
      subst hT
      go_wp2_with fail
      go_ret
      exact ⟨rfl, HP2.out.1, Hm1.out.trans HP2.out.2⟩
    · have hk : s.keep x true = { s with m := del (set s.m x.ino x) x.ino } := by unfold TabS.keep; rw [if_pos ⟨rfl, hz⟩]
      rw [hk]
      have hz2 : (x.links + x.opens == 0) = true := by simpa using hz
      obtain ⟨W3, hd, hm3, hM3, -⟩ := MapAt.delz (hm2.mod (F := none') (w' := W2.drew) (by exact modC (Mod.refl _ _)) id) keyInt Tryz.underlying82 x.ino #[82, 3] 0 rfl
      have hM3' : Mod (· = mb) W1 W3 := hM2'.trans ((show Mod (· = mb) W2 W2.drew by exact modC (Mod.refl _ _)).trans' hM3 (fun _ _ h => h))
      have hP3 := (show TabAt W1 b S s from ⟨sb, lt, mb, c0, c1, f1, hm, sm, n1⟩).put c0 hM3' hm3
      have HP3 := Lib.hid hP3
      simp only [iV] at hd
      have u0 : W2.drew.cell? ⟨b, 0, none⟩ = some (.map (some mb)) := e0
      have v0 : W2.drew.cell? ⟨w.heap.size, 0, none⟩ = some (.int .i64 x.ino) := y0
      obtain ⟨xi, xk, xl, xo, xs⟩ := x
      simp only at *
      clear hm hmd hM2 hM2' hm2 hP2 hm1 h hB1 hW1 hk x0 x1 x2 x3 x4 x5 hb0 hb1 hb2 hb3 bx bm hz hm3 hM3 hM3' hP3
      go_enter Tryz.func92, Tryz.ntmps92
      go_wp2_with fail
      rw [← HW1.out]
      refine region_tail 7 (by kernel_rfl) (by kernel_rfl) (fun T hT K hK => ?_)
      simp only [List.take_succ_cons, List.take_zero]
      repeat still_step
      refine wpStill_nil (hK _ ?_)
      clear hK
      simp only [List.drop_succ_cons, List.drop_zero] at hT
      subst hT
      go_wp2_with fail
      refine region_tail 6 (by kernel_rfl) (by kernel_rfl) (fun T hT K hK => ?_)
      simp only [List.take_succ_cons, List.take_zero]
      repeat still_step
      refine wpStill_nil (hK _ ?_)
      clear hK
      simp only [List.drop_succ_cons, List.drop_zero] at hT
      subst hT
      go_wp2_with fail
      go_ret
      exact ⟨rfl, HP3.out.1, Hm1.out.trans HP3.out.2⟩
end Go.Proofs.YtakbalmbkokklaaGreat
/- package inode: Make, Link, Truncate -/
namespace Esch
/-- what Link and Truncate want of an inode -/
structure InS.ok (x : InS) : Prop where
  l0 : 0 ≤ x.links
  l1 : x.links ≤ 8
  o0 : 0 ≤ x.opens
  o1 : x.opens ≤ 128
end Esch
namespace Go.Proofs.YtakbalmbkokklaaGreat
open Go.RowKit Esch Go.Shelf

theorem MapAt.len' {P : Program} {K V : Type} {κ : K → Value} {ν : V → Value} {m : List (K × V)} {w : World} {b : Nat} {mt kt et : TypeId} (h : MpAt w b κ ν m) (ht : P.underlying mt = some (.map kt et)) (ty : TypeId) : (Builtin.len_ #[mt] ty #[.map (some b)]).run P w = .ok (.int .i64 m.length) w := by
  obtain ⟨es, c, h⟩ := h
  have hs := h.size
  simp [Builtin.len_, run_underlying ht, Esch.run_getObj_map h.block, goInt, Result.andThen, hs]
def MakePost (w : World) (b : Nat) (S : Nat → Prop) (r : (Int × Int) × TabS) (e : Ending) (w' : World) : Prop := e = .returned (.tuple #[.int .i64 r.1.1, .int .i64 r.1.2]) ∧ TabAt w' b S r.2 ∧ Mod S w w'
set_option maxRecDepth 100000 in
set_option maxHeartbeats 4000000 in
theorem inoMake_any (w : World) (b : Nat) (S : Nat → Prop) (s : TabS) (h : TabAt w b S s) (kind : Int) (hk : kind = 1 ∨ kind = 2) (hn0 : 0 ≤ s.next) :
    Calls Tryz.prog 79 #[.pointer (some ⟨b, 0, none⟩), .int .i64 kind] w (MakePost w b S (s.make kind)) := by
  have H := Lib.hid h
  obtain ⟨sb, lt, mb, c0, c1, f1, hm, sm, n1⟩ := h
  have hlen := MapAt.len' hm Tryz.underlying82
  have hmk : s.make kind = if 64 ≤ s.m.length ∨ 2147483647 ≤ s.next then ((0, 67), s) else ((s.next, 0), ⟨set s.m s.next ⟨s.next, kind, 0, 0, 0⟩, s.next + 1⟩) := by
    unfold TabS.make; rw [if_neg (by omega)]
  have q1 : ((kind != 1) && (kind != 2)) = false := by rcases hk with rfl | rfl <;> rfl
  by_cases h64 : 64 ≤ s.m.length
  · rw [hmk, if_pos (Or.inl h64)]
    have h64' : (64 : Int) ≤ s.m.length := by omega
    clear hm hmk h64
    rcases hk with rfl | rfl
    all_goals
      go_enter Tryz.func79, Tryz.ntmps79
      go_wp2_with fail
      go_ret2
      exact ⟨rfl, H.out, Mod.refl _ _⟩
  have h64' : ¬ (64 : Int) ≤ s.m.length := by omega
  by_cases hnx : 2147483647 ≤ s.next
  · rw [hmk, if_pos (Or.inr hnx)]
    clear hm hmk h64
    rcases hk with rfl | rfl
    all_goals
      go_enter Tryz.func79, Tryz.ntmps79
      go_wp2_with fail
      go_ret2
      exact ⟨rfl, H.out, Mod.refl _ _⟩
  rw [hmk, if_neg (by omega)]
  have hmd := hm.mod (F := none') (w' := w.drew) (by exact modC (Mod.refl _ _)) id
  obtain ⟨W2, hu, hm2, hM2, hz2⟩ := MapAt.upz hmd keyInt Tryz.underlying82 s.next ⟨s.next, kind, 0, 0, 0⟩
  have hM2' : Mod (· = mb) w W2 := (show Mod (· = mb) w w.drew by exact modC (Mod.refl _ _)).trans hM2
  have e0 := hM2'.at c0 (fun e => n1 e.symm)
  have e1 := hM2'.at c1 (fun e => n1 e.symm)
  have g1 := (hM2'.frozen (p := ⟨b, 1, none⟩) (cell_lt c1) (fun e => n1 e.symm)).trans f1
  have d0 : w.drew.cell? ⟨b, 0, none⟩ = some (.map (some mb)) := c0
  have d1 : w.drew.cell? ⟨b, 1, none⟩ = some (.int .i64 s.next) := c1
  have hwr : wrap64 (s.next + 1) = s.next + 1 := by unfold wrap64; omega
  have hwr2 : wrap64 (s.next + 1 - 1) = s.next := by unfold wrap64; omega
  obtain ⟨W3, hW3⟩ : ∃ W3, W3 = W2.setCell ⟨b, 1, none⟩ (.int .i64 (s.next + 1)) := ⟨_, rfl⟩
  have hT3 : TabAt W3 b S ⟨set s.m s.next ⟨s.next, kind, 0, 0, 0⟩, s.next + 1⟩ := by
    have hl2 := cell_lt e1
    have hlm := hm2.lt
    have hb : mb ≠ b := n1
    refine ⟨sb, fun k hk => ?_, mb, ?_, ?_, ?_, ?_, sm, n1⟩
    · have := lt k hk
      have := hM2'.size
      rw [hW3]; simp only [World.size_setCell]; omega
    · rw [hW3]; go_simp
    · rw [hW3]; go_simp
    · rw [hW3]; go_simp
    · refine hm2.mod (F := (· = b)) ?_ hb
      rw [hW3]
      exact (Mod.refl (· = b) W2).setCellAt (fun _ => rfl) _
  have hM3 : Mod S w W3 := by
    rw [hW3]
    exact ((hM2'.mono (G := S) fun k _ hk => by have hk : k = mb := hk; rw [hk]; exact sm)).setCellAt (fun _ => sb) _
  have HT3 := Lib.hid hT3
  have HM3 := Lib.hid hM3
  have HW3 := Lib.hid hW3
  simp only [iV, inV] at hu
  generalize s.next = nx at *
  clear hm hmk h64 hmd hm2 hM2 hM2' hT3 hM3 hW3 n1 hz2
  rcases hk with rfl | rfl
  all_goals
    go_enter Tryz.func79, Tryz.ntmps79
    go_wp2_with fail
    refine region_tail 14 (by kernel_rfl) (by kernel_rfl) (fun T hT K hK => ?_)
    simp only [List.take_succ_cons, List.take_zero]
    repeat still_step
    refine wpStill_nil (hK _ ?_)
    clear hK
    simp only [List.drop_succ_cons, List.drop_zero] at hT
    subst hT
    go_wp2_with fail
    go_ret2
    rw [← HW3.out]
    exact ⟨rfl, HT3.out, HM3.out⟩
set_option maxRecDepth 100000 in
set_option maxHeartbeats 4000000 in
theorem inoLink_any (w : World) (b : Nat) (S : Nat → Prop) (s : TabS) (h : TabAt w b S s) (i d : Int) (hd : d = 1 ∨ d = -1) (hok : (s.at i).ok) :
    Calls Tryz.prog 86 #[.pointer (some ⟨b, 0, none⟩), .int .i64 i, .int .i64 d] w (TabPost w b S (s.link i d)) := by
  have hg := inoGet_any w b S s h i
  have hkp := fun W y x0 x1 x2 x3 => inoKeep_any W b S s y { s.at i with links := (s.at i).links + d } (decide (d < 0)) x0 x1 x2 x3
  obtain ⟨l0, l1, o0, o1⟩ := hok
  obtain ⟨r, hr⟩ : ∃ r, r = s.link i d := ⟨_, rfl⟩
  rw [← hr]
  unfold TabS.link at hr
  obtain ⟨⟨x0, x1, x2, x3, x4⟩, hx⟩ : ∃ x, x = s.at i := ⟨_, rfl⟩
  rw [← hx] at hg hr hkp l0 l1 o0 o1
  simp only [inV] at hg hkp l0 l1 o0 o1
  cases hh : s.has i
  · rw [hh] at hg hr
    rw [if_pos rfl] at hr
    subst hr
    clear hx hkp hh l0 l1 o0 o1
    go_enter Tryz.func86, Tryz.ntmps86
    go_wp2_with fail
    refine hg.mono ?_
    clear hg
    rintro e W2 ⟨rfl, hB2⟩
    have hz := hB2.size
    have hT := h.below' hB2
    go_wp2_with fail
    go_ret
    exact ⟨rfl, hT.below' (by exact belC (Below.refl _ _)), Mod.of_below (by exact belC hB2)⟩
  rw [hh] at hg hr
  rw [if_neg (by simp)] at hr
  have q1 : ((d != 1) && (d != -1)) = false := by rcases hd with rfl | rfl <;> rfl
  by_cases h1 : i = 1
  · rw [if_pos (Or.inr h1)] at hr
    subst hr
    subst h1
    clear hx hkp hh l0 l1 o0 o1
    rcases hd with rfl | rfl
    all_goals
      go_enter Tryz.func86, Tryz.ntmps86
      go_wp2_with fail
      refine hg.mono ?_
      clear hg
      rintro e W2 ⟨rfl, hB2⟩
      have hz := hB2.size
      have hT := h.below' hB2
      go_wp2_with fail
      go_ret
      exact ⟨rfl, hT.below' (by exact belC (Below.refl _ _)), Mod.of_below (by exact belC hB2)⟩
  rw [if_neg (by omega)] at hr
  have h1' : (i == 1) = false := by simpa using h1
  have hwr : wrap64 (x2 + d) = x2 + d := by unfold wrap64; omega
  by_cases hlo : x2 + d < 0
  · rw [if_pos (Or.inl hlo)] at hr
    subst hr
    obtain rfl : d = -1 := by omega
    clear hx hkp hh h1 hd
    go_enter Tryz.func86, Tryz.ntmps86
    go_wp2_with fail
    refine hg.mono ?_
    clear hg
    rintro e W2 ⟨rfl, hB2⟩
    have hz := hB2.size
    have hT := h.below' hB2
    go_wp2_with fail
    go_ret
    exact ⟨rfl, hT.below' (by exact belC (Below.refl _ _)), Mod.of_below (by exact belC hB2)⟩
  by_cases hhi : 8 < x2 + d
  · rw [if_pos (Or.inr hhi)] at hr
    subst hr
    obtain rfl : d = 1 := by omega
    clear hx hkp hh h1 hd
    go_enter Tryz.func86, Tryz.ntmps86
    go_wp2_with fail
    refine hg.mono ?_
    clear hg
    rintro e W2 ⟨rfl, hB2⟩
    have hz := hB2.size
    have hT := h.below' hB2
    go_wp2_with fail
    go_ret
    exact ⟨rfl, hT.below' (by exact belC (Below.refl _ _)), Mod.of_below (by exact belC hB2)⟩
  rw [if_neg (fun h => h.elim hlo hhi)] at hr
  subst hr
  have hkp2 := fun W y => hkp W y (by omega) (by omega) o0 (by omega)
  clear hx hkp hh h1
  rcases hd with rfl | rfl
  · go_enter Tryz.func86, Tryz.ntmps86
    go_wp2_with fail
    refine hg.mono ?_
    clear hg
    rintro e W2 ⟨rfl, hB2⟩
    have hz := hB2.size
    have hT := Lib.hid (h.below' hB2)
    have HB2 := Lib.hid hB2
    clear hB2
    go_wp2_with fail
    have hT3 := hT.out.below' (w' := W2.alloc (.cells #[.int .i64 x0, .int .i64 x1, .int .i64 (x2 + 1), .int .i64 x3, .int .i64 x4, .slice none 0 0] 85)) (by exact belC (Below.refl _ _))
    have hM3 : Mod S w (W2.alloc (.cells #[.int .i64 x0, .int .i64 x1, .int .i64 (x2 + 1), .int .i64 x3, .int .i64 x4, .slice none 0 0] 85)) := Mod.of_below (by exact belC HB2.out)
    have HM3 := Lib.hid hM3
    refine (hkp2 _ hT3).mono ?_
    clear hkp2 hT3 hM3
    rintro e W4 ⟨rfl, hT4, hM4⟩
    go_wp2_with fail
    go_ret
    exact ⟨rfl, hT4, HM3.out.trans hM4⟩
  · go_enter Tryz.func86, Tryz.ntmps86
    go_wp2_with fail
    refine hg.mono ?_
    clear hg
    rintro e W2 ⟨rfl, hB2⟩
    have hz := hB2.size
    have hT := Lib.hid (h.below' hB2)
    have HB2 := Lib.hid hB2
    clear hB2
    go_wp2_with fail
    have hT3 := hT.out.below' (w' := W2.alloc (.cells #[.int .i64 x0, .int .i64 x1, .int .i64 (x2 + -1), .int .i64 x3, .int .i64 x4, .slice none 0 0] 85)) (by exact belC (Below.refl _ _))
    have hM3 : Mod S w (W2.alloc (.cells #[.int .i64 x0, .int .i64 x1, .int .i64 (x2 + -1), .int .i64 x3, .int .i64 x4, .slice none 0 0] 85)) := Mod.of_below (by exact belC HB2.out)
    have HM3 := Lib.hid hM3
    refine (hkp2 _ hT3).mono ?_
    clear hkp2 hT3 hM3
    rintro e W4 ⟨rfl, hT4, hM4⟩
    go_wp2_with fail
    go_ret
    exact ⟨rfl, hT4, HM3.out.trans hM4⟩
end Go.Proofs.YtakbalmbkokklaaGreat
