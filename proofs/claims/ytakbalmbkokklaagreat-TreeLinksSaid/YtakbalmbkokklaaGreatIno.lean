/- package inode, as far as no file has parts: the table; get, Stat, Opens, Next, New -/
import Derived.Test.YtakbalmbkokklaaGreatDir
namespace Esch
open Go Go.RowKit
structure InS where
  ino : Int
  kind : Int
  links : Int
  opens : Int
  size : Int
deriving DecidableEq
def in0 : InS := ⟨0, 0, 0, 0, 0⟩
def inV (x : InS) : Value := .agg #[.int .i64 x.ino, .int .i64 x.kind, .int .i64 x.links, .int .i64 x.opens, .int .i64 x.size, .slice none 0 0]
structure TabS where
  m : List (Int × InS)
  next : Int
def TabS.at (s : TabS) (i : Int) : InS := (get s.m i).getD in0
def TabS.has (s : TabS) (i : Int) : Bool := (get s.m i).isSome
def TabS.make (s : TabS) (kind : Int) : (Int × Int) × TabS :=
  if kind ≠ 1 ∧ kind ≠ 2 then ((0, 1), s) else if 64 ≤ s.m.length ∨ 2147483647 ≤ s.next then ((0, 67), s) else ((s.next, 0), ⟨set s.m s.next ⟨s.next, kind, 0, 0, 0⟩, s.next + 1⟩)
def TabS.keep (s : TabS) (x : InS) (may : Bool) : TabS := if may = true ∧ x.links + x.opens = 0 then { s with m := del (set s.m x.ino x) x.ino } else { s with m := set s.m x.ino x }
def TabS.link (s : TabS) (i by' : Int) : Int × TabS :=
  if s.has i = false then (60, s) else if (by' ≠ 1 ∧ by' ≠ -1) ∨ i = 1 then (1, s) else if (s.at i).links + by' < 0 ∨ 8 < (s.at i).links + by' then (66, s)
  else (0, s.keep { s.at i with links := (s.at i).links + by' } (decide (by' < 0)))
def TabS.cut (s : TabS) (i size : Int) : Int × TabS :=
  if s.has i = false then (60, s) else if (s.at i).kind = 1 then (63, s) else if size < 0 ∨ 8192 < size then (67, s) else (0, s.keep { s.at i with size := size } false)
structure TabAt (w : World) (b : Nat) (S : Nat → Prop) (s : TabS) : Prop where
  sb : S b
  lt : ∀ k, S k → k < w.heap.size
  ex : ∃ mb, w.cell? ⟨b, 0, none⟩ = some (.map (some mb)) ∧ w.cell? ⟨b, 1, none⟩ = some (.int .i64 s.next) ∧ w.frozen? ⟨b, 1, none⟩ = false ∧ MpAt w mb iV inV s.m ∧ S mb ∧ mb ≠ b
theorem TabAt.mod {w w' : World} {b : Nat} {S F : Nat → Prop} {s : TabS} (h : TabAt w b S s) (hM : Mod F w w') (hF : ∀ k, S k → ¬ F k) : TabAt w' b S s := by
  obtain ⟨sb, lt, mb, c0, c1, f1, hm, sm, n1⟩ := h
  exact ⟨sb, fun k hk => Nat.lt_of_lt_of_le (lt k hk) hM.size, mb, hM.at c0 (hF b sb), hM.at c1 (hF b sb), (hM.frozen (p := ⟨b, 1, none⟩) (cell_lt c1) (hF b sb)).trans f1, hm.mod hM (hF mb sm), sm, n1⟩
theorem TabAt.below' {w w' : World} {b : Nat} {S : Nat → Prop} {s : TabS} (h : TabAt w b S s) (hB : Below w.heap.size w w') : TabAt w' b S s := h.mod (F := none') (Mod.of_below hB) fun _ _ => id
end Esch
namespace Go.Proofs.YtakbalmbkokklaaGreat
open Go.RowKit Esch Go.Shelf

theorem MapAt.upz {P : Program} {K V : Type} [DecidableEq K] {κ : K → Value} {ν : V → Value} {m : List (K × V)} {w : World} {b : Nat} {mt kt et : TypeId} (h : MpAt w b κ ν m) (hK : KeyOK P kt κ) (ht : P.underlying mt = some (.map kt et)) (k : K) (u : V) :
    ∃ W, (Instr.mapUpdate mt (.map (some b)) (κ k) (ν u)).run P w = .ok () W ∧ MpAt W b κ ν (Esch.set m k u) ∧ Mod (· = b) w W ∧ W.heap.size = w.heap.size := by
  obtain ⟨es, c, h⟩ := h
  obtain ⟨es', c', h1, h2⟩ := h.update hK ht k u
  exact ⟨_, h1, ⟨_, _, h2⟩, (Mod.refl (· = b) w).putObj (fun _ => rfl) _, putObj_size _ _ _⟩
theorem MapAt.delz {P : Program} {K V : Type} [DecidableEq K] {κ : K → Value} {ν : V → Value} {m : List (K × V)} {w : World} {b : Nat} {mt kt et : TypeId} (h : MpAt w b κ ν m) (hK : KeyOK P kt κ) (ht : P.underlying mt = some (.map kt et)) (k : K) (ts : Array TypeId) (rt : TypeId) (hts : ts[0]? = some mt) :
    ∃ W, (Builtin.delete_ ts rt #[.map (some b), κ k]).run P w = .ok (.tuple #[]) W ∧ MpAt W b κ ν (del m k) ∧ Mod (· = b) w W ∧ W.heap.size = w.heap.size := by
  obtain ⟨es, c, h⟩ := h
  obtain ⟨es', h1, h2⟩ := h.delete hK ht k ts rt hts
  exact ⟨_, h1, ⟨_, _, h2⟩, (Mod.refl (· = b) w).putObj (fun _ => rfl) _, putObj_size _ _ _⟩
theorem zeroIn (w : World) : (zeroValue 85).run Tryz.prog w = .ok (inV in0) w := Tryz.zeroValue85 w
set_option maxRecDepth 100000 in
set_option maxHeartbeats 1000000 in
theorem inoNew_any (w : World) : Calls Tryz.prog 35 #[] w fun e w' => ∃ b, e = .returned (.pointer (some ⟨b, 0, none⟩)) ∧ TabAt w' b (fun k => w.heap.size ≤ k ∧ k < w'.heap.size) ⟨[(1, ⟨1, 1, 1, 0, 0⟩)], 2⟩ ∧ Below w.heap.size w w' := by
  have hmm := @run_makeMap Tryz.prog
  have h0 : MpAt (w.alloc (.map #[] 0)) w.heap.size iV inV ([] : List (Int × InS)) := ⟨#[], 0, alloc_new _ _, rfl, List.nodup_nil, List.Pairwise.nil, fun e h => by simp at h⟩
  obtain ⟨W1, hu, hm, hM, hz⟩ := MapAt.upz h0 keyInt Tryz.underlying82 1 ⟨1, 1, 1, 0, 0⟩
  simp only [iV, inV] at hu
  have hB1 : Below w.heap.size w W1 := ((Below.refl _ w).alloc (Nat.le_refl _) _).trans (hM.below_at (by simp) (fun k hk e => by omega))
  simp only [World.size_alloc] at hz
  have HZ := Lib.hid hz
  clear hz h0
  go_enter Tryz.func35, Tryz.ntmps35
  go_wp2_with fail
  go_ret
  have hz := HZ.out
  have hm2 := hm.mod (F := none') (w' := W1.alloc (.cells #[.map (some w.heap.size), .int .i64 2] 87)) (by exact modC (Mod.refl _ _)) id
  refine ⟨W1.heap.size, rfl, ⟨⟨by omega, by simp⟩, fun k hk => hk.2, w.heap.size, by go_simp, by go_simp, by go_simp, hm2, ⟨Nat.le_refl _, by simp; omega⟩, by omega⟩, by exact belC hB1⟩
set_option maxRecDepth 100000 in
set_option maxHeartbeats 1000000 in
theorem inoGet_any (w : World) (b : Nat) (S : Nat → Prop) (s : TabS) (h : TabAt w b S s) (i : Int) :
    Calls Tryz.prog 61 #[.pointer (some ⟨b, 0, none⟩), .int .i64 i] w fun e w' => e = .returned (.tuple #[inV (s.at i), .bool (s.has i)]) ∧ Below w.heap.size w w' := by
  obtain ⟨sb, lt, mb, c0, c1, f1, ⟨es, ck, hm⟩, sm, n1⟩ := h
  have hl0 := cell_lt c0
  obtain ⟨W1, hW1⟩ : ∃ W1, W1 = w.alloc (.cells #[.int .i64 0, .int .i64 0, .int .i64 0, .int .i64 0, .int .i64 0, .slice none 0 0] 85) := ⟨_, rfl⟩
  have hB1 : Below w.heap.size w W1 := by rw [hW1]; exact belC (Below.refl _ _)
  have hl := (hm.of_block (hB1.block mb (block_lt hm.block))).look keyInt Tryz.underlying82 zeroIn i true
  rw [show ((get s.m i).map inV).getD (inV in0) = inV (s.at i) by unfold TabS.at; cases get s.m i <;> rfl] at hl
  simp only [if_true] at hl
  have d0 := below_at hB1 c0 hl0
  show Calls Tryz.prog 61 #[.pointer (some ⟨b, 0, none⟩), .int .i64 i] w fun e w' => e = .returned (.tuple #[inV (s.at i), .bool (get s.m i).isSome]) ∧ Below w.heap.size w w'
  obtain ⟨⟨x0, x1, x2, x3, x4⟩, hx⟩ : ∃ x, x = s.at i := ⟨_, rfl⟩
  rw [← hx] at hl ⊢
  generalize (get s.m i).isSome = y at hl ⊢
  simp only [inV, iV] at hl ⊢
  rw [hW1] at hl d0
  clear hm hx hW1 hB1 c1 f1
  go_enter Tryz.func61, Tryz.ntmps61
  go_wp2_with fail
  refine bodyPost_ret (v := .tuple #[.agg #[.int .i64 x0, .int .i64 x1, .int .i64 x2, .int .i64 x3, .int .i64 x4, .slice none 0 0], .bool y]) (by simp [results, Tryz.results61, go_sem]) rfl ?_
  exact ⟨rfl, by exact belC (Below.refl _ _)⟩
theorem inoGet_nil (w : World) (i : Int) : Calls Tryz.prog 61 #[.pointer none, .int .i64 i] w fun e w' => e = .returned (.tuple #[inV in0, .bool false]) ∧ Below w.heap.size w w' := by
  go_enter Tryz.func61, Tryz.ntmps61
  go_wp2_with fail
  refine bodyPost_ret (v := .tuple #[inV in0, .bool false]) (by simp [results, Tryz.results61, go_sem, inV, in0]) rfl ?_
  exact ⟨rfl, by exact belC (Below.refl _ _)⟩
def statV (x : InS) : Value := .agg #[.int .i64 x.ino, .int .i64 x.kind, .int .i64 x.links, .int .i64 x.size]
set_option maxRecDepth 100000 in
set_option maxHeartbeats 1000000 in
theorem inoStat_any (w : World) (b : Nat) (S : Nat → Prop) (s : TabS) (h : TabAt w b S s) (i : Int) :
    Calls Tryz.prog 28 #[.pointer (some ⟨b, 0, none⟩), .int .i64 i] w fun e w' => e = .returned (.tuple #[statV (s.at i), .bool (s.has i)]) ∧ Below w.heap.size w w' := by
  obtain ⟨W1, hW1⟩ : ∃ W1, W1 = w.alloc (.cells #[.int .i64 0, .int .i64 0, .int .i64 0, .int .i64 0] 32) := ⟨_, rfl⟩
  have hB1 : Below w.heap.size w W1 := by rw [hW1]; exact belC (Below.refl _ _)
  have hg := inoGet_any W1 b S s (h.below' hB1) i
  have c0 : W1.cell? ⟨w.heap.size, 0, none⟩ = some (.int .i64 0) := by rw [hW1]; go_simp
  have c1 : W1.cell? ⟨w.heap.size, 1, none⟩ = some (.int .i64 0) := by rw [hW1]; go_simp
  have c2 : W1.cell? ⟨w.heap.size, 2, none⟩ = some (.int .i64 0) := by rw [hW1]; go_simp
  have c3 : W1.cell? ⟨w.heap.size, 3, none⟩ = some (.int .i64 0) := by rw [hW1]; go_simp
  have f0 : W1.frozen? ⟨w.heap.size, 0, none⟩ = false := by rw [hW1]; go_simp
  have f1 : W1.frozen? ⟨w.heap.size, 1, none⟩ = false := by rw [hW1]; go_simp
  have f2 : W1.frozen? ⟨w.heap.size, 2, none⟩ = false := by rw [hW1]; go_simp
  have f3 : W1.frozen? ⟨w.heap.size, 3, none⟩ = false := by rw [hW1]; go_simp
  obtain ⟨⟨x0, x1, x2, x3, x4⟩, hx⟩ : ∃ x, x = s.at i := ⟨_, rfl⟩
  rw [← hx] at hg ⊢
  generalize s.has i = y at hg ⊢
  simp only [inV, statV] at hg ⊢
  have HW1 := Lib.hid hW1
  have HB1 := Lib.hid hB1
  clear hx hW1 hB1 h
  go_enter Tryz.func28, Tryz.ntmps28
  go_wp2_with fail
  rw [← HW1.out]
  refine hg.mono ?_
  clear hg
  rintro e W2 ⟨rfl, hB2⟩
  have hl : w.heap.size < W1.heap.size := cell_lt c0
  have c0 := below_at hB2 c0 hl
  have c1 := below_at hB2 c1 hl
  have c2 := below_at hB2 c2 hl
  have c3 := below_at hB2 c3 hl
  have f0 := (hB2.frozen (p := ⟨w.heap.size, 0, none⟩) hl).trans f0
  have f1 := (hB2.frozen (p := ⟨w.heap.size, 1, none⟩) hl).trans f1
  have f2 := (hB2.frozen (p := ⟨w.heap.size, 2, none⟩) hl).trans f2
  have f3 := (hB2.frozen (p := ⟨w.heap.size, 3, none⟩) hl).trans f3
  have hlt := cell_lt c0
  have HB2 := Lib.hid (HB1.out.trans (hB2.mono HB1.out.size))
  clear hB2
  go_wp2_with fail
  refine bodyPost_ret (v := .tuple #[.agg #[.int .i64 x0, .int .i64 x1, .int .i64 x2, .int .i64 x4], .bool y]) (by simp [results, Tryz.results28, go_sem, *]) rfl ?_
  exact ⟨rfl, by exact belC HB2.out⟩
theorem inoOpens_any (w : World) (b : Nat) (S : Nat → Prop) (s : TabS) (h : TabAt w b S s) (i : Int) :
    Calls Tryz.prog 52 #[.pointer (some ⟨b, 0, none⟩), .int .i64 i] w fun e w' => e = .returned (.int .i64 (s.at i).opens) ∧ Below w.heap.size w w' := by
  have hg := inoGet_any w b S s h i
  obtain ⟨⟨x0, x1, x2, x3, x4⟩, hx⟩ : ∃ x, x = s.at i := ⟨_, rfl⟩
  rw [← hx] at hg ⊢
  generalize s.has i = y at hg
  simp only [inV] at hg ⊢
  clear hx h
  go_enter Tryz.func52, Tryz.ntmps52
  go_wp2_with fail
  refine hg.mono ?_
  clear hg
  rintro e W2 ⟨rfl, hB2⟩
  go_wp2_with fail
  go_ret
  have hz := hB2.size
  exact ⟨rfl, by exact belC hB2⟩
theorem inoNext_any (w : World) (b : Nat) (S : Nat → Prop) (s : TabS) (h : TabAt w b S s) :
    Calls Tryz.prog 113 #[.pointer (some ⟨b, 0, none⟩)] w fun e w' => e = .returned (.int .i64 s.next) ∧ w' = w := by
  obtain ⟨sb, lt, mb, c0, c1, f1, hm, sm, n1⟩ := h
  go_enter Tryz.func113, Tryz.ntmps113
  go_wp2_with fail
  go_ret
  exact ⟨rfl, rfl⟩
end Go.Proofs.YtakbalmbkokklaaGreat
