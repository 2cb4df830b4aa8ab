import Derived.Test.YtpiogibkleaaaaaGreatDoorPkStA
/- package state: open -/
namespace Go.Proofs.YtpiogibkleaaaaaGreatDoor
open Go.RowKit Esch Go.Shelf

set_option linter.unusedSimpArgs false
end Go.Proofs.YtpiogibkleaaaaaGreatDoor
/- package state: expire -/
namespace Go.Proofs.YtpiogibkleaaaaaGreatDoor
open Go.RowKit Esch Go.Shelf

set_option linter.unusedSimpArgs false
end Go.Proofs.YtpiogibkleaaaaaGreatDoor
/- package state: the table of doings -/
namespace Go.Proofs.YtpiogibkleaaaaaGreatDoor
open Go.RowKit Esch Go.Shelf

def doingsL : List (Int × Nat) := [(1, 69), (2, 69), (3, 69), (4, 69), (5, 69), (6, 69), (7, 69), (8, 70), (9, 71), (10, 72), (11, 73), (12, 74), (13, 75), (14, 76)]
set_option maxRecDepth 100000 in
set_option maxHeartbeats 4000000 in
theorem doings_any (w : World) : Calls Tryz.prog 41 #[] w fun e w' => ∃ mb, e = .returned (.map (some mb)) ∧ MpAt w' mb iV opF doingsL ∧ Below w.heap.size w w' := by
  have hmm := @run_makeMap Tryz.prog
  have m0 : MpAt (w.alloc (.map #[] 0)) w.heap.size iV opF ([] : List (Int × Nat)) := ⟨#[], 0, alloc_new _ _, rfl, List.nodup_nil, List.Pairwise.nil, fun e h => by simp at h⟩
  obtain ⟨W1, u1, m1, o1, z1⟩ := MapAt.upz m0 keyInt Tryz.underlying119 1 (69 : Nat)
  obtain ⟨W2, u2, m2, o2, z2⟩ := MapAt.upz m1 keyInt Tryz.underlying119 2 (69 : Nat)
  obtain ⟨W3, u3, m3, o3, z3⟩ := MapAt.upz m2 keyInt Tryz.underlying119 3 (69 : Nat)
  obtain ⟨W4, u4, m4, o4, z4⟩ := MapAt.upz m3 keyInt Tryz.underlying119 4 (69 : Nat)
  obtain ⟨W5, u5, m5, o5, z5⟩ := MapAt.upz m4 keyInt Tryz.underlying119 5 (69 : Nat)
  obtain ⟨W6, u6, m6, o6, z6⟩ := MapAt.upz m5 keyInt Tryz.underlying119 6 (69 : Nat)
  obtain ⟨W7, u7, m7, o7, z7⟩ := MapAt.upz m6 keyInt Tryz.underlying119 7 (69 : Nat)
  obtain ⟨W8, u8, m8, o8, z8⟩ := MapAt.upz m7 keyInt Tryz.underlying119 8 (70 : Nat)
  obtain ⟨W9, u9, m9, o9, z9⟩ := MapAt.upz m8 keyInt Tryz.underlying119 9 (71 : Nat)
  obtain ⟨W10, u10, m10, o10, z10⟩ := MapAt.upz m9 keyInt Tryz.underlying119 10 (72 : Nat)
  obtain ⟨W11, u11, m11, o11, z11⟩ := MapAt.upz m10 keyInt Tryz.underlying119 11 (73 : Nat)
  obtain ⟨W12, u12, m12, o12, z12⟩ := MapAt.upz m11 keyInt Tryz.underlying119 12 (74 : Nat)
  obtain ⟨W13, u13, m13, o13, z13⟩ := MapAt.upz m12 keyInt Tryz.underlying119 13 (75 : Nat)
  obtain ⟨W14, u14, m14, o14, z14⟩ := MapAt.upz m13 keyInt Tryz.underlying119 14 (76 : Nat)
  simp only [iV] at u1 u2 u3 u4 u5 u6 u7 u8 u9 u10 u11 u12 u13 u14
  have hM : Mod (· = w.heap.size) (w.alloc (.map #[] 0)) W14 := o1.trans (o2.trans (o3.trans (o4.trans (o5.trans (o6.trans (o7.trans (o8.trans (o9.trans (o10.trans (o11.trans (o12.trans (o13.trans (o14)))))))))))))
  have hB : Below w.heap.size w W14 := ((Below.refl _ w).alloc (Nat.le_refl _) _).trans (hM.below_at (by simp) (fun k hk e => by omega))
  have HB := Lib.hid hB
  have HMp := Lib.hid m14
  clear m0 m1 o1 z1 m2 o2 z2 m3 o3 z3 m4 o4 z4 m5 o5 z5 m6 o6 z6 m7 o7 z7 m8 o8 z8 m9 o9 z9 m10 o10 z10 m11 o11 z11 m12 o12 z12 m13 o13 z13 m14 o14 z14 hM hB
  go_enter Tryz.func41, Tryz.ntmps41
  go_wp2_with fail
  go_ret
  exact ⟨_, rfl, HMp.out, HB.out⟩
set_option maxRecDepth 100000 in
theorem doings_look {w : World} {mb : Nat} (h : MpAt w mb iV opF doingsL) (k : Int) (g : Nat) (hk : get doingsL k = some g) : (Instr.lookup 119 (.map (some mb)) (.int .i64 k) false).run Tryz.prog w = .ok (opF g) w := by
  obtain ⟨es, c, hm⟩ := h
  have := hm.look keyInt Tryz.underlying119 (z := .nilFunc) (fun w => by kernel_rfl) k false
  rw [hk] at this
  simpa [iV] using this
end Go.Proofs.YtpiogibkleaaaaaGreatDoor
/- package state: Apply -/
namespace Go.Proofs.YtpiogibkleaaaaaGreatDoor
open Go.RowKit Esch Go.Shelf

set_option linter.unusedSimpArgs false
def APost (w : World) (b : Nat) (S : Nat → Prop) (r : ASt) (e : Ending) (w' : World) : Prop := e = .returned (.tuple #[.agg #[.int .i64 r.1.1.1, .int .i64 r.1.1.2], .bool r.1.2.1, .int .i64 r.1.2.2]) ∧ SttAt w' b (growI S w w') r.2 ∧ Mod S w w'
theorem StCur.nxt {w W : World} {b tb hb ob mb : Nat} {S S1 S2 : Nat → Prop} {s : StS} (h : StCur w W b tb hb ob mb S S1 S2 s) (n : Int) : StCur w (W.setCell ⟨b, 3, none⟩ (.int .i64 n)) b tb hb ob mb S S1 S2 { s with next := n } :=
  ⟨h.hi.nxt n, h.mod.setCellAt (b := b) (fun _ => h.sb) _, fun k hk => (h.s1 k hk).imp id fun h => ⟨h.1, by simpa using h.2⟩, h.s2, h.sb, h.so, h.sm, h.lt⟩
theorem dec_box {w w' : World} {r : Option (OpS × List Mv)} {e : Ending} (h : DecPost w r e w') : Below w.heap.size w w' ∧ ∃ (x : OpS) (er : Int), e = .returned (.tuple #[.agg x.cells.toArray, .int .i64 er]) ∧ (r = none → er = 11) := by
  obtain ⟨hB, h⟩ := h
  refine ⟨hB, ?_⟩
  cases r with
  | none => exact ⟨_, _, h, fun _ => rfl⟩
  | some r =>
    obtain ⟨mp, mc, h1, -⟩ := h
    exact ⟨_, _, h1, fun h => by cases h⟩
set_option maxRecDepth 100000 in
set_option maxHeartbeats 4000000 in
theorem apply_arg (w : World) (b : Nat) (S : Nat → Prop) (s : StS) (h : SttAt w b S s) (addr kind : Int) (text : ByteArray) (hc : addr ≠ s.next ∨ 16384 ≤ addr ∨ (kind ≠ 1 ∧ kind ≠ 2)) :
    Calls Tryz.prog 13 #[.pointer (some ⟨b, 0, none⟩), .int .i64 addr, .int .i64 kind, .string text] w (APost w b S (((0, 0), false, 1), s)) := by
  obtain ⟨sb, lt, tb, hb, ob, mb, S1, S2, hi, s1, s2, so, sm⟩ := h
  have hbl : b < w.heap.size := cell_lt hi.c0
  have e0 := hi.c0
  have e2 := hi.c2
  have e3 := hi.c3
  have g3 := hi.fz 3
  obtain ⟨W1, hW1⟩ : ∃ W1, W1 = w.alloc (.cells #[.int .i64 0, .int .i64 0] 28) := ⟨_, rfl⟩
  have hB1 : Below w.heap.size w W1 := by rw [hW1]; exact belC (Below.refl _ _)
  have hz1 : W1.heap.size = w.heap.size + 1 := by rw [hW1]; simp
  have HC : Hid (StCur w W1 b tb hb ob mb S S1 S2 s) := Lib.hid ⟨hi.mod (F := none') (Mod.of_below hB1) id id id (fun _ _ => id) (fun _ _ => id), Mod.of_below hB1, fun k hk => Or.inl (s1 k hk), s2, sb, so, sm, lt⟩
  have r0 : W1.cell? ⟨w.heap.size, 0, none⟩ = some (.int .i64 0) := by rw [hW1]; go_simp
  have r1 : W1.cell? ⟨w.heap.size, 1, none⟩ = some (.int .i64 0) := by rw [hW1]; go_simp
  have f0 : W1.frozen? ⟨w.heap.size, 0, none⟩ = false := by rw [hW1]; go_simp
  have f1 : W1.frozen? ⟨w.heap.size, 1, none⟩ = false := by rw [hW1]; go_simp
  have HW1 := Lib.hid hW1
  have hrl := cell_lt r0
  have NS1 : Hid (∀ k, w.heap.size ≤ k → k < w.heap.size + 1 → ¬ S1 k) := Lib.hid (fun k h1 h2 h => by have := lt k (s1 k h); omega)
  have NS2 : Hid (∀ k, w.heap.size ≤ k → ¬ S2 k) := Lib.hid (fun k h1 h => by have := lt k (s2 k h); omega)
  clear hi hW1 hB1 lt s1 s2 sb so sm
  obtain ⟨nx, hnx⟩ : ∃ nx, nx = s.next := ⟨_, rfl⟩
  rw [← hnx] at e3 hc
  clear hnx
  by_cases h1 : addr ≠ nx
  · have h1' : (addr != nx) = true := by simpa using h1
    clear h1 hc
    go_enter Tryz.func13, Tryz.ntmps13
    go_wp2_with fail
    rw [← HW1.out]
    refine bodyPost_ret (v := .tuple #[.agg #[.int .i64 0, .int .i64 0], .bool false, .int .i64 1]) (by simp [results, Tryz.results13, go_sem, *]) rfl ?_
    exact ⟨rfl, HC.out.done⟩
  · have h1' : (addr != nx) = false := by simpa using h1
    by_cases h2 : 16384 ≤ addr
    · clear h1 hc
      go_enter Tryz.func13, Tryz.ntmps13
      go_wp2_with fail
      rw [← HW1.out]
      refine bodyPost_ret (v := .tuple #[.agg #[.int .i64 0, .int .i64 0], .bool false, .int .i64 1]) (by simp [results, Tryz.results13, go_sem, *]) rfl ?_
      exact ⟨rfl, HC.out.done⟩
    · have h2' : decide (16384 ≤ addr) = false := decide_eq_false h2
      have h3 : kind ≠ 1 ∧ kind ≠ 2 := (hc.resolve_left h1).resolve_left h2
      have h3' : (kind != 1) = true := by simpa using h3.1
      have h4' : (kind != 2) = true := by simpa using h3.2
      clear h1 h2 h3 hc
      go_enter Tryz.func13, Tryz.ntmps13
      go_wp2_with fail
      rw [← HW1.out]
      refine bodyPost_ret (v := .tuple #[.agg #[.int .i64 0, .int .i64 0], .bool false, .int .i64 1]) (by simp [results, Tryz.results13, go_sem, *]) rfl ?_
      exact ⟨rfl, HC.out.done⟩
set_option maxRecDepth 100000 in
set_option maxHeartbeats 4000000 in
theorem apply_junk (w : World) (b : Nat) (S : Nat → Prop) (s : StS) (h : SttAt w b S s) (hok : s.ok) (addr : Int) (text : ByteArray) (hts : text.size ≤ 9223372036854775807) (hf : FieldsAt w) (hS0 : ¬ S 0) (ha : addr = s.next) (ha2 : addr < 16384) :
    Calls Tryz.prog 13 #[.pointer (some ⟨b, 0, none⟩), .int .i64 addr, .int .i64 2, .string text] w (APost w b S (((0, 0), false, 0), { s with next := s.next + 1 })) := by
  obtain ⟨sb, lt, tb, hb, ob, mb, S1, S2, hi, s1, s2, so, sm⟩ := h
  have hbl : b < w.heap.size := cell_lt hi.c0
  have e0 := hi.c0
  have e2 := hi.c2
  have e3 := hi.c3
  have g3 := hi.fz 3
  obtain ⟨W1, hW1⟩ : ∃ W1, W1 = w.alloc (.cells #[.int .i64 0, .int .i64 0] 28) := ⟨_, rfl⟩
  have hB1 : Below w.heap.size w W1 := by rw [hW1]; exact belC (Below.refl _ _)
  have hz1 : W1.heap.size = w.heap.size + 1 := by rw [hW1]; simp
  have HC : Hid (StCur w W1 b tb hb ob mb S S1 S2 s) := Lib.hid ⟨hi.mod (F := none') (Mod.of_below hB1) id id id (fun _ _ => id) (fun _ _ => id), Mod.of_below hB1, fun k hk => Or.inl (s1 k hk), s2, sb, so, sm, lt⟩
  have r0 : W1.cell? ⟨w.heap.size, 0, none⟩ = some (.int .i64 0) := by rw [hW1]; go_simp
  have r1 : W1.cell? ⟨w.heap.size, 1, none⟩ = some (.int .i64 0) := by rw [hW1]; go_simp
  have f0 : W1.frozen? ⟨w.heap.size, 0, none⟩ = false := by rw [hW1]; go_simp
  have f1 : W1.frozen? ⟨w.heap.size, 1, none⟩ = false := by rw [hW1]; go_simp
  have HW1 := Lib.hid hW1
  have hrl := cell_lt r0
  have NS1 : Hid (∀ k, w.heap.size ≤ k → k < w.heap.size + 1 → ¬ S1 k) := Lib.hid (fun k h1 h2 h => by have := lt k (s1 k h); omega)
  have NS2 : Hid (∀ k, w.heap.size ≤ k → ¬ S2 k) := Lib.hid (fun k h1 h => by have := lt k (s2 k h); omega)
  clear hi hW1 hB1 lt s1 s2 sb so sm
  obtain ⟨nx, hnx⟩ : ∃ nx, nx = s.next := ⟨_, rfl⟩
  have hn0 : 0 ≤ nx ∧ nx ≤ 16384 := by rw [hnx]; exact ⟨hok.n0, hok.n1⟩
  rw [← hnx] at e3 ha
  have ha' : (addr != nx) = false := by simpa using ha
  have hb' : decide (16384 ≤ addr) = false := decide_eq_false (by omega)
  have hwn : wrap64 (nx + 1) = nx + 1 := by unfold wrap64; omega
  obtain ⟨W2, hW2⟩ : ∃ W2, W2 = W1.setCell ⟨b, 3, none⟩ (.int .i64 (nx + 1)) := ⟨_, rfl⟩
  have nb : ¬ w.heap.size = b := by omega
  have HC2 : Hid (StCur w W2 b tb hb ob mb S S1 S2 { s with next := s.next + 1 }) := Lib.hid (by rw [hW2, hnx]; exact HC.out.nxt _)
  have r0 : W2.cell? ⟨w.heap.size, 0, none⟩ = some (.int .i64 0) := by rw [hW2]; go_simp
  have r1 : W2.cell? ⟨w.heap.size, 1, none⟩ = some (.int .i64 0) := by rw [hW2]; go_simp
  have f0 : W2.frozen? ⟨w.heap.size, 0, none⟩ = false := by rw [hW2]; go_simp
  have f1 : W2.frozen? ⟨w.heap.size, 1, none⟩ = false := by rw [hW2]; go_simp
  have hrl := cell_lt r0
  have hz2 : W2.heap.size = w.heap.size + 1 := by rw [hW2]; simp [hz1]
  have h02 : FieldsAt W2 := fun k hk => by
    have h1 := hf k hk
    have h2 := cell_lt h1
    rw [hW2, HW1.out]
    have h3 : ¬ (0 : Nat) = b := fun e => hS0 (by rw [e]; exact HC.out.sb)
    go_simp
  have hdec := decode_any W2 text hts h02 (by omega)
  have HF2 := Lib.hid h02
  have HW2 : Hid (W2 = (w.setCell ⟨b, 3, none⟩ (.int .i64 (nx + 1))).alloc (.cells #[.int .i64 0, .int .i64 0] 28)) := Lib.hid (by rw [hW2, HW1.out]; go_simp)
  clear hW2 hnx h02 ha
  go_enter Tryz.func13, Tryz.ntmps13
  go_wp2_with fail
  rw [← HW2.out]
  refine hdec.mono ?_
  clear hdec
  rintro e W3 hd
  obtain ⟨hB3, x, er, rfl, her⟩ := dec_box hd
  obtain ⟨oc, os, ok, op, od, oz, oh, oo, ot, oi, on, om, ol, oq⟩ := x
  simp only [OpS.cells]
  have r0 := below_at hB3 r0 hrl
  have r1 := below_at hB3 r1 hrl
  have f0 := (hB3.frozen (p := ⟨w.heap.size, 0, none⟩) hrl).trans f0
  have f1 := (hB3.frozen (p := ⟨w.heap.size, 1, none⟩) hrl).trans f1
  have HC3 := Lib.hid (HC2.out.below hB3)
  have hz3 := hB3.size
  obtain ⟨W4, hW4⟩ : ∃ W4, W4 = W3.alloc (.cells #[.int .i64 oc, .int .i64 os, .int .i64 ok, .string (bs op), .string (bs od), .int .i64 oz, .int .i64 oh, .int .i64 oo, .string ot, .int .i64 oi, .int .i64 on, .slice om ol oq] 41) := ⟨_, rfl⟩
  have hB4 : Below W3.heap.size W3 W4 := by rw [hW4]; exact belC (Below.refl _ _)
  have hrl3 := cell_lt r0
  have r0 := below_at hB4 r0 hrl3
  have r1 := below_at hB4 r1 hrl3
  have f0 := (hB4.frozen (p := ⟨w.heap.size, 0, none⟩) hrl3).trans f0
  have f1 := (hB4.frozen (p := ⟨w.heap.size, 1, none⟩) hrl3).trans f1
  have HC4 := Lib.hid (HC3.out.below hB4)
  have HW4 := Lib.hid hW4
  have hrl := cell_lt r0
  clear hW4 hB4 hB3 HC3 HC2 hrl3
  go_wp2_with fail
  rw [← HW4.out]
  refine wp_region_held_drew (S := fun _ => True) (by kernel_rfl) trivial (fun hHeld => ?_)
  refine takeL 0 ?_
  refine takeL 1 ?_
  refine takeL 2 ?_
  refine takeU 3 ?_
  refine takeU 4 ?_
  refine takeL 5 ?_
  refine takeL 6 ?_
  refine takeU 7 ?_
  refine takeU 8 ?_
  refine takeU 9 ?_
  refine takeU 10 ?_
  refine takeU 11 ?_
  refine takeU 12 ?_
  refine takeU 13 ?_
  refine takeU 14 ?_
  refine takeU 15 ?_
  refine takeL 16 ?_
  refine wpAnyH_done (by kernel_rfl) ?_ _
  clear hHeld
  have HC5 : Hid (StCur w W4.drew b tb hb ob mb S S1 S2 { s with next := s.next + 1 }) := Lib.hid (HC4.out.other (F := none') ((Mod.refl none' _).drew) (fun _ h => h.elim) (fun _ _ => id))
  go_wp2_with fail
  refine bodyPost_ret (v := .tuple #[.agg #[.int .i64 0, .int .i64 0], .bool false, .int .i64 0]) (by simp [results, Tryz.results13, go_sem, *]) rfl ?_
  exact ⟨rfl, (HC5.out.other (F := (· = w.heap.size)) (((Mod.refl (· = w.heap.size) _).setCellAt (fun _ => rfl) _).setCellAt (fun _ => rfl) _) (fun k hk => by have e : k = w.heap.size := hk; omega) (fun k hk e => NS1.out k (by have e : k = w.heap.size := e; omega) (by have e : k = w.heap.size := e; omega) hk)).done⟩
set_option maxRecDepth 100000 in
set_option maxHeartbeats 4000000 in
theorem apply_none (w : World) (b : Nat) (S : Nat → Prop) (s : StS) (h : SttAt w b S s) (hok : s.ok) (addr : Int) (text : ByteArray) (hts : text.size ≤ 9223372036854775807) (hf : FieldsAt w) (hS0 : ¬ S 0) (ha : addr = s.next) (ha2 : addr < 16384) (hdn : decOp text = none) :
    Calls Tryz.prog 13 #[.pointer (some ⟨b, 0, none⟩), .int .i64 addr, .int .i64 1, .string text] w (APost w b S (((0, 0), false, 0), { s with next := s.next + 1 })) := by
  obtain ⟨sb, lt, tb, hb, ob, mb, S1, S2, hi, s1, s2, so, sm⟩ := h
  have hbl : b < w.heap.size := cell_lt hi.c0
  have e0 := hi.c0
  have e2 := hi.c2
  have e3 := hi.c3
  have g3 := hi.fz 3
  obtain ⟨W1, hW1⟩ : ∃ W1, W1 = w.alloc (.cells #[.int .i64 0, .int .i64 0] 28) := ⟨_, rfl⟩
  have hB1 : Below w.heap.size w W1 := by rw [hW1]; exact belC (Below.refl _ _)
  have hz1 : W1.heap.size = w.heap.size + 1 := by rw [hW1]; simp
  have HC : Hid (StCur w W1 b tb hb ob mb S S1 S2 s) := Lib.hid ⟨hi.mod (F := none') (Mod.of_below hB1) id id id (fun _ _ => id) (fun _ _ => id), Mod.of_below hB1, fun k hk => Or.inl (s1 k hk), s2, sb, so, sm, lt⟩
  have r0 : W1.cell? ⟨w.heap.size, 0, none⟩ = some (.int .i64 0) := by rw [hW1]; go_simp
  have r1 : W1.cell? ⟨w.heap.size, 1, none⟩ = some (.int .i64 0) := by rw [hW1]; go_simp
  have f0 : W1.frozen? ⟨w.heap.size, 0, none⟩ = false := by rw [hW1]; go_simp
  have f1 : W1.frozen? ⟨w.heap.size, 1, none⟩ = false := by rw [hW1]; go_simp
  have HW1 := Lib.hid hW1
  have hrl := cell_lt r0
  have NS1 : Hid (∀ k, w.heap.size ≤ k → k < w.heap.size + 1 → ¬ S1 k) := Lib.hid (fun k h1 h2 h => by have := lt k (s1 k h); omega)
  have NS2 : Hid (∀ k, w.heap.size ≤ k → ¬ S2 k) := Lib.hid (fun k h1 h => by have := lt k (s2 k h); omega)
  clear hi hW1 hB1 lt s1 s2 sb so sm
  obtain ⟨nx, hnx⟩ : ∃ nx, nx = s.next := ⟨_, rfl⟩
  have hn0 : 0 ≤ nx ∧ nx ≤ 16384 := by rw [hnx]; exact ⟨hok.n0, hok.n1⟩
  rw [← hnx] at e3 ha
  have ha' : (addr != nx) = false := by simpa using ha
  have hb' : decide (16384 ≤ addr) = false := decide_eq_false (by omega)
  have hwn : wrap64 (nx + 1) = nx + 1 := by unfold wrap64; omega
  obtain ⟨W2, hW2⟩ : ∃ W2, W2 = W1.setCell ⟨b, 3, none⟩ (.int .i64 (nx + 1)) := ⟨_, rfl⟩
  have nb : ¬ w.heap.size = b := by omega
  have HC2 : Hid (StCur w W2 b tb hb ob mb S S1 S2 { s with next := s.next + 1 }) := Lib.hid (by rw [hW2, hnx]; exact HC.out.nxt _)
  have r0 : W2.cell? ⟨w.heap.size, 0, none⟩ = some (.int .i64 0) := by rw [hW2]; go_simp
  have r1 : W2.cell? ⟨w.heap.size, 1, none⟩ = some (.int .i64 0) := by rw [hW2]; go_simp
  have f0 : W2.frozen? ⟨w.heap.size, 0, none⟩ = false := by rw [hW2]; go_simp
  have f1 : W2.frozen? ⟨w.heap.size, 1, none⟩ = false := by rw [hW2]; go_simp
  have hrl := cell_lt r0
  have hz2 : W2.heap.size = w.heap.size + 1 := by rw [hW2]; simp [hz1]
  have h02 : FieldsAt W2 := fun k hk => by
    have h1 := hf k hk
    have h2 := cell_lt h1
    rw [hW2, HW1.out]
    have h3 : ¬ (0 : Nat) = b := fun e => hS0 (by rw [e]; exact HC.out.sb)
    go_simp
  have hdec := decode_any W2 text hts h02 (by omega)
  have HF2 := Lib.hid h02
  have HW2 : Hid (W2 = (w.setCell ⟨b, 3, none⟩ (.int .i64 (nx + 1))).alloc (.cells #[.int .i64 0, .int .i64 0] 28)) := Lib.hid (by rw [hW2, HW1.out]; go_simp)
  clear hW2 hnx h02 ha
  rw [hdn] at hdec
  go_enter Tryz.func13, Tryz.ntmps13
  go_wp2_with fail
  rw [← HW2.out]
  refine hdec.mono ?_
  clear hdec
  rintro e W3 hd
  obtain ⟨hB3, x, er, rfl, her⟩ := dec_box hd
  obtain ⟨oc, os, ok, op, od, oz, oh, oo, ot, oi, on, om, ol, oq⟩ := x
  simp only [OpS.cells]
  have r0 := below_at hB3 r0 hrl
  have r1 := below_at hB3 r1 hrl
  have f0 := (hB3.frozen (p := ⟨w.heap.size, 0, none⟩) hrl).trans f0
  have f1 := (hB3.frozen (p := ⟨w.heap.size, 1, none⟩) hrl).trans f1
  have HC3 := Lib.hid (HC2.out.below hB3)
  have hz3 := hB3.size
  obtain ⟨W4, hW4⟩ : ∃ W4, W4 = W3.alloc (.cells #[.int .i64 oc, .int .i64 os, .int .i64 ok, .string (bs op), .string (bs od), .int .i64 oz, .int .i64 oh, .int .i64 oo, .string ot, .int .i64 oi, .int .i64 on, .slice om ol oq] 41) := ⟨_, rfl⟩
  have hB4 : Below W3.heap.size W3 W4 := by rw [hW4]; exact belC (Below.refl _ _)
  have hrl3 := cell_lt r0
  have r0 := below_at hB4 r0 hrl3
  have r1 := below_at hB4 r1 hrl3
  have f0 := (hB4.frozen (p := ⟨w.heap.size, 0, none⟩) hrl3).trans f0
  have f1 := (hB4.frozen (p := ⟨w.heap.size, 1, none⟩) hrl3).trans f1
  have HC4 := Lib.hid (HC3.out.below hB4)
  have HW4 := Lib.hid hW4
  have hrl := cell_lt r0
  clear hW4 hB4 hB3 HC3 HC2 hrl3
  go_wp2_with fail
  rw [← HW4.out]
  obtain rfl := her (by trivial)
  refine wp_region_held_drew (S := fun _ => True) (by kernel_rfl) trivial (fun hHeld => ?_)
  refine takeL 0 ?_
  refine takeL 1 ?_
  refine takeL 2 ?_
  refine takeL 3 ?_
  refine takeL 4 ?_
  refine takeL 5 ?_
  refine takeL 6 ?_
  refine takeU 7 ?_
  refine takeU 8 ?_
  refine takeU 9 ?_
  refine takeU 10 ?_
  refine takeU 11 ?_
  refine takeU 12 ?_
  refine takeU 13 ?_
  refine takeU 14 ?_
  refine takeU 15 ?_
  refine takeL 16 ?_
  refine wpAnyH_done (by kernel_rfl) ?_ _
  clear hHeld
  have HC5 : Hid (StCur w W4.drew b tb hb ob mb S S1 S2 { s with next := s.next + 1 }) := Lib.hid (HC4.out.other (F := none') ((Mod.refl none' _).drew) (fun _ h => h.elim) (fun _ _ => id))
  go_wp2_with fail
  refine bodyPost_ret (v := .tuple #[.agg #[.int .i64 0, .int .i64 0], .bool false, .int .i64 0]) (by simp [results, Tryz.results13, go_sem, *]) rfl ?_
  exact ⟨rfl, (HC5.out.other (F := (· = w.heap.size)) (((Mod.refl (· = w.heap.size) _).setCellAt (fun _ => rfl) _).setCellAt (fun _ => rfl) _) (fun k hk => by have e : k = w.heap.size := hk; omega) (fun k hk e => NS1.out k (by have e : k = w.heap.size := e; omega) (by have e : k = w.heap.size := e; omega) hk)).done⟩
set_option maxRecDepth 100000 in
set_option maxHeartbeats 4000000 in
theorem apply_seen (w : World) (b : Nat) (S : Nat → Prop) (s : StS) (h : SttAt w b S s) (hok : s.ok) (addr : Int) (text : ByteArray) (hts : text.size ≤ 9223372036854775807) (hf : FieldsAt w) (hS0 : ¬ S 0) (ha : addr = s.next) (ha2 : addr < 16384) (o : OpS) (mv : List Mv) (hdn : decOp text = some (o, mv)) (hse : oseen s.o o.client o.seq = true) :
    Calls Tryz.prog 13 #[.pointer (some ⟨b, 0, none⟩), .int .i64 addr, .int .i64 1, .string text] w (APost w b S (((0, 0), false, 0), { s with next := s.next + 1 })) := by
  obtain ⟨sb, lt, tb, hb, ob, mb, S1, S2, hi, s1, s2, so, sm⟩ := h
  have hbl : b < w.heap.size := cell_lt hi.c0
  have e0 := hi.c0
  have e2 := hi.c2
  have e3 := hi.c3
  have g3 := hi.fz 3
  obtain ⟨W1, hW1⟩ : ∃ W1, W1 = w.alloc (.cells #[.int .i64 0, .int .i64 0] 28) := ⟨_, rfl⟩
  have hB1 : Below w.heap.size w W1 := by rw [hW1]; exact belC (Below.refl _ _)
  have hz1 : W1.heap.size = w.heap.size + 1 := by rw [hW1]; simp
  have HC : Hid (StCur w W1 b tb hb ob mb S S1 S2 s) := Lib.hid ⟨hi.mod (F := none') (Mod.of_below hB1) id id id (fun _ _ => id) (fun _ _ => id), Mod.of_below hB1, fun k hk => Or.inl (s1 k hk), s2, sb, so, sm, lt⟩
  have r0 : W1.cell? ⟨w.heap.size, 0, none⟩ = some (.int .i64 0) := by rw [hW1]; go_simp
  have r1 : W1.cell? ⟨w.heap.size, 1, none⟩ = some (.int .i64 0) := by rw [hW1]; go_simp
  have f0 : W1.frozen? ⟨w.heap.size, 0, none⟩ = false := by rw [hW1]; go_simp
  have f1 : W1.frozen? ⟨w.heap.size, 1, none⟩ = false := by rw [hW1]; go_simp
  have HW1 := Lib.hid hW1
  have hrl := cell_lt r0
  have NS1 : Hid (∀ k, w.heap.size ≤ k → k < w.heap.size + 1 → ¬ S1 k) := Lib.hid (fun k h1 h2 h => by have := lt k (s1 k h); omega)
  have NS2 : Hid (∀ k, w.heap.size ≤ k → ¬ S2 k) := Lib.hid (fun k h1 h => by have := lt k (s2 k h); omega)
  clear hi hW1 hB1 lt s1 s2 sb so sm
  obtain ⟨nx, hnx⟩ : ∃ nx, nx = s.next := ⟨_, rfl⟩
  have hn0 : 0 ≤ nx ∧ nx ≤ 16384 := by rw [hnx]; exact ⟨hok.n0, hok.n1⟩
  rw [← hnx] at e3 ha
  have ha' : (addr != nx) = false := by simpa using ha
  have hb' : decide (16384 ≤ addr) = false := decide_eq_false (by omega)
  have hwn : wrap64 (nx + 1) = nx + 1 := by unfold wrap64; omega
  obtain ⟨W2, hW2⟩ : ∃ W2, W2 = W1.setCell ⟨b, 3, none⟩ (.int .i64 (nx + 1)) := ⟨_, rfl⟩
  have nb : ¬ w.heap.size = b := by omega
  have HC2 : Hid (StCur w W2 b tb hb ob mb S S1 S2 { s with next := s.next + 1 }) := Lib.hid (by rw [hW2, hnx]; exact HC.out.nxt _)
  have r0 : W2.cell? ⟨w.heap.size, 0, none⟩ = some (.int .i64 0) := by rw [hW2]; go_simp
  have r1 : W2.cell? ⟨w.heap.size, 1, none⟩ = some (.int .i64 0) := by rw [hW2]; go_simp
  have f0 : W2.frozen? ⟨w.heap.size, 0, none⟩ = false := by rw [hW2]; go_simp
  have f1 : W2.frozen? ⟨w.heap.size, 1, none⟩ = false := by rw [hW2]; go_simp
  have hrl := cell_lt r0
  have hz2 : W2.heap.size = w.heap.size + 1 := by rw [hW2]; simp [hz1]
  have h02 : FieldsAt W2 := fun k hk => by
    have h1 := hf k hk
    have h2 := cell_lt h1
    rw [hW2, HW1.out]
    have h3 : ¬ (0 : Nat) = b := fun e => hS0 (by rw [e]; exact HC.out.sb)
    go_simp
  have hdec := decode_any W2 text hts h02 (by omega)
  have HF2 := Lib.hid h02
  have HW2 : Hid (W2 = (w.setCell ⟨b, 3, none⟩ (.int .i64 (nx + 1))).alloc (.cells #[.int .i64 0, .int .i64 0] 28)) := Lib.hid (by rw [hW2, HW1.out]; go_simp)
  clear hW2 hnx h02 ha
  rw [hdn] at hdec
  go_enter Tryz.func13, Tryz.ntmps13
  go_wp2_with fail
  rw [← HW2.out]
  refine hdec.mono ?_
  clear hdec
  rintro e W3 hd
  obtain ⟨hB3, mp, mc, rfl, hin3⟩ := hd
  obtain ⟨oc, os, ok, op, od, oz, oh, oo, ot, oi, on, om, ol, oq⟩ := o
  obtain ⟨ml, hml⟩ : ∃ ml, ml = mv.length := ⟨_, rfl⟩
  simp only [OpS.cells, OpS.withM] at hin3 ⊢
  rw [← hml] at hin3 ⊢
  have HML := Lib.hid hml
  have r0 := below_at hB3 r0 hrl
  have r1 := below_at hB3 r1 hrl
  have f0 := (hB3.frozen (p := ⟨w.heap.size, 0, none⟩) hrl).trans f0
  have f1 := (hB3.frozen (p := ⟨w.heap.size, 1, none⟩) hrl).trans f1
  have HC3 := Lib.hid (HC2.out.below hB3)
  have hz3 := hB3.size
  obtain ⟨W4, hW4⟩ : ∃ W4, W4 = W3.alloc (.cells #[.int .i64 oc, .int .i64 os, .int .i64 ok, .string (bs op), .string (bs od), .int .i64 oz, .int .i64 oh, .int .i64 oo, .string ot, .int .i64 oi, .int .i64 on, .slice mp ml mc] 41) := ⟨_, rfl⟩
  have hB4 : Below W3.heap.size W3 W4 := by rw [hW4]; exact belC (Below.refl _ _)
  have hrl3 := cell_lt r0
  have r0 := below_at hB4 r0 hrl3
  have r1 := below_at hB4 r1 hrl3
  have f0 := (hB4.frozen (p := ⟨w.heap.size, 0, none⟩) hrl3).trans f0
  have f1 := (hB4.frozen (p := ⟨w.heap.size, 1, none⟩) hrl3).trans f1
  have HC4 := Lib.hid (HC3.out.below hB4)
  have HIN4 := Lib.hid (hin3.below' hB4)
  have hz4 : W4.heap.size = W3.heap.size + 1 := by rw [hW4]; simp
  have c0 : W4.cell? ⟨W3.heap.size, 0, none⟩ = some (.int .i64 oc) := by rw [hW4]; go_simp
  have c1 : W4.cell? ⟨W3.heap.size, 1, none⟩ = some (.int .i64 os) := by rw [hW4]; go_simp
  have c2 : W4.cell? ⟨W3.heap.size, 2, none⟩ = some (.int .i64 ok) := by rw [hW4]; go_simp
  have c3 : W4.cell? ⟨W3.heap.size, 3, none⟩ = some (.string (bs op)) := by rw [hW4]; go_simp
  have c4 : W4.cell? ⟨W3.heap.size, 4, none⟩ = some (.string (bs od)) := by rw [hW4]; go_simp
  have c5 : W4.cell? ⟨W3.heap.size, 5, none⟩ = some (.int .i64 oz) := by rw [hW4]; go_simp
  have c6 : W4.cell? ⟨W3.heap.size, 6, none⟩ = some (.int .i64 oh) := by rw [hW4]; go_simp
  have c7 : W4.cell? ⟨W3.heap.size, 7, none⟩ = some (.int .i64 oo) := by rw [hW4]; go_simp
  have c8 : W4.cell? ⟨W3.heap.size, 8, none⟩ = some (.string ot) := by rw [hW4]; go_simp
  have c9 : W4.cell? ⟨W3.heap.size, 9, none⟩ = some (.int .i64 oi) := by rw [hW4]; go_simp
  have c10 : W4.cell? ⟨W3.heap.size, 10, none⟩ = some (.int .i64 on) := by rw [hW4]; go_simp
  have c11 : W4.cell? ⟨W3.heap.size, 11, none⟩ = some (.slice mp ml mc) := by rw [hW4]; go_simp
  have d2 : W4.cell? ⟨b, 2, none⟩ = some (.pointer (some ⟨ob, 0, none⟩)) := HC4.out.hi.c2
  have HW4 := Lib.hid hW4
  have hrl := cell_lt r0
  have hbl4 := cell_lt d2
  have hol4 := cell_lt c0
  clear hW4 hB4 hB3 HC3 HC2 hrl3 hin3 hml
  go_wp2_with fail
  rw [← HW4.out]
  refine wp_region_held_drew (S := fun W' => W'.cell? ⟨b, 2, none⟩ = some (.pointer (some ⟨ob, 0, none⟩)) ∧ W'.cell? ⟨W3.heap.size, 0, none⟩ = some (.int .i64 oc) ∧ W'.cell? ⟨W3.heap.size, 1, none⟩ = some (.int .i64 os)) (by kernel_rfl) ⟨d2, c0, c1⟩ (fun hHeld => ?_)
  refine takeL 0 ?_
  refine takeL 1 ?_
  refine takeL 2 ?_
  refine takeL 3 ?_
  refine takeL 4 ?_
  refine takeL 5 ?_
  refine takeL 6 ?_
  refine takeL 7 ?_
  refine takeL 8 ?_
  refine takeL 9 ?_
  refine takeL 10 ?_
  refine takeL 11 ?_
  refine takeL 12 ?_
  refine takeL 13 ?_
  refine takeL 14 ?_
  refine wpAnyH_ready (rs := [15]) (by kernel_rfl) (by simp) ?_
  refine AllReadyH.cons (o := _) rfl (fun K hK => ?_) AllReadyH.nil
  go_simp
  refine (onceSeen_any oc os _ ob mb s.o (HC4.out.hi.on.mod (F := none') ((Mod.refl none' _).drew) id id)).mono ?_
  rintro e W5 ⟨rfl, hw5⟩
  obtain rfl := hw5
  try go_wp2_with fail
  refine hK.out _ _ ⟨d2, c0, c1⟩ (fun hHeld => ?_)
  clear hK K
  try simp only [Act.put, List.setIfInBounds_toArray, List.set_cons_zero, List.set_cons_succ]
  refine takeL 16 ?_
  refine wpAnyH_done (by kernel_rfl) ?_ _
  clear hHeld
  have HC5 : Hid (StCur w W4.drew b tb hb ob mb S S1 S2 { s with next := s.next + 1 }) := Lib.hid (HC4.out.other (F := none') ((Mod.refl none' _).drew) (fun _ h => h.elim) (fun _ _ => id))
  go_wp2_with fail
  refine bodyPost_ret (v := .tuple #[.agg #[.int .i64 0, .int .i64 0], .bool false, .int .i64 0]) (by simp [results, Tryz.results13, go_sem, *]) rfl ?_
  exact ⟨rfl, (HC5.out.other (F := (· = w.heap.size)) (((Mod.refl (· = w.heap.size) _).setCellAt (fun _ => rfl) _).setCellAt (fun _ => rfl) _) (fun k hk => by have e : k = w.heap.size := hk; omega) (fun k hk e => NS1.out k (by have e : k = w.heap.size := e; omega) (by have e : k = w.heap.size := e; omega) hk)).done⟩
end Go.Proofs.YtpiogibkleaaaaaGreatDoor
