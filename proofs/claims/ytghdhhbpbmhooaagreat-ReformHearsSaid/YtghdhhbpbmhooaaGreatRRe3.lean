/- the document's change of the projection: its question -/
import Derived.Test.YtghdhhbpbmhooaaGreatRRe2
import Derived.Test.YtghdhhbpbmhooaaGreatPkRe
namespace Go.Proofs.YtghdhhbpbmhooaaGreat
open Go.RowKit Esch

abbrev askedV (q : QS) (a : Option Addr) (c : Nat) (b : Bool) : Value := .agg #[.int .i64 q.kind, .int .i64 q.unit, .int .i64 q.epoch, .int .i64 q.page, .int .i64 q.size, .int .i64 q.n, .string q.data, .int .i64 q.p.epoch, .slice a q.p.chains.length c, .bool b]
theorem asked_box (w : World) : ∃ W, W = w.alloc (.cells #[.int .i64 0, .int .i64 0, .int .i64 0, .int .i64 0, .int .i64 0, .int .i64 0, .string ⟨#[]⟩, .int .i64 0, .slice none 0 0, .bool false] 38) ∧ Below w.heap.size w W ∧ W.heap.size = w.heap.size + 1 ∧
    W.cell? ⟨w.heap.size, 0, none⟩ = some (.int .i64 0) ∧ W.cell? ⟨w.heap.size, 1, none⟩ = some (.int .i64 0) ∧ W.cell? ⟨w.heap.size, 2, none⟩ = some (.int .i64 0) ∧ W.cell? ⟨w.heap.size, 3, none⟩ = some (.int .i64 0) ∧ W.cell? ⟨w.heap.size, 4, none⟩ = some (.int .i64 0) ∧ W.cell? ⟨w.heap.size, 5, none⟩ = some (.int .i64 0) ∧ W.cell? ⟨w.heap.size, 6, none⟩ = some (.string ⟨#[]⟩) ∧ W.cell? ⟨w.heap.size, 7, none⟩ = some (.int .i64 0) ∧ W.cell? ⟨w.heap.size, 8, none⟩ = some (.slice none 0 0) ∧ W.cell? ⟨w.heap.size, 9, none⟩ = some (.bool false) ∧
    ∀ o, o < 10 → W.frozen? ⟨w.heap.size, o, none⟩ = false := ⟨_, rfl, by exact belC (Below.refl _ _), by simp, by go_simp, by go_simp, by go_simp, by go_simp, by go_simp, by go_simp, by go_simp, by go_simp, by go_simp, by go_simp, fun o ho => by go_simp⟩
def RReAskPost (w : World) (r : QS × Bool) (e : Ending) (w' : World) : Prop := ∃ a c, e = .returned (askedV r.1 a c r.2) ∧ ListsAt (From w.heap.size) w' a r.1.p.chains ∧ Below w.heap.size w w'
section
variable {w : World} {b : Nat} {S : Nat → Prop} {s : ReS}
theorem rreAsk_end (h : RReAt w b S s) (h1 : s.at = 4) : Calls Tryz.prog 14 #[.pointer (some ⟨b, 0, none⟩)] w (RReAskPost w (qz, false)) := by
  have c0 := h.c0
  obtain ⟨qa, qc, c1, hq⟩ := h.c1
  have c2 := h.c2
  obtain ⟨pa, pc, c3, hp⟩ := h.c3
  have c4 := h.c4
  have c5 := h.c5
  obtain ⟨ta, tc, c6, htt⟩ := h.c6
  have hl := h.lt
  have H := Lib.hid h
  rw [h1] at c4
  clear h hq hp h1 htt
  go_enter Tryz.func14, Tryz.ntmps14
  go_wp2_with fail
  refine bodyPost_ret (v := askedV qz none 0 false) (by simp only [results, Tryz.results14, askedV, Esch.p0, List.length_nil]; go_simp) rfl ?_
  exact ⟨none, 0, rfl, ListsAt.nil _ _ _, by exact belC (Below.refl _ _)⟩
theorem rreAsk_lay (h : RReAt w b S s) (h1 : s.at = 0) : Calls Tryz.prog 14 #[.pointer (some ⟨b, 0, none⟩)] w (RReAskPost w (⟨9, 0, 0, 0, 0, 0, ⟨#[]⟩, Esch.p0⟩, true)) := by
  have c0 := h.c0
  obtain ⟨qa, qc, c1, hq⟩ := h.c1
  have c2 := h.c2
  obtain ⟨pa, pc, c3, hp⟩ := h.c3
  have c4 := h.c4
  have c5 := h.c5
  obtain ⟨ta, tc, c6, htt⟩ := h.c6
  have hl := h.lt
  have H := Lib.hid h
  rw [h1] at c4
  clear h hq hp h1 htt
  go_enter Tryz.func14, Tryz.ntmps14
  go_wp2_with fail
  refine bodyPost_ret (v := askedV ⟨9, 0, 0, 0, 0, 0, ⟨#[]⟩, Esch.p0⟩ none 0 true) (by simp only [results, Tryz.results14, askedV, Esch.p0, List.length_nil]; go_simp) rfl ?_
  exact ⟨none, 0, rfl, ListsAt.nil _ _ _, by exact belC (Below.refl _ _)⟩
set_option maxRecDepth 100000 in
set_option maxHeartbeats 1000000 in
theorem rreAsk_seal (h : RReAt w b S s) (h1 : s.at = 1) (hi : 0 ≤ s.i ∧ s.i < s.us.length) : Calls Tryz.prog 14 #[.pointer (some ⟨b, 0, none⟩)] w (RReAskPost w (⟨5, s.us.getD s.i.toNat 0, s.q.epoch, 0, 0, 0, ⟨#[]⟩, Esch.p0⟩, true)) := by
  have c0 := h.c0
  obtain ⟨qa, qc, c1, hq⟩ := h.c1
  have c2 := h.c2
  obtain ⟨pa, pc, c3, hp⟩ := h.c3
  have c4 := h.c4
  have c5 := h.c5
  obtain ⟨ta, tc, c6, htt⟩ := h.c6
  have hl := h.lt
  have H := Lib.hid h
  obtain ⟨W1, hW1, hB1, hz1, r0, r1, r2, r3, r4, r5, r6, r7, r8, r9, rf⟩ := asked_box w
  have hlW : b < W1.heap.size := by omega
  have lW : w.heap.size < W1.heap.size := by omega
  have rf0 := rf 0 (by omega)
  have rf1 := rf 1 (by omega)
  have rf2 := rf 2 (by omega)
  have rf3 := rf 3 (by omega)
  have rf4 := rf 4 (by omega)
  have rf5 := rf 5 (by omega)
  have rf6 := rf 6 (by omega)
  have rf7 := rf 7 (by omega)
  have rf8 := rf 8 (by omega)
  have rf9 := rf 9 (by omega)
  have HW1 := Lib.hid hW1
  have HB1 := Lib.hid hB1
  clear hW1 rf
  rw [h1] at c4
  have hup := runits_any _ W1.drew s.p.epoch pa pc s.p.chains h.smp (hp.mod (F := none') ((Mod.of_below hB1).drew) (fun _ _ _ => id))
  obtain ⟨i, hi'⟩ : ∃ i : Nat, s.i = i := ⟨s.i.toNat, by omega⟩
  obtain ⟨up, hup'⟩ : ∃ up, up = unitsOf s.p.chains.flatten := ⟨_, rfl⟩
  have hilt : i < up.length := by rw [hup']; have := hi.2; rw [hi'] at this; unfold ReS.us at this; omega
  obtain ⟨u, hu⟩ : ∃ u, u = up.getD i 0 := ⟨_, rfl⟩
  have hus : s.us.getD s.i.toNat 0 = u := by rw [hu, hup', hi']; rfl
  rw [hus]
  rw [← hup'] at hup
  rw [hi'] at c5
  have d0 : W1.drew.cell? ⟨b, 0, none⟩ = some (.int .i64 s.q.epoch) := below_at hB1 c0 hl
  have d2 : W1.drew.cell? ⟨b, 2, none⟩ = some (.int .i64 s.p.epoch) := below_at hB1 c2 hl
  have d3 : W1.drew.cell? ⟨b, 3, none⟩ = some (.slice pa s.p.chains.length pc) := below_at hB1 c3 hl
  have d5 : W1.drew.cell? ⟨b, 5, none⟩ = some (.int .i64 i) := below_at hB1 c5 hl
  have i0 : (0 : Int) ≤ i := by omega
  have i1 : (i : Int) < up.length := by omega
  have Hu := Lib.hid hu
  clear h hq hp h1 hi hup' hi' hus hu hB1 htt
  go_enter Tryz.func14, Tryz.ntmps14
  go_wp2_with fail
  rw [← HW1.out]
  refine wp_region_held_drew (S := fun w' => w'.cell? ⟨b, 0, none⟩ = some (.int .i64 s.q.epoch) ∧ w'.cell? ⟨b, 2, none⟩ = some (.int .i64 s.p.epoch) ∧ w'.cell? ⟨b, 3, none⟩ = some (.slice pa s.p.chains.length pc) ∧ w'.cell? ⟨b, 5, none⟩ = some (.int .i64 i)) (by kernel_rfl) ⟨d0, d2, d3, d5⟩ (fun hHeld => ?_)
  refine takeL 0 ?_
  refine takeL 1 ?_
  refine takeL 2 ?_
  refine takeL 3 ?_
  refine takeL 5 ?_
  refine takeL 6 ?_
  refine takeL 7 ?_
  refine takeL 8 ?_
  refine takeL 11 ?_
  refine takeL 12 ?_
  refine takeL 13 ?_
  refine takeL 14 ?_
  refine takeL 15 ?_
  refine wpAnyH_ready (rs := [4]) (by kernel_rfl) (by simp) ?_
  refine AllReadyH.cons (o := _) rfl (fun K hK => ?_) AllReadyH.nil
  go_simp
  go_at_call 40
  with_reducible refine hup.mono ?_
  clear hup
  rintro e w2 ⟨a2, n2, rfl, hl2, hB2', -⟩
  have hB2 : Below W1.heap.size W1 w2 := below_drew hB2'
  clear hB2'
  obtain ⟨b3, o3, rfl, hb3, hk3, hc3⟩ := hl2.2 (by omega)
  have hb3' : W1.heap.size ≤ b3 := hb3
  have x0 : w2.cell? ⟨b3, o3 + i, none⟩ = some (.int .i64 u) := by rw [Hu.out]; exact hc3 i hilt
  have y0 := below_at hB2 d0 hlW
  have y2 := below_at hB2 d2 hlW
  have y3 := below_at hB2 d3 hlW
  have y5 := below_at hB2 d5 hlW
  replace r0 := below_at hB2 r0 lW
  replace r1 := below_at hB2 r1 lW
  replace r2 := below_at hB2 r2 lW
  replace r3 := below_at hB2 r3 lW
  replace r4 := below_at hB2 r4 lW
  replace r5 := below_at hB2 r5 lW
  replace r6 := below_at hB2 r6 lW
  replace r7 := below_at hB2 r7 lW
  replace r8 := below_at hB2 r8 lW
  replace r9 := below_at hB2 r9 lW
  replace rf0 := (hB2.frozen (p := ⟨w.heap.size, 0, none⟩) lW).trans rf0
  replace rf1 := (hB2.frozen (p := ⟨w.heap.size, 1, none⟩) lW).trans rf1
  replace rf2 := (hB2.frozen (p := ⟨w.heap.size, 2, none⟩) lW).trans rf2
  replace rf3 := (hB2.frozen (p := ⟨w.heap.size, 3, none⟩) lW).trans rf3
  replace rf4 := (hB2.frozen (p := ⟨w.heap.size, 4, none⟩) lW).trans rf4
  replace rf5 := (hB2.frozen (p := ⟨w.heap.size, 5, none⟩) lW).trans rf5
  replace rf6 := (hB2.frozen (p := ⟨w.heap.size, 6, none⟩) lW).trans rf6
  replace rf7 := (hB2.frozen (p := ⟨w.heap.size, 7, none⟩) lW).trans rf7
  replace rf8 := (hB2.frozen (p := ⟨w.heap.size, 8, none⟩) lW).trans rf8
  replace rf9 := (hB2.frozen (p := ⟨w.heap.size, 9, none⟩) lW).trans rf9
  have HB2 := Lib.hid hB2
  clear hB2 hl2 hc3 hb3
  try go_wp2_with fail
  refine hK.out _ _ ⟨y0, y2, y3, y5⟩ (fun hHeld => ?_)
  clear hK K
  try simp only [Act.put, List.setIfInBounds_toArray, List.set_cons_zero, List.set_cons_succ]
  refine wpAnyH_mono2 (S2 := fun w' => (w'.cell? ⟨b, 0, none⟩ = some (.int .i64 s.q.epoch) ∧ w'.cell? ⟨b, 2, none⟩ = some (.int .i64 s.p.epoch) ∧ w'.cell? ⟨b, 3, none⟩ = some (.slice pa s.p.chains.length pc) ∧ w'.cell? ⟨b, 5, none⟩ = some (.int .i64 i)) ∧ w'.cell? ⟨b3, o3 + i, none⟩ = some (.int .i64 u)) (fun _ h => h.1) ?_
  replace hHeld := And.intro hHeld x0
  refine takeL 9 ?_
  refine takeL 10 ?_
  refine takeL 16 ?_
  refine takeL 17 ?_
  refine wpAnyH_ready (rs := [18]) (by kernel_rfl) (by simp) ?_
  refine AllReadyH.cons (o := _) rfl (fun K hK => ?_) AllReadyH.nil
  go_simp
  have hn : w.heap.size ≠ b := by omega
  have hn3 : w.heap.size ≠ b3 := by omega
  try go_wp2_with fail
  refine hK.out _ _ ⟨⟨by go_simp, by go_simp, by go_simp, by go_simp⟩, by go_simp⟩ (fun hHeld => ?_)
  clear hK K
  try simp only [Act.put, List.setIfInBounds_toArray, List.set_cons_zero, List.set_cons_succ]
  refine wpAnyH_done (by kernel_rfl) ?_ _
  clear hHeld y0 y2 y3 y5 x0 d0 d2 d3 d5
  go_wp2_with fail
  refine bodyPost_ret (v := askedV ⟨5, u, s.q.epoch, 0, 0, 0, ⟨#[]⟩, Esch.p0⟩ none 0 true) (by simp only [results, Tryz.results14, askedV, Esch.p0, List.length_nil]; go_simp) rfl ?_
  have hB := HB1.out.trans (HB2.out.mono (by omega))
  exact ⟨none, 0, rfl, ListsAt.nil _ _ _, by exact belC hB⟩
set_option maxHeartbeats 1000000 in
theorem rreAsk_change (h : RReAt w b S s) (h1 : s.at = 2) : Calls Tryz.prog 14 #[.pointer (some ⟨b, 0, none⟩)] w (RReAskPost w (⟨10, 0, 0, 0, 0, 0, ⟨#[]⟩, s.q⟩, true)) := by
  have c0 := h.c0
  obtain ⟨qa, qc, c1, hq⟩ := h.c1
  have c2 := h.c2
  obtain ⟨pa, pc, c3, hp⟩ := h.c3
  have c4 := h.c4
  have c5 := h.c5
  obtain ⟨ta, tc, c6, htt⟩ := h.c6
  have hl := h.lt
  have H := Lib.hid h
  obtain ⟨W1, hW1, hB1, hz1, r0, r1, r2, r3, r4, r5, r6, r7, r8, r9, rf⟩ := asked_box w
  have hlW : b < W1.heap.size := by omega
  have lW : w.heap.size < W1.heap.size := by omega
  have rf0 := rf 0 (by omega)
  have rf1 := rf 1 (by omega)
  have rf2 := rf 2 (by omega)
  have rf3 := rf 3 (by omega)
  have rf4 := rf 4 (by omega)
  have rf5 := rf 5 (by omega)
  have rf6 := rf 6 (by omega)
  have rf7 := rf 7 (by omega)
  have rf8 := rf 8 (by omega)
  have rf9 := rf 9 (by omega)
  have HW1 := Lib.hid hW1
  have HB1 := Lib.hid hB1
  clear hW1 rf
  rw [h1] at c4
  have hcp := copyK_any _ W1 s.q.epoch qa qc s.q.chains h.smq (hq.mod (F := none') (Mod.of_below hB1) (fun _ _ _ => id))
  have d0 : W1.cell? ⟨b, 0, none⟩ = some (.int .i64 s.q.epoch) := below_at hB1 c0 hl
  have d1 : W1.cell? ⟨b, 1, none⟩ = some (.slice qa s.q.chains.length qc) := below_at hB1 c1 hl
  have d4 : W1.cell? ⟨b, 4, none⟩ = some (.int .i64 (2 + 1)) := below_at hB1 c4 hl
  clear h hq hp h1 hB1 htt
  go_enter Tryz.func14, Tryz.ntmps14
  go_wp2_with fail
  rw [← HW1.out]
  refine hcp.mono ?_
  clear hcp
  rintro e w2 ⟨a2, n2, rfl, hl2, hB2⟩
  replace r0 := below_at hB2 r0 lW
  replace r1 := below_at hB2 r1 lW
  replace r2 := below_at hB2 r2 lW
  replace r3 := below_at hB2 r3 lW
  replace r4 := below_at hB2 r4 lW
  replace r5 := below_at hB2 r5 lW
  replace r6 := below_at hB2 r6 lW
  replace r7 := below_at hB2 r7 lW
  replace r8 := below_at hB2 r8 lW
  replace r9 := below_at hB2 r9 lW
  replace rf0 := (hB2.frozen (p := ⟨w.heap.size, 0, none⟩) lW).trans rf0
  replace rf1 := (hB2.frozen (p := ⟨w.heap.size, 1, none⟩) lW).trans rf1
  replace rf2 := (hB2.frozen (p := ⟨w.heap.size, 2, none⟩) lW).trans rf2
  replace rf3 := (hB2.frozen (p := ⟨w.heap.size, 3, none⟩) lW).trans rf3
  replace rf4 := (hB2.frozen (p := ⟨w.heap.size, 4, none⟩) lW).trans rf4
  replace rf5 := (hB2.frozen (p := ⟨w.heap.size, 5, none⟩) lW).trans rf5
  replace rf6 := (hB2.frozen (p := ⟨w.heap.size, 6, none⟩) lW).trans rf6
  replace rf7 := (hB2.frozen (p := ⟨w.heap.size, 7, none⟩) lW).trans rf7
  replace rf8 := (hB2.frozen (p := ⟨w.heap.size, 8, none⟩) lW).trans rf8
  replace rf9 := (hB2.frozen (p := ⟨w.heap.size, 9, none⟩) lW).trans rf9
  have HB2 := Lib.hid hB2
  have HL2 := Lib.hid hl2
  clear hB2 hl2 d0 d1 d4
  go_wp2_with fail
  refine bodyPost_ret (v := askedV ⟨10, 0, 0, 0, 0, 0, ⟨#[]⟩, s.q⟩ a2 n2 true) (by simp only [results, Tryz.results14, askedV]; go_simp) rfl ?_
  have hB := HB1.out.trans (HB2.out.mono (by omega))
  refine ⟨a2, n2, rfl, (HL2.out.mod (F := (· = w.heap.size)) (by exact modC (Mod.refl _ _)) (fun k hk _ e => by have hk : W1.heap.size ≤ k := hk; omega)).sub (fun k _ hk => by have hk : W1.heap.size ≤ k := hk; show w.heap.size ≤ k; omega), by exact belC hB⟩
set_option maxRecDepth 100000 in
set_option maxHeartbeats 1000000 in
theorem rreAsk_start (h : RReAt w b S s) (h1 : s.at = 3) (hn : (s.t.map Prod.fst).Nodup) (htl : s.t.length ≤ 100) : Calls Tryz.prog 14 #[.pointer (some ⟨b, 0, none⟩)] w (RReAskPost w (⟨8, 0, s.q.epoch, tailP s.p s.t, 0, 0, ⟨#[]⟩, Esch.p0⟩, true)) := by
  have c0 := h.c0
  obtain ⟨qa, qc, c1, hq⟩ := h.c1
  have c2 := h.c2
  obtain ⟨pa, pc, c3, hp⟩ := h.c3
  have c4 := h.c4
  have c5 := h.c5
  obtain ⟨ta, tc, c6, htt⟩ := h.c6
  have hl := h.lt
  have H := Lib.hid h
  obtain ⟨W1, hW1, hB1, hz1, r0, r1, r2, r3, r4, r5, r6, r7, r8, r9, rf⟩ := asked_box w
  have hlW : b < W1.heap.size := by omega
  have lW : w.heap.size < W1.heap.size := by omega
  have rf0 := rf 0 (by omega)
  have rf1 := rf 1 (by omega)
  have rf2 := rf 2 (by omega)
  have rf3 := rf 3 (by omega)
  have rf4 := rf 4 (by omega)
  have rf5 := rf 5 (by omega)
  have rf6 := rf 6 (by omega)
  have rf7 := rf 7 (by omega)
  have rf8 := rf 8 (by omega)
  have rf9 := rf 9 (by omega)
  have HW1 := Lib.hid hW1
  have HB1 := Lib.hid hB1
  clear hW1 rf
  rw [h1] at c4
  have hpt := rtail_any _ _ W1.drew s.p.epoch pa pc s.p.chains h.smp (hp.mod (F := none') ((Mod.of_below hB1).drew) (fun _ _ _ => id)) s.t ta tc (htt.mod (F := none') ((Mod.of_below hB1).drew) (fun _ _ _ => id)) hn htl
  have d0 : W1.drew.cell? ⟨b, 0, none⟩ = some (.int .i64 s.q.epoch) := below_at hB1 c0 hl
  have d2 : W1.drew.cell? ⟨b, 2, none⟩ = some (.int .i64 s.p.epoch) := below_at hB1 c2 hl
  have d3 : W1.drew.cell? ⟨b, 3, none⟩ = some (.slice pa s.p.chains.length pc) := below_at hB1 c3 hl
  have d6 : W1.drew.cell? ⟨b, 6, none⟩ = some (.slice ta s.t.length tc) := below_at hB1 c6 hl
  obtain ⟨tt, httt⟩ : ∃ tt, tt = tailP s.p s.t := ⟨_, rfl⟩
  rw [show tailP ⟨s.p.epoch, s.p.chains⟩ s.t = tailP s.p s.t from rfl, ← httt] at hpt
  rw [← httt]
  clear h hq hp h1 hB1 htt httt hn htl
  go_enter Tryz.func14, Tryz.ntmps14
  go_wp2_with fail
  rw [← HW1.out]
  refine wp_region_held_drew (S := fun w' => w'.cell? ⟨b, 0, none⟩ = some (.int .i64 s.q.epoch) ∧ w'.cell? ⟨b, 2, none⟩ = some (.int .i64 s.p.epoch) ∧ w'.cell? ⟨b, 3, none⟩ = some (.slice pa s.p.chains.length pc) ∧ w'.cell? ⟨b, 6, none⟩ = some (.slice ta s.t.length tc)) (by kernel_rfl) ⟨d0, d2, d3, d6⟩ (fun hHeld => ?_)
  refine takeL 0 ?_
  refine takeL 1 ?_
  refine takeL 2 ?_
  refine takeL 3 ?_
  refine takeL 4 ?_
  refine takeL 5 ?_
  refine takeL 6 ?_
  refine takeL 7 ?_
  refine takeL 8 ?_
  refine takeL 9 ?_
  refine takeL 10 ?_
  refine takeL 11 ?_
  refine takeL 12 ?_
  refine wpAnyH_ready (rs := [13]) (by kernel_rfl) (by simp) ?_
  refine AllReadyH.cons (o := _) rfl (fun K hK => ?_) AllReadyH.nil
  go_simp
  go_at_call 50
  with_reducible refine hpt.mono ?_
  clear hpt
  rintro e w2 ⟨rfl, hB2'⟩
  have hB2 : Below W1.heap.size W1 w2 := below_drew hB2'
  clear hB2'
  have y0 := below_at hB2 d0 hlW
  have y2 := below_at hB2 d2 hlW
  have y3 := below_at hB2 d3 hlW
  have y6 := below_at hB2 d6 hlW
  replace r0 := below_at hB2 r0 lW
  replace r1 := below_at hB2 r1 lW
  replace r2 := below_at hB2 r2 lW
  replace r3 := below_at hB2 r3 lW
  replace r4 := below_at hB2 r4 lW
  replace r5 := below_at hB2 r5 lW
  replace r6 := below_at hB2 r6 lW
  replace r7 := below_at hB2 r7 lW
  replace r8 := below_at hB2 r8 lW
  replace r9 := below_at hB2 r9 lW
  replace rf0 := (hB2.frozen (p := ⟨w.heap.size, 0, none⟩) lW).trans rf0
  replace rf1 := (hB2.frozen (p := ⟨w.heap.size, 1, none⟩) lW).trans rf1
  replace rf2 := (hB2.frozen (p := ⟨w.heap.size, 2, none⟩) lW).trans rf2
  replace rf3 := (hB2.frozen (p := ⟨w.heap.size, 3, none⟩) lW).trans rf3
  replace rf4 := (hB2.frozen (p := ⟨w.heap.size, 4, none⟩) lW).trans rf4
  replace rf5 := (hB2.frozen (p := ⟨w.heap.size, 5, none⟩) lW).trans rf5
  replace rf6 := (hB2.frozen (p := ⟨w.heap.size, 6, none⟩) lW).trans rf6
  replace rf7 := (hB2.frozen (p := ⟨w.heap.size, 7, none⟩) lW).trans rf7
  replace rf8 := (hB2.frozen (p := ⟨w.heap.size, 8, none⟩) lW).trans rf8
  replace rf9 := (hB2.frozen (p := ⟨w.heap.size, 9, none⟩) lW).trans rf9
  have HB2 := Lib.hid hB2
  clear hB2
  try go_wp2_with fail
  refine hK.out _ _ ⟨y0, y2, y3, y6⟩ (fun hHeld => ?_)
  clear hK K
  try simp only [Act.put, List.setIfInBounds_toArray, List.set_cons_zero, List.set_cons_succ]
  refine takeL 14 ?_
  refine takeL 15 ?_
  refine wpAnyH_ready (rs := [16]) (by kernel_rfl) (by simp) ?_
  refine AllReadyH.cons (o := _) rfl (fun K hK => ?_) AllReadyH.nil
  go_simp
  have hn : w.heap.size ≠ b := by omega
  try go_wp2_with fail
  refine hK.out _ _ ⟨by go_simp, by go_simp, by go_simp, by go_simp⟩ (fun hHeld => ?_)
  clear hK K
  try simp only [Act.put, List.setIfInBounds_toArray, List.set_cons_zero, List.set_cons_succ]
  refine wpAnyH_done (by kernel_rfl) ?_ _
  clear hHeld y0 y2 y3 y6 d0 d2 d3 d6
  go_wp2_with fail
  refine bodyPost_ret (v := askedV ⟨8, 0, s.q.epoch, tt, 0, 0, ⟨#[]⟩, Esch.p0⟩ none 0 true) (by simp only [results, Tryz.results14, askedV, Esch.p0, List.length_nil]; go_simp) rfl ?_
  have hB := HB1.out.trans (HB2.out.mono (by omega))
  exact ⟨none, 0, rfl, ListsAt.nil _ _ _, by exact belC hB⟩
theorem rreAsk_any (h : RReAt w b S s) (hk : s.ok) (hn : s.at ≠ 4 → (s.t.map Prod.fst).Nodup ∧ s.t.length ≤ 100) : Calls Tryz.prog 14 #[.pointer (some ⟨b, 0, none⟩)] w (RReAskPost w s.ask) := by
  unfold ReS.ask
  by_cases h4 : s.at = 4
  · rw [if_pos h4]; exact rreAsk_end h h4
  rw [if_neg h4]
  by_cases h0 : s.at = 0
  · rw [if_pos h0]; exact rreAsk_lay h h0
  rw [if_neg h0]
  by_cases h1 : s.at = 1
  · rw [if_pos h1]; exact rreAsk_seal h h1 (hk.un h1)
  rw [if_neg h1]
  by_cases h2 : s.at = 2
  · rw [if_pos h2]; exact rreAsk_change h h2
  rw [if_neg h2]
  exact rreAsk_start h (by have := hk.wh; omega) (hn h4).1 (hn h4).2
end
end Go.Proofs.YtghdhhbpbmhooaaGreat
