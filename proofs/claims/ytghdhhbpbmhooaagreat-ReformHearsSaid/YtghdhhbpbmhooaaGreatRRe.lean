/- the document's change of the projection: how it lies; New, end, next, Over -/
import Derived.Test.YtghdhhbpbmhooaaGreatPkRe
import Derived.Test.YtghdhhbpbmhooaaGreatRTail
import Derived.Test.YtghdhhbpbmhooaaGreatCopyK
namespace Go.Proofs.YtghdhhbpbmhooaaGreat
open Go.RowKit Esch

structure RReAt (w : World) (b : Nat) (S : Nat → Prop) (s : ReS) : Prop where
  c0 : w.cell? ⟨b, 0, none⟩ = some (.int .i64 s.q.epoch)
  c1 : ∃ a c, w.cell? ⟨b, 1, none⟩ = some (.slice a s.q.chains.length c) ∧ ListsAt (fun k => S k ∧ k ≠ b) w a s.q.chains
  c2 : w.cell? ⟨b, 2, none⟩ = some (.int .i64 s.p.epoch)
  c3 : ∃ a c, w.cell? ⟨b, 3, none⟩ = some (.slice a s.p.chains.length c) ∧ ListsAt (fun k => S k ∧ k ≠ b) w a s.p.chains
  c4 : w.cell? ⟨b, 4, none⟩ = some (.int .i64 (s.at + 1))
  c5 : w.cell? ⟨b, 5, none⟩ = some (.int .i64 s.i)
  c6 : ∃ a c, w.cell? ⟨b, 6, none⟩ = some (.slice a s.t.length c) ∧ GRowAt w (fun k => S k ∧ k ≠ b) 2 s.t.length c a (cntCells s.t)
  c7 : w.cell? ⟨b, 7, none⟩ = some (.int .i64 s.err)
  fr : ∀ o, o < 8 → w.frozen? ⟨b, o, none⟩ = false
  sb : S b
  smq : Small s.q.chains
  smp : Small s.p.chains
theorem RReAt.lt {w : World} {b : Nat} {S : Nat → Prop} {s : ReS} (h : RReAt w b S s) : b < w.heap.size := cell_lt h.c0
theorem RReAt.mod {F S : Nat → Prop} {w w' : World} {b : Nat} {s : ReS} (h : RReAt w b S s) (hM : Mod F w w') (hF : ∀ k, S k → k < w.heap.size → ¬ F k) : RReAt w' b S s := by
  have hl := h.lt
  have hb := hF b h.sb hl
  obtain ⟨a, c, h1, h2⟩ := h.c1
  obtain ⟨a', c', h1', h2'⟩ := h.c3
  obtain ⟨a'', c'', h1'', h2''⟩ := h.c6
  exact ⟨hM.at h.c0 hb, ⟨a, c, hM.at h1 hb, h2.mod hM (fun k hk hl => hF k hk.1 hl)⟩, hM.at h.c2 hb, ⟨a', c', hM.at h1' hb, h2'.mod hM (fun k hk hl => hF k hk.1 hl)⟩, hM.at h.c4 hb, hM.at h.c5 hb,
    ⟨a'', c'', hM.at h1'' hb, h2''.mod hM (fun k hk hl => hF k hk.1 hl)⟩, hM.at h.c7 hb, fun o ho => (hM.frozen (p := ⟨b, o, none⟩) hl hb).trans (h.fr o ho), h.sb, h.smq, h.smp⟩
theorem RReAt.below {S : Nat → Prop} {w w' : World} {b : Nat} {s : ReS} (h : RReAt w b S s) (hB : Below w.heap.size w w') : RReAt w' b S s := h.mod (F := none') (Mod.of_below hB) (fun _ _ _ => id)
theorem RReAt.sub {S S' : Nat → Prop} {w : World} {b : Nat} {s : ReS} (h : RReAt w b S s) (hS : ∀ k, k < w.heap.size → S k → S' k) : RReAt w b S' s := by
  obtain ⟨a, c, h1, h2⟩ := h.c1
  obtain ⟨a', c', h1', h2'⟩ := h.c3
  obtain ⟨a'', c'', h1'', h2''⟩ := h.c6
  exact ⟨h.c0, ⟨a, c, h1, h2.sub (fun k hk hs => ⟨hS k hk hs.1, hs.2⟩)⟩, h.c2, ⟨a', c', h1', h2'.sub (fun k hk hs => ⟨hS k hk hs.1, hs.2⟩)⟩, h.c4, h.c5, ⟨a'', c'', h1'', h2''.sub (fun k hk hs => ⟨hS k hk hs.1, hs.2⟩)⟩, h.c7, h.fr, hS b h.lt h.sb, h.smq, h.smp⟩
/-- where, which and the error have been written -/
theorem RReAt.wrote {w w' : World} {b : Nat} {S : Nat → Prop} {s : ReS} (h : RReAt w b S s) {v4 v5 v7 : Int} (hM : Mod (· = b) w w') (c4 : w'.cell? ⟨b, 4, none⟩ = some (.int .i64 (v4 + 1))) (c5 : w'.cell? ⟨b, 5, none⟩ = some (.int .i64 v5))
    (c7 : w'.cell? ⟨b, 7, none⟩ = some (.int .i64 v7)) (c0 : w'.cell? ⟨b, 0, none⟩ = w.cell? ⟨b, 0, none⟩) (c1 : w'.cell? ⟨b, 1, none⟩ = w.cell? ⟨b, 1, none⟩) (c2 : w'.cell? ⟨b, 2, none⟩ = w.cell? ⟨b, 2, none⟩) (c3 : w'.cell? ⟨b, 3, none⟩ = w.cell? ⟨b, 3, none⟩) (c6 : w'.cell? ⟨b, 6, none⟩ = w.cell? ⟨b, 6, none⟩)
    (fr : ∀ o, w'.frozen? ⟨b, o, none⟩ = w.frozen? ⟨b, o, none⟩) : RReAt w' b S ⟨s.q, s.p, v4, v5, s.t, v7⟩ := by
  obtain ⟨ca, cc, h1, h2⟩ := h.c1
  obtain ⟨ca', cc', h1', h2'⟩ := h.c3
  obtain ⟨ca'', cc'', h1'', h2''⟩ := h.c6
  exact ⟨c0.trans h.c0, ⟨ca, cc, c1.trans h1, h2.mod hM (fun k hk _ => hk.2)⟩, c2.trans h.c2, ⟨ca', cc', c3.trans h1', h2'.mod hM (fun k hk _ => hk.2)⟩, c4, c5, ⟨ca'', cc'', c6.trans h1'', h2''.mod hM (fun k hk _ => hk.2)⟩, c7, fun o ho => (fr o).trans (h.fr o ho), h.sb, h.smq, h.smp⟩
def RRePost (w : World) (b : Nat) (S : Nat → Prop) (s : ReS) (e : Ending) (w' : World) : Prop := e = .returned (.tuple #[]) ∧ RReAt w' b (fun k => S k ∨ (w.heap.size ≤ k ∧ k < w'.heap.size)) s ∧ Mod (· = b) w w'
section
variable {w : World} {b : Nat} {S : Nat → Prop} {s : ReS}
theorem rreEnd_any (h : RReAt w b S s) (e : Int) : Calls Tryz.prog 47 #[.pointer (some ⟨b, 0, none⟩), .int .i64 e] w fun r w' => r = .returned (.tuple #[]) ∧ RReAt w' b S (s.endd e) ∧ Mod (· = b) w w' := by
  have c0 := h.c0
  obtain ⟨qa, qc, c1, hq⟩ := h.c1
  have c2 := h.c2
  obtain ⟨pa, pc, c3, hp⟩ := h.c3
  have c4 := h.c4
  have c5 := h.c5
  obtain ⟨ta, tc, c6, htt⟩ := h.c6
  have c7 := h.c7
  have hl := h.lt
  have f1 := h.fr 1 (by omega)
  have f2 := h.fr 2 (by omega)
  have f3 := h.fr 3 (by omega)
  have f4 := h.fr 4 (by omega)
  have f5 := h.fr 5 (by omega)
  have f7 := h.fr 7 (by omega)
  have H := Lib.hid h
  clear h hq hp htt
  go_enter Tryz.func47, Tryz.ntmps47
  go_wp2_with fail
  go_end0
  refine ⟨rfl, ?_, by exact modC (Mod.refl _ _)⟩
  exact H.out.wrote (v4 := 4) (v5 := s.i) (v7 := e) (by exact modC (Mod.refl _ _)) (by go_simp) (by go_simp) (by go_simp) (by go_simp) (by go_simp) (by go_simp) (by go_simp) (by go_simp) (fun o => by go_simp)
theorem rreOver_any (h : RReAt w b S s) : Calls Tryz.prog 16 #[.pointer (some ⟨b, 0, none⟩)] w
    fun e w' => e = .returned (.agg #[.int .i64 s.overE, .bool (decide (s.at = 4))]) ∧ Below w.heap.size w w' := by
  have c0 := h.c0
  obtain ⟨qa, qc, c1, hq⟩ := h.c1
  have c2 := h.c2
  obtain ⟨pa, pc, c3, hp⟩ := h.c3
  have c4 := h.c4
  have c5 := h.c5
  obtain ⟨ta, tc, c6, htt⟩ := h.c6
  have c7 := h.c7
  have hl := h.lt
  have f1 := h.fr 1 (by omega)
  have f2 := h.fr 2 (by omega)
  have f3 := h.fr 3 (by omega)
  have f4 := h.fr 4 (by omega)
  have f5 := h.fr 5 (by omega)
  have f7 := h.fr 7 (by omega)
  have H := Lib.hid h
  clear h hq hp htt
  unfold ReS.overE
  by_cases h2 : s.at = 4
  · rw [if_pos h2, decide_eq_true h2]
    rw [h2] at c4
    clear h2
    go_enter Tryz.func16, Tryz.ntmps16
    go_wp2_with fail
    refine bodyPost_ret (v := .agg #[.int .i64 s.err, .bool true]) (by simp only [results, Tryz.results16]; go_simp) rfl ?_
    exact ⟨rfl, by exact belC (Below.refl _ _)⟩
  · rw [if_neg h2, decide_eq_false h2]
    have e2 : (s.at + 1 != 5) = true := by simp only [bne_iff_ne, ne_eq]; omega
    clear h2
    go_enter Tryz.func16, Tryz.ntmps16
    go_wp2_with fail
    refine bodyPost_ret (v := .agg #[.int .i64 0, .bool false]) (by simp only [results, Tryz.results16]; go_simp) rfl ?_
    exact ⟨rfl, by exact belC (Below.refl _ _)⟩
set_option maxRecDepth 100000 in
set_option maxHeartbeats 1000000 in
theorem rreNext_any (h : RReAt w b S s) (h1 : s.at = 1) (hi : 0 ≤ s.i ∧ s.i ≤ 100) (hg : goodB s.p = true) : Calls Tryz.prog 53 #[.pointer (some ⟨b, 0, none⟩)] w fun e w' => e = .returned (.tuple #[]) ∧ RReAt w' b S s.next ∧ Mod (· = b) w w' := by
  have c0 := h.c0
  obtain ⟨qa, qc, c1, hq⟩ := h.c1
  have c2 := h.c2
  obtain ⟨pa, pc, c3, hp⟩ := h.c3
  have c4 := h.c4
  have c5 := h.c5
  obtain ⟨ta, tc, c6, htt⟩ := h.c6
  have c7 := h.c7
  have hl := h.lt
  have f1 := h.fr 1 (by omega)
  have f2 := h.fr 2 (by omega)
  have f3 := h.fr 3 (by omega)
  have f4 := h.fr 4 (by omega)
  have f5 := h.fr 5 (by omega)
  have f7 := h.fr 7 (by omega)
  have H := Lib.hid h
  obtain ⟨hi0, hi1⟩ := hi
  rw [h1] at c4
  have hw1 : IntKind.i64.wrap (s.i + 1) = s.i + 1 := wrap64 (by omega) (by omega)
  have hM1 : Mod (· = b) w (w.setCell ⟨b, 5, none⟩ (.int .i64 (s.i + 1))).drew := by exact modC (Mod.refl _ _)
  have hus := runits_any _ (w.setCell ⟨b, 5, none⟩ (.int .i64 (s.i + 1))).drew s.p.epoch pa pc s.p.chains h.smp (hp.mod hM1 (fun k hk _ => hk.2))
  have g1 : (w.setCell ⟨b, 5, none⟩ (.int .i64 (s.i + 1))).drew.cell? ⟨b, 2, none⟩ = some (.int .i64 s.p.epoch) := by go_simp
  have g2 : (w.setCell ⟨b, 5, none⟩ (.int .i64 (s.i + 1))).drew.cell? ⟨b, 3, none⟩ = some (.slice pa s.p.chains.length pc) := by go_simp
  have g3 : (w.setCell ⟨b, 5, none⟩ (.int .i64 (s.i + 1))).drew.cell? ⟨b, 5, none⟩ = some (.int .i64 (s.i + 1)) := by go_simp
  have g4 : (w.setCell ⟨b, 5, none⟩ (.int .i64 (s.i + 1))).drew.cell? ⟨b, 4, none⟩ = some (.int .i64 (1 + 1)) := by go_simp
  have gf4 : (w.setCell ⟨b, 5, none⟩ (.int .i64 (s.i + 1))).drew.frozen? ⟨b, 4, none⟩ = false := by go_simp
  have g0 : RReAt (w.setCell ⟨b, 5, none⟩ (.int .i64 (s.i + 1))).drew b S ⟨s.q, s.p, 1, s.i + 1, s.t, s.err⟩ := h.wrote hM1 g4 g3 (by go_simp) (by go_simp) (by go_simp) (by go_simp) (by go_simp) (by go_simp) (fun o => by go_simp)
  have hl1 : b < (w.setCell ⟨b, 5, none⟩ (.int .i64 (s.i + 1))).drew.heap.size := by simpa using hl
  have hul := (us_le hg).2
  have Hul := Lib.hid hul
  have HM1 := Lib.hid hM1
  have H1 := Lib.hid h1
  clear h hq hp hg hM1 hul h1 htt
  go_enter Tryz.func53, Tryz.ntmps53
  go_wp2_with fail
  obtain ⟨un, hun⟩ : ∃ un, un = (unitsOf s.p.chains.flatten).length := ⟨_, rfl⟩
  have Hun := Lib.hid hun
  clear hun
  go_region_held3 (fun w' => w'.cell? ⟨b, 2, none⟩ = some (.int .i64 s.p.epoch) ∧ w'.cell? ⟨b, 3, none⟩ = some (.slice pa s.p.chains.length pc) ∧ w'.cell? ⟨b, 5, none⟩ = some (.int .i64 (s.i + 1)))
    (first
      | with_reducible exact ⟨g1, g2, g3⟩
      | with_reducible exact ⟨z1, z2, z3⟩)
    (first
      | (go_at_call 40; (with_reducible refine hus.mono ?_); rintro e w2 ⟨ua, uc, rfl, hu2, hB2, -⟩
         rw [← Hun.out]
         have z1 := below_at hB2 g1 hl1
         have z2 := below_at hB2 g2 hl1
         have z3 := below_at hB2 g3 hl1
         have z4 := below_at hB2 g4 hl1
         have zf4 := (hB2.frozen (p := ⟨b, 4, none⟩) hl1).trans gf4
         have z0 := g0.below hB2))
  have HB2 := Lib.hid hB2
  have H0 := Lib.hid z0
  have hl2 := z0.lt
  have z7 := z0.c7
  clear hB2 hu2 hus g1 g2 g3 g4 gf4 g0 z0 c0 c1 c2 c3 c4 c5 c6 c7 f1 f2 f3 f4 f5 f7 H
  by_cases hel : s.i + 1 = un
  · have he : (s.i + 1 == (un : Int)) = true := by simpa using hel
    have Hel := Lib.hid hel
    clear hel
    go_wp2_with fail
    go_end0
    refine ⟨rfl, ?_, (HM1.out.trans (Mod.of_below HB2.out)).trans (by exact modC (Mod.refl _ _))⟩
    have hn : s.next = { s with i := s.i + 1, «at» := 2 } := by
      unfold ReS.next
      rw [if_pos (by rw [Hel.out, Hun.out])]
    rw [hn]
    exact H0.out.wrote (v4 := 2) (v5 := s.i + 1) (v7 := s.err) (by exact modC (Mod.refl _ _)) (by go_simp) (by go_simp) (by go_simp) (by go_simp) (by go_simp) (by go_simp) (by go_simp) (by go_simp) (fun o => by go_simp)
  · have he : (s.i + 1 == (un : Int)) = false := by simpa using hel
    have Hel := Lib.hid hel
    clear hel
    go_wp2_with fail
    go_end0
    refine ⟨rfl, ?_, HM1.out.trans (Mod.of_below HB2.out)⟩
    have hn : s.next = ⟨s.q, s.p, 1, s.i + 1, s.t, s.err⟩ := by
      unfold ReS.next
      rw [if_neg (by rw [← Hun.out]; exact Hel.out), H1.out]
    rw [hn]
    exact H0.out
end
def RReNewPost (w : World) (q : Proj) (e : Ending) (w' : World) : Prop := ∃ b, e = .returned (.pointer (some ⟨b, 0, none⟩)) ∧ RReAt w' b (From w.heap.size) (re0 q) ∧ Below w.heap.size w w'
theorem rre_box (w : World) (x0 x1 x2 x3 x4 x5 x6 x7 : Value) : ∃ W2, W2 = w.alloc (.cells #[x0, x1, x2, x3, x4, x5, x6, x7] 97) ∧ Below w.heap.size w W2 ∧ W2.heap.size = w.heap.size + 1 ∧ (W2.cell? ⟨w.heap.size, 0, none⟩ = some x0 ∧ W2.cell? ⟨w.heap.size, 1, none⟩ = some x1 ∧ W2.cell? ⟨w.heap.size, 2, none⟩ = some x2 ∧ W2.cell? ⟨w.heap.size, 3, none⟩ = some x3 ∧ W2.cell? ⟨w.heap.size, 4, none⟩ = some x4 ∧ W2.cell? ⟨w.heap.size, 5, none⟩ = some x5 ∧ W2.cell? ⟨w.heap.size, 6, none⟩ = some x6 ∧ W2.cell? ⟨w.heap.size, 7, none⟩ = some x7) ∧
    (∀ o, o < 8 → W2.frozen? ⟨w.heap.size, o, none⟩ = false) :=
  ⟨_, rfl, by exact belC (Below.refl _ _), by simp, ⟨by go_simp, by go_simp, by go_simp, by go_simp, by go_simp, by go_simp, by go_simp, by go_simp⟩, fun o ho => by go_simp⟩
set_option maxHeartbeats 1000000 in
theorem rreNew_any (S : Nat → Prop) (w : World) (q : Proj) (a : Option Addr) (c : Nat) (hs : Small q.chains) (hl : ListsAt S w a q.chains) : Calls Tryz.prog 12 #[.agg #[.int .i64 q.epoch, .slice a q.chains.length c]] w (RReNewPost w q) := by
  obtain ⟨W0, hW0, hB0, hz0, p0, p1⟩ := oneBox w 24 (.int .i64 q.epoch) (.slice a q.chains.length c)
  have hl0 := hl.mod (F := none') (Mod.of_below hB0) (fun _ _ _ => id)
  have hcp := copyK_any S W0 q.epoch a c q.chains hs hl0
  have HW0 := Lib.hid hW0
  have HL0 := Lib.hid hl0
  have Hs := Lib.hid hs
  clear hW0 hl hl0 hs
  go_enter Tryz.func12, Tryz.ntmps12
  go_wp2_with fail
  rw [← HW0.out]
  refine hcp.mono ?_
  clear hcp
  rintro e w1 ⟨a1, c1, rfl, hl1, hB1⟩
  have hz1 := hB1.size
  obtain ⟨W2, hW2, hB2, hz2, ⟨t0, t1, t2, t3, t4, t5, t6, t7⟩, tf⟩ := rre_box w1 (.int .i64 q.epoch) (.slice a1 q.chains.length c1) (.int .i64 0) (.slice none 0 0) (.int .i64 1) (.int .i64 0) (.slice none 0 0) (.int .i64 0)
  replace p0 := below_at hB1 p0 (by omega)
  replace p1 := below_at hB1 p1 (by omega)
  have hlw1 : w.heap.size < w1.heap.size := by omega
  have hBw2 : Below W0.heap.size W0 W2 := hB1.trans (hB2.mono hz1)
  have hT2 : RReAt W2 w1.heap.size (From w.heap.size) ⟨q, Esch.p0, 0, 0, [], 0⟩ := ⟨t0, ⟨a1, c1, t1, ((hl1.sub (T := fun k => W0.heap.size ≤ k ∧ k < w1.heap.size) (fun k hk h => ⟨h, hk⟩)).mod (F := none') (Mod.of_below hB2) (fun _ _ _ => id)).sub (fun k _ hk => ⟨by show w.heap.size ≤ k; omega, by omega⟩)⟩,
    t2, ⟨none, 0, t3, ListsAt.nil _ _ _⟩, t4, t5, ⟨none, 0, t6, GRowAt.nil _ _ _ _⟩, t7, tf, by show w.heap.size ≤ _; omega, Hs.out, small_nil⟩
  have hgd := rgood_any S W2 q.epoch a c q.chains (HL0.out.mod (F := none') (Mod.of_below hBw2) (fun _ _ _ => id))
  have HT2 := Lib.hid hT2
  have HW2 := Lib.hid hW2
  have HB0 := Lib.hid (hB0.trans (hBw2.mono (by omega)))
  clear hT2 hW2 hB0 hBw2 hB1 hl1 hB2 t0 t1 t2 t3 t4 t5 t6 t7 tf
  go_wp2_with fail
  rw [← HW2.out]
  refine hgd.mono ?_
  clear hgd
  rintro e w3 ⟨rfl, hB3⟩
  have hz3 := hB3.size
  have hT3 := HT2.out.below hB3
  have hen := rreEnd_any hT3 11
  have HT3 := Lib.hid hT3
  have HB3 := Lib.hid (HB0.out.trans (hB3.mono (by omega)))
  obtain ⟨g, hg⟩ : ∃ g, g = goodB ⟨q.epoch, q.chains⟩ := ⟨_, rfl⟩
  rw [← hg]
  have Hg := Lib.hid hg
  clear hg hT3 hB3
  cases g
  · go_wp2_with fail
    refine hen.mono ?_
    clear hen
    rintro e w4 ⟨rfl, hA4, hM4⟩
    have HA4 := Lib.hid hA4
    have HM4 := Lib.hid hM4
    clear hA4 hM4
    go_wp2_with fail
    go_ret
    refine ⟨_, rfl, ?_, HB3.out.trans (HM4.out.below_at HB3.out.size (fun k hk e => by omega))⟩
    rw [show re0 q = (⟨q, Esch.p0, 0, 0, [], 0⟩ : ReS).endd 11 by unfold re0; rw [if_pos (show goodB q = false from Hg.out.symm)]; rfl]
    exact HA4.out
  · clear hen
    go_wp2_with fail
    go_ret
    refine ⟨_, rfl, ?_, HB3.out⟩
    rw [show re0 q = (⟨q, Esch.p0, 0, 0, [], 0⟩ : ReS) by unfold re0; rw [if_neg (by rw [show goodB q = true from Hg.out.symm]; simp)]]
    exact HT3.out
end Go.Proofs.YtghdhhbpbmhooaaGreat
