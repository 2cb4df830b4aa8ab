/-
  The law ReformHears: any answers to a reform's questions, and skips, one behind the other, whether they fit or not: what it asks, whether it is over, and how.
  Conditions: none.
-/
import Derived.Test.YtghdhhbpbmhooaaGreatRRe4
import Derived.Test.YtghdhhbpbmhooaaGreatRe7
import Derived.Test.YtghdhhbpbmhooaaGreatAskEqB
import Derived.Test.YtghdhhbpbmhooaaGreatSteps18
import Derived.Test.YtghdhhbpbmhooaaGreatOld
import Derived.Test.YtghdhhbpbmhooaaGreatRow
namespace Go.Proofs.YtghdhhbpbmhooaaGreat
open Go.RowKit Esch Go.ChangeShapes Go.WideShapes Go.ChangeAt

/-- both reforms, side by side -/
structure Rr2 (w0 : World) (rb tb db : Nat) (S1 S2 : Nat → Prop) (s1 s2 : ReS) (w : World) : Prop where
  re : ReAt w rb tb S1 s1
  rr : RReAt w db S2 s2
  k1 : s1.ok2
  k2 : s2.ok2
  l1 : ∀ k, S1 k → w0.heap.size ≤ k ∧ k < w.heap.size
  l2 : ∀ k, S2 k → w0.heap.size ≤ k ∧ k < w.heap.size
  ap : ∀ k, S1 k → ¬ S2 k
  B : Below w0.heap.size w0 w
section
variable {w0 w w' : World} {rb tb db : Nat} {S1 S2 : Nat → Prop} {s1 s2 s' : ReS}
theorem Rr2.below' (h : Rr2 w0 rb tb db S1 S2 s1 s2 w) (hB : Below w.heap.size w w') : Rr2 w0 rb tb db S1 S2 s1 s2 w' :=
  ⟨h.re.below hB, h.rr.below hB, h.k1, h.k2, fun k hk => ⟨(h.l1 k hk).1, Nat.lt_of_lt_of_le (h.l1 k hk).2 hB.size⟩, fun k hk => ⟨(h.l2 k hk).1, Nat.lt_of_lt_of_le (h.l2 k hk).2 hB.size⟩, h.ap, h.B.trans (hB.mono h.B.size)⟩
theorem Rr2.left (h : Rr2 w0 rb tb db S1 S2 s1 s2 w) (hR : ReAt w' rb tb (fun k => S1 k ∨ (w.heap.size ≤ k ∧ k < w'.heap.size)) s') (hk : s'.ok2) (hM : Mod (fun k => k = rb ∨ k = tb) w w') : Rr2 w0 rb tb db (fun k => S1 k ∨ (w.heap.size ≤ k ∧ k < w'.heap.size)) S2 s' s2 w' := by
  have hz := hM.size
  have h1 := h.l1 rb h.re.sb
  have h2 := h.l1 tb h.re.st
  have hB := h.B.size
  refine ⟨hR, h.rr.mod hM (fun k hk _ e => ?_), hk, h.k2, fun k hk => ?_, fun k hk => ⟨(h.l2 k hk).1, Nat.lt_of_lt_of_le (h.l2 k hk).2 hz⟩, fun k hk hS => ?_, h.B.trans (hM.below_at h.B.size (fun k hk e => by rcases e with e | e <;> omega))⟩
  · rcases e with e | e
    · subst e; exact h.ap _ h.re.sb hk
    · subst e; exact h.ap _ h.re.st hk
  · rcases hk with hk | hk
    · exact ⟨(h.l1 k hk).1, Nat.lt_of_lt_of_le (h.l1 k hk).2 hz⟩
    · exact ⟨by omega, hk.2⟩
  · rcases hk with hk | hk
    · exact h.ap k hk hS
    · have := (h.l2 k hS).2; omega
theorem Rr2.right (h : Rr2 w0 rb tb db S1 S2 s1 s2 w) (hR : RReAt w' db (fun k => S2 k ∨ (w.heap.size ≤ k ∧ k < w'.heap.size)) s') (hk : s'.ok2) (hM : Mod (· = db) w w') : Rr2 w0 rb tb db S1 (fun k => S2 k ∨ (w.heap.size ≤ k ∧ k < w'.heap.size)) s1 s' w' := by
  have hz := hM.size
  have h1 := h.l2 db h.rr.sb
  have hB := h.B.size
  refine ⟨h.re.mod hM (fun k hk _ e => by have e : k = db := e; subst e; exact h.ap _ hk h.rr.sb), hR, h.k1, hk, fun k hk => ⟨(h.l1 k hk).1, Nat.lt_of_lt_of_le (h.l1 k hk).2 hz⟩, fun k hk => ?_, fun k hk hS => ?_, h.B.trans (hM.below_at h.B.size (fun k hk e => by have e : k = db := e; omega))⟩
  · rcases hk with hk | hk
    · exact ⟨(h.l2 k hk).1, Nat.lt_of_lt_of_le (h.l2 k hk).2 hz⟩
    · exact ⟨by omega, hk.2⟩
  · rcases hS with hS | hS
    · exact h.ap k hk hS
    · have := (h.l1 k hk).2; omega
end
def RhRel (w0 : World) (rb tb db n g : Nat) (s7 : Value) (wr : World) : Prop :=
  ∃ (i : Nat) (S1 S2 : Nat → Prop) (s : ReS), g = n + 1 - i ∧ i ≤ n ∧ s7 = .int .i64 i ∧ Rr2 w0 rb tb db S1 S2 s s wr
theorem askedBox (w : World) (x0 x1 x2 x3 x4 x5 x6 x7 x8 x9 : Value) : ∃ W, W = w.alloc (.cells #[x0, x1, x2, x3, x4, x5, x6, x7, x8, x9] 38) ∧ Below w.heap.size w W ∧ W.heap.size = w.heap.size + 1 ∧ (W.cell? ⟨w.heap.size, 0, none⟩ = some x0 ∧ W.cell? ⟨w.heap.size, 1, none⟩ = some x1 ∧ W.cell? ⟨w.heap.size, 2, none⟩ = some x2 ∧ W.cell? ⟨w.heap.size, 3, none⟩ = some x3 ∧ W.cell? ⟨w.heap.size, 4, none⟩ = some x4 ∧ W.cell? ⟨w.heap.size, 5, none⟩ = some x5 ∧ W.cell? ⟨w.heap.size, 6, none⟩ = some x6 ∧ W.cell? ⟨w.heap.size, 7, none⟩ = some x7 ∧ W.cell? ⟨w.heap.size, 8, none⟩ = some x8 ∧ W.cell? ⟨w.heap.size, 9, none⟩ = some x9) :=
  ⟨_, rfl, by exact belC (Below.refl _ _), by simp, by go_simp, by go_simp, by go_simp, by go_simp, by go_simp, by go_simp, by go_simp, by go_simp, by go_simp, by go_simp⟩
theorem endedBox (w : World) (x0 x1 : Value) : ∃ W, W = w.alloc (.cells #[x0, x1] 44) ∧ Below w.heap.size w W ∧ W.heap.size = w.heap.size + 1 ∧ W.cell? ⟨w.heap.size, 0, none⟩ = some x0 ∧ W.cell? ⟨w.heap.size, 1, none⟩ = some x1 :=
  ⟨_, rfl, by exact belC (Below.refl _ _), by simp, by go_simp, by go_simp⟩
set_option maxRecDepth 100000 in
set_option maxHeartbeats 8000000 in
theorem reformHears_walk (S : Nat → Prop) (q : Proj) (qa : Option Addr) (qc : Nat) (la : Option Addr) (n lc : Nat) (ps : Nat → StepR) (w : World) (hq : ListsAt S w qa q.chains) (hn : n ≤ 9223372036854775807) (hps : StepsRAt w la n ps) :
    Calls Tryz.prog 3 #[.agg #[.int .i64 q.epoch, .slice qa q.chains.length qc], .slice la n lc] w fun r w' => r = .returned (.bool true) ∧ Below w.heap.size w w' := by
  obtain ⟨W0, hW0, hB0, hz0, p0, p1⟩ := oneBox w 24 (.int .i64 q.epoch) (.slice qa q.chains.length qc)
  have HQ : Hid (∀ W, Below W0.heap.size W0 W → ListsAt (fun _ => True) W qa q.chains) := Lib.hid fun W hB => ((hq.mod (F := none') (Mod.of_below hB0) (fun _ _ _ => id)).mod (F := none') (Mod.of_below hB) (fun _ _ _ => id)).sub (fun _ _ _ => trivial)
  have HPS := Lib.hid hps
  have HW0 := Lib.hid hW0
  have HBW0 := Lib.hid hB0
  have l0 : w.heap.size < W0.heap.size := by omega
  obtain ⟨lq, hlq⟩ : ∃ lq, lq = largeProj q.chains := ⟨_, rfl⟩
  have hlp := largeProj_any _ W0 q.epoch qa qc q.chains (HQ.out W0 (Below.refl _ _))
  rw [← hlq] at hlp
  have Hsq : Hid (lq = false → Small q.chains) := Lib.hid (by rw [hlq]; exact small_ofA)
  clear hW0 hq hlq hB0 hps
  go_enter Tryz.func3, Tryz.ntmps3
  go_wp2_with fail
  rw [← HW0.out]
  refine hlp.mono ?_
  clear hlp
  rintro e w1 ⟨rfl, hB1⟩
  have HB1 := Lib.hid hB1
  replace p0 := below_at hB1 p0 l0
  replace p1 := below_at hB1 p1 l0
  have hz1 := hB1.size
  clear hB1
  cases lq
  · have Hsm : Hid (Small q.chains) := Lib.hid (Hsq.out rfl)
    clear Hsq
    by_cases hn6 : 60 < n
    · have hn6' : (60 : Int) < n := by omega
      clear hn6
      go_wp2_with fail
      refine (wakes18_any _).mono ?_
      rintro e wz ⟨rfl, hBz⟩
      go_wp2_with fail
      go_ret
      exact ⟨rfl, HBW0.out.trans ((HB1.out.trans (hBz.mono (HB1.out).size)).mono HBW0.out.size)⟩
    · have hn6' : (n : Int) ≤ 60 := by omega
      have d0 : w1.drew.cell? ⟨w.heap.size, 0, none⟩ = some (.int .i64 q.epoch) := p0
      have d1 : w1.drew.cell? ⟨w.heap.size, 1, none⟩ = some (.slice qa q.chains.length qc) := p1
      have l1 : w.heap.size < w1.heap.size := by omega
      clear hn6
      go_wp2_with fail
      refine wp_region_held_drew (S := fun w' => w'.cell? ⟨w.heap.size, 0, none⟩ = some (.int .i64 q.epoch) ∧ w'.cell? ⟨w.heap.size, 1, none⟩ = some (.slice qa q.chains.length qc)) (by kernel_rfl) ⟨d0, d1⟩ (fun hHeld => ?_)
      refine takeL 0 ?_
      refine takeL 3 ?_
      refine wpAnyH_ready (rs := [1]) (by kernel_rfl) (by simp) ?_
      refine AllReadyH.cons (o := _) rfl (fun K hK => ?_) AllReadyH.nil
      go_simp
      go_at_call 11
      with_reducible refine (copyK_any _ w1.drew q.epoch qa qc q.chains Hsm.out (HQ.out w1.drew HB1.out.drew)).mono ?_
      rintro e w2 ⟨a2, c2, rfl, hl2, hB2'⟩
      have hB2 : Below w1.heap.size w1 w2 := below_drew hB2'
      have x0 := below_at hB2 d0 l1
      have x1 := below_at hB2 d1 l1
      have HB2 := Lib.hid (HB1.out.trans (hB2.mono hz1))
      have HL2 := Lib.hid hl2
      have hz2 := hB2.size
      clear hB2' hl2 hB2
      try go_wp2_with fail
      refine hK.out _ _ ⟨x0, x1⟩ (fun hHeld => ?_)
      clear hK K
      try simp only [Act.put, List.setIfInBounds_toArray, List.set_cons_zero, List.set_cons_succ]
      refine wpAnyH_ready (rs := [2]) (by kernel_rfl) (by simp) ?_
      refine AllReadyH.cons (o := _) rfl (fun K hK => ?_) AllReadyH.nil
      go_simp
      go_at_call 10
      with_reducible refine (reNew_any _ w2 q a2 c2 Hsm.out HL2.out).mono ?_
      rintro e w3 ⟨rb, tb, rfl, hR3, hB3⟩
      have l2 : w.heap.size < w2.heap.size := by omega
      have y0 := below_at hB3 x0 l2
      have y1 := below_at hB3 x1 l2
      have hz3 := hB3.size
      have HB3 := Lib.hid (HB2.out.trans (hB3.mono HB2.out.size))
      have HR3 := Lib.hid hR3
      clear hR3 hB3
      try go_wp2_with fail
      refine hK.out _ _ ⟨y0, y1⟩ (fun hHeld => ?_)
      clear hK K
      try simp only [Act.put, List.setIfInBounds_toArray, List.set_cons_zero, List.set_cons_succ]
      refine wpAnyH_ready (rs := [4]) (by kernel_rfl) (by simp) ?_
      refine AllReadyH.cons (o := _) rfl (fun K hK => ?_) AllReadyH.nil
      go_simp
      go_at_call 12
      with_reducible refine (rreNew_any _ w3 q qa qc Hsm.out (HQ.out w3 HB3.out)).mono ?_
      rintro e w4 ⟨db, rfl, hR4, hB4⟩
      have l3 : w.heap.size < w3.heap.size := by omega
      have z0 := below_at hB4 y0 l3
      have z1 := below_at hB4 y1 l3
      have hz4 := hB4.size
      have HI : Hid (Rr2 W0 rb tb db (fun k => w2.heap.size ≤ k ∧ k < w3.heap.size) (fun k => w3.heap.size ≤ k ∧ k < w4.heap.size) (re0 q) (re0 q) w4) := Lib.hid ⟨(HR3.out.sub (fun k hk h => ⟨h, hk⟩)).below hB4, hR4.sub (fun k hk h => ⟨h, hk⟩), re0_ok2 q, re0_ok2 q, fun k hk => ⟨by have := HB2.out.size; omega, by omega⟩, fun k hk => ⟨by have := HB3.out.size; omega, hk.2⟩, fun k hk h => by omega, HB3.out.trans (hB4.mono HB3.out.size)⟩
      clear hR4 hB4
      try go_wp2_with fail
      refine hK.out _ _ ⟨z0, z1⟩ (fun hHeld => ?_)
      clear hK K
      try simp only [Act.put, List.setIfInBounds_toArray, List.set_cons_zero, List.set_cons_succ]
      refine takeL 5 ?_
      refine takeL 6 ?_
      refine wpAnyH_done (by kernel_rfl) ?_ _
      clear hHeld d0 d1 x0 x1 y0 y1 z0 z1 p0 p1
      go_wp2_with fail
      go_loopg [7] (n + 1) (fun g s7 wr => RhRel W0 rb tb db n g s7 wr)
      case atStart => exact ⟨0, _, _, _, rfl, Nat.zero_le _, rfl, HI.out⟩
      case round =>
        clear HI
        obtain ⟨i, S1, S2, s, rfl, hi, rfl, hI⟩ := hrel
        have i0 : (0 : Int) ≤ i := by omega
        have i1 : (i : Int) ≤ n := by omega
        have hask := reAsk_any hI.re hI.k1.ok
        have hask2 := fun W (hB : Below wr.heap.size wr W) => rreAsk_any (hI.rr.below hB) hI.k2.ok (fun h4 => ⟨hI.k2.nd h4, by have := hI.k2.ln h4; omega⟩)
        have hov := fun W (hB : Below wr.heap.size wr W) => reOver_any (hI.re.below hB)
        have hov2 := fun W (hB : Below wr.heap.size wr W) => rreOver_any (hI.rr.below hB)
        obtain ⟨⟨⟨qk, qu, qe, qp, qs, qn, qd, ⟨qpe, qls⟩⟩, qb⟩, hr⟩ : ∃ r, r = s.ask := ⟨_, rfl⟩
        rw [← hr] at hask hask2
        obtain ⟨oe, hoe⟩ : ∃ oe, oe = s.overE := ⟨_, rfl⟩
        obtain ⟨ob, hob⟩ : ∃ ob, ob = decide (s.at = 4) := ⟨_, rfl⟩
        rw [← hoe, ← hob] at hov hov2
        have Hask2 := Lib.hid hask2
        have Hov := Lib.hid hov
        have Hov2 := Lib.hid hov2
        have HI := Lib.hid hI
        clear hask2 hov hov2 hI hr hoe hob
        go_wp2_with fail
        refine hask.mono ?_
        clear hask
        rintro e W1 ⟨xa, xcc, rfl, hl1, hB1⟩
        have HB1r := Lib.hid hB1
        simp only [qV]
        clear hB1
        go_wp2_with fail
        obtain ⟨W2, hW2, hB2, hz2', b0, b1, b2, b3, b4, b5, b6, b7, b8⟩ := ask_box W1 (.int .i64 qk) (.int .i64 qu) (.int .i64 qe) (.int .i64 qp) (.int .i64 qs) (.int .i64 qn) (.string qd) (.int .i64 qpe) (.slice xa qls.length xcc)
        rw [← hW2]
        have HB2r := Lib.hid (HB1r.out.trans (hB2.mono HB1r.out.size))
        have HL2r := Lib.hid (hl1.mod (F := none') (Mod.of_below hB2) (fun _ _ _ => id))
        have e1 : W1.heap.size < W2.heap.size := by omega
        clear hB2 hl1 hW2
        go_wp2_with fail
        refine (Hask2.out W2 HB2r.out).mono ?_
        rintro e W3 ⟨ya, ycc, rfl, hl3, hB3⟩
        replace b0 := below_at hB3 b0 e1
        replace b1 := below_at hB3 b1 e1
        replace b2 := below_at hB3 b2 e1
        replace b3 := below_at hB3 b3 e1
        replace b4 := below_at hB3 b4 e1
        replace b5 := below_at hB3 b5 e1
        replace b6 := below_at hB3 b6 e1
        replace b7 := below_at hB3 b7 e1
        replace b8 := below_at hB3 b8 e1
        have HB3r := Lib.hid (HB2r.out.trans (hB3.mono HB2r.out.size))
        have HL3x := Lib.hid ((HL2r.out.mod (F := none') (Mod.of_below hB3) (fun _ _ _ => id)).sub (T := fun _ => True) (fun _ _ _ => trivial))
        have HL3y := Lib.hid (hl3.sub (T := fun _ => True) (fun _ _ _ => trivial))
        have e2 : W1.heap.size < W3.heap.size := by have := hB3.size; omega
        clear hB3 hl3 HL2r
        simp only [askedV]
        go_wp2_with fail
        obtain ⟨W4, hW4, hB4, hz4', d0, d1, d2, d3, d4, d5, d6, d7, d8, d9⟩ := askedBox W3 (.int .i64 qk) (.int .i64 qu) (.int .i64 qe) (.int .i64 qp) (.int .i64 qs) (.int .i64 qn) (.string qd) (.int .i64 qpe) (.slice ya qls.length ycc) (.bool qb)
        rw [← hW4]
        replace b0 := below_at hB4 b0 e2
        replace b1 := below_at hB4 b1 e2
        replace b2 := below_at hB4 b2 e2
        replace b3 := below_at hB4 b3 e2
        replace b4 := below_at hB4 b4 e2
        replace b5 := below_at hB4 b5 e2
        replace b6 := below_at hB4 b6 e2
        replace b7 := below_at hB4 b7 e2
        replace b8 := below_at hB4 b8 e2
        have HB4r := Lib.hid (HB3r.out.trans (hB4.mono HB3r.out.size))
        have HL4x := Lib.hid (HL3x.out.mod (F := none') (Mod.of_below hB4) (fun _ _ _ => id))
        have HL4y := Lib.hid (HL3y.out.mod (F := none') (Mod.of_below hB4) (fun _ _ _ => id))
        have e3 : W3.heap.size < W4.heap.size := by omega
        have e3' : W1.heap.size < W4.heap.size := by omega
        clear hB4 hW4 HL3x HL3y
        go_wp2_with fail
        refine (Hov.out W4 HB4r.out).mono ?_
        rintro e W5 ⟨rfl, hM5⟩
        replace b0 := hM5.at b0 id
        replace b1 := hM5.at b1 id
        replace b2 := hM5.at b2 id
        replace b3 := hM5.at b3 id
        replace b4 := hM5.at b4 id
        replace b5 := hM5.at b5 id
        replace b6 := hM5.at b6 id
        replace b7 := hM5.at b7 id
        replace b8 := hM5.at b8 id
        replace d0 := hM5.at d0 id
        replace d1 := hM5.at d1 id
        replace d2 := hM5.at d2 id
        replace d3 := hM5.at d3 id
        replace d4 := hM5.at d4 id
        replace d5 := hM5.at d5 id
        replace d6 := hM5.at d6 id
        replace d7 := hM5.at d7 id
        replace d8 := hM5.at d8 id
        replace d9 := hM5.at d9 id
        have HB5r := Lib.hid (HB4r.out.trans (hM5.below.mono HB4r.out.size))
        have HL5x := Lib.hid (HL4x.out.mod hM5 (fun _ _ _ => id))
        have HL5y := Lib.hid (HL4y.out.mod hM5 (fun _ _ _ => id))
        have e4 : W3.heap.size < W5.heap.size := by have := hM5.size; omega
        have e4' : W1.heap.size < W5.heap.size := by omega
        clear hM5 HL4x HL4y
        go_wp2_with fail
        refine (Hov2.out W5 HB5r.out).mono ?_
        rintro e W6 ⟨rfl, hB6⟩
        replace b0 := below_at hB6 b0 e4'
        replace b1 := below_at hB6 b1 e4'
        replace b2 := below_at hB6 b2 e4'
        replace b3 := below_at hB6 b3 e4'
        replace b4 := below_at hB6 b4 e4'
        replace b5 := below_at hB6 b5 e4'
        replace b6 := below_at hB6 b6 e4'
        replace b7 := below_at hB6 b7 e4'
        replace b8 := below_at hB6 b8 e4'
        replace d0 := below_at hB6 d0 e4
        replace d1 := below_at hB6 d1 e4
        replace d2 := below_at hB6 d2 e4
        replace d3 := below_at hB6 d3 e4
        replace d4 := below_at hB6 d4 e4
        replace d5 := below_at hB6 d5 e4
        replace d6 := below_at hB6 d6 e4
        replace d7 := below_at hB6 d7 e4
        replace d8 := below_at hB6 d8 e4
        replace d9 := below_at hB6 d9 e4
        have HB6r := Lib.hid (HB5r.out.trans (hB6.mono HB5r.out.size))
        have HL6x := Lib.hid (HL5x.out.mod (F := none') (Mod.of_below hB6) (fun _ _ _ => id))
        have HL6y := Lib.hid (HL5y.out.mod (F := none') (Mod.of_below hB6) (fun _ _ _ => id))
        have e5 : W3.heap.size < W6.heap.size := by have := hB6.size; omega
        have e5' : W1.heap.size < W6.heap.size := by omega
        clear hB6 HL5x HL5y
        go_wp2_with fail
        obtain ⟨W7, hW7, hB7, hz7', g0, g1⟩ := endedBox W6 (.int .i64 oe) (.bool ob)
        rw [← hW7]
        replace b0 := below_at hB7 b0 e5'
        replace b1 := below_at hB7 b1 e5'
        replace b2 := below_at hB7 b2 e5'
        replace b3 := below_at hB7 b3 e5'
        replace b4 := below_at hB7 b4 e5'
        replace b5 := below_at hB7 b5 e5'
        replace b6 := below_at hB7 b6 e5'
        replace b7 := below_at hB7 b7 e5'
        replace b8 := below_at hB7 b8 e5'
        replace d0 := below_at hB7 d0 e5
        replace d1 := below_at hB7 d1 e5
        replace d2 := below_at hB7 d2 e5
        replace d3 := below_at hB7 d3 e5
        replace d4 := below_at hB7 d4 e5
        replace d5 := below_at hB7 d5 e5
        replace d6 := below_at hB7 d6 e5
        replace d7 := below_at hB7 d7 e5
        replace d8 := below_at hB7 d8 e5
        replace d9 := below_at hB7 d9 e5
        have HB7r := Lib.hid (HB6r.out.trans (hB7.mono HB6r.out.size))
        have hkx := ask_eq (fun _ => True) qk qu qe qp qs qn qd qpe xa ya xcc ycc qls W7 (HL6x.out.mod (F := none') (Mod.of_below hB7) (fun _ _ _ => id)) (HL6y.out.mod (F := none') (Mod.of_below hB7) (fun _ _ _ => id))
        have e6 : W6.heap.size < W7.heap.size := by omega
        have q0 : (qb != qb) = false := by simp
        have q1 : (oe != oe) = false := by simp
        have q2 : (ob != ob) = false := by simp
        clear hB7 hW7 HL6x HL6y
        go_wp2_with fail
        refine hkx.mono ?_
        clear hkx
        rintro e W8 ⟨rfl, hB8⟩
        replace g0 := below_at hB8 g0 e6
        replace g1 := below_at hB8 g1 e6
        have HB8r := Lib.hid (HB7r.out.trans (hB8.mono HB7r.out.size))
        have HI8 := Lib.hid (HI.out.below' HB8r.out)
        clear hB8 b0 b1 b2 b3 b4 b5 b6 b7 b8 d0 d1 d2 d3 d4 d5 d6 d7 d8 d9 HI
        by_cases hin : i = n
        · subst hin
          go_wp2_with fail
          refine (wakes18_any _).mono ?_
          rintro e wz ⟨rfl, hBz⟩
          go_wp2_with fail
          go_ret
          exact ⟨rfl, HBW0.out.trans ((HI8.out.B.trans (hBz.mono (HI8.out.B).size)).mono HBW0.out.size)⟩
        · have hin' : ((i : Int) == (n : Int)) = false := by simp; omega
          have hlt : i < n := by omega
          have i2 : (i : Int) < n := by omega
          obtain ⟨sb, soff, rfl, hsb, hsd, hsl, c0, c1, c2, c3, c4, c5, c6, c7, c8, c9⟩ := HPS.out.get hlt
          obtain ⟨st, hst⟩ : ∃ st, st = ps i := ⟨_, rfl⟩
          rw [← hst] at hsd hsl c0 c1 c2 c3 c4 c5 c6 c7 c8 c9
          clear hst hin
          obtain ⟨⟨xc, xn, xd, xpe, xca, xls, xlc, xm, xz, xe⟩, sh, sk⟩ := st
          simp only at hsd hsl c0 c1 c2 c3 c4 c5 c6 c7 c8 c9
          have hBall := HBW0.out.trans (HI8.out.B.mono HBW0.out.size)
          have hsl8 := old_below hsl hBall
          have a0 := below_at hBall c0 hsb
          have a1 := below_at hBall c1 hsb
          have a2 := below_at hBall c2 hsb
          have a3 := below_at hBall c3 hsb
          have a4 := below_at hBall c4 hsb
          have a5 := below_at hBall c5 hsb
          have a6 := below_at hBall c6 hsb
          have a7 := below_at hBall c7 hsb
          have a8 := below_at hBall c8 hsb
          have a9 := below_at hBall c9 hsb
          have hla := largeAns_any _ xc xn xd hsd xpe xca xlc xls xm xz xe W8 hsl8
          obtain ⟨lg, hlg⟩ : ∃ lg, lg = (decide (6000 < xd.size) || largeProj xls) := ⟨_, rfl⟩
          rw [← hlg] at hla
          have HSL := Lib.hid hsl
          have HBall := Lib.hid hBall
          clear hlg hBall hsl hsl8
          go_wp2_with fail
          refine hla.mono ?_
          clear hla
          rintro e W9 ⟨rfl, hB9⟩
          have HI9 := Lib.hid (HI8.out.below' hB9)
          have hBall9 := HBW0.out.trans (HI9.out.B.mono HBW0.out.size)
          clear hB9 a0 a1 a2 a3 a4 a5 a6 a7 a8 a9 g0 g1
          cases lg
          · have a0 := below_at hBall9 c0 hsb
            have a1 := below_at hBall9 c1 hsb
            have a2 := below_at hBall9 c2 hsb
            have a3 := below_at hBall9 c3 hsb
            have a4 := below_at hBall9 c4 hsb
            have a5 := below_at hBall9 c5 hsb
            have a6 := below_at hBall9 c6 hsb
            have a7 := below_at hBall9 c7 hsb
            have a8 := below_at hBall9 c8 hsb
            have a9 := below_at hBall9 c9 hsb
            cases sk
            · have nsb : ¬ (sb = rb ∨ sb = tb) := by
                have h1 := (HI9.out.l1 rb HI9.out.re.sb).1
                have h2 := (HI9.out.l1 tb HI9.out.re.st).1
                omega
              have nsd : ¬ sb = db := by have h1 := (HI9.out.l2 db HI9.out.rr.sb).1; omega
              have HI9d := Lib.hid (HI9.out.below' ((Below.refl _ _).drew))
              have hhe := reHear_any ⟨xc, xn, xd, ⟨xpe, xls⟩, xm, xz, xe⟩ xca xlc sh HI9d.out.re HI9d.out.k1.ok _ (old_below HSL.out hBall9.drew)
              simp only [aV] at hhe
              have Hnsd := Lib.hid nsd
              have k0 : W9.drew.cell? ⟨sb, soff + i * 10, none⟩ = _ := a0
              have k1 : W9.drew.cell? ⟨sb, soff + i * 10 + 1, none⟩ = _ := a1
              have k2 : W9.drew.cell? ⟨sb, soff + i * 10 + 2, none⟩ = _ := a2
              have k3 : W9.drew.cell? ⟨sb, soff + i * 10 + 3, none⟩ = _ := a3
              have k4 : W9.drew.cell? ⟨sb, soff + i * 10 + 4, none⟩ = _ := a4
              have k5 : W9.drew.cell? ⟨sb, soff + i * 10 + 5, none⟩ = _ := a5
              have k6 : W9.drew.cell? ⟨sb, soff + i * 10 + 6, none⟩ = _ := a6
              have k7 : W9.drew.cell? ⟨sb, soff + i * 10 + 7, none⟩ = _ := a7
              have k8 : W9.drew.cell? ⟨sb, soff + i * 10 + 8, none⟩ = _ := a8
              clear hBall9 nsd
              go_wp2_with fail
              clear a0 a1 a2 a3 a4 a5 a6 a7 a8 a9
              go_region_held3 (fun w' => w'.cell? ⟨sb, soff + i * 10, none⟩ = some (.int .i64 xc) ∧ w'.cell? ⟨sb, soff + i * 10 + 1, none⟩ = some (.int .i64 xn) ∧ w'.cell? ⟨sb, soff + i * 10 + 2, none⟩ = some (.string xd) ∧ w'.cell? ⟨sb, soff + i * 10 + 3, none⟩ = some (.int .i64 xpe) ∧ w'.cell? ⟨sb, soff + i * 10 + 4, none⟩ = some (.slice xca xls.length xlc) ∧ w'.cell? ⟨sb, soff + i * 10 + 5, none⟩ = some (.int .i64 xm) ∧ w'.cell? ⟨sb, soff + i * 10 + 6, none⟩ = some (.int .i64 xz) ∧ w'.cell? ⟨sb, soff + i * 10 + 7, none⟩ = some (.int .i64 xe) ∧ w'.cell? ⟨sb, soff + i * 10 + 8, none⟩ = some (.bool sh))
                (first | with_reducible exact ⟨k0, k1, k2, k3, k4, k5, k6, k7, k8⟩ | with_reducible exact ⟨z0, z1, z2, z3, z4, z5, z6, z7, z8⟩)
                (first | (go_at_call 21; (with_reducible refine hhe.mono ?_); rintro e W10 ⟨rfl, h10R, h10M⟩
                          have z0 := h10M.at k0 nsb
                          have z1 := h10M.at k1 nsb
                          have z2 := h10M.at k2 nsb
                          have z3 := h10M.at k3 nsb
                          have z4 := h10M.at k4 nsb
                          have z5 := h10M.at k5 nsb
                          have z6 := h10M.at k6 nsb
                          have z7 := h10M.at k7 nsb
                          have z8 := h10M.at k8 nsb))
              have HI10 := Lib.hid (HI9d.out.left h10R (HI9d.out.k1.hear _ _) h10M)
              clear hhe h10R h10M k0 k1 k2 k3 k4 k5 k6 k7 k8 z0 z1 z2 z3 z4 z5 z6 z7 z8
              have hBall10 := HBW0.out.trans (HI10.out.B.mono HBW0.out.size)
              have HI10d := Lib.hid (HI10.out.below' ((Below.refl _ _).drew))
              have hhe2 := rreHear_any ⟨xc, xn, xd, ⟨xpe, xls⟩, xm, xz, xe⟩ xca xlc sh HI10d.out.rr HI10d.out.k2 _ (old_below HSL.out hBall10.drew)
              simp only [aV] at hhe2
              have a0 := below_at hBall10 c0 hsb
              have a1 := below_at hBall10 c1 hsb
              have a2 := below_at hBall10 c2 hsb
              have a3 := below_at hBall10 c3 hsb
              have a4 := below_at hBall10 c4 hsb
              have a5 := below_at hBall10 c5 hsb
              have a6 := below_at hBall10 c6 hsb
              have a7 := below_at hBall10 c7 hsb
              have a8 := below_at hBall10 c8 hsb
              have a9 := below_at hBall10 c9 hsb
              have k0 : W10.drew.cell? ⟨sb, soff + i * 10, none⟩ = _ := a0
              have k1 : W10.drew.cell? ⟨sb, soff + i * 10 + 1, none⟩ = _ := a1
              have k2 : W10.drew.cell? ⟨sb, soff + i * 10 + 2, none⟩ = _ := a2
              have k3 : W10.drew.cell? ⟨sb, soff + i * 10 + 3, none⟩ = _ := a3
              have k4 : W10.drew.cell? ⟨sb, soff + i * 10 + 4, none⟩ = _ := a4
              have k5 : W10.drew.cell? ⟨sb, soff + i * 10 + 5, none⟩ = _ := a5
              have k6 : W10.drew.cell? ⟨sb, soff + i * 10 + 6, none⟩ = _ := a6
              have k7 : W10.drew.cell? ⟨sb, soff + i * 10 + 7, none⟩ = _ := a7
              have k8 : W10.drew.cell? ⟨sb, soff + i * 10 + 8, none⟩ = _ := a8
              have nsd := Hnsd.out
              clear hBall10 a0 a1 a2 a3 a4 a5 a6 a7 a8 a9
              go_wp2_with fail
              go_region_held3 (fun w' => w'.cell? ⟨sb, soff + i * 10, none⟩ = some (.int .i64 xc) ∧ w'.cell? ⟨sb, soff + i * 10 + 1, none⟩ = some (.int .i64 xn) ∧ w'.cell? ⟨sb, soff + i * 10 + 2, none⟩ = some (.string xd) ∧ w'.cell? ⟨sb, soff + i * 10 + 3, none⟩ = some (.int .i64 xpe) ∧ w'.cell? ⟨sb, soff + i * 10 + 4, none⟩ = some (.slice xca xls.length xlc) ∧ w'.cell? ⟨sb, soff + i * 10 + 5, none⟩ = some (.int .i64 xm) ∧ w'.cell? ⟨sb, soff + i * 10 + 6, none⟩ = some (.int .i64 xz) ∧ w'.cell? ⟨sb, soff + i * 10 + 7, none⟩ = some (.int .i64 xe) ∧ w'.cell? ⟨sb, soff + i * 10 + 8, none⟩ = some (.bool sh))
                (first | with_reducible exact ⟨k0, k1, k2, k3, k4, k5, k6, k7, k8⟩ | with_reducible exact ⟨z0, z1, z2, z3, z4, z5, z6, z7, z8⟩)
                (first | (go_at_call 22; (with_reducible refine hhe2.mono ?_); rintro e W11 ⟨rfl, h11R, h11M⟩
                          have z0 := h11M.at k0 nsd
                          have z1 := h11M.at k1 nsd
                          have z2 := h11M.at k2 nsd
                          have z3 := h11M.at k3 nsd
                          have z4 := h11M.at k4 nsd
                          have z5 := h11M.at k5 nsd
                          have z6 := h11M.at k6 nsd
                          have z7 := h11M.at k7 nsd
                          have z8 := h11M.at k8 nsd))
              have HI11 := Lib.hid (HI10d.out.right h11R (HI10d.out.k2.hear _ _) h11M)
              clear hhe2 h11R h11M k0 k1 k2 k3 k4 k5 k6 k7 k8 z0 z1 z2 z3 z4 z5 z6 z7 z8 c0 c1 c2 c3 c4 c5 c6 c7 c8 c9
              go_wp2_with fail
              go_roundg (n + 1 - (i + 1))
              case measure => omega
              case rel => exact ⟨i + 1, _, _, _, rfl, by omega, by go_num, HI11.out⟩
            · have hsk := reSkip_any HI9.out.re HI9.out.k1.ok
              have hsk2 := fun W (h : RReAt W db S2 s) => rreSkip_any h HI9.out.k2.ok
              obtain ⟨kb, hkb⟩ : ∃ kb, kb = s.skipB := ⟨_, rfl⟩
              unfold ReSkipPost at hsk
              rw [← hkb] at hsk hsk2
              have Hsk2 := Lib.hid hsk2
              have q3 : (kb != kb) = false := by simp
              clear hsk2 hkb hBall9
              go_wp2_with fail
              refine hsk.mono ?_
              clear hsk
              rintro e W10 ⟨rfl, hR10, hM10⟩
              have HI10 := Lib.hid (HI9.out.left (hR10.sub (fun _ _ h => Or.inl h)) HI9.out.k1.skip (hM10.mono (fun _ _ h => Or.inl h)))
              clear hR10 hM10
              go_wp2_with fail
              refine (Hsk2.out W10 HI10.out.rr).mono ?_
              rintro e W11 ⟨rfl, hR11, hM11⟩
              have HI11 := Lib.hid (HI10.out.right (hR11.sub (fun _ _ h => Or.inl h)) HI10.out.k2.skip hM11)
              clear hR11 hM11 a0 a1 a2 a3 a4 a5 a6 a7 a8 a9 c0 c1 c2 c3 c4 c5 c6 c7 c8 c9
              go_wp2_with fail
              go_roundg (n + 1 - (i + 1))
              case measure => omega
              case rel => exact ⟨i + 1, _, _, _, rfl, by omega, by go_num, HI11.out⟩
          · clear hBall9
            go_wp2_with fail
            refine (wakes18_any _).mono ?_
            rintro e wz ⟨rfl, hBz⟩
            go_wp2_with fail
            go_ret
            exact ⟨rfl, HBW0.out.trans ((HI9.out.B.trans (hBz.mono (HI9.out.B).size)).mono HBW0.out.size)⟩
  · skip
    go_wp2_with fail
    refine (wakes18_any _).mono ?_
    rintro e wz ⟨rfl, hBz⟩
    go_wp2_with fail
    go_ret
    exact ⟨rfl, HBW0.out.trans ((HB1.out.trans (hBz.mono (HB1.out).size)).mono HBW0.out.size)⟩

set_option maxRecDepth 100000 in
set_option maxHeartbeats 2000000 in
theorem reformHears_lifted (os : Os) (started : os.Started) (H : Type) (enc : TypeId × Value → H) :
    ReturnsInHanded {} Tryz.checked os 3 .any (Rows.reformHearsSpec.pre6 enc Tryz.prog Tryz.f3 Rows.reformHearsRow.domain false) (Rows.reformHearsSpec.post enc Tryz.prog Tryz.f3 false true false false) := by
  refine returnsInHanded_of_change (C := Tryz.checked) Tryz.ownP started (by kernel_rfl) Tryz.func3
    (ChangeSpec.witness6 (enc := enc) (C := Tryz.checked) false ⟨#[], #[.agg #[.int .i64 0, .slice none 0 0], .slice none 0 0], []⟩ 8 (by kernel_rfl) (by kernel_rfl) (by kernel_rfl) (by kernel_rfl)) ?_
  intro W base args ds gs before hval0 hW hcnd _
  have hval : ∀ (j : Nat) t v, Tryz.f3.params[j]? = some t → args[j]? = some v → Value.okWide Tryz.prog W .any base t v := hval0
  have hW' := hW
  obtain ⟨p, q, hA0, hV, rfl, hfz, hnd⟩ := hW
  have hA : DataW.TrodAll enc Tryz.prog W 0 (fun _ => true) true Tryz.f3.params.toList args.toList ds p := hA0
  rw [Tryz.params3] at hA hval
  obtain ⟨v0, vs0, d0, ds0, p0, q0, hargs, rfl, rfl, h0, r0⟩ := trodAll_cons hA
  obtain ⟨v1, vs1, d1, ds1, p1, q1, rfl, rfl, rfl, h1, r1⟩ := trodAll_cons r0
  obtain ⟨rfl, rfl, rfl⟩ := trodAll_nil r1
  obtain rfl : args = #[v0, v1] := by cases args; simp_all
  obtain ⟨rfl, rfl⟩ := trodVars_none hV
  obtain ⟨cs0, x0, hv0, hr0⟩ := open_arg (n := 9) (T := tyProj) (by kernel_rfl) (hval 0 24 v0 rfl rfl) h0
  obtain ⟨cs1, x1, hv1, hr1⟩ := open_arg (n := 9) (T := .slice tyStepR) (by kernel_rfl) (hval 1 25 v1 rfl rfl) h1
  simp only [tyProj, Ty.isStruct, Bool.false_eq_true, if_false, if_true] at hv0 hv1
  obtain ⟨pe, pa, ls, pc, e0, hp⟩ := rd_proj hr0
  obtain ⟨a0, n0, k0, ps, e1, hn0, hp0⟩ := rd_stepsR hr1
  subst e0
  subst hv0
  rw [e1] at hv1
  subst hv1
  clear hA0 hval0
  refine (reformHears_walk _ ⟨pe, ls⟩ pa pc a0 n0 k0 ps W hp hn0 hp0).mono fun e W' ⟨he, hb⟩ => ?_
  subst he
  exact ⟨_, rfl, law_post Tryz.laidOutP (by kernel_rfl) rfl Tryz.underlying4 hW' rfl rfl rfl rfl hb⟩

theorem reformHears_holds : Rows.ReformHearsSaid :=
  OpenClaim.holds_of_wide 3 Tryz.f3 rfl rfl rfl rfl rfl rfl rfl ⟨rfl, rfl, rfl, rfl, rfl⟩ rfl rfl rfl rfl rfl (by kernel_rfl) Tryz.func3 (by kernel_rfl)
    (of_decide_eq_true (by kernel_rfl)) (by unfold Func.isWrapper; first | (rw [if_pos (by decide +kernel)]; kernel_rfl) | (rw [if_neg (by decide +kernel)]; exact ⟨rfl, rfl⟩))
    (fun os started H enc _ => reformHears_lifted os started H enc)
end Go.Proofs.YtghdhhbpbmhooaaGreat
