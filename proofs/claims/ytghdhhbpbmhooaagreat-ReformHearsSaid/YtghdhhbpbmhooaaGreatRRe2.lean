/- the document's change of the projection: Skip, Ask -/
import Derived.Test.YtghdhhbpbmhooaaGreatRRe
import Derived.Test.YtghdhhbpbmhooaaGreatPkRe
namespace Go.Proofs.YtghdhhbpbmhooaaGreat
open Go.RowKit Esch

section
variable {w : World} {b : Nat} {S : Nat → Prop} {s : ReS}
theorem rreSkip_no (h : RReAt w b S s) (h1 : s.at ≠ 1) : Calls Tryz.prog 20 #[.pointer (some ⟨b, 0, none⟩)] w fun e w' => e = .returned (.bool s.skipB) ∧ RReAt w' b S s.skip ∧ Mod (· = b) w w' := by
  have c0 := h.c0
  obtain ⟨qa, qc, c1, hq⟩ := h.c1
  have c2 := h.c2
  obtain ⟨pa, pc, c3, hp⟩ := h.c3
  have c4 := h.c4
  have c5 := h.c5
  obtain ⟨ta, tc, c6, htt⟩ := h.c6
  have c7 := h.c7
  have hl := h.lt
  have H := Lib.hid h
  have e1 : (s.at + 1 != 2) = true := by simp only [bne_iff_ne, ne_eq]; omega
  have hsk : s.skipB = false := by unfold ReS.skipB; simp [h1]
  have Hsk := Lib.hid hsk
  clear h hq hp h1 hsk htt
  go_enter Tryz.func20, Tryz.ntmps20
  go_wp2_with fail
  go_quiet (fail)
  go_wp2_with fail
  go_ret
  have hM : ∀ n, Mod none' w (w.drewN n) := fun n => (Mod.refl _ _).drewN n
  refine ⟨by rw [Hsk.out]; rfl, ?_, mod_none (hM _)⟩
  unfold ReS.skip
  rw [Hsk.out]
  exact H.out.mod (hM _) (fun _ _ _ => id)
set_option maxRecDepth 100000 in
set_option maxHeartbeats 1000000 in
theorem rreSkip_yes (h : RReAt w b S s) (h1 : s.at = 1) (hi : 0 ≤ s.i ∧ s.i < s.us.length) (hg : goodB s.p = true) : Calls Tryz.prog 20 #[.pointer (some ⟨b, 0, none⟩)] w fun e w' => e = .returned (.bool s.skipB) ∧ RReAt w' b S s.skip ∧ Mod (· = b) w w' := by
  have c0 := h.c0
  obtain ⟨qa, qc, c1, hq⟩ := h.c1
  have c2 := h.c2
  obtain ⟨pa, pc, c3, hp⟩ := h.c3
  have c4 := h.c4
  have c5 := h.c5
  obtain ⟨ta, tc, c6, htt⟩ := h.c6
  have c7 := h.c7
  have hl := h.lt
  have H := Lib.hid h
  rw [h1] at c4
  have huq := fun W (hM : Mod none' w W) => runits_any _ W s.q.epoch qa qc s.q.chains h.smq (hq.mod hM (fun _ _ _ => id))
  have hup := fun W (hM : Mod none' w W) => runits_any _ W s.p.epoch pa pc s.p.chains h.smp (hp.mod hM (fun _ _ _ => id))
  have hul := (us_le hg).2
  obtain ⟨i, hi'⟩ : ∃ i : Nat, s.i = i := ⟨s.i.toNat, by omega⟩
  obtain ⟨up, hup'⟩ : ∃ up, up = unitsOf s.p.chains.flatten := ⟨_, rfl⟩
  obtain ⟨uq, huq'⟩ : ∃ uq, uq = unitsOf s.q.chains.flatten := ⟨_, rfl⟩
  have hilt : i < up.length := by rw [hup']; have := hi.2; rw [hi'] at this; unfold ReS.us at this; omega
  rw [← hup'] at hup
  rw [← huq'] at huq
  rw [hi'] at c5
  have Hup := Lib.hid hup'
  have Huq := Lib.hid huq'
  have Hii := Lib.hid hi'
  have Hul := Lib.hid hul
  have d0 : w.drew.cell? ⟨b, 0, none⟩ = some (.int .i64 s.q.epoch) := c0
  have d1 : w.drew.cell? ⟨b, 1, none⟩ = some (.slice qa s.q.chains.length qc) := c1
  have d2 : w.drew.cell? ⟨b, 2, none⟩ = some (.int .i64 s.p.epoch) := c2
  have d3 : w.drew.cell? ⟨b, 3, none⟩ = some (.slice pa s.p.chains.length pc) := c3
  have d4 : w.drew.cell? ⟨b, 4, none⟩ = some (.int .i64 (1 + 1)) := c4
  have d5 : w.drew.cell? ⟨b, 5, none⟩ = some (.int .i64 i) := c5
  have H1 := Lib.hid h1
  have Hgd := Lib.hid hg
  clear h hq hp h1 hi hg hup' huq' hi' hul htt
  go_enter Tryz.func20, Tryz.ntmps20
  go_wp2_with fail
  refine wp_region_held_drew (S := fun w' => w'.cell? ⟨b, 0, none⟩ = some (.int .i64 s.q.epoch) ∧ w'.cell? ⟨b, 1, none⟩ = some (.slice qa s.q.chains.length qc) ∧ w'.cell? ⟨b, 2, none⟩ = some (.int .i64 s.p.epoch) ∧ w'.cell? ⟨b, 3, none⟩ = some (.slice pa s.p.chains.length pc) ∧ w'.cell? ⟨b, 4, none⟩ = some (.int .i64 (1 + 1)) ∧ w'.cell? ⟨b, 5, none⟩ = some (.int .i64 i)) (by kernel_rfl) ⟨d0, d1, d2, d3, d4, d5⟩ (fun hHeld => ?_)
  refine takeL 0 ?_
  refine takeL 1 ?_
  refine takeL 2 ?_
  refine takeL 3 ?_
  refine takeL 4 ?_
  refine takeL 5 ?_
  refine takeL 6 ?_
  refine takeL 7 ?_
  refine takeL 8 ?_
  refine takeL 9 ?_
  refine takeL 11 ?_
  refine takeL 12 ?_
  refine takeL 13 ?_
  refine takeL 14 ?_
  refine takeL 16 ?_
  refine takeL 17 ?_
  refine takeL 18 ?_
  refine takeL 19 ?_
  refine wpAnyH_ready (rs := [10]) (by kernel_rfl) (by simp) ?_
  refine AllReadyH.cons (o := _) rfl (fun K hK => ?_) AllReadyH.nil
  go_simp
  go_at_call 40
  with_reducible refine (huq _ ((Mod.refl _ _).drew)).mono ?_
  rintro e w2 ⟨a2, n2, rfl, hl2, hB2', -⟩
  have hB2 : Below w.heap.size w w2 := below_drew hB2'
  have y0 := below_at hB2 d0 hl
  have y1 := below_at hB2 d1 hl
  have y2 := below_at hB2 d2 hl
  have y3 := below_at hB2 d3 hl
  have y4 := below_at hB2 d4 hl
  have y5 := below_at hB2 d5 hl
  have hup2 := hup w2 (Mod.of_below hB2)
  clear hB2'
  try go_wp2_with fail
  refine hK.out _ _ ⟨y0, y1, y2, y3, y4, y5⟩ (fun hHeld => ?_)
  clear hK K
  try simp only [Act.put, List.setIfInBounds_toArray, List.set_cons_zero, List.set_cons_succ]
  refine wpAnyH_ready (rs := [15]) (by kernel_rfl) (by simp) ?_
  refine AllReadyH.cons (o := _) rfl (fun K hK => ?_) AllReadyH.nil
  go_simp
  go_at_call 40
  with_reducible refine hup2.mono ?_
  clear hup2 hup huq
  rintro e w3 ⟨a3, n3, rfl, hl3, hB3, -⟩
  have hz2 := hB2.size
  have hl2 := hl2.mod (F := none') (Mod.of_below hB3) (fun _ _ _ => id)
  obtain ⟨b3, o3, rfl, hb3, hk3, hc3⟩ := hl3.2 (by omega)
  obtain ⟨u, hu⟩ : ∃ u, u = up.getD i 0 := ⟨_, rfl⟩
  have x0 : w3.cell? ⟨b3, o3 + i, none⟩ = some (.int .i64 u) := by rw [hu]; exact hc3 i hilt
  have hct := has_any _ w3 a2 n2 uq u hl2
  obtain ⟨g, hg⟩ : ∃ g, g = decide (u ∈ uq) := ⟨_, rfl⟩
  rw [← hg] at hct
  have Hg := Lib.hid hg
  have Hu := Lib.hid hu
  have hB : Below w.heap.size w w3 := hB2.trans (hB3.mono hz2)
  have t0 := below_at hB d0 hl
  have t1 := below_at hB d1 hl
  have t2 := below_at hB d2 hl
  have t3 := below_at hB d3 hl
  have t4 := below_at hB d4 hl
  have t5 := below_at hB d5 hl
  have i0 : (0 : Int) ≤ i := by omega
  have i1 : (i : Int) < up.length := by omega
  have HB := Lib.hid hB
  clear hB hl3 hc3 hl2 hu hg
  try go_wp2_with fail
  refine hK.out _ _ ⟨t0, t1, t2, t3, t4, t5⟩ (fun hHeld => ?_)
  clear hK K
  try simp only [Act.put, List.setIfInBounds_toArray, List.set_cons_zero, List.set_cons_succ]
  refine wpAnyH_mono2 (S2 := fun w' => (w'.cell? ⟨b, 0, none⟩ = some (.int .i64 s.q.epoch) ∧ w'.cell? ⟨b, 1, none⟩ = some (.slice qa s.q.chains.length qc) ∧ w'.cell? ⟨b, 2, none⟩ = some (.int .i64 s.p.epoch) ∧ w'.cell? ⟨b, 3, none⟩ = some (.slice pa s.p.chains.length pc) ∧ w'.cell? ⟨b, 4, none⟩ = some (.int .i64 (1 + 1)) ∧ w'.cell? ⟨b, 5, none⟩ = some (.int .i64 i)) ∧ w'.cell? ⟨b3, o3 + i, none⟩ = some (.int .i64 u)) (fun _ h => h.1) ?_
  replace hHeld := And.intro hHeld x0
  refine takeL 20 ?_
  refine takeL 21 ?_
  refine wpAnyH_ready (rs := [22]) (by kernel_rfl) (by simp) ?_
  refine AllReadyH.cons (o := _) rfl (fun K hK => ?_) AllReadyH.nil
  go_simp
  go_at_call 41
  with_reducible refine hct.mono ?_
  clear hct
  rintro e w4 ⟨rfl, rfl⟩
  try go_wp2_with fail
  refine hK.out _ _ ⟨⟨t0, t1, t2, t3, t4, t5⟩, x0⟩ (fun hHeld => ?_)
  clear hK K
  try simp only [Act.put, List.setIfInBounds_toArray, List.set_cons_zero, List.set_cons_succ]
  refine takeL 23 ?_
  refine wpAnyH_done (by kernel_rfl) ?_ _
  have hT := H.out.below HB.out
  have hsk : s.skipB = !g := by
    unfold ReS.skipB
    rw [Hg.out, Hu.out, Hup.out, Huq.out, Hii.out]
    simp [H1.out]
  have hnx := rreNext_any hT H1.out (by rw [Hii.out]; have := Hul.out; rw [← Hup.out] at this; omega) Hgd.out
  have Hsk := Lib.hid hsk
  have HT := Lib.hid hT
  clear hHeld hT hsk y0 y1 y2 y3 y4 y5 t0 t1 t2 t3 t4 t5 d0 d1 d2 d3 d4 d5 x0
  cases g
  · go_wp2_with fail
    refine hnx.mono ?_
    clear hnx
    rintro e w5 ⟨rfl, hA5, hM5⟩
    have HA5 := Lib.hid hA5
    have HM5 := Lib.hid hM5
    clear hA5 hM5
    go_wp2_with fail
    go_ret
    refine ⟨by rw [Hsk.out]; rfl, ?_, (Mod.of_below HB.out).trans HM5.out⟩
    unfold ReS.skip
    rw [Hsk.out]
    exact HA5.out
  · clear hnx
    go_wp2_with fail
    go_ret
    refine ⟨by rw [Hsk.out]; rfl, ?_, Mod.of_below HB.out⟩
    unfold ReS.skip
    rw [Hsk.out]
    exact HT.out
theorem rreSkip_any (h : RReAt w b S s) (hk : s.ok) : Calls Tryz.prog 20 #[.pointer (some ⟨b, 0, none⟩)] w fun e w' => e = .returned (.bool s.skipB) ∧ RReAt w' b S s.skip ∧ Mod (· = b) w w' := by
  by_cases h1 : s.at = 1
  · exact rreSkip_yes h h1 (hk.un h1) (hk.gp (by omega) (by omega))
  · exact rreSkip_no h h1
end
end Go.Proofs.YtghdhhbpbmhooaaGreat
