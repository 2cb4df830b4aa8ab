/- package inode: keep, Make, Link, Truncate -/
import Derived.Test.YtakbalmbkokklaaGreatIno
import Derived.StillTailTactics
import Derived.Deep.RegionHeld3
namespace Esch
open Go Go.RowKit
theorem keep_m (s : TabS) (x : InS) (may : Bool) : (s.keep x may).next = s.next := by unfold TabS.keep; split <;> rfl
end Esch
namespace Go.Proofs.YtakbalmbkokklaaGreat
open Go.RowKit Esch Go.Shelf

def TabPost (w : World) (b : Nat) (S : Nat → Prop) (r : Int × TabS) (e : Ending) (w' : World) : Prop := e = .returned (.int .i64 r.1) ∧ TabAt w' b S r.2 ∧ Mod S w w'
/-- the map alone is written -/
theorem _root_.Esch.TabAt.put {w W : World} {b mb : Nat} {S : Nat → Prop} {s : TabS} {m' : List (Int × InS)} (h : TabAt w b S s) (c0 : w.cell? ⟨b, 0, none⟩ = some (.map (some mb))) (hM : Mod (· = mb) w W) (hm : MpAt W mb iV inV m') : TabAt W b S { s with m := m' } ∧ Mod S w W := by
  obtain ⟨sb, lt, mb', d0, d1, f1, -, sm, n1⟩ := h
  obtain rfl : mb' = mb := by rw [d0] at c0; cases c0; rfl
  have hb : ¬ b = mb' := fun e => n1 e.symm
  exact ⟨⟨sb, fun k hk => Nat.lt_of_lt_of_le (lt k hk) hM.size, mb', hM.at d0 hb, hM.at d1 hb, (hM.frozen (p := ⟨b, 1, none⟩) (cell_lt d1) hb).trans f1, hm, sm, n1⟩, hM.mono fun k _ hk => by have hk : k = mb' := hk; rw [hk]; exact sm⟩
set_option maxRecDepth 100000 in
set_option maxHeartbeats 4000000 in
theorem inoKeep_any (w : World) (b : Nat) (S : Nat → Prop) (s : TabS) (h : TabAt w b S s) (x : InS) (may : Bool) (hb0 : 0 ≤ x.links) (hb1 : x.links ≤ 1000) (hb2 : 0 ≤ x.opens) (hb3 : x.opens ≤ 1000) :
    Calls Tryz.prog 92 #[.pointer (some ⟨b, 0, none⟩), inV x, .bool may] w (TabPost w b S (0, s.keep x may)) := by
  obtain ⟨W1, hW1⟩ : ∃ W1, W1 = w.alloc (.cells #[.int .i64 x.ino, .int .i64 x.kind, .int .i64 x.links, .int .i64 x.opens, .int .i64 x.size, .slice none 0 0] 85) := ⟨_, rfl⟩
  have hB1 : Below w.heap.size w W1 := by rw [hW1]; exact belC (Below.refl _ _)
  have H1 := h.below' hB1
  have hm1 : Mod S w W1 := Mod.of_below hB1
  have bx : w.heap.size ≠ b := fun e => by have := h.lt b h.sb; omega
  obtain ⟨sb, lt, mb, c0, c1, f1, hm, sm, n1⟩ := H1
  have bm : w.heap.size ≠ mb := fun e => by
    obtain ⟨-, hlt, mb', d0, -, -, -, sm', -⟩ := h
    have := below_at hB1 d0 (cell_lt d0)
    rw [c0] at this
    cases this
    have := hlt _ sm'
    omega
  have x0 : W1.cell? ⟨w.heap.size, 0, none⟩ = some (.int .i64 x.ino) := by rw [hW1]; go_simp
  have x1 : W1.cell? ⟨w.heap.size, 1, none⟩ = some (.int .i64 x.kind) := by rw [hW1]; go_simp
  have x2 : W1.cell? ⟨w.heap.size, 2, none⟩ = some (.int .i64 x.links) := by rw [hW1]; go_simp
  have x3 : W1.cell? ⟨w.heap.size, 3, none⟩ = some (.int .i64 x.opens) := by rw [hW1]; go_simp
  have x4 : W1.cell? ⟨w.heap.size, 4, none⟩ = some (.int .i64 x.size) := by rw [hW1]; go_simp
  have x5 : W1.cell? ⟨w.heap.size, 5, none⟩ = some (.slice none 0 0) := by rw [hW1]; go_simp
  have hmd := hm.mod (F := none') (w' := W1.drew) (by exact modC (Mod.refl _ _)) id
  obtain ⟨W2, hu, hm2, hM2, hz2⟩ := MapAt.upz hmd keyInt Tryz.underlying82 x.ino x
  have hM2' : Mod (· = mb) W1 W2 := (show Mod (· = mb) W1 W1.drew by exact modC (Mod.refl _ _)).trans hM2
  have e0 := hM2'.at c0 (fun e => n1 e.symm)
  have y0 := hM2'.at x0 bm
  have y2 := hM2'.at x2 bm
  have y3 := hM2'.at x3 bm
  have hP2 := (show TabAt W1 b S s from ⟨sb, lt, mb, c0, c1, f1, hm, sm, n1⟩).put c0 hM2' hm2
  simp only [iV, inV] at hu ⊢
  have d0 : W1.drew.cell? ⟨b, 0, none⟩ = some (.map (some mb)) := c0
  have z0 : W1.drew.cell? ⟨w.heap.size, 0, none⟩ = some (.int .i64 x.ino) := x0
  have z1 : W1.drew.cell? ⟨w.heap.size, 1, none⟩ = some (.int .i64 x.kind) := x1
  have z2 : W1.drew.cell? ⟨w.heap.size, 2, none⟩ = some (.int .i64 x.links) := x2
  have z3 : W1.drew.cell? ⟨w.heap.size, 3, none⟩ = some (.int .i64 x.opens) := x3
  have z4 : W1.drew.cell? ⟨w.heap.size, 4, none⟩ = some (.int .i64 x.size) := x4
  have z5 : W1.drew.cell? ⟨w.heap.size, 5, none⟩ = some (.slice none 0 0) := x5
  have HW1 := Lib.hid hW1
  have HP2 := Lib.hid hP2
  have Hm1 := Lib.hid hm1
  have hwr : wrap64 (x.links + x.opens) = x.links + x.opens := by unfold wrap64; omega
  cases may
  · have hk : s.keep x false = { s with m := set s.m x.ino x } := by unfold TabS.keep; rw [if_neg (by simp)]
    rw [hk]
    obtain ⟨xi, xk, xl, xo, xs⟩ := x
    simp only at *
    clear hm hmd hM2 hM2' hm2 hP2 hm1 h hB1 hW1 hk x0 x1 x2 x3 x4 x5 hwr hb0 hb1 hb2 hb3 bx bm y0 y2 y3
    go_enter Tryz.func92, Tryz.ntmps92
    go_wp2_with fail
    rw [← HW1.out]
    refine region_tail 7 (by kernel_rfl) (by kernel_rfl) (fun T hT K hK => ?_)
    simp only [List.take_succ_cons, List.take_zero]
    repeat still_step
    refine wpStill_nil (hK _ ?_)
    clear hK
    simp only [List.drop_succ_cons, List.drop_zero] at hT
    subst hT
    go_wp2_with fail
    go_ret
    exact ⟨rfl, HP2.out.1, Hm1.out.trans HP2.out.2⟩
  · by_cases hz : x.links + x.opens = 0
    rotate_left 1
    · have hk : s.keep x true = { s with m := set s.m x.ino x } := by unfold TabS.keep; rw [if_neg (fun h => hz h.2)]
      rw [hk]
      have hz2 : (x.links + x.opens == 0) = false := by simpa using hz
      obtain ⟨xi, xk, xl, xo, xs⟩ := x
      simp only at *
      clear hm hmd hM2 hM2' hm2 hP2 hm1 h hB1 hW1 hk x0 x1 x2 x3 x4 x5 hb0 hb1 hb2 hb3 bx bm hz
      go_enter Tryz.func92, Tryz.ntmps92
      go_wp2_with fail
      rw [← HW1.out]
      refine region_tail 7 (by kernel_rfl) (by kernel_rfl) (fun T hT K hK => ?_)
      simp only [List.take_succ_cons, List.take_zero]
      repeat still_step
      refine wpStill_nil (hK _ ?_)
      clear hK
      simp only [List.drop_succ_cons, List.drop_zero] at hT
      subst hT
      go_wp2_with fail
      go_ret
      exact ⟨rfl, HP2.out.1, Hm1.out.trans HP2.out.2⟩
    · have hk : s.keep x true = { s with m := del (set s.m x.ino x) x.ino } := by unfold TabS.keep; rw [if_pos ⟨rfl, hz⟩]
      rw [hk]
      have hz2 : (x.links + x.opens == 0) = true := by simpa using hz
      obtain ⟨W3, hd, hm3, hM3, -⟩ := MapAt.delz (hm2.mod (F := none') (w' := W2.drew) (by exact modC (Mod.refl _ _)) id) keyInt Tryz.underlying82 x.ino #[82, 3] 0 rfl
      have hM3' : Mod (· = mb) W1 W3 := hM2'.trans ((show Mod (· = mb) W2 W2.drew by exact modC (Mod.refl _ _)).trans' hM3 (fun _ _ h => h))
      have hP3 := (show TabAt W1 b S s from ⟨sb, lt, mb, c0, c1, f1, hm, sm, n1⟩).put c0 hM3' hm3
      have HP3 := Lib.hid hP3
      simp only [iV] at hd
      have u0 : W2.drew.cell? ⟨b, 0, none⟩ = some (.map (some mb)) := e0
      have v0 : W2.drew.cell? ⟨w.heap.size, 0, none⟩ = some (.int .i64 x.ino) := y0
      obtain ⟨xi, xk, xl, xo, xs⟩ := x
      simp only at *
      clear hm hmd hM2 hM2' hm2 hP2 hm1 h hB1 hW1 hk x0 x1 x2 x3 x4 x5 hb0 hb1 hb2 hb3 bx bm hz hm3 hM3 hM3' hP3
      go_enter Tryz.func92, Tryz.ntmps92
      go_wp2_with fail
      rw [← HW1.out]
      refine region_tail 7 (by kernel_rfl) (by kernel_rfl) (fun T hT K hK => ?_)
      simp only [List.take_succ_cons, List.take_zero]
      repeat still_step
      refine wpStill_nil (hK _ ?_)
      clear hK
      simp only [List.drop_succ_cons, List.drop_zero] at hT
      subst hT
      go_wp2_with fail
      refine region_tail 6 (by kernel_rfl) (by kernel_rfl) (fun T hT K hK => ?_)
      simp only [List.take_succ_cons, List.take_zero]
      repeat still_step
      refine wpStill_nil (hK _ ?_)
      clear hK
      simp only [List.drop_succ_cons, List.drop_zero] at hT
      subst hT
      go_wp2_with fail
      go_ret
      exact ⟨rfl, HP3.out.1, Hm1.out.trans HP3.out.2⟩
end Go.Proofs.YtakbalmbkokklaaGreat
