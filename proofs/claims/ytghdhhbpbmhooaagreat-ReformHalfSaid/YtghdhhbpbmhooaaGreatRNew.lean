/- the document's nodes: made -/
import Derived.Test.YtghdhhbpbmhooaaGreatRLay
import Derived.Test.YtghdhhbpbmhooaaGreatRefOrder
namespace Go.Proofs.YtghdhhbpbmhooaaGreat
open Go.RowKit Esch

theorem rpgNew_any (w : World) (room : Nat) (h1 : 1 ≤ room) (h2 : room ≤ 4096) : Calls Tryz.prog 108 #[.int .i64 room] w fun e w' => e = .returned (.tuple #[.pointer (some ⟨w.heap.size, 0, none⟩), .int .i64 0]) ∧ Below w.heap.size w w' := by
  have k1 : (1 : Int) ≤ room := by omega
  have k2 : (room : Int) ≤ 4096 := by omega
  go_enter Tryz.func108, Tryz.ntmps108
  go_wp2_with fail
  go_ret2
  exact ⟨rfl, by exact belC (Below.refl _ _)⟩
theorem runNew_any (w : World) (room : Nat) (h1 : 1 ≤ room) (h2 : room ≤ 4096) : Calls Tryz.prog 91 #[.int .i64 room] w fun e w' => ∃ u, e = .returned (.tuple #[.pointer (some ⟨u, 0, none⟩), .int .i64 0]) ∧ Below w.heap.size w w' := by
  go_enter Tryz.func91, Tryz.ntmps91
  go_wp2_with fail
  refine (rpgNew_any w room h1 h2).mono ?_
  rintro e w1 ⟨rfl, hB⟩
  go_wp2_with fail
  go_ret2
  have hz := hB.size
  exact ⟨w1.heap.size, rfl, by exact belC hB⟩
theorem rordNew_any (w : World) : Calls Tryz.prog 90 #[] w fun e w' => ∃ b, e = .returned (.pointer (some ⟨b, 0, none⟩)) ∧ ROrdAt w' b ⟨-1, false, 0⟩ ∧ w.heap.size ≤ b ∧ Below w.heap.size w w' := by
  go_enter Tryz.func90, Tryz.ntmps90
  go_wp2_with fail
  go_ret
  exact ⟨w.heap.size, rfl, ⟨by go_simp, by go_simp, by go_simp, by go_simp, by go_simp, by go_simp⟩, Nat.le_refl _, (Below.refl _ _).alloc (Nat.le_refl _) _⟩
/-- the document's nodes that are being made -/
structure RNewAt (w0 : World) (qb nb ob : Nat) (ep : Int) (w : World) : Prop where
  us : ∀ j, j < 16 → ∃ a, w.cell? ⟨nb, j, none⟩ = some (.pointer a)
  fr : ∀ j, j < 16 → w.frozen? ⟨nb, j, none⟩ = false
  c16 : w.cell? ⟨nb, 16, none⟩ = some (.pointer (some ⟨ob, 0, none⟩))
  ord : ROrdAt w ob ⟨-1, false, 0⟩
  box : w.cell? ⟨qb, 0, none⟩ = some (.int .i64 ep)
  below : Below w0.heap.size w0 w
  h1 : w0.heap.size ≤ nb
  h2 : w0.heap.size ≤ ob
  h3 : ob ≠ nb
  h4 : qb ≠ nb
  h5 : qb ≠ ob
theorem RNewAt.below' {w0 w w' : World} {qb nb ob : Nat} {ep : Int} (h : RNewAt w0 qb nb ob ep w) (hB : Below w.heap.size w w') : RNewAt w0 qb nb ob ep w' := by
  have hn := cell_lt h.c16
  refine ⟨fun j hj => ?_, fun j hj => (hB.frozen (p := ⟨nb, j, none⟩) hn).trans (h.fr j hj), below_at hB h.c16 hn, h.ord.mod (F := none') (Mod.of_below hB) id, below_at hB h.box (cell_lt h.box), h.below.trans (hB.mono h.below.size), h.h1, h.h2, h.h3, h.h4, h.h5⟩
  obtain ⟨a, ha⟩ := h.us j hj
  exact ⟨a, below_at hB ha hn⟩
theorem RNewAt.set {w0 w : World} {qb nb ob k : Nat} {ep : Int} (h : RNewAt w0 qb nb ob ep w) (hk : k < 16) (a : Option Addr) : RNewAt w0 qb nb ob ep (w.setCell ⟨nb, k, none⟩ (.pointer a)) := by
  have hn := cell_lt h.c16
  have hM : Mod (· = nb) w (w.setCell ⟨nb, k, none⟩ (.pointer a)) := (Mod.refl (· = nb) w).setCellAt (fun _ => rfl) _
  refine ⟨fun j hj => ?_, fun j hj => ?_, ?_, h.ord.mod hM h.h3, hM.at h.box h.h4, h.below.setCell h.h1 _, h.h1, h.h2, h.h3, h.h4, h.h5⟩
  · obtain ⟨b, hb⟩ := h.us j hj
    by_cases e : j = k
    · subst e
      exact ⟨a, by go_simp⟩
    · exact ⟨b, by go_simp⟩
  · have := h.fr j hj
    go_simp
  · have := h.c16
    go_simp
def RNewRel (w0 : World) (qb nb ob : Nat) (ep : Int) (g : Nat) (s9 : Value) (wr : World) : Prop := ∃ k : Nat, g = 16 - k ∧ k ≤ 16 ∧ s9 = .int .i64 k ∧ RNewAt w0 qb nb ob ep wr
set_option maxRecDepth 100000 in
set_option maxHeartbeats 2000000 in
theorem ref13New_any (S : Nat → Prop) (w : World) (q : Proj) (a : Option Addr) (c room : Nat) (hq : q.good) (hl : ListsAt S w a q.chains) (h1 : 1 ≤ room) (h2 : room ≤ 4096) :
    Calls Tryz.prog 57 #[.agg #[.int .i64 q.epoch, .slice a q.chains.length c], .int .i64 room] w fun e w' => ∃ b, e = .returned (.tuple #[.pointer (some ⟨b, 0, none⟩), .int .i64 0]) ∧ Below w.heap.size w w' := by
  obtain ⟨W0, hW0, hB0, hz0, p0, p1⟩ := oneBox w 24 (.int .i64 q.epoch) (.slice a q.chains.length c)
  have hln := rlayNew_any S W0 q a c hq (hl.mod (F := none') (Mod.of_below hB0) (fun _ _ _ => id))
  have HW0 := Lib.hid hW0
  clear hW0 hl hq
  go_enter Tryz.func57, Tryz.ntmps57
  go_wp2_with fail
  rw [← HW0.out]
  refine hln.mono ?_
  clear hln
  rintro e w1 ⟨lb, rfl, hL1, hB1⟩
  have hz1 := hB1.size
  have hon := rordNew_any w1
  go_wp2_with fail
  refine hon.mono ?_
  clear hon
  rintro e w2 ⟨ob, rfl, hO2, hob, hB2⟩
  have hz2 := hB2.size
  have hol := hO2.lt
  obtain ⟨nb, hnb⟩ : ∃ nb, nb = w2.heap.size := ⟨_, rfl⟩
  obtain ⟨W3, hW3⟩ : ∃ W3, W3 = w2.alloc (.cells #[.pointer none, .pointer none, .pointer none, .pointer none, .pointer none, .pointer none, .pointer none, .pointer none, .pointer none, .pointer none, .pointer none, .pointer none, .pointer none, .pointer none, .pointer none, .pointer none, .pointer (some ⟨ob, 0, none⟩), .pointer (some ⟨lb, 0, none⟩)] 168) := ⟨_, rfl⟩
  have hN0 : RNewAt w w.heap.size nb ob q.epoch W3 := by
    have hB3 : Below w2.heap.size w2 W3 := by rw [hW3]; exact belC (Below.refl _ _)
    refine ⟨fun j hj => ⟨none, ?_⟩, fun j hj => ?_, by rw [hW3, hnb]; go_simp, hO2.mod (F := none') (Mod.of_below hB3) id, below_at hB3 (below_at hB2 (below_at hB1 p0 (by omega)) (by omega)) (by omega), hB0.trans ((hB1.trans ((hB2.trans (hB3.mono (by omega))).mono hz1)).mono (by omega)), by omega, by omega, by omega, by omega, by omega⟩
    · rw [hW3, hnb]
      have : j = 0 ∨ j = 1 ∨ j = 2 ∨ j = 3 ∨ j = 4 ∨ j = 5 ∨ j = 6 ∨ j = 7 ∨ j = 8 ∨ j = 9 ∨ j = 10 ∨ j = 11 ∨ j = 12 ∨ j = 13 ∨ j = 14 ∨ j = 15 := by omega
      rcases this with rfl | rfl | rfl | rfl | rfl | rfl | rfl | rfl | rfl | rfl | rfl | rfl | rfl | rfl | rfl | rfl <;> go_simp
    · rw [hW3, hnb]
      go_simp
  have HN0 := Lib.hid hN0
  have HW3 := Lib.hid hW3
  have Hnb := Lib.hid hnb
  clear hN0 hW3 hnb hB2 hB1 hL1 hO2 p0 p1 hB0
  go_wp2_with fail
  rw [← HW3.out, ← Hnb.out]
  go_loopg [9] 16 (fun g s9 wr => RNewRel w w.heap.size nb ob q.epoch g s9 wr)
  case atStart => exact ⟨0, rfl, by omega, rfl, HN0.out⟩
  case round =>
    obtain ⟨k, rfl, hk, rfl, hN⟩ := hrel
    have HN := Lib.hid hN
    by_cases hlt : k < 16
    · have hun := runNew_any wr room h1 h2
      clear hN
      go_wp2_with fail
      refine hun.mono ?_
      clear hun
      rintro e w5 ⟨u, rfl, hB5⟩
      have HN5 := Lib.hid (HN.out.below' hB5)
      obtain ⟨a5, ha5⟩ := HN5.out.us k hlt
      have hf5 := HN5.out.fr k hlt
      have hn5 := cell_lt ha5
      have k0 : (0 : Int) ≤ k := by omega
      have k1 : (k : Int) < 16 := by omega
      clear hB5
      go_wp2_with fail
      go_roundg (16 - (k + 1))
      case measure => omega
      case rel => exact ⟨k + 1, rfl, by omega, by go_num, HN5.out.set hlt _⟩
    · obtain rfl : k = 16 := by omega
      have hod := fun W (hW : Mod none' wr W) => rordDo_any 0 q.epoch 0 0 0 ⟨#[]⟩ 0 none 0 0 8 W ob ⟨-1, false, 0⟩ (by unfold Ord.ok; decide) (hN.ord.mod (F := none') hW id)
      have c16 := hN.c16
      have bx := hN.box
      clear hlt hN
      go_wp2_with fail
      refine region_tail 7 (by kernel_rfl) (by kernel_rfl) (fun T hT K hK => ?_)
      simp only [List.take_succ_cons, List.take_zero]
      repeat still_step
      refine wpStill_nil (hK _ ?_)
      clear hK
      simp only [List.drop_succ_cons, List.drop_zero] at hT
      subst hT
      go_wp2_with fail
      refine (hod _ (by exact modC (Mod.refl _ _))).mono ?_
      clear hod
      rintro e w6 ⟨rfl, hO6, hM6'⟩
      have hM6 : Mod (· = ob) wr w6 := ((Mod.refl _ wr).drew).trans hM6'
      have HM6 := Lib.hid hM6
      clear hO6 hM6 hM6' c16 bx
      go_wp2_with fail
      go_ret2
      have hN := HN.out
      exact ⟨nb, rfl, hN.below.trans (HM6.out.below_at hN.below.size (fun j hj e => by have := hN.h2; omega))⟩
end Go.Proofs.YtghdhhbpbmhooaaGreat
