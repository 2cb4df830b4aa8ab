/- the document's layout: New, Used, may -/
import Derived.Test.YtghdhhbpbmhooaaGreatLayout6
namespace Go.Proofs.YtghdhhbpbmhooaaGreat
open Go.RowKit Esch

structure RLayAt (S : Nat → Prop) (w : World) (b : Nat) (s : LayS) : Prop where
  c0 : w.cell? ⟨b, 0, none⟩ = some (.int .i64 s.p.epoch)
  c1 : ∃ a c, w.cell? ⟨b, 1, none⟩ = some (.slice a s.p.chains.length c) ∧ ListsAt (fun k => S k ∧ k ≠ b) w a s.p.chains
  c2 : ∃ a c, w.cell? ⟨b, 2, none⟩ = some (.slice a s.used.length c) ∧ IntsAt (fun k => S k ∧ k ≠ b) w a s.used ∧ CapOk s.used c
  c3 : w.cell? ⟨b, 3, none⟩ = some (.int .i64 s.mark)
  c4 : w.cell? ⟨b, 4, none⟩ = some (.int .i64 s.size)
  c5 : w.cell? ⟨b, 5, none⟩ = some (.int .i64 s.n)
  fr : ∀ o, o < 6 → w.frozen? ⟨b, o, none⟩ = false
  sb : S b

def RLayNew (w : World) (q : Proj) (e : Ending) (w' : World) : Prop := ∃ b, e = .returned (.tuple #[.pointer (some ⟨b, 0, none⟩), .int .i64 0]) ∧ RLayAt (From w.heap.size) w' b (lay0 q) ∧ Below w.heap.size w w'
set_option maxRecDepth 100000 in
set_option maxHeartbeats 2000000 in
theorem rlayNew_any (S : Nat → Prop) (w : World) (q : Proj) (a : Option Addr) (c : Nat) (hq : q.good) (hl : ListsAt S w a q.chains) :
    Calls Tryz.prog 89 #[.agg #[.int .i64 q.epoch, .slice a q.chains.length c]] w (RLayNew w q) := by
  obtain ⟨W0, hW0, hB0, hz0, c0, c1⟩ := oneBox w 24 (.int .i64 q.epoch) (.slice a q.chains.length c)
  have HW0 := Lib.hid hW0
  have hg := rgood_any S W0 q.epoch a c q.chains (hl.mod (Mod.of_below (F := none') hB0) (fun _ _ _ => id))
  rw [show goodB ⟨q.epoch, q.chains⟩ = true from decide_eq_true hq] at hg
  have Hl := Lib.hid (hl.sub (T := fun k => k < w.heap.size) (fun k hk _ => hk))
  have Hq := Lib.hid hq
  clear hl hq hW0
  go_enter Tryz.func89, Tryz.ntmps89
  go_wp2_with fail
  rw [← HW0.out]
  refine hg.mono ?_
  clear hg
  rintro r w1 ⟨rfl, hB1⟩
  have hz1 := hB1.size
  have hBw1 := hB0.trans (hB1.mono (by omega))
  replace c0 := below_at hB1 c0 (by omega)
  replace c1 := below_at hB1 c1 (by omega)
  have hcp := copyK_any _ w1.drew q.epoch a c q.chains (good_small Hq.out) (Hl.out.mod (F := none') ((Mod.of_below hBw1).drew) (fun _ _ _ => id))
  obtain ⟨qb, hqb⟩ : ∃ qb, qb = w.heap.size := ⟨_, rfl⟩
  have hq1 : qb < w1.heap.size := by omega
  go_wp2_with fail
  rw [← hqb] at c0 c1 ⊢
  clear hqb
  have c0' : w1.drew.cell? ⟨qb, 0, none⟩ = some (.int .i64 q.epoch) := c0
  have c1' : w1.drew.cell? ⟨qb, 1, none⟩ = some (.slice a q.chains.length c) := c1
  go_region_held3 (fun w' => w'.cell? ⟨qb, 0, none⟩ = some (.int .i64 q.epoch) ∧ w'.cell? ⟨qb, 1, none⟩ = some (.slice a q.chains.length c))
    (first
      | with_reducible exact ⟨c0', c1'⟩
      | with_reducible exact ⟨z0, z1⟩
      | with_reducible exact ⟨y0, y1⟩
      | with_reducible exact ⟨(cell_alloc_lt _ _ _ _ hq3).trans y0, (cell_alloc_lt _ _ _ _ hq3).trans y1⟩)
    (first
      | (go_at_call 11; (with_reducible refine hcp.mono ?_); rintro e w2 ⟨xa, xc, rfl, hx2, hB2'⟩
         have hB2 : Below w1.heap.size w1 w2 := below_drew hB2'
         clear hB2'
         have z0 := below_at hB2 c0 hq1
         have z1 := below_at hB2 c1 hq1
         have hun := runits_any _ w2 q.epoch a c q.chains (good_small Hq.out) (Hl.out.mod (F := none') (Mod.of_below (hBw1.trans (hB2.mono hBw1.size))) (fun _ _ _ => id)))
      | (go_at_call 40; (with_reducible refine hun.mono ?_); rintro e w3 ⟨ua, uc, rfl, hu3, hB3, hcap⟩
         have y0 := below_at hB3 z0 (by have := hB2.size; omega)
         have y1 := below_at hB3 z1 (by have := hB2.size; omega)
         have hq3 : qb < w3.heap.size := by have := hB2.size; have := hB3.size; omega))
  go_wp2_with fail
  go_ret2
  have hz2 := hB2.size
  have hz3 := hB3.size
  refine ⟨w3.heap.size, rfl, ?_, (by exact belC ((hBw1.trans (hB2.mono hBw1.size)).trans (hB3.mono (by omega))))⟩
  refine ⟨by go_simp; rfl, ⟨xa, xc, by go_simp; rfl, ?_⟩, ⟨ua, uc, by go_simp; rfl, ?_, hcap⟩, by go_simp; rfl, by go_simp; rfl, by go_simp; rfl, fun o ho => ?_, by show w.heap.size ≤ _; omega⟩
  · refine ((hx2.sub (T := fun k => w1.heap.size ≤ k ∧ k < w2.heap.size) (fun k hk h => ⟨h, hk⟩)).mod (F := none') ((Mod.of_below hB3).alloc _) (fun _ _ _ => id)).sub (fun k _ hk => ⟨by show w.heap.size ≤ k; omega, by omega⟩)
  · refine ((hu3.sub (T := fun k => w2.heap.size ≤ k ∧ k < w3.heap.size) (fun k hk h => ⟨h, hk⟩)).mod (F := none') ((Mod.refl none' _).alloc _) (fun _ _ _ => id)).sub (fun k _ hk => ⟨by show w.heap.size ≤ k; omega, by omega⟩)
  · have : o = 0 ∨ o = 1 ∨ o = 2 ∨ o = 3 ∨ o = 4 ∨ o = 5 := by omega
    rcases this with rfl | rfl | rfl | rfl | rfl | rfl <;> go_simp
end Go.Proofs.YtghdhhbpbmhooaaGreat
