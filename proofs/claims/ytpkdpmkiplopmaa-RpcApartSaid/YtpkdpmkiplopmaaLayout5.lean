import Derived.Test.YtpkdpmkiplopmaaLayout4
/- the layout: a new one, and its questions -/
namespace Go.Proofs.Ytpkdpmkiplopmaa
open Go.RowKit Esch

def lay0 (q : Proj) : LayS := ⟨q, unitsOf q.units, -1, 0, -1⟩
theorem lay0_ok {q : Proj} (h : q.good) : (lay0 q).ok := ⟨h, fun _ hu => h.2.2.2.2.2.1 _ (mem_unitsOf.1 hu), fun _ hu => mem_unitsOf.2 hu⟩
def LayNew (w : World) (q : Proj) (e : Ending) (w' : World) : Prop := ∃ b mb, e = .returned (.tuple #[.pointer (some ⟨b, 0, none⟩), .int .i64 0]) ∧ LayAt (From w.heap.size) w' b mb 16 (lay0 q) ∧ Below w.heap.size w w'
theorem layEmpty (w : World) : LayAt (From w.heap.size) ((w.alloc (.map #[] 0)).alloc (.cells #[.int .i64 0, .slice none 0 0, .map (some w.heap.size), .int .i64 (-1), .int .i64 0, .int .i64 (-1)] 110)) (w.heap.size + 1) w.heap.size 0 ⟨p0, [], -1, 0, -1⟩ := by
  refine ⟨by go_simp; rfl, ⟨none, 0, by go_simp; rfl, ListsAt.nil _ _ _⟩, by go_simp, by go_simp, by go_simp, by go_simp, fun o ho => ?_, ?_, by omega, by show w.heap.size ≤ _; omega, Nat.le_refl _⟩
  · go_simp
  · refine ⟨[], #[], 0, ⟨?_, by simp, by simp, by simp, by simp⟩, fun u => by simp [Esch.get]⟩
    rw [alloc_old _ _ _ (by simp), alloc_new]
set_option maxRecDepth 100000 in
set_option maxHeartbeats 2000000 in
theorem layNew_any (S : Nat → Prop) (w : World) (q : Proj) (a : Option Addr) (c : Nat) (hq : q.good) (hl : ListsAt S w a q.chains) :
    Calls Try.prog 64 #[.agg #[.int .i64 q.epoch, .slice a q.chains.length c]] w (LayNew w q) := by
  obtain ⟨W0, hW0, hB0, hz0, c0, c1⟩ := oneBox w 24 (.int .i64 q.epoch) (.slice a q.chains.length c)
  have HW0 := Lib.hid hW0
  have hmm := @run_makeMap Try.prog
  have hls0 := hl.mod (Mod.of_below (F := none') hB0) (fun _ _ _ => id)
  have hg := good_any S W0 q.epoch a c q.chains hls0
  rw [show goodB ⟨q.epoch, q.chains⟩ = true from decide_eq_true hq] at hg
  have Hl := Lib.hid hl
  have Hq := Lib.hid hq
  clear hW0 hls0 hl hq
  go_enter Try.func64, Try.ntmps64
  go_wp2_with fail
  rw [← HW0.out]
  refine hg.mono ?_
  clear hg
  rintro r w1 ⟨rfl, hB1⟩
  have hz1 := hB1.size
  have hBw1 := hB0.trans (hB1.mono (by omega))
  replace c0 := below_at hB1 c0 (by omega)
  replace c1 := below_at hB1 c1 (by omega)
  have hlz : w.heap.size < w1.heap.size := by omega
  have hE := layEmpty w1
  have hB2 : Below w1.heap.size w1 ((w1.alloc (.map #[] 0)).alloc (.cells #[.int .i64 0, .slice none 0 0, .map (some w1.heap.size), .int .i64 (-1), .int .i64 0, .int .i64 (-1)] 110)) := by (repeat (first | with_reducible exact (Below.refl _ _) | with_reducible refine Below.drew ?_ | with_reducible refine Esch.below_drewN ?_ _ | with_reducible refine Below.setCell ?_ (by first | omega | (simp; done) | (simp; omega)) _ | with_reducible refine Below.alloc ?_ (by first | omega | (simp; done) | (simp; omega)) _))
  have hz2 : ((w1.alloc (.map #[] 0)).alloc (.cells #[.int .i64 0, .slice none 0 0, .map (some w1.heap.size), .int .i64 (-1), .int .i64 0, .int .i64 (-1)] 110)).heap.size = w1.heap.size + 2 := by simp
  have hcn := layCount_any (From w1.heap.size) (fun k => k < w.heap.size) _ (w1.heap.size + 1) w1.heap.size 0 _ q a c Hq.out (by omega) hE ((Hl.out.sub (T := fun k => k < w.heap.size) (fun k hk _ => hk)).mod (Mod.of_below (F := none') (hBw1.trans (hB2.mono (by omega)))) (fun _ _ _ => id)) (fun k hk _ => by omega)
  clear hE hB1
  go_wp2_with fail
  refine hcn.mono ?_
  clear hcn
  rintro e w3 ⟨rfl, hL, hM⟩
  go_wp2_with fail
  go_ret2
  refine ⟨w1.heap.size + 1, w1.heap.size, rfl, ?_, ?_⟩
  · refine LayAt.sub (S := fun k => From w1.heap.size k ∨ ((w1.alloc (.map #[] 0)).alloc (.cells #[.int .i64 0, .slice none 0 0, .map (some w1.heap.size), .int .i64 (-1), .int .i64 0, .int .i64 (-1)] 110)).heap.size ≤ k) hL ?_
    rintro k - (hk | hk)
    · have : w1.heap.size ≤ k := hk; show w.heap.size ≤ k; omega
    · show w.heap.size ≤ k; omega
  · exact (hBw1.trans (hB2.mono (by omega))).trans (hM.below_at (by omega) (fun k hk h => by omega))
set_option maxHeartbeats 1000000 in
theorem layNew_no (S : Nat → Prop) (w : World) (q : Proj) (a : Option Addr) (c : Nat) (hq : ¬ q.good) (hl : ListsAt S w a q.chains) :
    Calls Try.prog 64 #[.agg #[.int .i64 q.epoch, .slice a q.chains.length c]] w fun e w' => e = .returned (.tuple #[.pointer none, .int .i64 11]) ∧ Below w.heap.size w w' := by
  obtain ⟨W0, hW0, hB0, hz0, c0, c1⟩ := oneBox w 24 (.int .i64 q.epoch) (.slice a q.chains.length c)
  have HW0 := Lib.hid hW0
  have hg := good_any S W0 q.epoch a c q.chains (hl.mod (Mod.of_below (F := none') hB0) (fun _ _ _ => id))
  rw [show goodB ⟨q.epoch, q.chains⟩ = false from decide_eq_false hq] at hg
  clear hW0 hl hq
  go_enter Try.func64, Try.ntmps64
  go_wp2_with fail
  rw [← HW0.out]
  refine hg.mono ?_
  clear hg
  rintro r w1 ⟨rfl, hB1⟩
  go_wp2_with fail
  go_ret2
  exact ⟨rfl, hB0.trans (hB1.mono (by omega))⟩
end Go.Proofs.Ytpkdpmkiplopmaa
