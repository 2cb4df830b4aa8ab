/- the document's sequencer -/
import Derived.Test.YtghdhhbpbmhooaaGreatOrder
namespace Go.Proofs.YtghdhhbpbmhooaaGreat
open Go.RowKit Esch

/-- the document's: epoch, tail, knows -/
structure ROrdAt (w : World) (b : Nat) (s : Ord) : Prop where
  c0 : w.cell? ⟨b, 0, none⟩ = some (.int .i64 s.epoch)
  c1 : w.cell? ⟨b, 1, none⟩ = some (.int .i64 s.tail)
  c2 : w.cell? ⟨b, 2, none⟩ = some (.bool s.knows)
  f0 : w.frozen? ⟨b, 0, none⟩ = false
  f1 : w.frozen? ⟨b, 1, none⟩ = false
  f2 : w.frozen? ⟨b, 2, none⟩ = false
theorem ROrdAt.lt {w : World} {b : Nat} {s : Ord} (h : ROrdAt w b s) : b < w.heap.size := cell_lt h.c0
theorem ROrdAt.mod {F : Nat → Prop} {w w' : World} {b : Nat} {s : Ord} (h : ROrdAt w b s) (hM : Mod F w w') (hb : ¬ F b) : ROrdAt w' b s := by
  have hl := h.lt
  exact ⟨hM.at h.c0 hb, hM.at h.c1 hb, hM.at h.c2 hb, (hM.frozen (p := ⟨b, 0, none⟩) hl hb).trans h.f0, (hM.frozen (p := ⟨b, 1, none⟩) hl hb).trans h.f1, (hM.frozen (p := ⟨b, 2, none⟩) hl hb).trans h.f2⟩
def RAnsPost (w : World) (b : Nat) (c n ep : Int) (s : Ord) (e : Ending) (w' : World) : Prop := e = .returned (ansV c n ep) ∧ ROrdAt w' b s ∧ Mod (· = b) w w'

section
variable (u e p z n : Int) (d : ByteArray) (pe : Int) (ca : Option Addr) (cn cc : Nat)
set_option maxHeartbeats 2000000 in
theorem rordDo_any (k : Int) (w : World) (b : Nat) (s : Ord) (ht : s.ok) (h : ROrdAt w b s) :
    Calls Tryz.prog 92 #[.pointer (some ⟨b, 0, none⟩), .agg #[.int .i64 k, .int .i64 u, .int .i64 e, .int .i64 p, .int .i64 z, .int .i64 n, .string d, .int .i64 pe, .slice ca cn cc]] w
      (RAnsPost w b (ordDo s k e p).1 (ordDo s k e p).2.1 (ordDo s k e p).2.2.epoch (ordDo s k e p).2.2) := by
  obtain ⟨se, sk, st⟩ := s
  obtain ⟨hc0, hc1, hc2, hf0, hf1, hf2⟩ := h
  obtain ⟨ht1, ht2⟩ := ht
  simp only at hc0 hc1 hc2 ht1 ht2
  have hl := cell_lt hc0
  by_cases h8 : k = 8
  · subst h8
    simp only [ordDo, if_true, ordStart]
    by_cases h1 : e ≤ se
    · rw [if_pos h1]
      go_enter Tryz.func92, Tryz.ntmps92
      go_wp2_with fail
      go_region
      go_wp2_with fail
      (refine bodyPost_ret (v := ansV 40 0 se) (by simp only [results, Tryz.results92]; go_simp) rfl ?_; refine ⟨rfl, ⟨?_, ?_, ?_, ?_, ?_, ?_⟩, ?_⟩ <;> first | (go_simp; done) | (repeat' (first | (with_reducible exact Mod.refl _ _) | (with_reducible apply Mod.drew) | (with_reducible apply Mod.drewN) | (with_reducible apply Mod.alloc) | (with_reducible apply Mod.setCellAt) | (intro _; rfl) | (intro h; exfalso; omega))))
    · rw [if_neg h1]
      have h1' : se < e := by omega
      by_cases h2 : p < 0 ∨ 16384 < p
      · rw [if_pos h2]
        have h3 : p < 0 ∨ (0 ≤ p ∧ 16384 < p) := by omega
        clear h2
        rcases h3 with h3 | ⟨h3, h4⟩
        all_goals
          go_enter Tryz.func92, Tryz.ntmps92
          go_wp2_with fail
          go_region
          go_wp2_with fail
          (refine bodyPost_ret (v := ansV 1 0 se) (by simp only [results, Tryz.results92]; go_simp) rfl ?_; refine ⟨rfl, ⟨?_, ?_, ?_, ?_, ?_, ?_⟩, ?_⟩ <;> first | (go_simp; done) | (repeat' (first | (with_reducible exact Mod.refl _ _) | (with_reducible apply Mod.drew) | (with_reducible apply Mod.drewN) | (with_reducible apply Mod.alloc) | (with_reducible apply Mod.setCellAt) | (intro _; rfl) | (intro h; exfalso; omega))))
      · rw [if_neg h2]
        have h3 : 0 ≤ p := by omega
        have h4 : p ≤ 16384 := by omega
        clear h2
        go_enter Tryz.func92, Tryz.ntmps92
        go_wp2_with fail
        go_region
        go_wp2_with fail
        go_region
        go_wp2_with fail
        (refine bodyPost_ret (v := ansV 0 0 e) (by simp only [results, Tryz.results92]; go_simp) rfl ?_; refine ⟨rfl, ⟨?_, ?_, ?_, ?_, ?_, ?_⟩, ?_⟩ <;> first | (go_simp; done) | (repeat' (first | (with_reducible exact Mod.refl _ _) | (with_reducible apply Mod.drew) | (with_reducible apply Mod.drewN) | (with_reducible apply Mod.alloc) | (with_reducible apply Mod.setCellAt) | (intro _; rfl) | (intro h; exfalso; omega))))
  · by_cases h6 : k = 6 ∨ k = 7
    · by_cases h1 : e = se
      · subst h1
        cases sk
        · rcases h6 with rfl | rfl
          all_goals
            simp only [ordDo, ordTold, Int.reduceEq, if_false, or_false, false_or, if_true, ne_eq, not_true_eq_false]
            go_enter Tryz.func92, Tryz.ntmps92
            go_wp2_with fail
            go_region
            go_wp2_with fail
            (refine bodyPost_ret (v := ansV 47 0 e) (by simp only [results, Tryz.results92]; go_simp) rfl ?_; refine ⟨rfl, ⟨?_, ?_, ?_, ?_, ?_, ?_⟩, ?_⟩ <;> first | (go_simp; done) | (repeat' (first | (with_reducible exact Mod.refl _ _) | (with_reducible apply Mod.drew) | (with_reducible apply Mod.drewN) | (with_reducible apply Mod.alloc) | (with_reducible apply Mod.setCellAt) | (intro _; rfl) | (intro h; exfalso; omega))))
        · rcases h6 with rfl | rfl
          · by_cases h2 : st = 16384
            · subst h2
              simp only [ordDo, ordTold, Int.reduceEq, if_false, or_false, if_true, ne_eq, not_true_eq_false, Bool.true_eq_false]
              go_enter Tryz.func92, Tryz.ntmps92
              go_wp2_with fail
              go_region
              go_wp2_with fail
              (refine bodyPost_ret (v := ansV 44 0 e) (by simp only [results, Tryz.results92]; go_simp) rfl ?_; refine ⟨rfl, ⟨?_, ?_, ?_, ?_, ?_, ?_⟩, ?_⟩ <;> first | (go_simp; done) | (repeat' (first | (with_reducible exact Mod.refl _ _) | (with_reducible apply Mod.drew) | (with_reducible apply Mod.drewN) | (with_reducible apply Mod.alloc) | (with_reducible apply Mod.setCellAt) | (intro _; rfl) | (intro h; exfalso; omega))))
            · simp only [ordDo, ordTold, Int.reduceEq, if_false, or_false, if_true, ne_eq, not_true_eq_false, Bool.true_eq_false, if_neg h2]
              have h3 : (st == 16384) = false := by simp [h2]
              have h4 : st < 16384 := by omega
              clear h2
              go_enter Tryz.func92, Tryz.ntmps92
              go_wp2_with fail
              go_region
              go_wp2_with fail
              (refine bodyPost_ret (v := ansV 0 st e) (by simp only [results, Tryz.results92]; go_simp) rfl ?_; refine ⟨rfl, ⟨?_, ?_, ?_, ?_, ?_, ?_⟩, ?_⟩ <;> first | (go_simp; done) | (repeat' (first | (with_reducible exact Mod.refl _ _) | (with_reducible apply Mod.drew) | (with_reducible apply Mod.drewN) | (with_reducible apply Mod.alloc) | (with_reducible apply Mod.setCellAt) | (intro _; rfl) | (intro h; exfalso; omega))))
          · simp only [ordDo, ordTold, Int.reduceEq, if_false, false_or, if_true, ne_eq, not_true_eq_false, Bool.true_eq_false]
            go_enter Tryz.func92, Tryz.ntmps92
            go_wp2_with fail
            go_region
            go_wp2_with fail
            (refine bodyPost_ret (v := ansV 0 st e) (by simp only [results, Tryz.results92]; go_simp) rfl ?_; refine ⟨rfl, ⟨?_, ?_, ?_, ?_, ?_, ?_⟩, ?_⟩ <;> first | (go_simp; done) | (repeat' (first | (with_reducible exact Mod.refl _ _) | (with_reducible apply Mod.drew) | (with_reducible apply Mod.drewN) | (with_reducible apply Mod.alloc) | (with_reducible apply Mod.setCellAt) | (intro _; rfl) | (intro h; exfalso; omega))))
      · have h2 : (e == se) = false := by simp [h1]
        rcases h6 with rfl | rfl
        all_goals
          simp only [ordDo, ordTold, Int.reduceEq, if_false, or_false, false_or, if_true, ne_eq, h1, not_false_eq_true]
          go_enter Tryz.func92, Tryz.ntmps92
          go_wp2_with fail
          go_region
          go_wp2_with fail
          (refine bodyPost_ret (v := ansV 40 0 se) (by simp only [results, Tryz.results92]; go_simp) rfl ?_; refine ⟨rfl, ⟨?_, ?_, ?_, ?_, ?_, ?_⟩, ?_⟩ <;> first | (go_simp; done) | (repeat' (first | (with_reducible exact Mod.refl _ _) | (with_reducible apply Mod.drew) | (with_reducible apply Mod.drewN) | (with_reducible apply Mod.alloc) | (with_reducible apply Mod.setCellAt) | (intro _; rfl) | (intro h; exfalso; omega))))
    · simp only [ordDo, h8, h6, if_false]
      have e8 : (k == 8) = false := by simp [h8]
      have e6 : (k == 6) = false := by simp; omega
      have e7 : (k == 7) = false := by simp; omega
      clear h8 h6
      go_enter Tryz.func92, Tryz.ntmps92
      go_wp2_with fail
      (refine bodyPost_ret (v := ansV 1 0 se) (by simp only [results, Tryz.results92]; go_simp) rfl ?_; refine ⟨rfl, ⟨?_, ?_, ?_, ?_, ?_, ?_⟩, ?_⟩ <;> first | (go_simp; done) | (repeat' (first | (with_reducible exact Mod.refl _ _) | (with_reducible apply Mod.drew) | (with_reducible apply Mod.drewN) | (with_reducible apply Mod.alloc) | (with_reducible apply Mod.setCellAt) | (intro _; rfl) | (intro h; exfalso; omega))))
end
end Go.Proofs.YtghdhhbpbmhooaaGreat
