/- the sequencer: what each of its calls does -/
import Derived.Test.YtghdhhbpbmhooaaGreatPkBase
import Derived.Test.YtghdhhbpbmhooaaGreatRows
import Derived.Lib.Hide
import Derived.RegionTactic
import Derived.BigRegion
namespace Go.Proofs.YtghdhhbpbmhooaaGreat
open Go.RowKit Esch

/-- an answer, as a value -/
@[simp] def ansV (c n ep : Int) : Value := .agg #[.int .i64 c, .int .i64 n, .string ⟨#[]⟩, .int .i64 0, .slice none 0 0, .int .i64 0, .int .i64 0, .int .i64 ep]
structure Ord where
  epoch : Int
  knows : Bool
  tail : Int
structure OrdAt (w : World) (b : Nat) (s : Ord) : Prop where
  c0 : w.cell? ⟨b, 0, none⟩ = some (.int .i64 s.epoch)
  c1 : w.cell? ⟨b, 1, none⟩ = some (.bool s.knows)
  c2 : w.cell? ⟨b, 2, none⟩ = some (.int .i64 s.tail)
  f0 : w.frozen? ⟨b, 0, none⟩ = false
  f1 : w.frozen? ⟨b, 1, none⟩ = false
  f2 : w.frozen? ⟨b, 2, none⟩ = false
theorem OrdAt.lt {w : World} {b : Nat} {s : Ord} (h : OrdAt w b s) : b < w.heap.size := cell_lt h.c0
theorem OrdAt.mod {F : Nat → Prop} {w w' : World} {b : Nat} {s : Ord} (h : OrdAt w b s) (hM : Mod F w w') (hb : ¬ F b) : OrdAt w' b s := by
  have hl := h.lt
  exact ⟨hM.at h.c0 hb, hM.at h.c1 hb, hM.at h.c2 hb, (hM.frozen (p := ⟨b, 0, none⟩) hl hb).trans h.f0, (hM.frozen (p := ⟨b, 1, none⟩) hl hb).trans h.f1, (hM.frozen (p := ⟨b, 2, none⟩) hl hb).trans h.f2⟩

/-- start: the code, and how it stands -/
def ordStart (s : Ord) (e p : Int) : Int × Ord :=
  if e ≤ s.epoch then (40, s) else if p < 0 ∨ 16384 < p then (1, s) else (0, ⟨e, true, p⟩)
def AnsPost (w : World) (b : Nat) (c n ep : Int) (s : Ord) (e : Ending) (w' : World) : Prop := e = .returned (ansV c n ep) ∧ OrdAt w' b s ∧ Mod (· = b) w w'

section
variable (u e p z n : Int) (d : ByteArray) (pe : Int) (ca : Option Addr) (cn cc : Nat)
set_option maxHeartbeats 1000000 in
theorem start_any (k : Int) (w : World) (b : Nat) (s : Ord) (h : OrdAt w b s) :
    Calls Tryz.prog 106 #[.pointer (some ⟨b, 0, none⟩), .agg #[.int .i64 k, .int .i64 u, .int .i64 e, .int .i64 p, .int .i64 z, .int .i64 n, .string d, .int .i64 pe, .slice ca cn cc]] w (AnsPost w b (ordStart s e p).1 0 0 (ordStart s e p).2) := by
  obtain ⟨hc0, hc1, hc2, hf0, hf1, hf2⟩ := h
  have hl := cell_lt hc0
  unfold ordStart
  by_cases h1 : e ≤ s.epoch
  · rw [if_pos h1]
    go_enter Tryz.func106, Tryz.ntmps106
    go_wp2_with fail
    go_region
    go_wp2_with fail
    (refine bodyPost_ret (v := ansV 40 0 0) (by simp [results, Tryz.results106, go_sem, ansV]) rfl ?_; refine ⟨rfl, ⟨?_, ?_, ?_, ?_, ?_, ?_⟩, ?_⟩ <;> first | (go_simp; done) | (repeat' (first | (with_reducible exact Mod.refl _ _) | (with_reducible apply Mod.drew) | (with_reducible apply Mod.drewN) | (with_reducible apply Mod.alloc) | (with_reducible apply Mod.setCellAt) | (intro _; rfl) | (intro h; exact absurd h (by simp)))))
  · rw [if_neg h1]
    have h1' : s.epoch < e := by omega
    by_cases h2 : p < 0 ∨ 16384 < p
    · rw [if_pos h2]
      have h3 : p < 0 ∨ (0 ≤ p ∧ 16384 < p) := by omega
      clear h2
      rcases h3 with h3 | ⟨h3, h4⟩
      all_goals
        go_enter Tryz.func106, Tryz.ntmps106
        go_wp2_with fail
        go_region
        go_wp2_with fail
        (refine bodyPost_ret (v := ansV 1 0 0) (by simp [results, Tryz.results106, go_sem, ansV]) rfl ?_; refine ⟨rfl, ⟨?_, ?_, ?_, ?_, ?_, ?_⟩, ?_⟩ <;> first | (go_simp; done) | (repeat' (first | (with_reducible exact Mod.refl _ _) | (with_reducible apply Mod.drew) | (with_reducible apply Mod.drewN) | (with_reducible apply Mod.alloc) | (with_reducible apply Mod.setCellAt) | (intro _; rfl) | (intro h; exact absurd h (by simp)))))
    · rw [if_neg h2]
      have h3 : 0 ≤ p := by omega
      have h4 : p ≤ 16384 := by omega
      clear h2
      go_enter Tryz.func106, Tryz.ntmps106
      go_wp2_with fail
      go_region
      go_wp2_with fail
      go_region
      go_wp2_with fail
      (refine bodyPost_ret (v := ansV 0 0 0) (by simp [results, Tryz.results106, go_sem, ansV]) rfl ?_; refine ⟨rfl, ⟨?_, ?_, ?_, ?_, ?_, ?_⟩, ?_⟩ <;> first | (go_simp; done) | (repeat' (first | (with_reducible exact Mod.refl _ _) | (with_reducible apply Mod.drew) | (with_reducible apply Mod.drewN) | (with_reducible apply Mod.alloc) | (with_reducible apply Mod.setCellAt) | (intro _; rfl) | (intro h; exact absurd h (by simp)))))

/-- a token, or the tail: the code, the number, and how it stands -/
def ordTold (s : Ord) (k e : Int) : Int × Int × Ord :=
  if e ≠ s.epoch then (40, 0, s) else if s.knows = false then (47, 0, s) else if k = 6 then (if s.tail = 16384 then (44, 0, s) else (0, s.tail, ⟨s.epoch, s.knows, s.tail + 1⟩)) else (0, s.tail, s)
set_option maxHeartbeats 1000000 in
theorem told_any (k : Int) (hk : k = 6 ∨ k = 7) (w : World) (b : Nat) (s : Ord) (ht : 0 ≤ s.tail ∧ s.tail ≤ 16384) (h : OrdAt w b s) :
    Calls Tryz.prog 107 #[.pointer (some ⟨b, 0, none⟩), .agg #[.int .i64 k, .int .i64 u, .int .i64 e, .int .i64 p, .int .i64 z, .int .i64 n, .string d, .int .i64 pe, .slice ca cn cc]] w (AnsPost w b (ordTold s k e).1 (ordTold s k e).2.1 0 (ordTold s k e).2.2) := by
  obtain ⟨se, sk, st⟩ := s
  obtain ⟨hc0, hc1, hc2, hf0, hf1, hf2⟩ := h
  obtain ⟨ht1, ht2⟩ := ht
  simp only at hc0 hc1 hc2 ht1 ht2
  have hl := cell_lt hc0
  unfold ordTold
  by_cases h1 : e = se
  · subst h1
    cases sk
    · rcases hk with rfl | rfl
      all_goals
        simp only [ne_eq, not_true_eq_false, if_false, if_true]
        go_enter Tryz.func107, Tryz.ntmps107
        go_wp2_with fail
        go_region
        go_wp2_with fail
        (refine bodyPost_ret (v := ansV 47 0 0) (by simp [results, Tryz.results107, go_sem, ansV]) rfl ?_; refine ⟨rfl, ⟨?_, ?_, ?_, ?_, ?_, ?_⟩, ?_⟩ <;> first | (go_simp; done) | (repeat' (first | (with_reducible exact Mod.refl _ _) | (with_reducible apply Mod.drew) | (with_reducible apply Mod.drewN) | (with_reducible apply Mod.alloc) | (with_reducible apply Mod.setCellAt) | (intro _; rfl) | (intro h; exact absurd h (by simp)))))
    · rcases hk with rfl | rfl
      · by_cases h2 : st = 16384
        · subst h2
          simp only [ne_eq, not_true_eq_false, if_false, if_true, Bool.true_eq_false]
          go_enter Tryz.func107, Tryz.ntmps107
          go_wp2_with fail
          go_region
          go_wp2_with fail
          (refine bodyPost_ret (v := ansV 44 0 0) (by simp [results, Tryz.results107, go_sem, ansV]) rfl ?_; refine ⟨rfl, ⟨?_, ?_, ?_, ?_, ?_, ?_⟩, ?_⟩ <;> first | (go_simp; done) | (repeat' (first | (with_reducible exact Mod.refl _ _) | (with_reducible apply Mod.drew) | (with_reducible apply Mod.drewN) | (with_reducible apply Mod.alloc) | (with_reducible apply Mod.setCellAt) | (intro _; rfl) | (intro h; exact absurd h (by simp)))))
        · simp only [ne_eq, not_true_eq_false, if_false, if_true, Bool.true_eq_false, if_neg h2]
          have h3 : (st == 16384) = false := by simp [h2]
          have h4 : st < 16384 := by omega
          clear h2
          go_enter Tryz.func107, Tryz.ntmps107
          go_wp2_with fail
          go_region
          go_wp2_with fail
          (refine bodyPost_ret (v := ansV 0 st 0) (by simp [results, Tryz.results107, go_sem, ansV]) rfl ?_; refine ⟨rfl, ⟨?_, ?_, ?_, ?_, ?_, ?_⟩, ?_⟩ <;> first | (go_simp; done) | (repeat' (first | (with_reducible exact Mod.refl _ _) | (with_reducible apply Mod.drew) | (with_reducible apply Mod.drewN) | (with_reducible apply Mod.alloc) | (with_reducible apply Mod.setCellAt) | (intro _; rfl) | (intro h; exact absurd h (by simp)))))
      · simp only [ne_eq, not_true_eq_false, if_false, Bool.true_eq_false, Int.reduceEq]
        go_enter Tryz.func107, Tryz.ntmps107
        go_wp2_with fail
        go_region
        go_wp2_with fail
        (refine bodyPost_ret (v := ansV 0 st 0) (by simp [results, Tryz.results107, go_sem, ansV]) rfl ?_; refine ⟨rfl, ⟨?_, ?_, ?_, ?_, ?_, ?_⟩, ?_⟩ <;> first | (go_simp; done) | (repeat' (first | (with_reducible exact Mod.refl _ _) | (with_reducible apply Mod.drew) | (with_reducible apply Mod.drewN) | (with_reducible apply Mod.alloc) | (with_reducible apply Mod.setCellAt) | (intro _; rfl) | (intro h; exact absurd h (by simp)))))
  · have h2 : (e == se) = false := by simp [h1]
    simp only [ne_eq, h1, not_false_eq_true, if_true]
    rcases hk with rfl | rfl
    all_goals
      go_enter Tryz.func107, Tryz.ntmps107
      go_wp2_with fail
      go_region
      go_wp2_with fail
      (refine bodyPost_ret (v := ansV 40 0 0) (by simp [results, Tryz.results107, go_sem, ansV]) rfl ?_; refine ⟨rfl, ⟨?_, ?_, ?_, ?_, ?_, ?_⟩, ?_⟩ <;> first | (go_simp; done) | (repeat' (first | (with_reducible exact Mod.refl _ _) | (with_reducible apply Mod.drew) | (with_reducible apply Mod.drewN) | (with_reducible apply Mod.alloc) | (with_reducible apply Mod.setCellAt) | (intro _; rfl) | (intro h; exact absurd h (by simp)))))

set_option maxHeartbeats 1000000 in
theorem doNo_any (k : Int) (w : World) : Calls Tryz.prog 105 #[.agg #[.int .i64 k, .int .i64 u, .int .i64 e, .int .i64 p, .int .i64 z, .int .i64 n, .string d, .int .i64 pe, .slice ca cn cc]] w
    fun e w' => e = .returned (ansV 1 0 0) ∧ Below w.heap.size w w' := by
  go_enter Tryz.func105, Tryz.ntmps105
  go_wp2_with fail
  exact bodyPost_ret (v := ansV 1 0 0) (by simp [results, Tryz.results105, go_sem, ansV]) rfl ⟨rfl, by repeat (first | exact Below.refl _ _ | refine Below.drew ?_ | refine Below.setCell ?_ (by simp) _ | refine Below.alloc ?_ (by simp) _)⟩

theorem doNo_post (k : Int) (w : World) (b : Nat) (s : Ord) (h : OrdAt w b s) : Calls Tryz.prog 105 #[.agg #[.int .i64 k, .int .i64 u, .int .i64 e, .int .i64 p, .int .i64 z, .int .i64 n, .string d, .int .i64 pe, .slice ca cn cc]] w
    (AnsPost w b 1 0 0 s) := (doNo_any u e p z n d pe ca cn cc k w).mono fun _ _ ⟨he, hb⟩ => ⟨he, h.mod (F := none') (Mod.of_below hb) id, Mod.of_below hb⟩

/-- a question: the code, the number, and how it stands -/
def ordDo (s : Ord) (k e p : Int) : Int × Int × Ord :=
  if k = 8 then ((ordStart s e p).1, 0, (ordStart s e p).2) else if k = 6 ∨ k = 7 then ordTold s k e else (1, 0, s)
def Ord.ok (s : Ord) : Prop := 0 ≤ s.tail ∧ s.tail ≤ 16384
theorem ordDo_ok {s : Ord} (h : s.ok) (k e p : Int) : (ordDo s k e p).2.2.ok := by
  unfold ordDo ordStart ordTold Ord.ok at *
  grind
set_option maxHeartbeats 1000000 in
theorem ordDo_any (k : Int) (w : World) (b : Nat) (s : Ord) (ht : s.ok) (h : OrdAt w b s) :
    Calls Tryz.prog 88 #[.pointer (some ⟨b, 0, none⟩), .agg #[.int .i64 k, .int .i64 u, .int .i64 e, .int .i64 p, .int .i64 z, .int .i64 n, .string d, .int .i64 pe, .slice ca cn cc]] w (AnsPost w b (ordDo s k e p).1 (ordDo s k e p).2.1 (ordDo s k e p).2.2.epoch (ordDo s k e p).2.2) := by
  have hl := h.lt
  have hA := fun o => h.mod ((Mod.refl none' w).alloc o) id
  by_cases h8 : k = 8
  · subst h8
    simp only [ordDo, if_true]
    go_enter Tryz.func88, Tryz.ntmps88
    go_wp2_with fail
    refine (start_any u e p z n d pe ca cn cc 8 _ b s (h.mod ((Mod.refl none' _).alloc _ |>.alloc _) id)).mono ?_
    rintro e w1 ⟨rfl, hO, hM⟩
    have hO' := hO
    obtain ⟨hc0, hc1, hc2, hf0, hf1, hf2⟩ := hO
    have hz := hM.size
    simp only [World.size_alloc] at hz
    have hM1 := ((Mod.refl (· = b) w).alloc _ |>.alloc _).trans hM
    obtain ⟨r1, r2⟩ := hM.one (B := w.heap.size + 2) (by simp)
    have hn1 : w.heap.size + 1 ≠ b := by omega
    have hz1 : w.heap.size + 1 < w1.heap.size := by omega
    have hz2 : b < w1.heap.size := by omega
    clear hM
    go_wp2_with fail
    refine bodyPost_ret (v := ansV (ordStart s e p).1 0 (ordStart s e p).2.epoch) (by simp only [results, Tryz.results88]; go_simp) rfl ?_
    have fin : ∀ wf, Mod (· = w.heap.size + 1) w1 wf → OrdAt wf b (ordStart s e p).2 ∧ Mod (· = b) w wf := fun wf hF => ⟨hO'.mod hF (fun e => hn1 e.symm), hM1.trans' hF (fun j hj e => by omega)⟩
    exact ⟨rfl, (fin _ (by (repeat' (first | (with_reducible exact Mod.refl _ _) | (with_reducible apply Mod.drew) | (with_reducible apply Mod.drewN) | (with_reducible apply Mod.alloc) | (with_reducible apply Mod.setCellAt) | (intro _; rfl))))).1, (fin _ (by (repeat' (first | (with_reducible exact Mod.refl _ _) | (with_reducible apply Mod.drew) | (with_reducible apply Mod.drewN) | (with_reducible apply Mod.alloc) | (with_reducible apply Mod.setCellAt) | (intro _; rfl))))).2⟩
  · by_cases h6 : k = 6 ∨ k = 7
    · rcases h6 with rfl | rfl
      · simp only [ordDo, Int.reduceEq, if_false, or_false, if_true]
        go_enter Tryz.func88, Tryz.ntmps88
        go_wp2_with fail
        refine (told_any u e p z n d pe ca cn cc 6 (Or.inl rfl) _ b s ht (h.mod ((Mod.refl none' _).alloc _ |>.alloc _) id)).mono ?_
        rintro e w1 ⟨rfl, hO, hM⟩
        have hO' := hO
        obtain ⟨hc0, hc1, hc2, hf0, hf1, hf2⟩ := hO
        have hz := hM.size
        simp only [World.size_alloc] at hz
        have hM1 := ((Mod.refl (· = b) w).alloc _ |>.alloc _).trans hM
        obtain ⟨r1, r2⟩ := hM.one (B := w.heap.size + 2) (by simp)
        have hn1 : w.heap.size + 1 ≠ b := by omega
        have hz1 : w.heap.size + 1 < w1.heap.size := by omega
        have hz2 : b < w1.heap.size := by omega
        clear hM
        go_wp2_with fail
        refine bodyPost_ret (v := ansV (ordTold s 6 e).1 (ordTold s 6 e).2.1 (ordTold s 6 e).2.2.epoch) (by simp only [results, Tryz.results88]; go_simp) rfl ?_
        have fin : ∀ wf, Mod (· = w.heap.size + 1) w1 wf → OrdAt wf b (ordTold s 6 e).2.2 ∧ Mod (· = b) w wf := fun wf hF => ⟨hO'.mod hF (fun e => hn1 e.symm), hM1.trans' hF (fun j hj e => by omega)⟩
        exact ⟨rfl, (fin _ (by (repeat' (first | (with_reducible exact Mod.refl _ _) | (with_reducible apply Mod.drew) | (with_reducible apply Mod.drewN) | (with_reducible apply Mod.alloc) | (with_reducible apply Mod.setCellAt) | (intro _; rfl))))).1, (fin _ (by (repeat' (first | (with_reducible exact Mod.refl _ _) | (with_reducible apply Mod.drew) | (with_reducible apply Mod.drewN) | (with_reducible apply Mod.alloc) | (with_reducible apply Mod.setCellAt) | (intro _; rfl))))).2⟩
      · simp only [ordDo, Int.reduceEq, if_false, false_or, if_true]
        go_enter Tryz.func88, Tryz.ntmps88
        go_wp2_with fail
        refine (told_any u e p z n d pe ca cn cc 7 (Or.inr rfl) _ b s ht (h.mod ((Mod.refl none' _).alloc _ |>.alloc _) id)).mono ?_
        rintro e w1 ⟨rfl, hO, hM⟩
        have hO' := hO
        obtain ⟨hc0, hc1, hc2, hf0, hf1, hf2⟩ := hO
        have hz := hM.size
        simp only [World.size_alloc] at hz
        have hM1 := ((Mod.refl (· = b) w).alloc _ |>.alloc _).trans hM
        obtain ⟨r1, r2⟩ := hM.one (B := w.heap.size + 2) (by simp)
        have hn1 : w.heap.size + 1 ≠ b := by omega
        have hz1 : w.heap.size + 1 < w1.heap.size := by omega
        have hz2 : b < w1.heap.size := by omega
        clear hM
        go_wp2_with fail
        refine bodyPost_ret (v := ansV (ordTold s 7 e).1 (ordTold s 7 e).2.1 (ordTold s 7 e).2.2.epoch) (by simp only [results, Tryz.results88]; go_simp) rfl ?_
        have fin : ∀ wf, Mod (· = w.heap.size + 1) w1 wf → OrdAt wf b (ordTold s 7 e).2.2 ∧ Mod (· = b) w wf := fun wf hF => ⟨hO'.mod hF (fun e => hn1 e.symm), hM1.trans' hF (fun j hj e => by omega)⟩
        exact ⟨rfl, (fin _ (by (repeat' (first | (with_reducible exact Mod.refl _ _) | (with_reducible apply Mod.drew) | (with_reducible apply Mod.drewN) | (with_reducible apply Mod.alloc) | (with_reducible apply Mod.setCellAt) | (intro _; rfl))))).1, (fin _ (by (repeat' (first | (with_reducible exact Mod.refl _ _) | (with_reducible apply Mod.drew) | (with_reducible apply Mod.drewN) | (with_reducible apply Mod.alloc) | (with_reducible apply Mod.setCellAt) | (intro _; rfl))))).2⟩
    · simp only [ordDo, h8, h6, if_false]
      have e8 : (k == 8) = false := by simp [h8]
      have e6 : (k == 6) = false := by simp; omega
      have e7 : (k == 7) = false := by simp; omega
      clear h8 h6
      go_enter Tryz.func88, Tryz.ntmps88
      go_wp2_with fail
      refine (doNo_post u e p z n d pe ca cn cc k _ b s (h.mod ((Mod.refl none' _).alloc _ |>.alloc _) id)).mono ?_
      rintro e w1 ⟨rfl, hO, hM⟩
      have hO' := hO
      obtain ⟨hc0, hc1, hc2, hf0, hf1, hf2⟩ := hO
      have hz := hM.size
      simp only [World.size_alloc] at hz
      have hM1 := ((Mod.refl (· = b) w).alloc _ |>.alloc _).trans hM
      obtain ⟨r1, r2⟩ := hM.one (B := w.heap.size + 2) (by simp)
      have hn1 : w.heap.size + 1 ≠ b := by omega
      have hz1 : w.heap.size + 1 < w1.heap.size := by omega
      have hz2 : b < w1.heap.size := by omega
      clear hM
      go_wp2_with fail
      refine bodyPost_ret (v := ansV 1 0 s.epoch) (by simp only [results, Tryz.results88]; go_simp) rfl ?_
      have fin : ∀ wf, Mod (· = w.heap.size + 1) w1 wf → OrdAt wf b s ∧ Mod (· = b) w wf := fun wf hF => ⟨hO'.mod hF (fun e => hn1 e.symm), hM1.trans' hF (fun j hj e => by omega)⟩
      exact ⟨rfl, (fin _ (by (repeat' (first | (with_reducible exact Mod.refl _ _) | (with_reducible apply Mod.drew) | (with_reducible apply Mod.drewN) | (with_reducible apply Mod.alloc) | (with_reducible apply Mod.setCellAt) | (intro _; rfl))))).1, (fin _ (by (repeat' (first | (with_reducible exact Mod.refl _ _) | (with_reducible apply Mod.drew) | (with_reducible apply Mod.drewN) | (with_reducible apply Mod.alloc) | (with_reducible apply Mod.setCellAt) | (intro _; rfl))))).2⟩

end
end Go.Proofs.YtghdhhbpbmhooaaGreat
