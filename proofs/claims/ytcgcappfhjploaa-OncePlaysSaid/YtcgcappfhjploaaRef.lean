import Derived.Test.YtcgcappfhjploaaOnce
import Derived.Lib.Hide
import Derived.RegionTactic
import Derived.BigRegion
/- the document's own: each client's last in two arrays -/
namespace Go.Proofs.Ytcgcappfhjploaa
open Go.RowKit Esch

theorem rthere_any (c : Int) (w : World) : Calls Try.prog 28 #[.int .i64 c] w fun e w' => e = .returned (.bool (thereB c)) ∧ w = w' := by
  go_enter Try.func28, Try.ntmps28
  go_wp2
  all_goals
    go_ret
    refine ⟨?_, rfl⟩
    first | (simp [thereB, *]; done) | (simp [thereB]; omega)

theorem cell_set {w : World} {a : Addr} {u : Value} (h : w.cell? a = some u) (v : Value) (p : Addr) : (w.setCell a v).cell? p = if a = p then some v else w.cell? p := by
  split
  · rename_i e; subst e; exact World.cell?_setCell_same w _ _ h
  · rename_i e; exact World.cell?_setCell_other w _ _ _ e

theorem ane {b o o' : Nat} (h : o ≠ o') : ¬ ((⟨b, o, none⟩ : Addr) = ⟨b, o', none⟩) := fun e => h (congrArg Addr.off e)

/-- the arrays hold f -/
structure RefAt (w : World) (b : Nat) (f : Int → Int × Int × Int) : Prop where
  seq : ∀ k : Nat, k < 8 → w.cell? ⟨b, k, none⟩ = some (.int .i64 (f k).1) ∧ w.frozen? ⟨b, k, none⟩ = false
  code : ∀ k : Nat, k < 8 → w.cell? ⟨b, 8 + k * 2, none⟩ = some (.int .i64 (f k).2.1) ∧ w.frozen? ⟨b, 8 + k * 2, none⟩ = false
  hand : ∀ k : Nat, k < 8 → w.cell? ⟨b, 8 + k * 2 + 1, none⟩ = some (.int .i64 (f k).2.2) ∧ w.frozen? ⟨b, 8 + k * 2 + 1, none⟩ = false

theorem RefAt.lt {w : World} {b : Nat} {f : Int → Int × Int × Int} (h : RefAt w b f) : b < w.heap.size := cell_lt (h.seq 0 (by omega)).1
theorem RefAt.mod {F : Nat → Prop} {w w' : World} {b : Nat} {f : Int → Int × Int × Int} (h : RefAt w b f) (hM : Mod F w w') (hb : ¬ F b) : RefAt w' b f := by
  have hl := h.lt
  refine ⟨fun k hk => ?_, fun k hk => ?_, fun k hk => ?_⟩
  · rw [hM.cell (p := ⟨b, k, none⟩) hl hb, hM.frozen (p := ⟨b, k, none⟩) hl hb]; exact h.seq k hk
  · rw [hM.cell (p := ⟨b, _, none⟩) hl hb, hM.frozen (p := ⟨b, _, none⟩) hl hb]; exact h.code k hk
  · rw [hM.cell (p := ⟨b, _, none⟩) hl hb, hM.frozen (p := ⟨b, _, none⟩) hl hb]; exact h.hand k hk

theorem there_nat {c : Int} (h : thereB c = true) : ∃ k : Nat, c = k ∧ k < 8 := by
  simp only [thereB, Bool.and_eq_true, decide_eq_true_eq] at h
  exact ⟨c.toNat, by omega, by omega⟩

def rseen (f : Int → Int × Int × Int) (c s : Int) : Bool := !thereB c || decide (s ≤ (f c).1)
set_option maxHeartbeats 400000 in
theorem rseen_any (c s : Int) (w : World) (b : Nat) (f : Int → Int × Int × Int) (h : RefAt w b f) :
    Calls Try.prog 11 #[.pointer (some ⟨b, 0, none⟩), .int .i64 c, .int .i64 s] w fun e w' => e = .returned (.bool (rseen f c s)) ∧ w = w' := by
  unfold rseen
  cases hc : thereB c
  · go_enter Try.func11, Try.ntmps11
    go_wp2_with (go_at_call 28; refine (rthere_any _ _).mono ?_; rintro e w' ⟨rfl, rfl⟩)
    go_ret
    exact ⟨by simp, rfl⟩
  · obtain ⟨k, rfl, hk⟩ := there_nat hc
    obtain ⟨h1, h2⟩ := h.seq k hk
    go_enter Try.func11, Try.ntmps11
    go_wp2_with (go_at_call 28; refine (rthere_any _ _).mono ?_; rintro e w' ⟨rfl, rfl⟩)
    go_ret
    exact ⟨by simp, rfl⟩

def rnote (f : Int → Int × Int × Int) (c s : Int) (r : Int × Int) : Int × (Int → Int × Int × Int) :=
  if thereB c = false then (1, f) else if rseen f c s then (61, f) else (0, fun d => if d = c then (s, r.1, r.2) else f d)

def RNotePost (w : World) (b : Nat) (r : Int × (Int → Int × Int × Int)) (e : Ending) (w' : World) : Prop := e = .returned (.int .i64 r.1) ∧ RefAt w' b r.2 ∧ Mod (· = b) w w'
set_option maxHeartbeats 1000000 in
theorem rnote_any (c s x y : Int) (w : World) (b : Nat) (f : Int → Int × Int × Int) (h : RefAt w b f) :
    Calls Try.prog 13 #[.pointer (some ⟨b, 0, none⟩), .int .i64 c, .int .i64 s, .agg #[.int .i64 x, .int .i64 y]] w (RNotePost w b (rnote f c s (x, y))) := by
  unfold rnote
  have hl := h.lt
  have seen := fun W h => rseen_any c s W b f h
  have h' := fun o => h.mod ((Mod.refl none' w).alloc o) id
  split
  · rename_i hc
    go_enter Try.func13, Try.ntmps13
    go_wp2_with (go_at_call 28; refine (rthere_any _ _).mono ?_; rintro e w' ⟨rfl, rfl⟩)
    go_ret
    exact ⟨rfl, h' _, (Mod.refl _ _).alloc _⟩
  · rename_i hc
    have hc : thereB c = true := by simpa using hc
    split
    · rename_i hs
      rw [hs] at seen
      go_enter Try.func13, Try.ntmps13
      go_wp2_with (first | (go_at_call 28; refine (rthere_any _ _).mono ?_; rintro e w' ⟨rfl, rfl⟩) | (go_at_call 11; refine (seen _ (h' _)).mono ?_; rintro e w' ⟨rfl, rfl⟩))
      go_ret
      exact ⟨rfl, h' _, (Mod.refl _ _).alloc _⟩
    · rename_i hs
      have hs : rseen f c s = false := by simpa using hs
      rw [hs] at seen
      obtain ⟨k, rfl, hk⟩ := there_nat hc
      obtain ⟨a1, a2⟩ := h.seq k hk
      obtain ⟨b1, b2⟩ := h.code k hk
      obtain ⟨c1, c2⟩ := h.hand k hk
      go_enter Try.func13, Try.ntmps13
      go_wp2_with (first | (go_at_call 28; refine (rthere_any _ _).mono ?_; rintro e w' ⟨rfl, rfl⟩) | (go_at_call 11; refine (seen _ (h' _)).mono ?_; rintro e w' ⟨rfl, rfl⟩))
      clear seen
      go_region
      go_wp2
      go_ret
      refine ⟨rfl, ?_, ((((Mod.refl (· = b) w).setCell (fun _ => rfl) _).setCell (fun _ => rfl) _).setCell (fun _ => rfl) _ |>.alloc _).drew⟩
      refine RefAt.mod (F := none') (w := ((w.setCell ⟨b, k, none⟩ (.int .i64 s)).setCell ⟨b, 8 + k * 2, none⟩ (.int .i64 x)).setCell ⟨b, 8 + k * 2 + 1, none⟩ (.int .i64 y)) ?_ (((Mod.refl _ _).alloc _).drew) id
      have e1 := fun p => cell_set a1 (.int .i64 s) p
      have b1' : (w.setCell ⟨b, k, none⟩ (.int .i64 s)).cell? ⟨b, 8 + k * 2, none⟩ = some (.int .i64 (f k).2.1) := by rw [e1, if_neg (ane (by omega))]; exact b1
      have e2 := fun p => cell_set b1' (.int .i64 x) p
      have c1' : ((w.setCell ⟨b, k, none⟩ (.int .i64 s)).setCell ⟨b, 8 + k * 2, none⟩ (.int .i64 x)).cell? ⟨b, 8 + k * 2 + 1, none⟩ = some (.int .i64 (f k).2.2) := by rw [e2, if_neg (ane (by omega)), e1, if_neg (ane (by omega))]; exact c1
      have e3 := fun p => cell_set c1' (.int .i64 y) p
      refine ⟨fun j hj => ⟨?_, by simpa using (h.seq j hj).2⟩, fun j hj => ⟨?_, by simpa using (h.code j hj).2⟩, fun j hj => ⟨?_, by simpa using (h.hand j hj).2⟩⟩
      · rw [e3, if_neg (ane (by omega)), e2, if_neg (ane (by omega)), e1]
        by_cases e : j = k
        · subst e; simp
        · rw [if_neg (ane (by omega)), (h.seq j hj).1]; simp only [if_neg (show ¬ ((j : Int) = (k : Int)) by omega)]
      · rw [e3, if_neg (ane (by omega)), e2]
        by_cases e : j = k
        · subst e; simp
        · rw [if_neg (ane (by omega)), e1, if_neg (ane (by omega)), (h.code j hj).1]; simp only [if_neg (show ¬ ((j : Int) = (k : Int)) by omega)]
      · rw [e3]
        by_cases e : j = k
        · subst e; simp
        · rw [if_neg (ane (by omega)), e2, if_neg (ane (by omega)), e1, if_neg (ane (by omega)), (h.hand j hj).1]; simp only [if_neg (show ¬ ((j : Int) = (k : Int)) by omega)]

def rlast (f : Int → Int × Int × Int) (c : Int) : Int × Int × Int := if thereB c then f c else (0, 0, 0)
set_option maxHeartbeats 1000000 in
theorem rlast_any (c : Int) (w : World) (b : Nat) (f : Int → Int × Int × Int) (h : RefAt w b f) :
    Calls Try.prog 15 #[.pointer (some ⟨b, 0, none⟩), .int .i64 c] w fun e w' => e = .returned (.agg #[.int .i64 (rlast f c).1, .int .i64 (rlast f c).2.1, .int .i64 (rlast f c).2.2]) ∧ Below w.heap.size w w' := by
  have hl := h.lt
  unfold rlast
  split
  · rename_i hc
    obtain ⟨k, rfl, hk⟩ := there_nat hc
    obtain ⟨a1, a2⟩ := h.seq k hk
    obtain ⟨b1, b2⟩ := h.code k hk
    obtain ⟨c1, c2⟩ := h.hand k hk
    have hk1 : (0 : Int) ≤ k := by omega
    have hk2 : (k : Int) < 8 := by omega
    go_enter Try.func15, Try.ntmps15
    go_wp2_with (go_at_call 28; refine (rthere_any _ _).mono ?_; rintro e w' ⟨rfl, rfl⟩)
    refine region_tail 13 (by kernel_rfl) (by kernel_rfl) (fun T hT K hK => ?_)
    simp only [List.take_succ_cons, List.take_zero]
    repeat still_step
    refine wpStill_nil (hK _ ?_)
    clear hK
    simp only [List.drop_succ_cons, List.drop_zero] at hT
    subst hT
    go_wp2
    exact bodyPost_ret (v := .agg #[.int .i64 (f k).1, .int .i64 (f k).2.1, .int .i64 (f k).2.2]) (by simp [results, Try.results15, go_sem]) rfl ⟨rfl, by repeat (first | exact Below.refl _ _ | refine Below.drew ?_ | refine Below.setCell ?_ (by simp) _ | refine Below.alloc ?_ (by simp) _)⟩
  · rename_i hc
    have hc : thereB c = false := by simpa using hc
    go_enter Try.func15, Try.ntmps15
    go_wp2_with (go_at_call 28; refine (rthere_any _ _).mono ?_; rintro e w' ⟨rfl, rfl⟩)
    exact bodyPost_ret (v := .agg #[.int .i64 0, .int .i64 0, .int .i64 0]) (by simp [results, Try.results15, go_sem]) rfl ⟨rfl, by repeat (first | exact Below.refl _ _ | refine Below.drew ?_ | refine Below.setCell ?_ (by simp) _ | refine Below.alloc ?_ (by simp) _)⟩

end Go.Proofs.Ytcgcappfhjploaa
