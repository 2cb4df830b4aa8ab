import Derived.Test.YtcgcappfhjploaaRefOrder
/- the sequencer: its small calls; what a law wakes it by -/
namespace Go.Proofs.Ytcgcappfhjploaa
open Go.RowKit Esch

def NewOrd (w : World) (e : Ending) (w' : World) : Prop := ∃ b, e = .returned (.pointer (some ⟨b, 0, none⟩)) ∧ OrdAt w' b ⟨-1, false, 0⟩ ∧ w.heap.size ≤ b ∧ Below w.heap.size w w'
theorem ordNew_any (w : World) : Calls Try.prog 17 #[] w (NewOrd w) := by
  go_enter Try.func17, Try.ntmps17
  go_wp2_with fail
  go_ret
  exact ⟨w.heap.size, rfl, ⟨by go_simp, by go_simp, by go_simp, by go_simp, by go_simp, by go_simp⟩, Nat.le_refl _, (Below.refl _ _).alloc (Nat.le_refl _) _⟩
def NewROrd (w : World) (e : Ending) (w' : World) : Prop := ∃ b, e = .returned (.pointer (some ⟨b, 0, none⟩)) ∧ ROrdAt w' b ⟨-1, false, 0⟩ ∧ w.heap.size ≤ b ∧ Below w.heap.size w w'
theorem rordNew_any (w : World) : Calls Try.prog 22 #[] w (NewROrd w) := by
  go_enter Try.func22, Try.ntmps22
  go_wp2_with fail
  go_ret
  exact ⟨w.heap.size, rfl, ⟨by go_simp, by go_simp, by go_simp, by go_simp, by go_simp, by go_simp⟩, Nat.le_refl _, (Below.refl _ _).alloc (Nat.le_refl _) _⟩

def UnitPost (w : World) (b : Nat) (s : Ord) (e : Ending) (w' : World) : Prop := e = .returned (.tuple #[]) ∧ OrdAt w' b s ∧ Mod (· = b) w w'
set_option maxHeartbeats 1000000 in
theorem crash_any (w : World) (b : Nat) (s : Ord) (h : OrdAt w b s) : Calls Try.prog 21 #[.pointer (some ⟨b, 0, none⟩)] w (UnitPost w b ⟨s.epoch, false, 0⟩) := by
  obtain ⟨hc0, hc1, hc2, hf0, hf1, hf2⟩ := h
  have hl := cell_lt hc0
  go_enter Try.func21, Try.ntmps21
  go_wp2_with fail
  go_end0
  exact ⟨rfl, ⟨by go_simp, by go_simp, by go_simp, by go_simp, by go_simp, by go_simp⟩, by (repeat' (first | (with_reducible exact Mod.refl _ _) | (with_reducible apply Mod.drew) | (with_reducible apply Mod.drewN) | (with_reducible apply Mod.alloc) | (with_reducible apply Mod.setCellAt) | (intro _; rfl)))⟩
theorem epoch_any (w : World) (b : Nat) (s : Ord) (h : OrdAt w b s) : Calls Try.prog 25 #[.pointer (some ⟨b, 0, none⟩)] w fun e w' => e = .returned (.int .i64 s.epoch) ∧ w = w' := by
  obtain ⟨hc0, hc1, hc2, hf0, hf1, hf2⟩ := h
  go_enter Try.func25, Try.ntmps25
  go_wp2_with fail
  go_ret
  exact ⟨rfl, rfl⟩
theorem knows_any (w : World) (b : Nat) (s : Ord) (h : OrdAt w b s) : Calls Try.prog 26 #[.pointer (some ⟨b, 0, none⟩)] w fun e w' => e = .returned (.bool s.knows) ∧ w = w' := by
  obtain ⟨hc0, hc1, hc2, hf0, hf1, hf2⟩ := h
  go_enter Try.func26, Try.ntmps26
  go_wp2_with fail
  go_ret
  exact ⟨rfl, rfl⟩

/-- a question that was typed in: everything but the kind, the epoch and the page is nought -/
theorem ordDo_at (k e p : Int) (w : World) (b : Nat) (s : Ord) (ht : s.ok) (h : OrdAt w b s) (c n ep : Int) (s' : Ord) (hs : ordDo s k e p = (c, n, s')) (hep : s'.epoch = ep) :
    Calls Try.prog 18 #[.pointer (some ⟨b, 0, none⟩), .agg #[.int .i64 k, .int .i64 0, .int .i64 e, .int .i64 p, .int .i64 0, .int .i64 0, .string ⟨#[]⟩, .int .i64 0, .slice none 0 0]] w
      (AnsPost w b c n ep s') := by
  have := ordDo_any 0 e p 0 0 ⟨#[]⟩ 0 none 0 0 k w b s ht h
  rw [hs, hep] at this
  exact this

set_option maxHeartbeats 1000000 in
theorem wakes11_any (w : World) : Calls Try.prog 20 #[] w fun e w' => e = .returned (.bool true) ∧ Below w.heap.size w w' := by
  go_enter Try.func20, Try.ntmps20
  go_wp2_with fail
  refine (ordNew_any _).mono ?_
  rintro e w1 ⟨b, rfl, h1, hb, hB⟩
  go_wp2_with fail
  refine (ordDo_at 8 0 5 _ b _ ⟨by decide, by decide⟩ h1 0 0 0 ⟨0, true, 5⟩ rfl rfl).mono ?_
  rintro e w2 ⟨rfl, h2, hM2⟩
  have hB2 : Below w.heap.size w w2 := hB.trans (hM2.below_at hB.size fun j hj e => by omega)
  go_wp2_with fail
  have z2 : b < w2.heap.size := h2.lt
  refine (ordDo_at 6 0 0 _ b _ ⟨by decide, by decide⟩ (h2.mod ((Mod.refl none' _).alloc _) id) 0 5 0 ⟨0, true, 6⟩ rfl rfl).mono ?_
  rintro e w3 ⟨rfl, h3, hM3⟩
  have s3 := hM3.size
  simp only [World.size_alloc] at s3
  obtain ⟨r3, -⟩ := hM3.one (B := w2.heap.size + 1) (by simp)
  have hB3 : Below w.heap.size w w3 := (hB2.alloc hB2.size _).trans (hM3.below_at (hB2.alloc hB2.size _).size fun j hj e => by omega)
  have z3 : w2.heap.size < w3.heap.size := by omega
  have n2 : w2.heap.size ≠ b := by omega
  go_wp2_with fail
  refine (ordDo_at 7 0 0 _ b _ ⟨by decide, by decide⟩ (h3.mod ((Mod.refl none' _).alloc _) id) 0 6 0 ⟨0, true, 6⟩ rfl rfl).mono ?_
  rintro e w4 ⟨rfl, h4, hM4⟩
  have s4 := hM4.size
  simp only [World.size_alloc] at s4
  obtain ⟨r4, -⟩ := hM4.one (B := w3.heap.size + 1) (by simp)
  have hB4 : Below w.heap.size w w4 := (hB3.alloc hB3.size _).trans (hM4.below_at (hB3.alloc hB3.size _).size fun j hj e => by omega)
  have z4 : w3.heap.size < w4.heap.size := by omega
  have z42 : w2.heap.size < w4.heap.size := by omega
  have n3 : w3.heap.size ≠ b := by omega
  go_wp2_with fail
  refine (crash_any _ b _ (h4.mod ((Mod.refl none' _).alloc _) id)).mono ?_
  rintro e w5 ⟨rfl, h5, hM5⟩
  have s5 := hM5.size
  simp only [World.size_alloc] at s5
  obtain ⟨r5, -⟩ := hM5.one (B := w4.heap.size + 1) (by simp)
  have hB5 : Below w.heap.size w w5 := (hB4.alloc hB4.size _).trans (hM5.below_at (hB4.alloc hB4.size _).size fun j hj e => by omega)
  have z5 : w4.heap.size < w5.heap.size := by omega
  have z52 : w2.heap.size < w5.heap.size := by omega
  have z53 : w3.heap.size < w5.heap.size := by omega
  have n4 : w4.heap.size ≠ b := by omega
  go_wp2_with fail
  refine (ordDo_at 6 0 0 _ b _ ⟨by decide, by decide⟩ h5 47 0 0 ⟨0, false, 0⟩ rfl rfl).mono ?_
  rintro e w6 ⟨rfl, h6, hM6⟩
  obtain ⟨r6, -⟩ := hM6.one (B := w5.heap.size) (by simp)
  have hB6 : Below w.heap.size w w6 := hB5.trans (hM6.below_at hB5.size fun j hj e => by omega)
  have s6 := hM6.size
  have z62 : w2.heap.size < w6.heap.size := by omega
  have z63 : w3.heap.size < w6.heap.size := by omega
  have z64 : w4.heap.size < w6.heap.size := by omega
  have kn := fun W h => knows_any W b ⟨0, false, 0⟩ h
  go_wp2_with (go_at_call 26; refine (kn _ (h6.mod ((Mod.refl none' _).alloc _) id)).mono ?_; rintro e w' ⟨rfl, rfl⟩)
  go_ret
  exact ⟨rfl, hB6.alloc hB6.size _⟩
end Go.Proofs.Ytcgcappfhjploaa
