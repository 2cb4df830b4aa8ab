/- nodes that are well: what questions to units come to; plain Lean -/
import Derived.Test.YtghdhhbpbmhooaaGreatPkHear
namespace Go.Proofs.YtghdhhbpbmhooaaGreat
open Go.RowKit Esch

/-- nothing is sealed, nothing is down; t numbers are told; P: each unit's pages -/
structure Hlt (s : NdS) (t : Nat) (P : Nat → PgS) : Prop where
  units : ∀ i, i < 16 → s.units i = ⟨P i, 0, false⟩
  o : s.o = ⟨0, true, t⟩
def upd (P : Nat → PgS) (i : Nat) (g : PgS) : Nat → PgS := fun j => if j = i then g else P j
def anU (c : Int) (d : ByteArray) : AnS := ⟨c, 0, d, Esch.p0, 0, 0, 0⟩
theorem Hlt.unit {s : NdS} {t : Nat} {P : Nat → PgS} (h : Hlt s t P) {i : Nat} (_hi : i < 16) (g : PgS) : Hlt { s with units := fun j => if j = i then ⟨g, 0, false⟩ else s.units j } t (upd P i g) := by
  refine ⟨fun j hj => ?_, h.o⟩
  unfold upd
  by_cases e : j = i
  · simp only [if_pos e]
  · simp only [if_neg e]; exact h.units j hj
theorem Hlt.same {s : NdS} {t : Nat} {P : Nat → PgS} (h : Hlt s t P) {i : Nat} (hi : i < 16) : Hlt { s with units := fun j => if j = i then ⟨P i, 0, false⟩ else s.units j } t P := by
  have := h.unit hi (P i)
  rwa [show upd P i (P i) = P from funext fun j => by
    unfold upd
    by_cases e : j = i
    · subst e; rw [if_pos rfl]
    · rw [if_neg e]] at this
theorem Hlt.next {s : NdS} {t : Nat} {P : Nat → PgS} (h : Hlt s t P) (ht : t < 16384) : (s.do q6).1 = anN t ∧ Hlt (s.do q6).2 (t + 1) P := by
  rw [do_q6 h.o ht]
  exact ⟨rfl, h.units, rfl⟩
section
variable {s : NdS} {t : Nat} {P : Nat → PgS} (h : Hlt s t P) (u : Nat) (hu : u < 16) (pg : Int) (d : ByteArray)
include h hu
theorem Hlt.write : (s.do ⟨1, u, 0, pg, 0, 0, d, Esch.p0⟩).1 = anU ((P u).write pg d).1 ⟨#[]⟩ ∧ Hlt (s.do ⟨1, u, 0, pg, 0, 0, d, Esch.p0⟩).2 t (upd P u ((P u).write pg d).2) := by
  have e : (s.units u).do 1 0 pg d = ((((P u).write pg d).1, 0, ⟨#[]⟩, 0), ⟨((P u).write pg d).2, 0, false⟩) := by
    rw [h.units u hu]
    unfold UnS.do
    simp
  rw [nd_unit (i := u) ⟨by simp only; omega, by simp only; omega⟩ rfl hu]
  simp only [e]
  exact ⟨rfl, h.unit hu _⟩
theorem Hlt.fill : (s.do ⟨2, u, 0, pg, 0, 0, d, Esch.p0⟩).1 = anU ((P u).fill pg).1 ⟨#[]⟩ ∧ Hlt (s.do ⟨2, u, 0, pg, 0, 0, d, Esch.p0⟩).2 t (upd P u ((P u).fill pg).2) := by
  have e : (s.units u).do 2 0 pg d = ((((P u).fill pg).1, 0, ⟨#[]⟩, 0), ⟨((P u).fill pg).2, 0, false⟩) := by
    rw [h.units u hu]
    unfold UnS.do
    simp
  rw [nd_unit (i := u) ⟨by simp only; omega, by simp only; omega⟩ rfl hu]
  simp only [e]
  exact ⟨rfl, h.unit hu _⟩
theorem Hlt.trim : (s.do ⟨4, u, 0, pg, 0, 0, d, Esch.p0⟩).1 = anU ((P u).trim pg).1 ⟨#[]⟩ ∧ Hlt (s.do ⟨4, u, 0, pg, 0, 0, d, Esch.p0⟩).2 t (upd P u ((P u).trim pg).2) := by
  have e : (s.units u).do 4 0 pg d = ((((P u).trim pg).1, 0, ⟨#[]⟩, 0), ⟨((P u).trim pg).2, 0, false⟩) := by
    rw [h.units u hu]
    unfold UnS.do
    simp
  rw [nd_unit (i := u) ⟨by simp only; omega, by simp only; omega⟩ rfl hu]
  simp only [e]
  exact ⟨rfl, h.unit hu _⟩
theorem Hlt.read : (s.do ⟨3, u, 0, pg, 0, 0, d, Esch.p0⟩).1 = anU ((P u).read pg).2 ((P u).read pg).1 ∧ Hlt (s.do ⟨3, u, 0, pg, 0, 0, d, Esch.p0⟩).2 t P := by
  have e : (s.units u).do 3 0 pg d = ((((P u).read pg).2, 0, ((P u).read pg).1, 0), ⟨P u, 0, false⟩) := by
    rw [h.units u hu]
    unfold UnS.do
    simp
  rw [nd_unit (i := u) ⟨by simp only; omega, by simp only; omega⟩ rfl hu]
  simp only [e]
  exact ⟨rfl, h.same hu⟩
end
/-- what an append hears -/
theorem ApS.ask_2 (s : ApS) : s.ask.2 = decide (s.at ≠ 5) := by
  unfold ApS.ask
  by_cases h : s.at = 5
  · rw [if_pos h]; simp [h]
  · rw [if_neg h]
    have : decide (s.at ≠ 5) = true := by simp [h]
    rw [this]
    by_cases h0 : s.at = 0 ∨ s.at = 1
    · rw [if_pos h0]
    · rw [if_neg h0]
      by_cases h2 : s.at = 2
      · rw [if_pos h2]
      · rw [if_neg h2]
        by_cases h3 : s.at = 3
        · rw [if_pos h3]
        · rw [if_neg h3]
theorem ApS.hear_end {s : ApS} (h : s.at = 5) (x : AnS) (b : Bool) : s.hear x b = s := by unfold ApS.hear; rw [if_pos h]
theorem ApS.hear_lost {s : ApS} (h : s.at ≠ 5) (x : AnS) : s.hear x false = { s with perhaps := s.perhaps || decide (s.at = 3) } := by unfold ApS.hear; rw [if_neg h, if_pos rfl]
theorem ApS.hear_full3 {s : ApS} (h : s.at = 3) {x : AnS} (hx : x.code = 44) : s.hear x true = s.full := by
  unfold ApS.hear
  simp [h, hx]
theorem apTurn_end {s : HdS × ApS} (h : s.2.at = 5) (f : Int) : (apTurn s f).2 = s.2 := by
  unfold apTurn
  exact ApS.hear_end h _ _
end Go.Proofs.YtghdhhbpbmhooaaGreat
