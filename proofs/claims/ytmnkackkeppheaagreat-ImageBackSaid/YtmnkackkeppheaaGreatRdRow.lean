/- a slice argument as a row of things -/
import Derived.Test.YtmnkackkeppheaaGreatPkRow
import Derived.Test.YtmnkackkeppheaaGreatPkOpM
namespace Esch
open Go Go.RowKit
theorem pick_row {α : Type} [Inhabited α] (n : Nat) (P : Nat → α → Prop) (h : ∀ i, i < n → ∃ x, P i x) : ∃ l : List α, l.length = n ∧ ∀ i, i < n → P i (l.getD i default) := by
  have key : ∀ i, ∃ x, i < n → P i x := fun i => by
    by_cases hi : i < n
    · obtain ⟨x, hx⟩ := h i hi; exact ⟨x, fun _ => hx⟩
    · exact ⟨default, fun h => absurd h hi⟩
  refine ⟨(List.range n).map fun i => Classical.choose (key i), by simp, fun i hi => ?_⟩
  have := Classical.choose_spec (key i) hi
  rw [List.getD_eq_getElem?_getD, List.getElem?_eq_getElem (by simpa using hi)]
  simpa using this
theorem rd_rw {α : Type} [Inhabited α] {w : World} {T : Ty} {size : Nat} (f : α → List Value) (Q : α → Prop) (hf : ∀ x, (f x).length = size) (hs : T.cells = size) (h0 : 0 < size) {cs : List Value} {d : D} (h : Rd w (.slice T) cs d)
    (hone : ∀ c d, Rd w T c d → ∃ x : α, c = f x ∧ Q x) : ∃ (a : Option Addr) (c : Nat) (l : List α), cs = [.slice a l.length c] ∧ l.length ≤ c ∧ c ≤ 9223372036854775807 ∧ (a = none → c = 0) ∧ RwAt w (fun _ => True) size l.length a (l.flatMap f) ∧ ∀ x ∈ l, Q x := by
  have h2 := h
  obtain ⟨l, g, rfl, ⟨a0, cap, hv, hle, hn, hc⟩, hl⟩ := rd_sliceAt h
  obtain ⟨xs, hxl, hx⟩ := pick_row l.length (fun i (x : α) => g i = f x ∧ Q x) (fun i hi => hone _ _ (hl i hi))
  have hcs : cs = [.slice a0 l.length cap] ∧ cap ≤ 9223372036854775807 ∧ (a0 = none → cap = 0) := by
    obtain ⟨l2, e, ⟨rfl, -⟩ | ⟨a, c, cell, rfl, h3, h4, -⟩⟩ := rd_slice.1 h2
    · simp only [List.headD_cons, Value.slice.injEq] at hv
      obtain ⟨rfl, h5, rfl⟩ := hv
      exact ⟨by rw [← h5], by decide, fun _ => rfl⟩
    · simp only [List.headD_cons, Value.slice.injEq] at hv
      obtain ⟨rfl, h5, rfl⟩ := hv
      refine ⟨by rw [h5], by unfold Go.maxLen at h4; omega, fun e => by cases e⟩
  refine ⟨a0, cap, xs, by rw [hxl]; exact hcs.1, by rw [hxl]; exact hle, hcs.2.1, hcs.2.2, ⟨flat_len hf xs, fun h0' => ?_⟩, fun x hx2 => ?_⟩
  · rw [hxl] at h0'
    obtain ⟨b, off, rfl, hb, hcell⟩ := hc h0' (by rw [hs]; exact h0)
    refine ⟨b, off, rfl, trivial, hb, fun j hj => ?_⟩
    have hq : j / size < xs.length := (Nat.div_lt_iff_lt_mul h0).2 hj
    have hr : j % size < size := Nat.mod_lt _ h0
    have e : j = (j / size) * size + j % size := by rw [Nat.mul_comm]; exact (Nat.div_add_mod j size).symm
    have h3 := hcell (j / size) (by omega) (j % size) (by rw [hs]; exact hr)
    rw [hs, (hx _ (by omega)).1] at h3
    rw [e, flat_at hf default xs _ _ hq hr, ← Nat.add_assoc]
    exact h3
  · obtain ⟨i, hi, rfl⟩ := List.mem_iff_getElem.1 hx2
    have := (hx i (by omega)).2
    rw [List.getD_eq_getElem?_getD, List.getElem?_eq_getElem hi] at this
    exact this
end Esch
