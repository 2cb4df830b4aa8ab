/- how a layout rises, in plain Lean -/
import Derived.Test.YtnojjohkpkmliaaGreatPkLay
namespace Esch
/-- those of a projection that left with the next one -/
def leftOf (p q : Proj) : List Int := (unitsOf p.units).filter fun u => !decide (u ∈ q.units)
theorem mem_leftOf {p q : Proj} {u : Int} : u ∈ leftOf p q ↔ u ∈ p.units ∧ u ∉ q.units := by
  simp [leftOf, List.mem_filter, mem_unitsOf]
/-- how it stands, and which units left -/
structure RiseI (s : LayS) (left : List Int) (n : Int) : Prop where
  ok : s.ok
  left : ∀ u ∈ left, u ∈ s.used ∧ u ∉ s.p.units
  n : n ≤ s.n
theorem layDo_rises (s : LayS) (k : Int) (q : Proj) (page size n : Int) :
    s.n ≤ (layDo s k q page size n).2.n ∧ (((layDo s k q page size n).2.p = s.p ∧ (layDo s k q page size n).2.used = s.used) ∨
      (mayB s q = true ∧ (layDo s k q page size n).2.p = q ∧ (layDo s k q page size n).2.used = s.used ++ unitsOf q.units)) := by
  unfold layDo
  split
  · exact ⟨Int.le_refl _, .inl ⟨rfl, rfl⟩⟩
  · split
    · split
      · rename_i hm
        exact ⟨Int.le_refl _, .inr ⟨hm, rfl, rfl⟩⟩
      · exact ⟨Int.le_refl _, .inl ⟨rfl, rfl⟩⟩
    · split
      · split
        · exact ⟨Int.le_refl _, .inl ⟨rfl, rfl⟩⟩
        · split
          · refine ⟨?_, .inl ⟨rfl, rfl⟩⟩
            show s.n ≤ n
            omega
          · exact ⟨Int.le_refl _, .inl ⟨rfl, rfl⟩⟩
      · exact ⟨Int.le_refl _, .inl ⟨rfl, rfl⟩⟩
theorem next_ne {p q : Proj} (h : p.next q) : q ≠ p := by
  intro e
  have := h.2.2.1
  rw [e] at this
  omega
theorem may_left {s : LayS} {q : Proj} (h : mayB s q = true) {u : Int} (h1 : u ∈ s.used) (h2 : u ∉ s.p.units) : u ∉ q.units := by
  intro hu
  unfold mayB at h
  simp only [Bool.and_eq_true, Bool.not_eq_true'] at h
  have h3 := h.2
  rw [List.any_eq_false] at h3
  exact h3 u (mem_unitsOf.2 hu) (by simp [h1, h2])
/-- a question, with no change of what counts -/
theorem RiseI.same {s s' : LayS} {left : List Int} {n : Int} (h : RiseI s left n) (ok : s'.ok) (h1 : s'.p = s.p) (h2 : s'.used = s.used) : RiseI s' left s'.n :=
  ⟨ok, by rw [h1, h2]; exact h.left, Int.le_refl _⟩
/-- a question that changes what counts -/
theorem RiseI.next {s s' : LayS} {left : List Int} {n : Int} {q : Proj} (h : RiseI s left n) (ok : s'.ok) (hm : mayB s q = true) (h1 : s'.p = q) (h2 : s'.used = s.used ++ unitsOf q.units) :
    RiseI s' (left ++ leftOf s.p q) s'.n := by
  refine ⟨ok, fun u hu => ?_, Int.le_refl _⟩
  rw [h1, h2]
  rw [List.mem_append] at hu
  rw [List.mem_append]
  rcases hu with hu | hu
  · obtain ⟨a, b⟩ := h.left u hu
    exact ⟨.inl a, may_left hm a b⟩
  · obtain ⟨a, b⟩ := mem_leftOf.1 hu
    exact ⟨.inl (h.ok.has u a), b⟩
theorem riseI0 {s : LayS} (ok : s.ok) (h : -1 ≤ s.n) : RiseI s [] (-1) := ⟨ok, by simp, h⟩
theorem leftOf_len {p q : Proj} (h : p.good) : (leftOf p q).length ≤ 16 :=
  Nat.le_trans (List.length_filter_le _ _) (units_len h.2.2.2.2.2.1)
/-- a prefix of those that left -/
theorem leftOf_take {us : List Int} {q : Proj} {k : Nat} (h : k < us.length) :
    ((us.take (k + 1)).filter fun u => !decide (u ∈ q.units)) = ((us.take k).filter fun u => !decide (u ∈ q.units)) ++ (if us.getD k 0 ∈ q.units then [] else [us.getD k 0]) := by
  rw [List.take_add_one, List.filter_append, List.getElem?_eq_getElem h, List.getD_eq_getElem?_getD, List.getElem?_eq_getElem h]
  simp only [Option.toList_some, Option.getD_some, List.filter_cons, List.filter_nil]
  by_cases hu : us[k] ∈ q.units
  · simp [hu]
  · simp [hu]
end Esch
