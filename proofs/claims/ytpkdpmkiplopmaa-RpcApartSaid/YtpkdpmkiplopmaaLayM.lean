import Derived.Test.YtpkdpmkiplopmaaProjM
/- the layout, in plain Lean -/
namespace Esch
structure LayS where
  p : Proj
  used : List Int
  mark : Int
  size : Int
  n : Int
structure LayS.ok (s : LayS) : Prop where
  good : s.p.good
  used : ∀ u ∈ s.used, 0 ≤ u ∧ u ≤ 15
  has : ∀ u ∈ s.p.units, u ∈ s.used
def mayB (s : LayS) (q : Proj) : Bool := nextB s.p q && !((unitsOf q.units).any fun u => decide (u ∈ s.used) && !decide (u ∈ s.p.units))
def LayS.count (s : LayS) (q : Proj) : LayS := { s with p := q, used := s.used ++ unitsOf q.units }
/-- an answer: the code, N, the projection, Mark, Size -/
structure LayA where
  code : Int
  n : Int
  p : Proj
  mark : Int
  size : Int
def p0 : Proj := ⟨0, []⟩
def markBad (page size n : Int) : Prop := page < 0 ∨ 16384 ≤ page ∨ size < 1 ∨ 65536 < size ∨ n < 0 ∨ 16384 < n
instance (a b c : Int) : Decidable (markBad a b c) := by unfold markBad; infer_instance
def layDo (s : LayS) (k : Int) (q : Proj) (page size n : Int) : LayA × LayS :=
  if k = 9 then (⟨0, s.n, s.p, s.mark, s.size⟩, s)
  else if k = 10 then (if mayB s q then (⟨0, 0, q, 0, 0⟩, s.count q) else (⟨48, 0, s.p, 0, 0⟩, s))
  else if k = 11 then (if markBad page size n then (⟨1, 0, p0, 0, 0⟩, s) else if s.n < n then (⟨0, n, p0, page, size⟩, { s with mark := page, size := size, n := n }) else (⟨0, s.n, p0, s.mark, s.size⟩, s))
  else (⟨1, 0, p0, 0, 0⟩, s)
theorem may_good {s : LayS} {q : Proj} (h : mayB s q = true) : s.p.next q ∧ q.good := by
  unfold mayB at h
  simp only [Bool.and_eq_true] at h
  have h1 : s.p.next q := of_decide_eq_true h.1
  exact ⟨h1, h1.2.1⟩
theorem LayS.ok.count {s : LayS} {q : Proj} (h : s.ok) (hq : q.good) : (s.count q).ok := by
  refine ⟨hq, fun u hu => ?_, fun u hu => ?_⟩
  · simp only [LayS.count, List.mem_append, mem_unitsOf] at hu
    rcases hu with hu | hu
    · exact h.used u hu
    · exact hq.2.2.2.2.2.1 u hu
  · simp only [LayS.count, List.mem_append, mem_unitsOf] at hu ⊢
    exact Or.inr hu
theorem layDo_ok {s : LayS} (h : s.ok) (k : Int) (q : Proj) (page size n : Int) : (layDo s k q page size n).2.ok := by
  unfold layDo
  split
  · exact h
  · split
    · split
      · rename_i hm; exact h.count (may_good hm).2
      · exact h
    · split
      · split
        · exact h
        · split
          · exact ⟨h.good, h.used, h.has⟩
          · exact h
      · exact h
theorem rising_len : ∀ {l : List Int} {a b : Int}, l.Pairwise (· < ·) → (∀ x ∈ l, a ≤ x ∧ x < b) → (l.length : Int) ≤ (b - a).toNat
  | [], a, b, _, _ => by simp only [List.length_nil]; omega
  | x :: l, a, b, h, hx => by
    obtain ⟨h1, h2⟩ := List.pairwise_cons.1 h
    have hx0 := hx x (by simp)
    have := rising_len (l := l) (a := x + 1) (b := b) h2 (fun y hy => ⟨by have := h1 y hy; omega, (hx y (by simp [hy])).2⟩)
    simp only [List.length_cons]; omega
theorem units_len {us : List Int} (h : ∀ u ∈ us, 0 ≤ u ∧ u ≤ 15) : (unitsOf us).length ≤ 16 := by
  have := rising_len (rising_unitsOf us) (a := 0) (b := 16) (fun x hx => by have := h x (mem_unitsOf.1 hx); omega)
  simp at this; omega
theorem good_small {p : Proj} (h : p.good) : p.chains.length ≤ 50 ∧ ∀ i, i < p.chains.length → (p.chains.getD i []).length ≤ 50 := by
  obtain ⟨-, -, -, h1, h2, -⟩ := h
  refine ⟨by omega, fun i hi => ?_⟩
  have := h2 (p.chains.getD i []) (by rw [List.getD_eq_getElem?_getD, List.getElem?_eq_getElem hi, Option.getD_some]; exact List.getElem_mem hi)
  omega
theorem good_units {p : Proj} (h : p.good) : p.chains.flatten ≠ [] := by
  obtain ⟨-, -, h0, h1, h2, -⟩ := h
  intro e
  cases hc : p.chains with
  | nil => rw [hc] at h0; simp at h0
  | cons c l =>
    rw [hc] at e
    have := h2 c (by rw [hc]; simp)
    simp at e
    rw [e.1] at this; simp at this
end Esch
