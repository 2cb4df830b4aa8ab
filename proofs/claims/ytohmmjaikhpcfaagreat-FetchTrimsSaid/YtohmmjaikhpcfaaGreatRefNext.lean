/- the document's: which projection may come next -/
import Derived.Test.YtohmmjaikhpcfaaGreatRefGood
namespace Go.Proofs.YtohmmjaikhpcfaaGreat
open Go.RowKit Esch

theorem getD_drop (l : List Int) (m j : Nat) : (l.drop m).getD j 0 = l.getD (m + j) 0 := by
  simp [List.getD_eq_getElem?_getD, List.getElem?_drop]
theorem posOf_drop {l : List Int} {x : Int} {m m2 : Nat} (h1 : m ≤ m2) (h2 : m2 < l.length) (hx : l.getD m2 0 = x) (hj : ∀ j, m ≤ j → j < m2 → l.getD j 0 ≠ x) : posOf x (l.drop m) = some (m2 - m) :=
  posOf_at (by rw [List.length_drop]; omega) (by rw [getD_drop, show m + (m2 - m) = m2 by omega]; exact hx) (fun j hlt => by rw [getD_drop]; exact hj _ (by omega) (by omega))
theorem posOf_drop_none {l : List Int} {x : Int} {m : Nat} (hj : ∀ j, m ≤ j → j < l.length → l.getD j 0 ≠ x) : posOf x (l.drop m) = none :=
  posOf_out (fun j hlt => by rw [List.length_drop] at hlt; rw [getD_drop]; exact hj _ (by omega) (by omega))
theorem mem_drop_getD {l : List Int} {n : Nat} {P : Int → Prop} (h : ∀ j, n ≤ j → j < l.length → P (l.getD j 0)) : ∀ u ∈ l.drop n, P u := by
  intro u hu
  obtain ⟨j, hj, rfl⟩ := List.mem_iff_getElem.1 hu
  rw [List.length_drop] at hj
  have := h (n + j) (by omega) (by omega)
  rw [List.getD_eq_getElem?_getD, List.getElem?_eq_getElem (by omega), Option.getD_some] at this
  rw [List.getElem_drop]; exact this
theorem getD_mem_drop {l : List Int} {n j : Nat} (h1 : n ≤ j) (h2 : j < l.length) : l.getD j 0 ∈ l.drop n := by
  rw [List.mem_iff_getElem]
  refine ⟨j - n, by rw [List.length_drop]; omega, ?_⟩
  rw [List.getElem_drop, List.getD_eq_getElem?_getD, List.getElem?_eq_getElem h2, Option.getD_some]
  congr 1; omega
theorem getD_mem' {l : List Int} {j : Nat} (h2 : j < l.length) : l.getD j 0 ∈ l := List.mem_of_mem_drop (getD_mem_drop (Nat.zero_le j) h2)

def RNRel1 (W : World) (ls ls' : List (List Int)) (g : Nat) (s6 : Value) (wr : World) : Prop :=
  ∃ k : Nat, g = ls'.length - k ∧ k ≤ ls'.length ∧ s6 = .int .i64 k ∧ (∀ j, j < k → chainNext (ls.getD j []) ls.flatten (ls'.getD j [])) ∧ ∃ n, wr = W.drewN n
def RNRel2 (W : World) (old c : List Int) (g : Nat) (s9 s10 : Value) (wr : World) : Prop :=
  ∃ n at' : Nat, g = c.length - n ∧ s10 = .int .i64 n ∧ s9 = .int .i64 at' ∧ HeadsAt old c n at' ∧ ∃ n, wr = W.drewN n
def RNRel3 (W : World) (old : List Int) (x : Int) (m0 : Nat) (g : Nat) (s9 : Value) (wr : World) : Prop :=
  ∃ m : Nat, g = old.length - m ∧ m ≤ old.length ∧ m0 ≤ m ∧ s9 = .int .i64 m ∧ (∀ j, m0 ≤ j → j < m → old.getD j 0 ≠ x) ∧ ∃ n, wr = W.drewN n
def RNRel4 (W : World) (c all : List Int) (n0 : Nat) (g : Nat) (s10 : Value) (wr : World) : Prop :=
  ∃ n : Nat, g = c.length - n ∧ n ≤ c.length ∧ n0 ≤ n ∧ s10 = .int .i64 n ∧ (∀ j, n0 ≤ j → j < n → c.getD j 0 ∉ all) ∧ ∃ n, wr = W.drewN n

end Go.Proofs.YtohmmjaikhpcfaaGreat
