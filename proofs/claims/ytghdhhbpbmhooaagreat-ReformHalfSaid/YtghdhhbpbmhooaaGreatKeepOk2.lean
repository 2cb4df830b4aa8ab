/- records behind a change: plain Lean -/
import Derived.Test.YtghdhhbpbmhooaaGreatKeepOk
import Derived.Test.YtghdhhbpbmhooaaGreatAgOk
namespace Go.Proofs.YtghdhhbpbmhooaaGreat
open Go.RowKit Esch

theorem chO_cases {u : Nat} {c : Nat} (hc : c < 2) (h : (u : Int) ∈ chO c) : u < 5 := by
  have : c = 0 ∨ c = 1 := by omega
  rcases this with rfl | rfl
  · have h : (u : Int) ∈ ([0, 1, 2] : List Int) := h
    simp only [List.mem_cons, List.not_mem_nil, or_false] at h
    omega
  · have h : (u : Int) ∈ ([3, 4] : List Int) := h
    simp only [List.mem_cons, List.not_mem_nil, or_false] at h
    omega
theorem chO_units {u : Int} {c : Nat} (hc : c < 2) (h : u ∈ chO c) : u ∈ qOld.units := by
  have : c = 0 ∨ c = 1 := by omega
  rcases this with rfl | rfl
  · exact List.mem_flatten.2 ⟨[0, 1, 2], by decide, h⟩
  · exact List.mem_flatten.2 ⟨[3, 4], by decide, h⟩
/-- what holds of all units behind the change -/
structure KEnv (q : Proj) (E : Nat → Int) (D : Nat → Bool) : Prop where
  nx : NextO q
  dq : ∀ u : Nat, u < 16 → (u : Int) ∈ q.units → D u = false
  eq : ∀ u, u < 16 → E u ≤ 1
  old : ∀ u : Nat, (u : Int) ∈ qOld.units → D u = true ∨ (D u = false ∧ 0 < E u)
theorem KEnv.unit {q : Proj} {E : Nat → Int} {D : Nat → Bool} (h : KEnv q E D) {c : Nat} (hc : c < 2) {k : Nat} (hk : k < (chQ q c).length) : ∃ u : Nat, u < 16 ∧ (chQ q c).getD k 0 = u ∧ (u : Int) ∈ chQ q c ∧ D u = false ∧ E u ≤ q.epoch := by
  have hm := getD_in hk
  obtain ⟨g1, g2, g3⟩ := h.nx.mem hc hm
  obtain ⟨u, hu⟩ : ∃ u : Nat, (chQ q c).getD k 0 = u := ⟨((chQ q c).getD k 0).toNat, by omega⟩
  rw [hu] at g1 g2 g3 hm
  exact ⟨u, by omega, hu, hm, h.dq u (by omega) g1, by rw [h.nx.ep]; exact h.eq u (by omega)⟩
section
variable {q : Proj} {E : Nat → Int} {D : Nat → Bool} {L : LayS} {M : Pgs} {m c : Nat} {T : Nat → ByteArray} {t : Int}
theorem fe0_of {o : Proj} (hg : o.good) (hl : o.chains.length = 2) (i : Nat) (hi : i < 1000) (fill : Bool) : fe0 o (i : Int) fill = ⟨o, i, fill, 2, 0, 0, 0, ⟨#[]⟩, 0⟩ := by
  unfold fe0
  rw [if_pos (chn_of hg hl i hi).ok]
end
end Go.Proofs.YtghdhhbpbmhooaaGreat
