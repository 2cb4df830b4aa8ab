/- lists of texts as arguments -/
import Derived.Test.YtakbalmbkokklaaGreatPath
import Derived.Test.YtakbalmbkokklaaGreatRead
namespace Go.Proofs.YtakbalmbkokklaaGreat
open Go.RowKit Esch

theorem pick_list {α : Type} [Inhabited α] (n : Nat) (P : Nat → α → Prop) (h : ∀ i, i < n → ∃ x, P i x) : ∃ l : List α, l.length = n ∧ ∀ i, i < n → P i (l.getD i default) := by
  have key : ∀ i, ∃ x, i < n → P i x := fun i => by
    by_cases hi : i < n
    · obtain ⟨x, hx⟩ := h i hi; exact ⟨x, fun _ => hx⟩
    · exact ⟨default, fun h => absurd h hi⟩
  refine ⟨(List.range n).map fun i => Classical.choose (key i), by simp, fun i hi => ?_⟩
  have := Classical.choose_spec (key i) hi
  rw [List.getD_eq_getElem?_getD, List.getElem?_eq_getElem (by simpa using hi)]
  simpa using this
theorem rd_nms {w : World} {cs : List Value} {d : D} (h : Rd w (.slice .str) cs d) : ∃ (a : Option Addr) (l : List Nm) (c : Nat), cs.headD undef = .slice a l.length c ∧ NmsAt (fun _ => True) w a l ∧ l.length ≤ 9223372036854775807 := by
  obtain ⟨l, f, rfl, ⟨a0, cap, hv, -, hn, hc⟩, hl⟩ := rd_sliceAt h
  obtain ⟨xs, hxl, hx⟩ := pick_list l.length (fun i (x : Nm) => f i = [Value.string (bs x)]) (fun i hi => by
    obtain ⟨n, hn, -, h0⟩ := rd_str.1 (hl i hi)
    exact ⟨n.data.toList, hn⟩)
  refine ⟨a0, xs, cap, by rw [hv, hxl], fun h0 => ?_, by rw [hxl]; exact hn⟩
  rw [hxl] at h0
  obtain ⟨b, off, rfl, hb, hcell⟩ := hc h0 (by decide)
  refine ⟨b, off, rfl, trivial, hb, fun i hi => ?_⟩
  have hi2 := hi
  rw [hxl] at hi
  have h1 := hx i hi
  have := hcell i hi 0 (by decide)
  rw [h1] at this
  have e : xs.getD i default = xs.getD i [] := by rw [List.getD_eq_getElem?_getD, List.getD_eq_getElem?_getD, List.getElem?_eq_getElem hi2]; rfl
  rw [← e]
  simpa [Ty.cells] using this
end Go.Proofs.YtakbalmbkokklaaGreat
