/- the arguments of the laws, opened: lists, projections, questions -/
import Derived.Test.YtghdhhbpbmhooaaGreatPkKeep
import Derived.Test.YtghdhhbpbmhooaaGreatRead
namespace Go.Proofs.YtghdhhbpbmhooaaGreat
open Go.RowKit Esch

def Old (w : World) : Nat → Prop := fun k => k < w.heap.size
theorem choose_list {α : Type} [Inhabited α] (n : Nat) (P : Nat → α → Prop) (h : ∀ i, i < n → ∃ x, P i x) : ∃ l : List α, l.length = n ∧ ∀ i, i < n → P i (l.getD i default) := by
  have key : ∀ i, ∃ x, i < n → P i x := fun i => by
    by_cases hi : i < n
    · obtain ⟨x, hx⟩ := h i hi; exact ⟨x, fun _ => hx⟩
    · exact ⟨default, fun h => absurd h hi⟩
  refine ⟨(List.range n).map fun i => Classical.choose (key i), by simp, fun i hi => ?_⟩
  have := Classical.choose_spec (key i) hi
  rw [List.getD_eq_getElem?_getD, List.getElem?_eq_getElem (by simpa using hi)]
  simpa using this

theorem rd_slice_cap {w : World} {T : Ty} {a : Option Addr} {n c : Nat} {d : D} (h : Rd w (.slice T) [.slice a n c] d) : n ≤ c ∧ c ≤ 9223372036854775807 := by
  obtain ⟨l, -, ⟨e, -⟩ | ⟨a', cap, cell, e, h1, h2, -⟩⟩ := rd_slice.1 h
  · cases e; omega
  · cases e; unfold Go.maxLen at h2; omega
theorem rd_ints {w : World} {cs : List Value} {d : D} (h : Rd w (.slice (.int .i64)) cs d) : ∃ (a : Option Addr) (l : List Int) (c : Nat), cs = [.slice a l.length c] ∧ IntsAt (Old w) w a l ∧ CapOk l c := by
  have hcs : ∃ v, cs = [v] := by
    obtain ⟨l, -, ⟨rfl, -⟩ | ⟨a, cap, cell, rfl, -⟩⟩ := rd_slice.1 h <;> exact ⟨_, rfl⟩
  obtain ⟨v, rfl⟩ := hcs
  have h' := h
  obtain ⟨l, f, rfl, ⟨a0, cap, hv, -, hn, hc⟩, hl⟩ := rd_sliceAt h
  simp only [List.headD_cons] at hv
  rw [hv] at h'
  have hcp := rd_slice_cap h'
  obtain ⟨xs, hxl, hx⟩ := choose_list l.length (fun i x => f i = [Value.int .i64 x]) (fun i hi => by obtain ⟨n, hn, -⟩ := rd_int.1 (hl i hi); exact ⟨n, hn⟩)
  refine ⟨a0, xs, cap, by rw [hv, hxl], ⟨by rw [hxl]; exact hn, fun h0 => ?_⟩, by rw [hxl]; exact hcp.1, hcp.2⟩
  rw [hxl] at h0
  obtain ⟨b, off, rfl, hb, hcell⟩ := hc h0 (by decide)
  refine ⟨b, off, rfl, hb, hb, fun i hi => ?_⟩
  rw [hxl] at hi
  have := hcell i hi 0 (by decide)
  rw [hx i hi] at this
  simpa [Ty.cells] using this

theorem rd_lists {w : World} {cs : List Value} {d : D} (h : Rd w (.slice (.slice (.int .i64))) cs d) : ∃ (a : Option Addr) (ls : List (List Int)) (c : Nat), cs = [.slice a ls.length c] ∧ ListsAt (Old w) w a ls := by
  have hcs : ∃ v, cs = [v] := by
    obtain ⟨l, -, ⟨rfl, -⟩ | ⟨a, cap, cell, rfl, -⟩⟩ := rd_slice.1 h <;> exact ⟨_, rfl⟩
  obtain ⟨v, rfl⟩ := hcs
  obtain ⟨l, f, rfl, ⟨a0, cap, hv, -, hn, hc⟩, hl⟩ := rd_sliceAt h
  simp only [List.headD_cons] at hv
  obtain ⟨xs, hxl, hx⟩ := choose_list l.length (fun i (x : List Int) => ∃ ia ic, f i = [Value.slice ia x.length ic] ∧ IntsAt (Old w) w ia x ∧ CapOk x ic) (fun i hi => by
    obtain ⟨a, l, c, h1, h2⟩ := rd_ints (hl i hi); exact ⟨l, a, c, h1, h2⟩)
  refine ⟨a0, xs, cap, by rw [hv, hxl], by rw [hxl]; exact hn, fun h0 => ?_⟩
  rw [hxl] at h0
  obtain ⟨b, off, rfl, hb, hcell⟩ := hc h0 (by decide)
  refine ⟨b, off, rfl, hb, hb, fun i hi => ?_⟩
  rw [hxl] at hi
  obtain ⟨ia, ic, h1, h2⟩ := hx i hi
  have := hcell i hi 0 (by decide)
  rw [h1] at this
  exact ⟨ia, ic, by simp [Ty.cells] at this; simp; exact this, h2⟩

def tyProj : Ty := .struct [.int .i64, .slice (.slice (.int .i64))]
theorem rd_proj {w : World} {cs : List Value} {d : D} (h : Rd w tyProj cs d) : ∃ (e : Int) (a : Option Addr) (ls : List (List Int)) (c : Nat), cs = [.int .i64 e, .slice a ls.length c] ∧ ListsAt (Old w) w a ls := by
  simp only [tyProj, rd_struct, rds_cons, rds_nil, rd_int] at h
  obtain ⟨ds, rfl, c0, r0, d0, s0, rfl, rfl, -, ⟨k, rfl, rfl, -⟩, c1, r1, d1, s1, rfl, rfl, -, h1, rfl, rfl⟩ := h
  obtain ⟨a, ls, c, rfl, hl⟩ := rd_lists h1
  exact ⟨k, a, ls, c, rfl, hl⟩

end Go.Proofs.YtghdhhbpbmhooaaGreat
