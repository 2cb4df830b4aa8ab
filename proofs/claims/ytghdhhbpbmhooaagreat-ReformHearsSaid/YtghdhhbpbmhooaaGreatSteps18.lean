/- steps of a reform: how they are read -/
import Derived.Test.YtghdhhbpbmhooaaGreatKeepAns
namespace Go.Proofs.YtghdhhbpbmhooaaGreat
open Go.RowKit Esch

structure StepR where
  x : AnC
  heard : Bool
  skip : Bool
instance : Inhabited StepR := ⟨⟨⟨0, 0, ⟨#[]⟩, 0, none, [], 0, 0, 0, 0⟩, false, false⟩⟩
def StepR.cells (p : StepR) : List Value := p.x.cells ++ [.bool p.heard, .bool p.skip]
theorem StepR.cells_len (p : StepR) : p.cells.length = 10 := rfl
def tyStepR : Ty := .struct [.struct [tyAns, .bool], .bool]
theorem rd_stepR {w : World} {cs : List Value} {d : D} (h : Rd w tyStepR cs d) : ∃ p : StepR, cs = p.cells ∧ p.x.ok w := by
  unfold tyStepR at h
  simp only [rd_struct, rds_cons, rds_nil, rd_bool] at h
  obtain ⟨ds, rfl, c0, r0, d0, s0, rfl, rfl, -, ⟨ds1, rfl, c1, r1, d1, s1, rfl, rfl, -, h1, c2, r2, d2, s2, rfl, rfl, -, ⟨hb, rfl, rfl⟩, rfl, rfl⟩, c3, r3, d3, s3, rfl, rfl, -, ⟨sb, rfl, rfl⟩, rfl, rfl⟩ := h
  obtain ⟨q, rfl, hq⟩ := rd_ans h1
  exact ⟨⟨q, hb, sb⟩, by simp [StepR.cells], hq⟩
def StepsRAt (w : World) (oa : Option Addr) (n : Nat) (ps : Nat → StepR) : Prop :=
  0 < n → ∃ b off, oa = some ⟨b, off, none⟩ ∧ b < w.heap.size ∧ ∀ i, i < n → (ps i).x.ok w ∧ ∀ j v, (ps i).cells[j]? = some v → w.cell? ⟨b, off + i * 10 + j, none⟩ = some v
theorem rd_stepsR {w : World} {cs : List Value} {d : D} (h : Rd w (.slice tyStepR) cs d) : ∃ (oa : Option Addr) (n cap : Nat) (ps : Nat → StepR), cs.headD undef = .slice oa n cap ∧ n ≤ 9223372036854775807 ∧ StepsRAt w oa n ps := by
  obtain ⟨l, f, rfl, ⟨a0, cap, hv, -, hn, hc⟩, hl⟩ := rd_sliceAt h
  obtain ⟨xs, hxl, hx⟩ := choose_list l.length (fun i (x : StepR) => f i = x.cells ∧ x.x.ok w) (fun i hi => rd_stepR (hl i hi))
  refine ⟨a0, l.length, cap, fun i => xs.getD i default, hv, hn, fun h0 => ?_⟩
  obtain ⟨b, off, rfl, hb, hcell⟩ := hc h0 (by decide)
  refine ⟨b, off, rfl, hb, fun i hi => ?_⟩
  obtain ⟨h1, h2⟩ := hx i hi
  refine ⟨h2, fun j v hj => ?_⟩
  have hj9 : j < 10 := by
    have := (List.getElem?_eq_some_iff.1 hj).1
    rw [StepR.cells_len] at this
    exact this
  have := hcell i hi j (by show j < 10; omega)
  rw [h1, hj] at this
  rw [← this]
  rfl
theorem StepsRAt.get {w : World} {oa : Option Addr} {n k : Nat} {ps : Nat → StepR} (h : StepsRAt w oa n ps) (hk : k < n) : ∃ b off, oa = some ⟨b, off, none⟩ ∧ b < w.heap.size ∧ (ps k).x.data.size ≤ 9223372036854775807 ∧ ListsAt (Old w) w (ps k).x.ca (ps k).x.ls ∧
    w.cell? ⟨b, off + k * 10, none⟩ = some (.int .i64 (ps k).x.code) ∧ w.cell? ⟨b, off + k * 10 + 1, none⟩ = some (.int .i64 (ps k).x.n) ∧ w.cell? ⟨b, off + k * 10 + 2, none⟩ = some (.string (ps k).x.data) ∧
    w.cell? ⟨b, off + k * 10 + 3, none⟩ = some (.int .i64 (ps k).x.pe) ∧ w.cell? ⟨b, off + k * 10 + 4, none⟩ = some (.slice (ps k).x.ca (ps k).x.ls.length (ps k).x.cc) ∧ w.cell? ⟨b, off + k * 10 + 5, none⟩ = some (.int .i64 (ps k).x.mark) ∧
    w.cell? ⟨b, off + k * 10 + 6, none⟩ = some (.int .i64 (ps k).x.size) ∧ w.cell? ⟨b, off + k * 10 + 7, none⟩ = some (.int .i64 (ps k).x.epoch) ∧ w.cell? ⟨b, off + k * 10 + 8, none⟩ = some (.bool (ps k).heard) ∧ w.cell? ⟨b, off + k * 10 + 9, none⟩ = some (.bool (ps k).skip) := by
  obtain ⟨b, off, e, hb, hc⟩ := h (by omega)
  obtain ⟨⟨h1, h2⟩, h3⟩ := hc k hk
  exact ⟨b, off, e, hb, h1, h2, h3 0 _ rfl, h3 1 _ rfl, h3 2 _ rfl, h3 3 _ rfl, h3 4 _ rfl, h3 5 _ rfl, h3 6 _ rfl, h3 7 _ rfl, h3 8 _ rfl, h3 9 _ rfl⟩
end Go.Proofs.YtghdhhbpbmhooaaGreat
