/- lists of questions: how they are read -/
import Derived.Test.YtnojjohkpkmliaaGreatPkKeep
import Derived.Test.YtnojjohkpkmliaaGreatOld
import Derived.Deep.LoopGhost
import Derived.Deep.CutRange
import Derived.Deep.DeepCutAuto
namespace Go.Proofs.YtnojjohkpkmliaaGreat
open Go.RowKit Esch

/-- the questions of a slice -/
def AsksAt (w : World) (oa : Option Addr) (n : Nat) (qs : Nat → AskC) : Prop :=
  0 < n → ∃ b off, oa = some ⟨b, off, none⟩ ∧ b < w.heap.size ∧ ∀ i, i < n → (qs i).ok w ∧ ∀ j v, (qs i).cells[j]? = some v → w.cell? ⟨b, off + i * 9 + j, none⟩ = some v
theorem rd_asks {w : World} {cs : List Value} {d : D} (h : Rd w (.slice tyAsk) cs d) : ∃ (oa : Option Addr) (n cap : Nat) (qs : Nat → AskC), cs.headD undef = .slice oa n cap ∧ n ≤ 9223372036854775807 ∧ AsksAt w oa n qs := by
  obtain ⟨l, f, rfl, ⟨a0, cap, hv, -, hn, hc⟩, hl⟩ := rd_sliceAt h
  obtain ⟨xs, hxl, hx⟩ := choose_list l.length (fun i (x : AskC) => f i = x.cells ∧ x.ok w) (fun i hi => rd_ask (hl i hi))
  refine ⟨a0, l.length, cap, fun i => xs.getD i default, hv, hn, fun h0 => ?_⟩
  obtain ⟨b, off, rfl, hb, hcell⟩ := hc h0 (by decide)
  refine ⟨b, off, rfl, hb, fun i hi => ?_⟩
  obtain ⟨h1, h2⟩ := hx i hi
  refine ⟨h2, fun j v hj => ?_⟩
  have hj9 : j < 9 := by
    have := (List.getElem?_eq_some_iff.1 hj).1
    rw [AskC.cells_len] at this
    exact this
  have := hcell i hi j (by show j < 9; omega)
  rw [h1, hj] at this
  rw [← this]
  rfl
/-- a question's nine cells, as they lie -/
theorem AsksAt.get {w : World} {oa : Option Addr} {n k : Nat} {qs : Nat → AskC} (h : AsksAt w oa n qs) (hk : k < n) : ∃ b off, oa = some ⟨b, off, none⟩ ∧ b < w.heap.size ∧ (qs k).data.size ≤ 9223372036854775807 ∧ ListsAt (Old w) w (qs k).ca (qs k).ls ∧
    w.cell? ⟨b, off + k * 9, none⟩ = some (.int .i64 (qs k).kind) ∧ w.cell? ⟨b, off + k * 9 + 1, none⟩ = some (.int .i64 (qs k).unit) ∧ w.cell? ⟨b, off + k * 9 + 2, none⟩ = some (.int .i64 (qs k).epoch) ∧
    w.cell? ⟨b, off + k * 9 + 3, none⟩ = some (.int .i64 (qs k).page) ∧ w.cell? ⟨b, off + k * 9 + 4, none⟩ = some (.int .i64 (qs k).size) ∧ w.cell? ⟨b, off + k * 9 + 5, none⟩ = some (.int .i64 (qs k).n) ∧
    w.cell? ⟨b, off + k * 9 + 6, none⟩ = some (.string (qs k).data) ∧ w.cell? ⟨b, off + k * 9 + 7, none⟩ = some (.int .i64 (qs k).pe) ∧ w.cell? ⟨b, off + k * 9 + 8, none⟩ = some (.slice (qs k).ca (qs k).ls.length (qs k).cc) := by
  obtain ⟨b, off, e, hb, hc⟩ := h (by omega)
  obtain ⟨⟨h1, h2⟩, h3⟩ := hc k hk
  exact ⟨b, off, e, hb, h1, h2, h3 0 _ rfl, h3 1 _ rfl, h3 2 _ rfl, h3 3 _ rfl, h3 4 _ rfl, h3 5 _ rfl, h3 6 _ rfl, h3 7 _ rfl, h3 8 _ rfl⟩

def askLarge (q : AskC) : Bool := decide (6000 < q.data.size) || largeProj q.ls
end Go.Proofs.YtnojjohkpkmliaaGreat
