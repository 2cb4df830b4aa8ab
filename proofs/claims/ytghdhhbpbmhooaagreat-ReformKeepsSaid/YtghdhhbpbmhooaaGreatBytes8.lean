/- lists of bytes: how they are read -/
import Derived.Test.YtghdhhbpbmhooaaGreatReadApi
namespace Go.Proofs.YtghdhhbpbmhooaaGreat
open Go.RowKit Esch

def BytesAt (w : World) (a : Option Addr) (l : List Int) : Prop :=
  0 < l.length → ∃ b off, a = some ⟨b, off, none⟩ ∧ b < w.heap.size ∧ ∀ i, i < l.length → w.cell? ⟨b, off + i, none⟩ = some (.int .u8 (l.getD i 0)) ∧ 0 ≤ l.getD i 0 ∧ l.getD i 0 ≤ 255
theorem rd_u8s {w : World} {cs : List Value} {d : D} (h : Rd w (.slice (.int .u8)) cs d) : ∃ (a : Option Addr) (l : List Int) (c : Nat), cs.headD undef = .slice a l.length c ∧ BytesAt w a l ∧ l.length ≤ 9223372036854775807 := by
  obtain ⟨l, f, rfl, ⟨a0, cap, hv, -, hn, hc⟩, hl⟩ := rd_sliceAt h
  obtain ⟨xs, hxl, hx⟩ := choose_list l.length (fun i (x : Int) => f i = [Value.int .u8 x] ∧ 0 ≤ x ∧ x ≤ 255) (fun i hi => by
    obtain ⟨n, hn, -, h0, h1⟩ := rd_int.1 (hl i hi); exact ⟨n, hn, h0, h1⟩)
  refine ⟨a0, xs, cap, by rw [hv, hxl], fun h0 => ?_, by rw [hxl]; exact hn⟩
  rw [hxl] at h0
  obtain ⟨b, off, rfl, hb, hcell⟩ := hc h0 (by decide)
  refine ⟨b, off, rfl, hb, fun i hi => ?_⟩
  rw [hxl] at hi
  obtain ⟨h1, h2⟩ := hx i hi
  have := hcell i hi 0 (by decide)
  rw [h1] at this
  exact ⟨by simpa [Ty.cells] using this, h2⟩
theorem BytesAt.get {w w' : World} {a : Option Addr} {l : List Int} (h : BytesAt w a l) (hB : Below w.heap.size w w') {i : Nat} (hi : i < l.length) : ∃ b off v, a = some ⟨b, off, none⟩ ∧ w'.cell? ⟨b, off + i, none⟩ = some (.int .u8 v) ∧ 0 ≤ v ∧ v ≤ 255 := by
  obtain ⟨b, off, e, hb, hc⟩ := h (by omega)
  obtain ⟨h1, h2, h3⟩ := hc i hi
  exact ⟨b, off, _, e, below_at hB h1 hb, h2, h3⟩
end Go.Proofs.YtghdhhbpbmhooaaGreat
