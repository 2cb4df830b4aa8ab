/- a record with its number ahead; texts as arguments -/
import Derived.Test.YtghdhhbpbmhooaaGreatReadApi
import Derived.Laws.BytesArg
namespace Go.Proofs.YtghdhhbpbmhooaaGreat
open Go.RowKit Esch

theorem conv_at {W : World} {nb : Nat} {x : Int} (hc : W.cell? ⟨nb, 0, none⟩ = some (.int .u8 x)) {i : Nat} (hi : i < 1) : W.cell? ⟨nb, 0 + i, none⟩ = some (.int .u8 ([x].getD i 0)) := by
  obtain rfl : i = 0 := by omega
  exact hc
theorem conv_one (W : World) (nb : Nat) (x : Int) (hc : W.cell? ⟨nb, 0, none⟩ = some (.int .u8 x)) : (Go.convert 83 9 (.slice (some ⟨nb, 0, none⟩) 1 1)).run Tryz.prog W = .ok (.string (strOfNums [x])) W :=
  run_convert_bytes_arg W _ 5 Tryz.underlying83 Tryz.underlying5 nb 0 1 1 [x] rfl (fun _ hi => conv_at hc hi) _ Tryz.underlying9
def recO (recs : List ByteArray) (i : Nat) : ByteArray := strOfNums [(i : Int)] ++ recs.getD i ⟨#[]⟩
theorem u8_small {i : Nat} (h : i < 256) : IntKind.u8.wrap (i : Int) = i := by
  rw [IntKind.wrap_u8]; omega
def StrsAt (w : World) (a : Option Addr) (l : List ByteArray) : Prop :=
  0 < l.length → ∃ b off, a = some ⟨b, off, none⟩ ∧ b < w.heap.size ∧ ∀ i, i < l.length → w.cell? ⟨b, off + i, none⟩ = some (.string (l.getD i ⟨#[]⟩)) ∧ (l.getD i ⟨#[]⟩).size ≤ 9223372036854775807
theorem getD_eq {α : Type} {l : List α} {i : Nat} (h : i < l.length) (d e : α) : l.getD i d = l.getD i e := by
  rw [List.getD_eq_getElem?_getD, List.getD_eq_getElem?_getD, List.getElem?_eq_getElem h]; rfl
theorem rd_strs {w : World} {cs : List Value} {d : D} (h : Rd w (.slice .str) cs d) : ∃ (a : Option Addr) (l : List ByteArray) (c : Nat), cs.headD undef = .slice a l.length c ∧ StrsAt w a l ∧ l.length ≤ 9223372036854775807 := by
  obtain ⟨l, f, rfl, ⟨a0, cap, hv, -, hn, hc⟩, hl⟩ := rd_sliceAt h
  obtain ⟨xs, hxl, hx⟩ := choose_list l.length (fun i (x : ByteArray) => f i = [Value.string x] ∧ x.size ≤ 9223372036854775807) (fun i hi => by
    obtain ⟨n, hn, -, h0⟩ := rd_str.1 (hl i hi); exact ⟨n, hn, by unfold Go.maxLen at h0; omega⟩)
  refine ⟨a0, xs, cap, by rw [hv, hxl], fun h0 => ?_, by rw [hxl]; exact hn⟩
  rw [hxl] at h0
  obtain ⟨b, off, rfl, hb, hcell⟩ := hc h0 (by decide)
  refine ⟨b, off, rfl, hb, fun i hi => ?_⟩
  have hi2 := hi
  rw [hxl] at hi
  obtain ⟨h1, h2⟩ := hx i hi
  rw [getD_eq hi2 default ⟨#[]⟩] at h1 h2
  have := hcell i hi 0 (by decide)
  rw [h1] at this
  exact ⟨by simpa [Ty.cells] using this, h2⟩
theorem StrsAt.get {w w' : World} {a : Option Addr} {l : List ByteArray} (h : StrsAt w a l) (hB : Below w.heap.size w w') {i : Nat} (hi : i < l.length) : ∃ b off, a = some ⟨b, off, none⟩ ∧ b < w.heap.size ∧ w'.cell? ⟨b, off + i, none⟩ = some (.string (l.getD i ⟨#[]⟩)) ∧ (l.getD i ⟨#[]⟩).size ≤ 9223372036854775807 := by
  obtain ⟨b, off, e, hb, hc⟩ := h (by omega)
  obtain ⟨h1, h2⟩ := hc i hi
  exact ⟨b, off, e, hb, below_at hB h1 hb, h2⟩
end Go.Proofs.YtghdhhbpbmhooaaGreat
