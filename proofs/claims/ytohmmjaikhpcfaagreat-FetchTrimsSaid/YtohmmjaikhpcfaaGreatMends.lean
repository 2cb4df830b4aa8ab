/- what the laws of the fetch have in common -/
import Derived.Test.YtohmmjaikhpcfaaGreatLay16b
namespace Go.Proofs.YtohmmjaikhpcfaaGreat
open Go.RowKit Esch

theorem BytesAt.below' {w w' : World} {a : Option Addr} {l : List Int} (h : BytesAt w a l) (hB : Below w.heap.size w w') : BytesAt w' a l := fun h0 => by
  obtain ⟨b, off, e, hb, hc⟩ := h h0
  exact ⟨b, off, e, Nat.lt_of_lt_of_le hb hB.size, fun i hi => ⟨below_at hB (hc i hi).1 hb, (hc i hi).2⟩⟩
/-- what is found on the first unit -/
theorem VI.first {nd : NdS} {R : Nat} {M : Pgs} (h : VI nd R M) {a : Nat} (ha : a < 40) {m : Nat} {v : Int × ByteArray} (hp : Pre a M m v) (gv : GoodV v) :
    ∃ d0 e0, (nd.units (uT a 0)).pg.read ((a / 3 : Nat) : Int) = (d0, e0) ∧ ((e0 = 0 ∧ (if m = 0 then (2, ⟨#[]⟩) else v) = ((1 : Int), d0)) ∨ (e0 ≠ 0 ∧ (if m = 0 then (2, ⟨#[]⟩) else v) = ((2 : Int), (⟨#[]⟩ : ByteArray)))) := by
  have hl := lenT_le a
  obtain ⟨g, hg, hW, hv⟩ := h.vw.page (uT a 0) (by have := uT_lt (show 0 < lenT a by omega); omega)
  have hM := hp.at' 0 (by omega)
  rw [hg, hW.read (inB_page ha), hv, hM]
  by_cases e : m = 0
  · rw [if_neg (by omega)]
    exact ⟨_, _, rfl, Or.inr ⟨by decide, if_pos e⟩⟩
  · rw [if_pos (by omega)]
    by_cases h2 : v.1 = 2
    · exact ⟨_, _, if_pos h2, Or.inr ⟨by decide, by rw [if_neg e]; exact goodV_2 gv h2⟩⟩
    · exact ⟨_, _, if_neg h2, Or.inl ⟨rfl, by rw [if_neg e]; exact (goodV_1 gv h2).1⟩⟩
theorem VI.kind {nd : NdS} {R : Nat} {M : Pgs} (h : VI nd R M) {a : Nat} (ha : a < 40) {m : Nat} {v : Int × ByteArray} (hp : Pre a M m v) {k : Nat} (hk : k < lenT a) (hm : k < m) : (nd.units (uT a k)).pg.kind ((a / 3 : Nat) : Int) = v.1 := by
  obtain ⟨g, hg, hW, hv⟩ := h.vw.page (uT a k) (by have := uT_lt hk; omega)
  have hM := hp.at' k hk
  rw [if_pos hm] at hM
  rw [hg]
  exact (hW.kind_some (inB_page ha) ((hv _).trans hM)).1
theorem VI.start (R : Nat) (hR : 14 < R) : VI (nd0 qT R) R (fun _ _ => none) := ⟨(vw_new rfl R).mono (by omega), inv0, hR⟩
def MendsRel (w13 : World) (n g : Nat) (s19 : Value) (wr : World) : Prop := ∃ k : Nat, g = n - k ∧ k ≤ n ∧ s19 = .int .i64 k ∧ Mod none' w13 wr
end Go.Proofs.YtohmmjaikhpcfaaGreat
