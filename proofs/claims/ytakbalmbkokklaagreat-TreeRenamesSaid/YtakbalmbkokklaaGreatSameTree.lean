/- law22.Same is true of a tree and the document's, where both are of one state -/
import Derived.Test.YtakbalmbkokklaaGreatPkSame
import Derived.Test.YtakbalmbkokklaaGreatEntRow
import Derived.Test.YtakbalmbkokklaaGreatRTree11
namespace Go.Proofs.YtakbalmbkokklaaGreat
open Go.RowKit Esch Go.Shelf

set_option maxRecDepth 100000 in
set_option maxHeartbeats 4000000 in
theorem sameTree_any (w : World) (tb qb : Nat) (S R : Nat → Prop) (s : TrS) (h : TreeAt w tb S s) (hq : RTreeAt w qb R s) (hg : GK s) (hr : Rise s.t) :
    Calls Tryz.prog 33 #[.pointer (some ⟨tb, 0, none⟩), .pointer (some ⟨qb, 0, none⟩)] w fun e w' => e = .returned (.bool true) ∧ Below w.heap.size w w' := by
  obtain ⟨ib, nb, T1, T2, L, h2, hs⟩ := RT2.of hq
  have hBd : Below w.heap.size w w.drew := by exact belC (Below.refl _ _)
  have hLl := hg.L hs
  have hnl := hg.nlen
  obtain ⟨-, -, ao, cap, n0, -, hgr⟩ := h2.hn
  have hent : EntRw w (fun k => T2 k ∧ k ≠ nb) ao L := hgr.row
  have hin := trInodes_any w.drew tb S s (h.below' hBd)
  have hnm := fun W (hW : Below w.heap.size w W) => trNames_any W tb S s (h.below' hW)
  have hst := fun W ib2 S1 (hW : Below w.heap.size w W) (hT : TabAt W ib2 S1 s.t) => sameTab_any W ib2 ib S1 T1 s.t hT ((h2.below hW).ht) hg.ki hr
  have HNM := Lib.hid hnm
  have HST := Lib.hid hst
  have HEN := Lib.hid hent
  have HSO := Lib.hid hs
  have HLL := Lib.hid hLl
  have HNL := Lib.hid hnl
  have HBD := Lib.hid hBd
  have hql := cell_lt h2.c0
  have hnl2 := cell_lt n0
  have HQL := Lib.hid hql
  have HNBL := Lib.hid hnl2
  have hKd : w.drew.cell? ⟨qb, 0, none⟩ = some (.pointer (some ⟨ib, 0, none⟩)) ∧ w.drew.cell? ⟨qb, 1, none⟩ = some (.pointer (some ⟨nb, 0, none⟩)) ∧ w.drew.cell? ⟨nb, 0, none⟩ = some (.slice ao L.length cap) := ⟨h2.c0, h2.c1, n0⟩
  clear hnm hst hent hs hLl hnl hBd hgr h2 h hq n0 hql hnl2
  go_enter Tryz.func33, Tryz.ntmps33
  go_wp2_with fail
  go_region_held3 (fun W' => W'.cell? ⟨qb, 0, none⟩ = some (.pointer (some ⟨ib, 0, none⟩)) ∧ W'.cell? ⟨qb, 1, none⟩ = some (.pointer (some ⟨nb, 0, none⟩)) ∧ W'.cell? ⟨nb, 0, none⟩ = some (.slice ao L.length cap))
    (first
      | with_reducible exact hKd
      | with_reducible exact hK3
      | with_reducible exact hK5
      | with_reducible exact hK6
      | with_reducible exact hK7)
    (first
      | (go_at_call 16; (with_reducible refine hin.mono ?_); rintro e w2 ⟨⟨ib2, S1, rfl, hT⟩, rfl⟩
         have hst2 := HST.out _ ib2 S1 HBD.out hT
         clear hT)
      | (go_at_call 75; (with_reducible refine hst2.mono ?_); rintro e w3 ⟨rfl, hB3'⟩
         have hB3 : Below w.heap.size w w3 := ⟨hB3'.os, hB3'.tape, hB3'.output, hB3'.size, hB3'.block⟩
         have hK3 : w3.cell? ⟨qb, 0, none⟩ = some (.pointer (some ⟨ib, 0, none⟩)) ∧ w3.cell? ⟨qb, 1, none⟩ = some (.pointer (some ⟨nb, 0, none⟩)) ∧ w3.cell? ⟨nb, 0, none⟩ = some (.slice ao L.length cap) := ⟨below_at hB3 hKd.1 HQL.out, below_at hB3 hKd.2.1 HQL.out, below_at hB3 hKd.2.2 HNBL.out⟩
         have hnm3 := HNM.out w3 hB3
         have HB3 := Lib.hid hB3
         clear hB3 hB3')
      | (go_at_call 26; (with_reducible refine hnm3.mono ?_); rintro e w4 ⟨⟨nb2, S2, rfl, hD⟩, rfl⟩
         have hall := dirAll_any _ nb2 S2 s.n hD (by have := HNL.out; omega)
         clear hD)
      | (go_at_call 27; (with_reducible refine hall.mono ?_); rintro e w5 ⟨a5, c5, l5, rfl, hs5, hE5, -, hB5⟩
         obtain rfl : l5 = L := hs5.unique HSO.out (List.Perm.refl _)
         have hK5 : w5.cell? ⟨qb, 0, none⟩ = some (.pointer (some ⟨ib, 0, none⟩)) ∧ w5.cell? ⟨qb, 1, none⟩ = some (.pointer (some ⟨nb, 0, none⟩)) ∧ w5.cell? ⟨nb, 0, none⟩ = some (.slice ao l5.length cap) := ⟨below_at hB5 hK3.1 (cell_lt hK3.1), below_at hB5 hK3.2.1 (cell_lt hK3.2.1), below_at hB5 hK3.2.2 (cell_lt hK3.2.2)⟩
         have hown := entOwn_any w5 _ a5 c5 l5 hE5.row (by have := HLL.out; omega)
         have HB5 := Lib.hid (HB3.out.trans (hB5.mono HB3.out.size))
         clear hs5 hE5 hB5)
      | (go_at_call 77; (with_reducible refine hown.mono ?_); rintro e w6 ⟨a6, c6, rfl, hR6, -, hB6⟩
         have hK6 : w6.cell? ⟨qb, 0, none⟩ = some (.pointer (some ⟨ib, 0, none⟩)) ∧ w6.cell? ⟨qb, 1, none⟩ = some (.pointer (some ⟨nb, 0, none⟩)) ∧ w6.cell? ⟨nb, 0, none⟩ = some (.slice ao l5.length cap) := ⟨below_at hB6 hK5.1 (cell_lt hK5.1), below_at hB6 hK5.2.1 (cell_lt hK5.2.1), below_at hB6 hK5.2.2 (cell_lt hK5.2.2)⟩
         have HB6 := Lib.hid (HB5.out.trans (hB6.mono HB5.out.size))
         have hsm := rEntSame_any w6 _ _ a6 ao c6 cap l5 l5 hR6 (HEN.out.below' HB6.out) (by have := HLL.out; omega)
         rw [decide_eq_true rfl] at hsm
         clear hR6 hB6)
      | (go_at_call 76; (with_reducible refine hsm.mono ?_); rintro e w7 ⟨rfl, hB7⟩
         have hK7 : w7.cell? ⟨qb, 0, none⟩ = some (.pointer (some ⟨ib, 0, none⟩)) ∧ w7.cell? ⟨qb, 1, none⟩ = some (.pointer (some ⟨nb, 0, none⟩)) ∧ w7.cell? ⟨nb, 0, none⟩ = some (.slice ao l5.length cap) := ⟨below_at hB7 hK6.1 (cell_lt hK6.1), below_at hB7 hK6.2.1 (cell_lt hK6.2.1), below_at hB7 hK6.2.2 (cell_lt hK6.2.2)⟩
         have HB7 := Lib.hid (HB6.out.trans (hB7.mono HB6.out.size))
         clear hB7))
  go_wp2_with fail
  go_ret
  exact ⟨rfl, HB7.out⟩
end Go.Proofs.YtakbalmbkokklaaGreat
