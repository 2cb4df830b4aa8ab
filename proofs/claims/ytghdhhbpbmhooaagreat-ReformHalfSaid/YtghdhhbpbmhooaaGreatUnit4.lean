/- a storage unit: made; its small calls -/
import Derived.Test.YtghdhhbpbmhooaaGreatUnit3
namespace Go.Proofs.YtghdhhbpbmhooaaGreat
open Go.RowKit Esch

def UnNew (w : World) (room : Nat) (e : Ending) (w' : World) : Prop := ∃ u pb mb, e = .returned (.tuple #[.pointer (some ⟨u, 0, none⟩), .int .i64 0]) ∧ UnitAt w' u pb mb ⟨pg0 room, 0, false⟩ ∧ w.heap.size ≤ u ∧ w.heap.size ≤ pb ∧ w.heap.size ≤ mb ∧ Below w.heap.size w w'
set_option maxHeartbeats 1000000 in
theorem unNew_any (w : World) (room : Nat) (h1 : 1 ≤ room) (h2 : room ≤ 4096) : Calls Tryz.prog 87 #[.int .i64 room] w (UnNew w room) := by
  have hn := pnew_any w room h1 h2
  go_enter Tryz.func87, Tryz.ntmps87
  go_wp2_with fail
  refine hn.mono ?_
  clear hn
  rintro e w1 ⟨b, mb, rfl, hP, hb, hmb, hB⟩
  have hz := hB.size
  have HP := Lib.hid hP
  have hbl := cell_lt hP.c0
  have hml := hP.mlt
  clear hP
  go_wp2_with fail
  go_ret2
  refine ⟨w1.heap.size, b, mb, rfl, ⟨by go_simp, by go_simp, by go_simp, by go_simp, by go_simp, HP.out.keep (by exact modC (Mod.refl _ _)), by omega, by omega⟩, by omega, hb, hmb, by exact belC hB⟩
end Go.Proofs.YtghdhhbpbmhooaaGreat
