/- a storage unit: made; its small calls -/
import Derived.Test.YtnojjohkpkmliaaGreatUnit3
namespace Go.Proofs.YtnojjohkpkmliaaGreat
open Go.RowKit Esch

def UnNew (w : World) (room : Nat) (e : Ending) (w' : World) : Prop := ∃ u pb mb, e = .returned (.tuple #[.pointer (some ⟨u, 0, none⟩), .int .i64 0]) ∧ UnitAt w' u pb mb ⟨pg0 room, 0, false⟩ ∧ w.heap.size ≤ u ∧ w.heap.size ≤ pb ∧ w.heap.size ≤ mb ∧ Below w.heap.size w w'
set_option maxHeartbeats 1000000 in
theorem unNew_any (w : World) (room : Nat) (h1 : 1 ≤ room) (h2 : room ≤ 4096) : Calls Tryz.prog 33 #[.int .i64 room] w (UnNew w room) := by
  have hn := pnew_any w room h1 h2
  go_enter Tryz.func33, Tryz.ntmps33
  go_wp2_with fail
  refine hn.mono ?_
  clear hn
  rintro e w1 ⟨b, mb, rfl, hP, hb, hmb, hB⟩
  have hz := hB.size
  have HP := Lib.hid hP
  have hbl := cell_lt hP.c0
  have hml := hP.mlt
  clear hP
  go_wp2_with fail
  go_ret2
  refine ⟨w1.heap.size, b, mb, rfl, ⟨by go_simp, by go_simp, by go_simp, by go_simp, by go_simp, HP.out.keep (by (repeat' (first | (with_reducible exact (Mod.refl _ _)) | (with_reducible apply Mod.drew) | (with_reducible apply Mod.drewN) | (with_reducible apply Mod.alloc) | (with_reducible apply Mod.setCellAt) | (intro _; first | rfl | exact Or.inl rfl | exact Or.inr rfl) | (intro h; exfalso; omega)))), by omega, by omega⟩, by omega, hb, hmb, by (repeat (first | with_reducible exact hB | with_reducible refine Below.drew ?_ | with_reducible refine Esch.below_drewN ?_ _ | with_reducible refine Below.setCell ?_ (by first | omega | (simp; done) | (simp; omega)) _ | with_reducible refine Below.alloc ?_ (by first | omega | (simp; done) | (simp; omega)) _))⟩
theorem unNew_no (w : World) (room : Int) (h : room < 1 ∨ 4096 < room) : Calls Tryz.prog 33 #[.int .i64 room] w fun e w' => e = .returned (.tuple #[.pointer none, .int .i64 1]) ∧ w' = w := by
  have hn := pnew_no w room h
  go_enter Tryz.func33, Tryz.ntmps33
  go_wp2_with fail
  refine hn.mono ?_
  rintro e w1 ⟨rfl, rfl⟩
  go_wp2_with fail
  go_ret2
  exact ⟨rfl, rfl⟩
theorem unEpoch_any (w : World) (u pb mb : Nat) (s : UnS) (h : UnitAt w u pb mb s) : Calls Tryz.prog 45 #[.pointer (some ⟨u, 0, none⟩)] w fun e w' => e = .returned (.int .i64 s.epoch) ∧ w' = w := by
  have c1 := h.c1
  go_enter Tryz.func45, Tryz.ntmps45
  go_wp2_with fail
  go_ret
  exact ⟨rfl, rfl⟩
theorem unPages_any (w : World) (u pb mb : Nat) (s : UnS) (h : UnitAt w u pb mb s) : Calls Tryz.prog 29 #[.pointer (some ⟨u, 0, none⟩)] w fun e w' => e = .returned (.pointer (some ⟨pb, 0, none⟩)) ∧ w' = w := by
  have c0 := h.c0
  go_enter Tryz.func29, Tryz.ntmps29
  go_wp2_with fail
  go_ret
  exact ⟨rfl, rfl⟩
end Go.Proofs.YtnojjohkpkmliaaGreat
