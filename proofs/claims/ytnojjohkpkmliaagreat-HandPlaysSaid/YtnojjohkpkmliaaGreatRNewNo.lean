/- nodes that are not made: the program's and the document's -/
import Derived.Test.YtnojjohkpkmliaaGreatRNodes4
namespace Go.Proofs.YtnojjohkpkmliaaGreat
open Go.RowKit Esch

theorem rpcNew_bad (S : Nat → Prop) (w : World) (q : Proj) (a : Option Addr) (c : Nat) (room : Int) (hq : ¬ q.good) (hl : ListsAt S w a q.chains) :
    Calls Tryz.prog 8 #[.agg #[.int .i64 q.epoch, .slice a q.chains.length c], .int .i64 room] w fun e w' => e = .returned (.tuple #[.pointer none, .int .i64 11]) ∧ Below w.heap.size w w' := by
  obtain ⟨W0, hW0, hB0, hz0, p0, p1⟩ := oneBox w 24 (.int .i64 q.epoch) (.slice a q.chains.length c)
  have hln := layNew_no S W0 q a c hq (hl.mod (F := none') (Mod.of_below hB0) (fun _ _ _ => id))
  have HW0 := Lib.hid hW0
  clear hW0 hl hq
  go_enter Tryz.func8, Tryz.ntmps8
  go_wp2_with fail
  rw [← HW0.out]
  refine hln.mono ?_
  clear hln
  rintro e w1 ⟨rfl, hB1⟩
  go_wp2_with fail
  go_ret2
  exact ⟨rfl, hB0.trans (hB1.mono (by omega))⟩
theorem r13New_bad (S : Nat → Prop) (w : World) (q : Proj) (a : Option Addr) (c : Nat) (room : Int) (hq : ¬ q.good) (hl : ListsAt S w a q.chains) :
    Calls Tryz.prog 10 #[.agg #[.int .i64 q.epoch, .slice a q.chains.length c], .int .i64 room] w fun e w' => e = .returned (.tuple #[.pointer none, .int .i64 11]) ∧ Below w.heap.size w w' := by
  obtain ⟨W0, hW0, hB0, hz0, p0, p1⟩ := oneBox w 24 (.int .i64 q.epoch) (.slice a q.chains.length c)
  have hln := rlayNew_no S W0 q a c hq (hl.mod (F := none') (Mod.of_below hB0) (fun _ _ _ => id))
  have HW0 := Lib.hid hW0
  clear hW0 hl hq
  go_enter Tryz.func10, Tryz.ntmps10
  go_wp2_with fail
  rw [← HW0.out]
  refine hln.mono ?_
  clear hln
  rintro e w1 ⟨rfl, hB1⟩
  go_wp2_with fail
  go_ret2
  exact ⟨rfl, hB0.trans (hB1.mono (by omega))⟩
def NoRel (w : World) (g : Nat) (s : Value) (wr : World) : Prop := g = 16 ∧ s = .int .i64 0 ∧ Below w.heap.size w wr
set_option maxRecDepth 100000 in
set_option maxHeartbeats 2000000 in
theorem rpcNew_room (S : Nat → Prop) (w : World) (q : Proj) (a : Option Addr) (c : Nat) (room : Int) (hq : q.good) (hl : ListsAt S w a q.chains) (hr : room < 1 ∨ 4096 < room) :
    Calls Tryz.prog 8 #[.agg #[.int .i64 q.epoch, .slice a q.chains.length c], .int .i64 room] w fun e w' => e = .returned (.tuple #[.pointer none, .int .i64 1]) ∧ Below w.heap.size w w' := by
  obtain ⟨W0, hW0, hB0, hz0, p0, p1⟩ := oneBox w 24 (.int .i64 q.epoch) (.slice a q.chains.length c)
  have hln := layNew_any S W0 q a c hq (hl.mod (F := none') (Mod.of_below hB0) (fun _ _ _ => id))
  have HW0 := Lib.hid hW0
  have hno := fun W => unNew_no W room hr
  clear hW0 hl hq hr
  go_enter Tryz.func8, Tryz.ntmps8
  go_wp2_with fail
  rw [← HW0.out]
  refine hln.mono ?_
  clear hln
  rintro e w1 ⟨lb, lm, rfl, -, hB1⟩
  have hz1 := hB1.size
  have hon := ordNew_any w1
  go_wp2_with fail
  refine hon.mono ?_
  clear hon
  rintro e w2 ⟨ob, rfl, -, hob, hB2⟩
  have hz2 := hB2.size
  have HB2 := Lib.hid (hB0.trans ((hB1.trans (hB2.mono hz1)).mono (by omega)))
  clear hB0 hB1 hB2 p0 p1
  go_wp2_with fail
  obtain ⟨W3, hW3⟩ : ∃ W3, W3 = w2.alloc (.cells #[.slice none 0 0, .pointer (some ⟨ob, 0, none⟩), .pointer (some ⟨lb, 0, none⟩)] 79) := ⟨_, rfl⟩
  have HB3 := Lib.hid (show Below w.heap.size w W3 from by rw [hW3]; exact HB2.out.alloc (by omega) _)
  rw [← hW3]
  clear hW3
  go_loopg [23] 16 (fun g s23 wr => NoRel w g s23 wr)
  case atStart => exact ⟨rfl, rfl, HB3.out⟩
  case round =>
    obtain ⟨rfl, rfl, hBr⟩ := hrel
    have HBr := Lib.hid hBr
    clear hBr
    go_wp2_with fail
    refine (hno _).mono ?_
    clear hno
    rintro e w5 ⟨rfl, rfl⟩
    go_wp2_with fail
    go_ret2
    exact ⟨rfl, HBr.out⟩
set_option maxRecDepth 100000 in
set_option maxHeartbeats 2000000 in
theorem r13New_room (S : Nat → Prop) (w : World) (q : Proj) (a : Option Addr) (c : Nat) (room : Int) (hq : q.good) (hl : ListsAt S w a q.chains) (hr : room < 1 ∨ 4096 < room) :
    Calls Tryz.prog 10 #[.agg #[.int .i64 q.epoch, .slice a q.chains.length c], .int .i64 room] w fun e w' => e = .returned (.tuple #[.pointer none, .int .i64 1]) ∧ Below w.heap.size w w' := by
  obtain ⟨W0, hW0, hB0, hz0, p0, p1⟩ := oneBox w 24 (.int .i64 q.epoch) (.slice a q.chains.length c)
  have hln := rlayNew_any S W0 q a c hq (hl.mod (F := none') (Mod.of_below hB0) (fun _ _ _ => id))
  have HW0 := Lib.hid hW0
  have hno := fun W => runNew_no W room hr
  clear hW0 hl hq hr
  go_enter Tryz.func10, Tryz.ntmps10
  go_wp2_with fail
  rw [← HW0.out]
  refine hln.mono ?_
  clear hln
  rintro e w1 ⟨lb, rfl, -, hB1⟩
  have hz1 := hB1.size
  have hon := rordNew_any w1
  go_wp2_with fail
  refine hon.mono ?_
  clear hon
  rintro e w2 ⟨ob, rfl, -, hob, hB2⟩
  have hz2 := hB2.size
  have HB2 := Lib.hid (hB0.trans ((hB1.trans (hB2.mono hz1)).mono (by omega)))
  clear hB0 hB1 hB2 p0 p1
  go_wp2_with fail
  obtain ⟨W3, hW3⟩ : ∃ W3, W3 = w2.alloc (.cells #[.pointer none, .pointer none, .pointer none, .pointer none, .pointer none, .pointer none, .pointer none, .pointer none, .pointer none, .pointer none, .pointer none, .pointer none, .pointer none, .pointer none, .pointer none, .pointer none, .pointer (some ⟨ob, 0, none⟩), .pointer (some ⟨lb, 0, none⟩)] 90) := ⟨_, rfl⟩
  have HB3 := Lib.hid (show Below w.heap.size w W3 from by rw [hW3]; exact HB2.out.alloc (by omega) _)
  rw [← hW3]
  clear hW3
  go_loopg [9] 16 (fun g s9 wr => NoRel w g s9 wr)
  case atStart => exact ⟨rfl, rfl, HB3.out⟩
  case round =>
    obtain ⟨rfl, rfl, hBr⟩ := hrel
    have HBr := Lib.hid hBr
    clear hBr
    go_wp2_with fail
    refine (hno _).mono ?_
    clear hno
    rintro e w5 ⟨rfl, rfl⟩
    go_wp2_with fail
    go_ret2
    exact ⟨rfl, HBr.out⟩
end Go.Proofs.YtnojjohkpkmliaaGreat
