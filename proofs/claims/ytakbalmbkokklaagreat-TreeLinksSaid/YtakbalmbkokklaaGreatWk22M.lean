/- what the laws of the tree wake them by, plain -/
import Derived.Test.YtakbalmbkokklaaGreatCheck1
import Derived.Test.YtakbalmbkokklaaGreatTree7
import Derived.Test.YtakbalmbkokklaaGreatTree10
namespace Esch
open Go Go.RowKit
def wpA : Nm := [47, 97]
def wpAB : Nm := [47, 97, 47, 98]
def wpAC : Nm := [47, 97, 47, 99]
def wpD : Nm := [47, 100]
def wk1 : TrS := ((tr0.mk' wpA 1).run tr0).2
def wk2 : TrS := ((wk1.mk' wpAB 2).run wk1).2
def wk3 : TrS := ((wk2.rename wpAB wpD).run wk2).2
def wk4 : TrS := ((wk3.rmdir wpA).run wk3).2
def wkE : TrS := ⟨⟨[(1, ⟨1, 1, 1, 0, 0⟩), (3, ⟨3, 2, 1, 0, 0⟩)], 4⟩, ⟨[((1, [100]), 3)], []⟩⟩
theorem wk1_e : ((tr0.mk' wpA 1).run tr0).1 = 0 := by kernel_rfl
theorem wk2_e : ((wk1.mk' wpAB 2).run wk1).1 = 0 := by kernel_rfl
theorem wk2_r : (wk2.rmdir wpA).run wk2 = (64, wk2) := by kernel_rfl
theorem wk2_m : (wk2.rename wpA wpAC).run wk2 = (65, wk2) := by kernel_rfl
theorem wk3_e : ((wk2.rename wpAB wpD).run wk2).1 = 0 := by kernel_rfl
theorem wk4_e : ((wk3.rmdir wpA).run wk3).1 = 0 := by kernel_rfl
theorem wk4_m : wk4.n.m = [((1, [100]), 3)] := by kernel_rfl
theorem wk4_t : wk4.t.m = [(1, ⟨1, 1, 1, 0, 0⟩), (3, ⟨3, 2, 1, 0, 0⟩)] := by kernel_rfl
theorem wk4_l : Go.Proofs.YtakbalmbkokklaaGreat.lstOf wk4 (wk4.resolve [47]) = Res.ok 1 := by kernel_rfl
theorem wk4_s : wk4.resolve wpD = .ok 3 := by kernel_rfl
theorem wk4_at : wk4.t.at 3 = ⟨3, 2, 1, 0, 0⟩ := by kernel_rfl
theorem wk4_good : GoodT wk4 := by
  refine ⟨fun e he => ?_, ?_, ?_, fun i hi h1 => ?_⟩
  · rw [wk4_m, List.mem_singleton] at he
    subst he
    exact ⟨by kernel_rfl, by kernel_rfl⟩
  · rw [wk4_m]; rfl
  · rw [show wk4.t.at 1 = ⟨1, 1, 1, 0, 0⟩ by kernel_rfl]; decide
  · rw [wk4_t] at hi
    simp only [List.map_cons, List.map_nil, List.mem_cons, List.not_mem_nil, or_false] at hi
    obtain rfl := hi.resolve_left h1
    rw [wk4_at, wk4_m]
    exact ⟨rfl, by decide, .lead ((1, [100]), 3) (by simp) .one, fun h => absurd h (by decide)⟩
end Esch
