/- package tree: tries, a call that a panic of the tree's own may end -/
import Derived.Test.YtakbalmbkokklaaGreatTree2
import Derived.Defers
import Derived.Recover
namespace Go.Proofs.YtakbalmbkokklaaGreat
open Go.RowKit Esch Go.Shelf

def peR (e : Int) : List PanicEntry := [{ v := .iface 119 (.agg #[.int .i64 e]), recovered := true }]
set_option maxRecDepth 100000 in
theorem tries1_idle (p : Addr) (w : World) : CallsD Tryz.prog 80 #[.pointer (some p)] .returning w fun e u' w' => e = .returned (.tuple #[]) ∧ u' = .returning ∧ w' = w := by
  refine callsD_of_wpS Tryz.func80 rfl fun c₀ cs hu => ?_
  apply wpS_seq
  apply wpS_region
  simp [wpOpsS, go_sem, recoverD, hu, Tryz.ntmps80, Exit.thenS, Array.replicate_succ, Array.replicate_zero, List.push_toArray, List.append_toArray]
  refine wpS_of_wp ?_
  have hnil : ∀ w : World, (binOp BinOp.eql 20 .nilIface .nilIface).run Tryz.prog w = .ok (.bool true) w := fun _ => by kernel_rfl
  go_wp2
  cases c₀
  simp_all [bodyPostS, results, Tryz.results80]
set_option maxRecDepth 100000 in
theorem tries1_panic (b : Nat) (e : Int) (v0 : Value) (w : World) (hc : w.cell? ⟨b, 0, none⟩ = some v0) (hz : w.frozen? ⟨b, 0, none⟩ = false) :
    CallsD Tryz.prog 80 #[.pointer (some ⟨b, 0, none⟩)] (.panicking (pe e)) w fun r u' w' =>
      r = .returned (.tuple #[]) ∧ u' = .panicking (peR e) ∧ w' = (w.setCell ⟨b, 0, none⟩ (.int .i64 e)).alloc (.cells #[.int .i64 e] 119) := by
  have hl := cell_lt hc
  refine callsD_of_wpS Tryz.func80 rfl fun c₀ cs hu => ?_
  unfold pe at hu
  apply wpS_seq
  apply wpS_region
  simp [wpOpsS, go_sem, recoverD, hu, Tryz.ntmps80, Exit.thenS, Array.replicate_succ, Array.replicate_zero, List.push_toArray, List.append_toArray]
  refine wpS_of_wp ?_
  have hta : ∀ w : World, (Instr.typeAssert (.iface 119 (.agg #[.int .i64 e])) 20 119 true).run Tryz.prog w = .ok (.tuple #[.agg #[.int .i64 e], .bool true]) w := fun _ => by kernel_rfl
  go_wp2
  cases c₀
  simp_all [bodyPostS, results, Tryz.results80, peR]
/-- what a call inside 'tries' may come to -/
def DoPost (R : Int → World → Prop) (e : Ending) (w' : World) : Prop := (e = .returned (.tuple #[]) ∧ R 0 w') ∨ ∃ x, e = .panicked (pe x) ∧ R x w'
set_option maxRecDepth 100000 in
set_option maxHeartbeats 2000000 in
theorem tries_any (w : World) (b g : Nat) (lb : Array Value) (R : Int → World → Prop) (eg : ∀ args w, (callFunc g args).run Tryz.prog w = .ok (.enter g args) w)
    (hdo : Calls Tryz.prog g lb (w.alloc (.cells #[.int .i64 0] 27)) (DoPost R))
    (hR : ∀ x W, R x W → W.cell? ⟨w.heap.size, 0, none⟩ = some (.int .i64 0) ∧ W.frozen? ⟨w.heap.size, 0, none⟩ = false) :
    Calls Tryz.prog 38 #[.pointer (some ⟨b, 0, none⟩), .func (.func g) #[] lb] w fun e w' => ∃ x W, e = .returned (.int .i64 x) ∧ R x W ∧ Mod (· = w.heap.size) W w' := by
  have hmf : ∀ (fn : Fn) (first cap : Array Value) (w : World), (Instr.makeFunc fn first cap).run Tryz.prog w = .ok (.func fn first cap) w := fun _ _ _ _ => rfl
  go_enter_defers Tryz.func38, Tryz.ntmps38
  go_wp2_with fail
  refine hdo.mono ?_
  clear hdo
  rintro e W (⟨rfl, hr⟩ | ⟨x, rfl, hr⟩)
  · obtain ⟨c0, f0⟩ := hR _ _ hr
    have Hr := Lib.hid hr
    have hl := cell_lt c0
    clear hr
    go_wp2_with fail
    refine leaves_cons (f := 80) (args := #[.pointer (some ⟨w.heap.size, 0, none⟩)]) (by simp) (by simp [go_sem]) ?_
    refine (tries1_idle ⟨w.heap.size, 0, none⟩ _).mono ?_
    rintro e u' w'' ⟨rfl, rfl, rfl⟩
    have hrun : (results Tryz.f38 #[Value.pointer (some ⟨b, 0, none⟩), Value.func (Fn.func g) #[] lb, undef, undef, Value.pointer (some ⟨w.heap.size, 0, none⟩), Value.pointer (some ⟨b, 0, none⟩), Value.bool false, Value.func (Fn.func 80) #[] #[Value.pointer (some ⟨w.heap.size, 0, none⟩)], Value.func (Fn.func g) #[] lb, Value.tuple #[]]).run Tryz.prog (W.setCell ⟨w.heap.size, 0, none⟩ (.int .i64 0)) = .ok (.int .i64 0) (W.setCell ⟨w.heap.size, 0, none⟩ (.int .i64 0)) := by simp [results, Tryz.results38, go_sem, *]
    refine ⟨_, hrun, 0, W, rfl, Hr.out, (Mod.refl (· = w.heap.size) W).setCellAt (fun _ => rfl) _⟩
  · obtain ⟨c0, f0⟩ := hR _ _ hr
    have Hr := Lib.hid hr
    have hl := cell_lt c0
    clear hr
    go_wp2_with fail
    refine leaves_cons (f := 80) (args := #[.pointer (some ⟨w.heap.size, 0, none⟩)]) (by simp) (by simp [go_sem]) ?_
    refine (tries1_panic w.heap.size x _ W c0 f0).mono ?_
    rintro e u' w'' ⟨rfl, rfl, rfl⟩
    have hrun : (results Tryz.f38 #[Value.pointer (some ⟨b, 0, none⟩), Value.func (Fn.func g) #[] lb, undef, undef, Value.pointer (some ⟨w.heap.size, 0, none⟩), Value.pointer (some ⟨b, 0, none⟩), Value.bool false, Value.func (Fn.func 80) #[] #[Value.pointer (some ⟨w.heap.size, 0, none⟩)], Value.func (Fn.func g) #[] lb, undef]).run Tryz.prog ((W.setCell ⟨w.heap.size, 0, none⟩ (.int .i64 x)).alloc (.cells #[.int .i64 x] 119)) = .ok (.int .i64 x) ((W.setCell ⟨w.heap.size, 0, none⟩ (.int .i64 x)).alloc (.cells #[.int .i64 x] 119)) := by simp [results, Tryz.results38, go_sem, *]
    refine ⟨_, hrun, x, W, rfl, Hr.out, ((Mod.refl (· = w.heap.size) W).setCellAt (fun _ => rfl) _).alloc _⟩
theorem tries_nil (w : World) (fv : Value) : Calls Tryz.prog 38 #[.pointer none, fv] w fun e w' => e = .returned (.int .i64 1) ∧ Below w.heap.size w w' := by
  go_enter_defers Tryz.func38, Tryz.ntmps38
  go_wp2_with fail
  exact ⟨_, by simp [results, Tryz.results38, go_sem], rfl, by exact belC (Below.refl _ _)⟩
end Go.Proofs.YtakbalmbkokklaaGreat
