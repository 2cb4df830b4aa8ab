import Derived.Test.YtpkdpmkiplopmaaUnit
/- a storage unit: what it answers -/
namespace Go.Proofs.Ytpkdpmkiplopmaa
open Go.RowKit Esch

abbrev fnV (f : Nat) : Value := .func (.func f) #[] #[]
@[simp] theorem idxF0 (f0 f1 f2 f3 f4 f5 : Value) (w : World) : (Instr.index 158 (.agg #[f0, f1, f2, f3, f4, f5]) (.int .i64 0)).run Try.prog w = .ok f0 w := by kernel_rfl
@[simp] theorem idxF1 (f0 f1 f2 f3 f4 f5 : Value) (w : World) : (Instr.index 158 (.agg #[f0, f1, f2, f3, f4, f5]) (.int .i64 1)).run Try.prog w = .ok f1 w := by kernel_rfl
@[simp] theorem idxF2 (f0 f1 f2 f3 f4 f5 : Value) (w : World) : (Instr.index 158 (.agg #[f0, f1, f2, f3, f4, f5]) (.int .i64 2)).run Try.prog w = .ok f2 w := by kernel_rfl
@[simp] theorem idxF3 (f0 f1 f2 f3 f4 f5 : Value) (w : World) : (Instr.index 158 (.agg #[f0, f1, f2, f3, f4, f5]) (.int .i64 3)).run Try.prog w = .ok f3 w := by kernel_rfl
@[simp] theorem idxF4 (f0 f1 f2 f3 f4 f5 : Value) (w : World) : (Instr.index 158 (.agg #[f0, f1, f2, f3, f4, f5]) (.int .i64 4)).run Try.prog w = .ok f4 w := by kernel_rfl
@[simp] theorem idxF5 (f0 f1 f2 f3 f4 f5 : Value) (w : World) : (Instr.index 158 (.agg #[f0, f1, f2, f3, f4, f5]) (.int .i64 5)).run Try.prog w = .ok f5 w := by kernel_rfl
set_option maxRecDepth 100000 in
set_option maxHeartbeats 1000000 in
theorem doing0 (w : World) : Calls Try.prog 81 #[.int .i64 0] w fun e w' => e = .returned (Value.nilFunc) ∧ w' = w := by
  go_enter Try.func81, Try.ntmps81
  go_wp2_with fail
  go_ret
  exact ⟨rfl, rfl⟩
set_option maxRecDepth 100000 in
set_option maxHeartbeats 1000000 in
theorem doing1 (w : World) : Calls Try.prog 81 #[.int .i64 1] w fun e w' => e = .returned (fnV 101) ∧ w' = w := by
  go_enter Try.func81, Try.ntmps81
  go_wp2_with fail
  go_ret
  exact ⟨rfl, rfl⟩
set_option maxRecDepth 100000 in
set_option maxHeartbeats 1000000 in
theorem doing2 (w : World) : Calls Try.prog 81 #[.int .i64 2] w fun e w' => e = .returned (fnV 102) ∧ w' = w := by
  go_enter Try.func81, Try.ntmps81
  go_wp2_with fail
  go_ret
  exact ⟨rfl, rfl⟩
set_option maxRecDepth 100000 in
set_option maxHeartbeats 1000000 in
theorem doing3 (w : World) : Calls Try.prog 81 #[.int .i64 3] w fun e w' => e = .returned (fnV 103) ∧ w' = w := by
  go_enter Try.func81, Try.ntmps81
  go_wp2_with fail
  go_ret
  exact ⟨rfl, rfl⟩
set_option maxRecDepth 100000 in
set_option maxHeartbeats 1000000 in
theorem doing4 (w : World) : Calls Try.prog 81 #[.int .i64 4] w fun e w' => e = .returned (fnV 104) ∧ w' = w := by
  go_enter Try.func81, Try.ntmps81
  go_wp2_with fail
  go_ret
  exact ⟨rfl, rfl⟩
set_option maxRecDepth 100000 in
set_option maxHeartbeats 1000000 in
theorem doing5 (w : World) : Calls Try.prog 81 #[.int .i64 5] w fun e w' => e = .returned (fnV 105) ∧ w' = w := by
  go_enter Try.func81, Try.ntmps81
  go_wp2_with fail
  go_ret
  exact ⟨rfl, rfl⟩
set_option maxHeartbeats 1000000 in
theorem doing_no (w : World) (k : Int) (h : k < 0 ∨ 5 < k) : Calls Try.prog 81 #[.int .i64 k] w fun e w' => e = .returned .nilFunc ∧ w' = w := by
  have h' : k < 0 ∨ (0 ≤ k ∧ 5 < k) := by omega
  clear h
  rcases h' with h | ⟨h, h'⟩
  all_goals
    go_enter Try.func81, Try.ntmps81
    go_wp2_with fail
    go_ret
    exact ⟨rfl, rfl⟩
end Go.Proofs.Ytpkdpmkiplopmaa
