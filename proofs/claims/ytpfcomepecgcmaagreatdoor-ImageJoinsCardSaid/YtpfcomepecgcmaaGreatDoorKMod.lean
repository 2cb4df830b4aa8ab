/- keep.Mod at the numbers of the image laws -/
import Derived.Test.YtpfcomepecgcmaaGreatDoorGaP
namespace Go.Proofs.YtpfcomepecgcmaaGreatDoor
open Go.RowKit Esch
theorem kMod8_any (w : World) (k : Int) : Calls Tryz.prog 15 #[.int .i64 k, .int .i64 8] w fun e w' => (∃ m, e = .returned (.int .i64 m) ∧ 0 ≤ m ∧ m < 8) ∧ w' = w := by
  have hm0 : -8 < k.tmod 8 := by have := Int.lt_tmod_of_pos k (show (0 : Int) < 8 by decide); omega
  have hm1 : k.tmod 8 < 8 := Int.tmod_lt_of_pos k (by decide)
  go_enter Tryz.func15, Tryz.ntmps15
  go_wp2_with fail
  go_ret
  generalize k.tmod 8 = t at *
  exact ⟨⟨(t + 8) % 8, rfl, by omega, by omega⟩, rfl⟩
theorem kModM_any (w : World) (k : Int) : Calls Tryz.prog 15 #[.int .i64 k, .int .i64 1000000] w fun e w' => (∃ m, e = .returned (.int .i64 m) ∧ 0 ≤ m ∧ m < 1000000) ∧ w' = w := by
  have hm0 : -1000000 < k.tmod 1000000 := by have := Int.lt_tmod_of_pos k (show (0 : Int) < 1000000 by decide); omega
  have hm1 : k.tmod 1000000 < 1000000 := Int.tmod_lt_of_pos k (by decide)
  go_enter Tryz.func15, Tryz.ntmps15
  go_wp2_with fail
  go_ret
  generalize k.tmod 1000000 = t at *
  exact ⟨⟨(t + 1000000) % 1000000, rfl, by omega, by omega⟩, rfl⟩
end Go.Proofs.YtpfcomepecgcmaaGreatDoor
