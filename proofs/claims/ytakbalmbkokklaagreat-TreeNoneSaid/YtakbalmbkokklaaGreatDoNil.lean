/- law 22: Do, on a tree that nobody made -/
import Derived.Test.YtakbalmbkokklaaGreatTreeNil
namespace Go.Proofs.YtakbalmbkokklaaGreat
open Go.RowKit Esch

set_option maxRecDepth 100000 in
set_option maxHeartbeats 4000000 in
theorem do_nil (w : World) (k z : Int) (p q : Nm) (hk : 1 ≤ k ∧ k ≤ 7) : Calls Tryz.prog 25 #[.pointer none, .agg #[.int .i64 k, .int .i64 z, .string (bs p), .string (bs q)]] w (NilPost w (.int .i64 1)) := by
  obtain rfl | rfl | rfl | rfl | rfl | rfl | rfl : k = 1 ∨ k = 2 ∨ k = 3 ∨ k = 4 ∨ k = 5 ∨ k = 6 ∨ k = 7 := by omega
  · skip
    have hcl := fun W => mkdir_nil W p
    go_enter Tryz.func25, Tryz.ntmps25
    go_wp2_with fail
    refine (hcl _).mono ?_
    rintro e w2 ⟨rfl, hB2⟩
    go_wp2_with fail
    go_ret
    exact ⟨rfl, below_chain (by exact belC (Below.refl _ _)) hB2⟩
  · skip
    have hcl := fun W => rmdir_nil W p
    go_enter Tryz.func25, Tryz.ntmps25
    go_wp2_with fail
    refine (hcl _).mono ?_
    rintro e w2 ⟨rfl, hB2⟩
    go_wp2_with fail
    go_ret
    exact ⟨rfl, below_chain (by exact belC (Below.refl _ _)) hB2⟩
  · skip
    have hcl := fun W => create_nil W p
    go_enter Tryz.func25, Tryz.ntmps25
    go_wp2_with fail
    refine (hcl _).mono ?_
    rintro e w2 ⟨rfl, hB2⟩
    go_wp2_with fail
    go_ret
    exact ⟨rfl, below_chain (by exact belC (Below.refl _ _)) hB2⟩
  · skip
    have hcl := fun W => link_nil W p q
    go_enter Tryz.func25, Tryz.ntmps25
    go_wp2_with fail
    refine (hcl _).mono ?_
    rintro e w2 ⟨rfl, hB2⟩
    go_wp2_with fail
    go_ret
    exact ⟨rfl, below_chain (by exact belC (Below.refl _ _)) hB2⟩
  · skip
    have hcl := fun W => unlink_nil W p
    go_enter Tryz.func25, Tryz.ntmps25
    go_wp2_with fail
    refine (hcl _).mono ?_
    rintro e w2 ⟨rfl, hB2⟩
    go_wp2_with fail
    go_ret
    exact ⟨rfl, below_chain (by exact belC (Below.refl _ _)) hB2⟩
  · skip
    have hcl := fun W => rename_nil W p q
    go_enter Tryz.func25, Tryz.ntmps25
    go_wp2_with fail
    refine (hcl _).mono ?_
    rintro e w2 ⟨rfl, hB2⟩
    go_wp2_with fail
    go_ret
    exact ⟨rfl, below_chain (by exact belC (Below.refl _ _)) hB2⟩
  · skip
    have hcl := fun W => truncate_nil W p z
    go_enter Tryz.func25, Tryz.ntmps25
    go_wp2_with fail
    refine (hcl _).mono ?_
    rintro e w2 ⟨rfl, hB2⟩
    go_wp2_with fail
    go_ret
    exact ⟨rfl, below_chain (by exact belC (Below.refl _ _)) hB2⟩
theorem mod7_any (w : World) (k : Int) : Calls Tryz.prog 21 #[.int .i64 k, .int .i64 7] w fun e w' => (∃ m, e = .returned (.int .i64 m) ∧ 0 ≤ m ∧ m ≤ 6) ∧ w' = w := by
  have hm0 : -7 < k.tmod 7 := by have := Int.lt_tmod_of_pos k (show (0 : Int) < 7 by decide); omega
  have hm1 : k.tmod 7 < 7 := Int.tmod_lt_of_pos k (by decide)
  go_enter Tryz.func21, Tryz.ntmps21
  go_wp2_with fail
  go_ret
  generalize k.tmod 7 = t at *
  exact ⟨⟨(t + 7) % 7, rfl, by omega, by omega⟩, rfl⟩
def FairPost (w : World) (e : Ending) (w' : World) : Prop := ∃ v : Bool, e = .returned (.bool v) ∧ Below w.heap.size w w'
set_option maxRecDepth 100000 in
set_option maxHeartbeats 4000000 in
theorem fair1_any (w : World) (sb : Nat) (p q : Nm) (c2 : w.cell? ⟨sb, 2, none⟩ = some (.string (bs p))) (c3 : w.cell? ⟨sb, 3, none⟩ = some (.string (bs q))) :
    Calls Tryz.prog 24 #[.slice (some ⟨sb, 0, none⟩) 1 1] w (FairPost w) := by
  go_enter Tryz.func24, Tryz.ntmps24
  go_wp2_with fail
  go_loopg [3] 1 (fun g s3 wr => ∃ i : Nat, g = 1 - i ∧ i ≤ 1 ∧ s3 = .int .i64 i ∧ wr = w)
  case atStart => exact ⟨0, rfl, by omega, rfl, rfl⟩
  case round =>
    obtain ⟨i, rfl, hi, rfl, rfl⟩ := hrel
    obtain rfl | rfl : i = 0 ∨ i = 1 := by omega
    · go_wp2_with fail
      all_goals first
        | (go_ret; exact ⟨_, rfl, Below.refl _ _⟩)
        | (go_roundg 0
           case measure => decide
           case rel => exact ⟨1, rfl, Nat.le_refl _, rfl, rfl⟩)
    · go_wp2_with fail
      go_ret
      exact ⟨_, rfl, Below.refl _ _⟩
end Go.Proofs.YtakbalmbkokklaaGreat
