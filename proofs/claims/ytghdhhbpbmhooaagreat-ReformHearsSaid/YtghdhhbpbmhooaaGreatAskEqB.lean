/- two questions that are alike -/
import Derived.Test.YtghdhhbpbmhooaaGreatPkKeep
namespace Go.Proofs.YtghdhhbpbmhooaaGreat
open Go.RowKit Esch

set_option maxHeartbeats 1000000 in
theorem ask_eq (S : Nat → Prop) (k u e p z n : Int) (d : ByteArray) (pe : Int) (a a' : Option Addr) (cc cc' : Nat) (ls : List (List Int)) (w : World) (h : ListsAt S w a ls) (h' : ListsAt S w a' ls) :
    Calls Tryz.prog 17 #[.agg #[.int .i64 k, .int .i64 u, .int .i64 e, .int .i64 p, .int .i64 z, .int .i64 n, .string d, .int .i64 pe, .slice a ls.length cc], .agg #[.int .i64 k, .int .i64 u, .int .i64 e, .int .i64 p, .int .i64 z, .int .i64 n, .string d, .int .i64 pe, .slice a' ls.length cc']] w
      fun r w' => r = .returned (.bool true) ∧ Below w.heap.size w w' := by
  generalize hW : (w.alloc (.cells #[.int .i64 k, .int .i64 u, .int .i64 e, .int .i64 p, .int .i64 z, .int .i64 n, .string d, .int .i64 pe, .slice a ls.length cc] 34)).alloc (.cells #[.int .i64 k, .int .i64 u, .int .i64 e, .int .i64 p, .int .i64 z, .int .i64 n, .string d, .int .i64 pe, .slice a' ls.length cc'] 34) = W
  have hM : Mod none' w W := by rw [← hW]; exact (Mod.refl _ _).alloc _ |>.alloc _
  have hcon := projection_any S W pe pe a a' cc cc' ls ls (h.mod hM (fun _ _ _ => id)) (h'.mod hM (fun _ _ _ => id))
  rw [decide_eq_true ⟨rfl, rfl⟩, ← hW] at hcon
  clear hM hW
  go_enter Tryz.func17, Tryz.ntmps17
  go_wp2_with fail
  refine hcon.mono ?_
  rintro r w1 ⟨rfl, hB⟩
  simp only [World.size_alloc] at hB
  obtain ⟨hc, hf⟩ := bcell hB
  go_wp2_with fail
  go_ret
  exact ⟨rfl, (((Below.refl _ _).alloc (Nat.le_refl _) _).alloc (by simp) _).trans (hB.mono (by omega))⟩
end Go.Proofs.YtghdhhbpbmhooaaGreat
