import Derived.Test.YtpkdpmkiplopmaaKeep
/- questions and answers: the statements' helpers -/
namespace Go.Proofs.Ytpkdpmkiplopmaa
open Go.RowKit Esch

set_option maxHeartbeats 1000000 in
theorem largeAsk_any (S : Nat → Prop) (k u e p z n : Int) (d : ByteArray) (hd : d.size ≤ 9223372036854775807) (pe : Int) (ca : Option Addr) (cc : Nat) (ls : List (List Int)) (w : World) (h : ListsAt S w ca ls) :
    Calls Try.prog 27 #[.agg #[.int .i64 k, .int .i64 u, .int .i64 e, .int .i64 p, .int .i64 z, .int .i64 n, .string d, .int .i64 pe, .slice ca ls.length cc]] w
      fun r w' => r = .returned (.bool (decide (6000 < d.size) || largeProj ls)) ∧ Below w.heap.size w w' := by
  have hcon := largeProj_any S (w.alloc (.cells #[.int .i64 k, .int .i64 u, .int .i64 e, .int .i64 p, .int .i64 z, .int .i64 n, .string d, .int .i64 pe, .slice ca ls.length cc] 44)) pe ca cc ls (h.mod ((Mod.refl none' _).alloc _) (fun _ _ _ => id))
  by_cases h1 : 6000 < d.size
  · have h1' : (6000 : Int) < d.size := by omega
    go_enter Try.func27, Try.ntmps27
    go_wp2_with fail
    go_ret
    exact ⟨by simp [h1], (Below.refl _ _).alloc (Nat.le_refl _) _⟩
  · have h1' : (d.size : Int) ≤ 6000 := by omega
    go_enter Try.func27, Try.ntmps27
    go_wp2_with fail
    refine hcon.mono ?_
    rintro r w1 ⟨rfl, hB⟩
    go_wp2_with fail
    go_ret
    have h2 : ¬ (6000 : Int) < d.size := by omega
    exact ⟨by simp [h1, h2], ((Below.refl _ _).alloc (Nat.le_refl _) _).trans (hB.mono (by simp))⟩

set_option maxHeartbeats 1000000 in
theorem answer_eq (S : Nat → Prop) (c n : Int) (d : ByteArray) (pe : Int) (a a' : Option Addr) (cc cc' : Nat) (ls : List (List Int)) (mk sz ep : Int) (w : World) (h : ListsAt S w a ls) (h' : ListsAt S w a' ls) :
    Calls Try.prog 29 #[.agg #[.int .i64 c, .int .i64 n, .string d, .int .i64 pe, .slice a ls.length cc, .int .i64 mk, .int .i64 sz, .int .i64 ep], .agg #[.int .i64 c, .int .i64 n, .string d, .int .i64 pe, .slice a' ls.length cc', .int .i64 mk, .int .i64 sz, .int .i64 ep]] w
      fun r w' => r = .returned (.bool true) ∧ Below w.heap.size w w' := by
  generalize hW : (w.alloc (.cells #[.int .i64 c, .int .i64 n, .string d, .int .i64 pe, .slice a ls.length cc, .int .i64 mk, .int .i64 sz, .int .i64 ep] 49)).alloc (.cells #[.int .i64 c, .int .i64 n, .string d, .int .i64 pe, .slice a' ls.length cc', .int .i64 mk, .int .i64 sz, .int .i64 ep] 49) = W
  have hM : Mod none' w W := by rw [← hW]; exact (Mod.refl _ _).alloc _ |>.alloc _
  have hcon := projection_any S W pe pe a a' cc cc' ls ls (h.mod hM (fun _ _ _ => id)) (h'.mod hM (fun _ _ _ => id))
  rw [decide_eq_true ⟨rfl, rfl⟩, ← hW] at hcon
  clear hM hW
  go_enter Try.func29, Try.ntmps29
  go_wp2_with fail
  refine hcon.mono ?_
  rintro r w1 ⟨rfl, hB⟩
  simp only [World.size_alloc] at hB
  obtain ⟨hc, hf⟩ := bcell hB
  go_wp2_with fail
  go_ret
  exact ⟨rfl, (((Below.refl _ _).alloc (Nat.le_refl _) _).alloc (by simp) _).trans (hB.mono (by omega))⟩
end Go.Proofs.Ytpkdpmkiplopmaa
