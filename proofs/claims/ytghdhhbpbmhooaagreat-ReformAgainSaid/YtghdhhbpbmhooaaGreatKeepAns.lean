/- answers: how they are read; are they large? -/
import Derived.Test.YtghdhhbpbmhooaaGreatPkKeep
import Derived.Test.YtghdhhbpbmhooaaGreatReadApi
namespace Go.Proofs.YtghdhhbpbmhooaaGreat
open Go.RowKit Esch

theorem small_ofA {ls : List (List Int)} (h : largeProj ls = false) : Small ls := by
  unfold largeProj at h
  simp only [Bool.or_eq_false_iff, decide_eq_false_iff_not, Nat.not_lt, List.any_eq_false, decide_eq_true_eq] at h
  refine ⟨h.1, fun i hi => ?_⟩
  rw [List.getD_eq_getElem?_getD, List.getElem?_eq_getElem hi, Option.getD_some]
  exact h.2 _ (List.getElem_mem hi)
/-- an answer as it lies in memory -/
structure AnC where
  code : Int
  n : Int
  data : ByteArray
  pe : Int
  ca : Option Addr
  ls : List (List Int)
  cc : Nat
  mark : Int
  size : Int
  epoch : Int
def AnC.cells (q : AnC) : List Value := [.int .i64 q.code, .int .i64 q.n, .string q.data, .int .i64 q.pe, .slice q.ca q.ls.length q.cc, .int .i64 q.mark, .int .i64 q.size, .int .i64 q.epoch]
def AnC.ok (w : World) (q : AnC) : Prop := q.data.size ≤ 9223372036854775807 ∧ ListsAt (Old w) w q.ca q.ls
def tyAns : Ty := .struct [.int .i64, .int .i64, .str, tyProj, .int .i64, .int .i64, .int .i64]
theorem rd_ans {w : World} {cs : List Value} {d : D} (h : Rd w tyAns cs d) : ∃ q : AnC, cs = q.cells ∧ q.ok w := by
  simp only [tyAns, rd_struct, rds_cons, rds_nil, rd_int, rd_str] at h
  obtain ⟨ds, rfl, c0, r0, d0, s0, rfl, rfl, -, ⟨k, rfl, rfl, -⟩, c1, r1, d1, s1, rfl, rfl, -, ⟨u, rfl, rfl, -⟩, c2, r2, d2, s2, rfl, rfl, -, ⟨s, rfl, rfl, hs⟩, c3, r3, d3, s3, rfl, rfl, -, h3,
    c4, r4, d4, s4, rfl, rfl, -, ⟨z, rfl, rfl, -⟩, c5, r5, d5, s5, rfl, rfl, -, ⟨n, rfl, rfl, -⟩, c6, r6, d6, s6, rfl, rfl, -, ⟨p, rfl, rfl, -⟩, rfl, rfl⟩ := h
  obtain ⟨pe, a, ls, c, rfl, hl⟩ := rd_proj h3
  exact ⟨⟨k, u, s, pe, a, ls, c, z, n, p⟩, rfl, by unfold Go.maxLen at hs; omega, hl⟩
set_option maxHeartbeats 1000000 in
theorem largeAns_any (S : Nat → Prop) (k n : Int) (d : ByteArray) (hd : d.size ≤ 9223372036854775807) (pe : Int) (ca : Option Addr) (cc : Nat) (ls : List (List Int)) (m z ep : Int) (w : World) (h : ListsAt S w ca ls) :
    Calls Tryz.prog 18 #[.agg #[.int .i64 k, .int .i64 n, .string d, .int .i64 pe, .slice ca ls.length cc, .int .i64 m, .int .i64 z, .int .i64 ep]] w
      fun r w' => r = .returned (.bool (decide (6000 < d.size) || largeProj ls)) ∧ Below w.heap.size w w' := by
  have hcon := largeProj_any S (w.alloc (.cells #[.int .i64 k, .int .i64 n, .string d, .int .i64 pe, .slice ca ls.length cc, .int .i64 m, .int .i64 z, .int .i64 ep] 49)) pe ca cc ls (h.mod ((Mod.refl none' _).alloc _) (fun _ _ _ => id))
  by_cases h1 : 6000 < d.size
  · have h1' : (6000 : Int) < d.size := by omega
    go_enter Tryz.func18, Tryz.ntmps18
    go_wp2_with fail
    go_ret
    exact ⟨by simp [h1], (Below.refl _ _).alloc (Nat.le_refl _) _⟩
  · have h1' : (d.size : Int) ≤ 6000 := by omega
    go_enter Tryz.func18, Tryz.ntmps18
    go_wp2_with fail
    refine hcon.mono ?_
    rintro r w1 ⟨rfl, hB⟩
    go_wp2_with fail
    go_ret
    have h2 : ¬ (6000 : Int) < d.size := by omega
    exact ⟨by simp [h1, h2], ((Below.refl _ _).alloc (Nat.le_refl _) _).trans (hB.mono (by simp))⟩
end Go.Proofs.YtghdhhbpbmhooaaGreat
