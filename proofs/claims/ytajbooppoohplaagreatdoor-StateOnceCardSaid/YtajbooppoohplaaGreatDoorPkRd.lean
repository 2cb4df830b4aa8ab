import Derived.Test.YtajbooppoohplaaGreatDoorMac
import Derived.Test.YtajbooppoohplaaGreatDoorPkOpA
import Derived.Test.YtajbooppoohplaaGreatDoorPkRow
import Derived.Test.YtajbooppoohplaaGreatDoorPkOpM
/- keep.LargeOp -/
set_option maxRecDepth 100000
set_option maxHeartbeats 2000000
namespace Go.Proofs.YtajbooppoohplaaGreatDoor
open Go.RowKit Esch

def Nil6 (w : World) (v : Value) (e : Ending) (w' : World) : Prop := e = .returned v ∧ Below w.heap.size w w'
theorem largeOp6 (w : World) (x : OpS) : Calls Tryz.prog 20 #[.agg x.cells.toArray] w (Nil6 w (.bool (decide (2000 < x.path.length) || (decide (2000 < x.dest.length) || (decide (5000 < x.data.size) || decide (100 < x.ml)))))) := by
 obtain ⟨xc, xs, xk, p, q, xz, xh, xo, xt, xi, xn, mp, ml, mc⟩ := x
 simp only [OpS.cells]
 by_cases h1 : 2000 < p.length
 · have h1' : (2000 : Int) < (p.length : Int) := by omega
   rw [decide_eq_true h1, Bool.true_or]
   clear h1
   exact mK79
 have h1' : ¬ ((2000 : Int) < (p.length : Int)) := by omega
 rw [decide_eq_false h1, Bool.false_or]
 clear h1
 by_cases h2 : 2000 < q.length
 · have h2' : (2000 : Int) < (q.length : Int) := by omega
   rw [decide_eq_true h2, Bool.true_or]
   clear h2
   exact mK79
 have h2' : ¬ ((2000 : Int) < (q.length : Int)) := by omega
 rw [decide_eq_false h2, Bool.false_or]
 clear h2
 by_cases h3 : 5000 < xt.size
 · have h3' : (5000 : Int) < (xt.size : Int) := by omega
   rw [decide_eq_true h3, Bool.true_or]
   clear h3
   exact mK79
 have h3' : ¬ ((5000 : Int) < (xt.size : Int)) := by omega
 rw [decide_eq_false h3, Bool.false_or]
 clear h3
 by_cases h4 : 100 < ml
 · have h4' : (100 : Int) < (ml : Int) := by omega
   rw [decide_eq_true h4]
   clear h4
   exact mK79
 · have h4' : ¬ ((100 : Int) < (ml : Int)) := by omega
   rw [decide_eq_false h4]
   clear h4
   exact mK79
end Go.Proofs.YtajbooppoohplaaGreatDoor
/- a slice argument as a row of things -/
namespace Esch
open Go Go.RowKit
theorem pick_row {α : Type} [Inhabited α] (n : Nat) (P : Nat → α → Prop) (h : ∀ i, i < n → ∃ x, P i x) : ∃ l : List α, l.length = n ∧ ∀ i, i < n → P i (l.getD i default) := by
 have key : ∀ i, ∃ x, i < n → P i x := fun i => by
  by_cases hi : i < n
  · obtain ⟨x, hx⟩ := h i hi; exact ⟨x, fun _ => hx⟩
  · exact ⟨default, fun h => absurd h hi⟩
 refine ⟨(List.range n).map fun i => Classical.choose (key i), by simp, fun i hi => ?_⟩
 have := Classical.choose_spec (key i) hi
 rw [List.getD_eq_getElem?_getD, List.getElem?_eq_getElem (by simpa using hi)]
 simpa using this
theorem rd_rw {α : Type} [Inhabited α] {w : World} {T : Ty} {size : Nat} (f : α → List Value) (Q : α → Prop) (hf : ∀ x, (f x).length = size) (hs : T.cells = size) (h0 : 0 < size) {cs : List Value} {d : D} (h : Rd w (.slice T) cs d)
    (hone : ∀ c d, Rd w T c d → ∃ x : α, c = f x ∧ Q x) : ∃ (a : Option Addr) (c : Nat) (l : List α), cs = [.slice a l.length c] ∧ l.length ≤ c ∧ c ≤ 9223372036854775807 ∧ (a = none → c = 0) ∧ RwAt w (fun _ => True) size l.length a (l.flatMap f) ∧ ∀ x ∈ l, Q x := by
 have h2 := h
 obtain ⟨l, g, rfl, ⟨a0, cap, hv, hle, hn, hc⟩, hl⟩ := rd_sliceAt h
 obtain ⟨xs, hxl, hx⟩ := pick_row l.length (fun i (x : α) => g i = f x ∧ Q x) (fun i hi => hone _ _ (hl i hi))
 have hcs : cs = [.slice a0 l.length cap] ∧ cap ≤ 9223372036854775807 ∧ (a0 = none → cap = 0) := by
  obtain ⟨l2, e, ⟨rfl, -⟩ | ⟨a, c, cell, rfl, h3, h4, -⟩⟩ := rd_slice.1 h2
  · simp only [List.headD_cons, Value.slice.injEq] at hv
    obtain ⟨rfl, h5, rfl⟩ := hv
    exact ⟨by rw [← h5], by decide, fun _ => rfl⟩
  · simp only [List.headD_cons, Value.slice.injEq] at hv
    obtain ⟨rfl, h5, rfl⟩ := hv
    refine ⟨by rw [h5], by unfold Go.maxLen at h4; omega, fun e => by cases e⟩
 refine ⟨a0, cap, xs, by rw [hxl]; exact hcs.1, by rw [hxl]; exact hle, hcs.2.1, hcs.2.2, ⟨flat_len hf xs, fun h0' => ?_⟩, fun x hx2 => ?_⟩
 · rw [hxl] at h0'
   obtain ⟨b, off, rfl, hb, hcell⟩ := hc h0' (by rw [hs]; exact h0)
   refine ⟨b, off, rfl, trivial, hb, fun j hj => ?_⟩
   have hq : j / size < xs.length := (Nat.div_lt_iff_lt_mul h0).2 hj
   have hr : j % size < size := Nat.mod_lt _ h0
   have e : j = (j / size) * size + j % size := by rw [Nat.mul_comm]; exact (Nat.div_add_mod j size).symm
   have h3 := hcell (j / size) (by omega) (j % size) (by rw [hs]; exact hr)
   rw [hs, (hx _ (by omega)).1] at h3
   rw [e, flat_at hf default xs _ _ hq hr, ← Nat.add_assoc]
   exact h3
 · obtain ⟨i, hi, rfl⟩ := List.mem_iff_getElem.1 hx2
   have := (hx i (by omega)).2
   rw [List.getD_eq_getElem?_getD, List.getElem?_eq_getElem hi] at this
   exact this
def tyMv : Ty := .struct [.int .i64, .int .i64, .int .i64, .int .i64]
theorem rd_mv {w : World} {cs : List Value} {d : D} (h : Rd w tyMv cs d) : ∃ x : Mv, cs = mvC x ∧ True := by
 simp only [tyMv, rd_struct, rds_cons, rds_nil, rd_int] at h
 obtain ⟨ds, rfl, c0, r0, d0, s0, rfl, rfl, -, ⟨a, rfl, rfl, -⟩, c1, r1, d1, s1, rfl, rfl, -, ⟨b, rfl, rfl, -⟩, c2, r2, d2, s2, rfl, rfl, -, ⟨e, rfl, rfl, -⟩, c3, r3, d3, s3, rfl, rfl, -, ⟨f, rfl, rfl, -⟩, rfl, rfl⟩ := h
 exact ⟨(a, b, e, f), rfl, trivial⟩
def tyOp : Ty := .struct [.int .i64, .int .i64, .int .i64, .str, .str, .int .i64, .int .i64, .int .i64, .str, .int .i64, .int .i64, .slice tyMv]
theorem rd_op {w : World} {cs : List Value} {d : D} (h : Rd w tyOp cs d) : ∃ (x : OpS) (mv : List Mv), cs = x.cells ∧ OpIn w x mv := by
 simp only [tyOp, rd_struct, rds_cons, rds_nil, rd_int, rd_str] at h
 obtain ⟨ds, rfl, c0, r0, d0, s0, rfl, rfl, -, ⟨x0, rfl, rfl, -⟩, c1, r1, d1, s1, rfl, rfl, -, ⟨x1, rfl, rfl, -⟩, c2, r2, d2, s2, rfl, rfl, -, ⟨x2, rfl, rfl, -⟩, c3, r3, d3, s3, rfl, rfl, -, ⟨x3, rfl, rfl, -⟩, c4, r4, d4, s4, rfl, rfl, -, ⟨x4, rfl, rfl, -⟩,
   c5, r5, d5, s5, rfl, rfl, -, ⟨x5, rfl, rfl, -⟩, c6, r6, d6, s6, rfl, rfl, -, ⟨x6, rfl, rfl, -⟩, c7, r7, d7, s7, rfl, rfl, -, ⟨x7, rfl, rfl, -⟩, c8, r8, d8, s8, rfl, rfl, -, ⟨x8, rfl, rfl, -⟩, c9, r9, d9, s9, rfl, rfl, -, ⟨x9, rfl, rfl, -⟩, c10, r10, d10, s10, rfl, rfl, -, ⟨x10, rfl, rfl, -⟩,
   c11, r11, d11, s11, rfl, rfl, -, h11, rfl, rfl⟩ := h
 obtain ⟨mp, mc, mv, rfl, hc1, hc2, -, hrow, -⟩ := rd_rw (size := 4) mvC (fun _ => True) mvC_len rfl (by decide) h11 (fun c d h => rd_mv h)
 exact ⟨⟨x0, x1, x2, x3.data.toList, x4.data.toList, x5, x6, x7, x8, x9, x10, mp, mv.length, mc⟩, mv, rfl, ⟨rfl, hrow, hc1, hc2⟩⟩
end Esch
