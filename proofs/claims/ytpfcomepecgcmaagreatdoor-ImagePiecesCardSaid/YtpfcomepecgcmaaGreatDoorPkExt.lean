import Derived.Test.YtpfcomepecgcmaaGreatDoorPkHdm
import Derived.Test.YtpfcomepecgcmaaGreatDoorPkIno
/- package extent: joins, Good -/
namespace Esch
open Go
end Esch
namespace Go.Proofs.YtpfcomepecgcmaaGreatDoor
open Go.RowKit Esch Go.Shelf

end Go.Proofs.YtpfcomepecgcmaaGreatDoor
/- package extent: Cut -/
namespace Esch
open Go
end Esch
namespace Go.Proofs.YtpfcomepecgcmaaGreatDoor
open Go.RowKit Esch Go.Shelf

theorem Tryz.infoPart : (Tryz.prog.info? 97).map (fun i => (i.zero, i.size, i.bytes)) = some (some (.agg #[.int .i64 0, .int .i64 0, .int .i64 0, .int .i64 0]), 4, 32) := by kernel_rfl
theorem src_pt {P : Program} {W : World} (tx e' : TypeId) (hk : P.underlying tx = some (.slice e')) (b : Nat) (x : PtS) (t : TypeId) (hb : W.heap[b]? = some (.cells (ptC x).toArray t)) (c : Nat) : Src P 4 tx (.slice (some ⟨b, 0, none⟩) 1 c) 1 (ptC x) W := by
  refine Src.ofSlice W hk _ 1 c (ptC x) rfl (fun j u hu => ?_) (fun u hu => ?_)
  · rw [addr_add, Nat.zero_add]
    simp [World.cell?, hb, hu]
  · simp only [ptC, List.mem_cons, List.not_mem_nil, or_false] at hu
    rcases hu with rfl | rfl | rfl | rfl <;> rfl
end Go.Proofs.YtpfcomepecgcmaaGreatDoor
/- package inode: file, Truncate -/
namespace Esch
open Go
/-- S, and what is new -/
def growI (S : Nat → Prop) (w w' : World) (k : Nat) : Prop := S k ∨ (w.heap.size ≤ k ∧ k < w'.heap.size)
end Esch
namespace Go.Proofs.YtpfcomepecgcmaaGreatDoor
open Go.RowKit Esch Go.Shelf

end Go.Proofs.YtpfcomepecgcmaaGreatDoor
