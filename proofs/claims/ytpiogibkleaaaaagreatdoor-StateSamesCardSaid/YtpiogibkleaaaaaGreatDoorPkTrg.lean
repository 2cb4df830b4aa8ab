import Derived.Test.YtpiogibkleaaaaaGreatDoorPkTrf
import Derived.Test.YtpiogibkleaaaaaGreatDoorPkTre
import Derived.Test.YtpiogibkleaaaaaGreatDoorPkExt
import Derived.Test.YtpiogibkleaaaaaGreatDoorPkBase
/- package tree: Link, Truncate -/
namespace Esch
open Go Go.RowKit
theorem TreeAt.wide {w : World} {b : Nat} {S T : Nat → Prop} {s : TrS} (h : TreeAt w b S s) (hS : ∀ k, S k → T k) (hl : ∀ k, T k → k < w.heap.size) : TreeAt w b T s := by
  obtain ⟨sb, lt, ib, nb, S1, S2, c0, c1, ht, hn, s1, s2, d, b1, b2⟩ := h
  exact ⟨hS b sb, hl, ib, nb, S1, S2, c0, c1, ht, hn, fun k hk => hS k (s1 k hk), fun k hk => hS k (s2 k hk), d, b1, b2⟩
theorem TreeAt.grow {w : World} {b : Nat} {S : Nat → Prop} {s : TrS} (h : TreeAt w b S s) (w0 : World) : TreeAt w b (growI S w0 w) s := h.wide (fun _ => Or.inl) (fun k hk => hk.elim (h.lt k) (fun h => h.2))
end Esch
namespace Go.Proofs.YtpiogibkleaaaaaGreatDoor
open Go.RowKit Esch Go.Shelf

end Go.Proofs.YtpiogibkleaaaaaGreatDoor
/- package tree: Rmdir, Unlink -/
namespace Go.Proofs.YtpiogibkleaaaaaGreatDoor
open Go.RowKit Esch Go.Shelf

end Go.Proofs.YtpiogibkleaaaaaGreatDoor
/- package tree: Find, Stat, List, Inodes, Names -/
namespace Esch
open Go Go.RowKit
def Res.code {α : Type} (r : Res α) : Int := match r with
  | .ok _ => 0
  | .err e => e
end Esch
namespace Go.Proofs.YtpiogibkleaaaaaGreatDoor
open Go.RowKit Esch Go.Shelf

end Go.Proofs.YtpiogibkleaaaaaGreatDoor
/- package extent: joined -/
namespace Esch
open Go Go.RowKit
end Esch
namespace Go.Proofs.YtpiogibkleaaaaaGreatDoor
open Go.RowKit Esch Go.Shelf

end Go.Proofs.YtpiogibkleaaaaaGreatDoor
/- package extent: Put -/
namespace Esch
open Go Go.RowKit
end Esch
namespace Go.Proofs.YtpiogibkleaaaaaGreatDoor
open Go.RowKit Esch Go.Shelf

end Go.Proofs.YtpiogibkleaaaaaGreatDoor
/- package inode: Write, Open -/
namespace Go.Proofs.YtpiogibkleaaaaaGreatDoor
open Go.RowKit Esch Go.Shelf

end Go.Proofs.YtpiogibkleaaaaaGreatDoor
