import Derived.Test.YtpfcomepecgcmaaGreatDoorPkTrf
import Derived.Test.YtpfcomepecgcmaaGreatDoorPkTre
import Derived.Test.YtpfcomepecgcmaaGreatDoorPkExt
import Derived.Test.YtpfcomepecgcmaaGreatDoorPkBase
/- package tree: Link, Truncate -/
namespace Esch
open Go Go.RowKit
/-- the inodes alone were written, and more has come -/
theorem TreeAt.tabG {w w' : World} {b ib nb : Nat} {S S1 S2 : Nat → Prop} {s : TrS} {t' : TabS} (sb : S b) (lt : ∀ k, S k → k < w.heap.size) (c0 : w.cell? ⟨b, 0, none⟩ = some (.pointer (some ⟨ib, 0, none⟩))) (c1 : w.cell? ⟨b, 1, none⟩ = some (.pointer (some ⟨nb, 0, none⟩)))
    (hn : DirAt w nb S2 s.n) (s1 : ∀ k, S1 k → S k) (s2 : ∀ k, S2 k → S k) (d : ∀ k, S1 k → ¬ S2 k) (b1 : ¬ S1 b) (b2 : ¬ S2 b) (ht : TabAt w' ib (growI S1 w w') t') (hM : Mod S1 w w') : TreeAt w' b (growI S w w') ⟨t', s.n⟩ ∧ Mod S w w' :=
  ⟨⟨Or.inl sb, fun k hk => hk.elim (fun hk => Nat.lt_of_lt_of_le (lt k hk) hM.size) (fun h => h.2), ib, nb, growI S1 w w', S2, hM.at c0 b1, hM.at c1 b1, ht, hn.mod hM (fun k hk h => d k h hk), fun k hk => hk.imp (s1 k) id, fun k hk => Or.inl (s2 k hk), fun k hk h2 => hk.elim (fun h => d k h h2) (fun h => absurd (lt k (s2 k h2)) (Nat.not_lt.2 h.1)), fun hk => hk.elim b1 (fun h => absurd (lt b sb) (Nat.not_lt.2 h.1)), b2⟩, hM.mono fun k _ hk => s1 k hk⟩
end Esch
namespace Go.Proofs.YtpfcomepecgcmaaGreatDoor
open Go.RowKit Esch Go.Shelf

end Go.Proofs.YtpfcomepecgcmaaGreatDoor
/- package tree: Rmdir, Unlink -/
namespace Go.Proofs.YtpfcomepecgcmaaGreatDoor
open Go.RowKit Esch Go.Shelf

end Go.Proofs.YtpfcomepecgcmaaGreatDoor
/- package tree: Find, Stat, List, Inodes, Names -/
namespace Esch
open Go Go.RowKit
end Esch
namespace Go.Proofs.YtpfcomepecgcmaaGreatDoor
open Go.RowKit Esch Go.Shelf

end Go.Proofs.YtpfcomepecgcmaaGreatDoor
/- package extent: joined -/
namespace Esch
open Go Go.RowKit
end Esch
namespace Go.Proofs.YtpfcomepecgcmaaGreatDoor
open Go.RowKit Esch Go.Shelf

end Go.Proofs.YtpfcomepecgcmaaGreatDoor
/- package extent: Put -/
namespace Esch
open Go Go.RowKit
end Esch
namespace Go.Proofs.YtpfcomepecgcmaaGreatDoor
open Go.RowKit Esch Go.Shelf

end Go.Proofs.YtpfcomepecgcmaaGreatDoor
/- package inode: Write, Open -/
namespace Go.Proofs.YtpfcomepecgcmaaGreatDoor
open Go.RowKit Esch Go.Shelf

end Go.Proofs.YtpfcomepecgcmaaGreatDoor
