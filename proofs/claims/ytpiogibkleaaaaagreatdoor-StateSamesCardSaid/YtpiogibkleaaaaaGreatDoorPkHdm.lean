import Derived.Test.YtpiogibkleaaaaaGreatDoorPkHdl
import Derived.Test.YtpiogibkleaaaaaGreatDoorPkIno
import Derived.StillTailTactics
import Derived.Deep.RegionHeld3
/- package handle: All -/
namespace Go.Proofs.YtpiogibkleaaaaaGreatDoor
open Go.RowKit Esch Go.Shelf Go.Sort

end Go.Proofs.YtpiogibkleaaaaaGreatDoor
/- package handle: Count, Open -/
namespace Esch
open Go Go.RowKit
def hcnt (m : List Hd) (c : Int) : Nat := (m.filter (fun e => e.1.1 == c)).length
def HdS.opn (s : HdS) (c n i : Int) : Int × HdS :=
  if clientB c = false ∨ n < 0 ∨ 16384 ≤ n ∨ i < 1 ∨ 2147483647 < i then (1, s) else if (s.of c n).isSome = true then (61, s) else if 16 ≤ hcnt s.m c then (3, s) else (0, { s with m := set s.m (c, n) i })
end Esch
namespace Go.Proofs.YtpiogibkleaaaaaGreatDoor
open Go.RowKit Esch Go.Shelf Go.Sort

end Go.Proofs.YtpiogibkleaaaaaGreatDoor
/- package handle: Expire -/
namespace Esch
open Go Go.RowKit
def delp (p : Hd → Bool) (m : List Hd) (l : List Hd) : List Hd := l.foldl (fun m e => if p e = true then del m e.1 else m) m
def HdS.old (s : HdS) (t : Int) (e : Hd) : Bool := decide (s.ls.getD e.1.1.toNat 0 < t)
end Esch
namespace Go.Proofs.YtpiogibkleaaaaaGreatDoor
open Go.RowKit Esch Go.Shelf Go.Sort

end Go.Proofs.YtpiogibkleaaaaaGreatDoor
/- package extent: whole, one, joins, Good -/
namespace Go.Proofs.YtpiogibkleaaaaaGreatDoor
open Go.RowKit Esch Go.Shelf

end Go.Proofs.YtpiogibkleaaaaaGreatDoor
