import Derived.Test.YtmnkackkeppheaaGreatPkOpM
import Derived.Test.YtmnkackkeppheaaGreatEqRow
import Derived.Test.YtmnkackkeppheaaGreatPkExt
import Derived.Test.YtmnkackkeppheaaGreatPkBase
import Derived.Test.YtmnkackkeppheaaGreatPkIno
import Derived.Test.YtmnkackkeppheaaGreatPkHdm
import Derived.Test.YtmnkackkeppheaaGreatOnceT
/- package op: kept -/
namespace Go.Proofs.YtmnkackkeppheaaGreat
open Go.RowKit Esch

end Go.Proofs.YtmnkackkeppheaaGreat
/- package op: Same, the forms' table, Good -/
namespace Esch
open Go
end Esch
namespace Go.Proofs.YtmnkackkeppheaaGreat
open Go.RowKit Esch

set_option linter.unusedSimpArgs false
end Go.Proofs.YtmnkackkeppheaaGreat
/- package op: the forms' table -/
namespace Go.Proofs.YtmnkackkeppheaaGreat
open Go.RowKit Esch

end Go.Proofs.YtmnkackkeppheaaGreat
/- package op: Good -/
namespace Go.Proofs.YtmnkackkeppheaaGreat
open Go.RowKit Esch

end Go.Proofs.YtmnkackkeppheaaGreat
/- package op: form 7, the moves -/
namespace Go.Proofs.YtmnkackkeppheaaGreat
open Go.RowKit Esch

end Go.Proofs.YtmnkackkeppheaaGreat
/- package op: Good, whole -/
namespace Go.Proofs.YtmnkackkeppheaaGreat
open Go.RowKit Esch

end Go.Proofs.YtmnkackkeppheaaGreat
/- package op: get, a field of a text -/
namespace Esch
open Go Go.RowKit
end Esch
namespace Go.Proofs.YtmnkackkeppheaaGreat
open Go.RowKit Esch

end Go.Proofs.YtmnkackkeppheaaGreat
/- package op: get, the moves -/
namespace Esch
open Go Go.RowKit
end Esch
namespace Go.Proofs.YtmnkackkeppheaaGreat
open Go.RowKit Esch

end Go.Proofs.YtmnkackkeppheaaGreat
/- package op: Decode -/
namespace Esch
open Go Go.RowKit
end Esch
namespace Go.Proofs.YtmnkackkeppheaaGreat
open Go.RowKit Esch

end Go.Proofs.YtmnkackkeppheaaGreat
/- the state, plain: what each record comes to -/
namespace Esch
open Go
end Esch
namespace Go.Proofs.YtmnkackkeppheaaGreat
open Go.RowKit Esch

structure StS where
  t : TrS
  h : HdS
  o : OM
  next : Int
def st0 : StS := ⟨tr0, hd0, [], 0⟩
theorem set_len {K V : Type} [DecidableEq K] (m : List (K × V)) (k : K) (v : V) : (set m k v).length ≤ m.length + 1 := by
  by_cases h : ∀ p ∈ m, p.1 ≠ k
  · rw [set_miss m k v h]; simp
  · cases hg : get m k with
    | none => exact absurd (get_none.1 hg) h
    | some u =>
      obtain ⟨pre, post, rfl, hp⟩ := get_some hg
      rw [set_hit _ _ _ _ _ hp]; simp
end Go.Proofs.YtmnkackkeppheaaGreat
