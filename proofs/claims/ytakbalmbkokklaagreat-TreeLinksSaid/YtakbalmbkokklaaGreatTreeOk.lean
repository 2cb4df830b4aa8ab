/- the counts stay what they count, whatever is called -/
import Derived.Test.YtakbalmbkokklaaGreatTreeM
namespace Esch
open Go
def Res.all {α : Type} (P : α → Prop) (r : Res α) : Prop := match r with
  | .ok a => P a
  | .err _ => True
theorem Res.all_bind {α β : Type} {P : β → Prop} (r : Res α) (f : α → Res β) (h : ∀ a, r = .ok a → (f a).all P) : (r.bind f).all P := by
  cases r with
  | ok a => exact h a rfl
  | err e => trivial
theorem run_all {P : TrS → Prop} {s : TrS} (h : P s) {r : Res TrS} (hr : r.all P) : P (r.run s).2 := by
  cases r with
  | ok a => exact hr
  | err e => exact h
theorem TrS.ok.mk' {s : TrS} (h : s.ok) (p : Nm) (k : Int) : (((s.mk' p k).run s).2).ok := by
  refine run_all h ?_
  unfold TrS.mk'
  refine Res.all_bind _ _ fun x _ => Res.all_bind _ _ fun _ _ => Res.all_bind _ _ fun _ _ => Res.all_bind _ _ fun _ _ => ?_
  exact TrS.ok.add (s := ⟨(s.t.make k).2, s.n⟩) ⟨h.t.make k, h.n⟩ x _
theorem TrS.ok.rmdir {s : TrS} (h : s.ok) (p : Nm) : (((s.rmdir p).run s).2).ok := by
  refine run_all h ?_
  unfold TrS.rmdir
  refine Res.all_bind _ _ fun x _ => Res.all_bind _ _ fun _ _ => Res.all_bind _ _ fun _ _ => Res.all_bind _ _ fun _ _ => ?_
  exact h.drop x
theorem TrS.ok.unlink {s : TrS} (h : s.ok) (p : Nm) : (((s.unlink p).run s).2).ok := by
  refine run_all h ?_
  unfold TrS.unlink
  refine Res.all_bind _ _ fun x _ => Res.all_bind _ _ fun _ _ => Res.all_bind _ _ fun _ _ => ?_
  exact h.drop x
theorem TrS.ok.lnk {s : TrS} (h : s.ok) (p q : Nm) : (((s.lnk p q).run s).2).ok := by
  refine run_all h ?_
  unfold TrS.lnk
  refine Res.all_bind _ _ fun i _ => Res.all_bind _ _ fun _ _ => Res.all_bind _ _ fun x _ => Res.all_bind _ _ fun _ _ => Res.all_bind _ _ fun _ _ => Res.all_bind _ _ fun _ _ => ?_
  exact h.add x i
theorem TrS.ok.rename {s : TrS} (h : s.ok) (p q : Nm) : (((s.rename p q).run s).2).ok := by
  refine run_all h ?_
  unfold TrS.rename
  refine Res.all_bind _ _ fun x _ => Res.all_bind _ _ fun _ _ => Res.all_bind _ _ fun y _ => ?_
  split
  · exact h
  · refine Res.all_bind _ _ fun _ _ => Res.all_bind _ _ fun _ _ => ?_
    exact h.renS x y
theorem TrS.ok.trunc {s : TrS} (h : s.ok) (p : Nm) (n : Int) : (((s.trunc p n).run s).2).ok := by
  refine run_all h ?_
  unfold TrS.trunc
  refine Res.all_bind _ _ fun i _ => Res.all_bind _ _ fun _ _ => ?_
  exact ⟨h.t.cut i n, h.n⟩
end Esch
