/-
  The law ProjCodes: the text of any projection, and the projection of any text, or that there is none, are the document's.
  Conditions: none.
-/
import Derived.Test.YtchidgpaejkaiaaCodes
import Derived.Test.YtchidgpaejkaiaaRow
namespace Go.Proofs.Ytchidgpaejkaiaa
open Go.RowKit Esch Go.ChangeShapes Go.WideShapes Go.ChangeAt

set_option maxRecDepth 100000 in
set_option maxHeartbeats 2000000 in
theorem projCodes_lifted (os : Os) (started : os.Started) (H : Type) (enc : TypeId × Value → H) :
    ReturnsInHanded {} Try.checked os 7 .any (Rows.projCodesSpec.pre6 enc Try.prog Try.f7 Rows.projCodesRow.domain false) (Rows.projCodesSpec.post enc Try.prog Try.f7 false true false false) := by
  refine returnsInHanded_of_change (C := Try.checked) Try.ownP started (by kernel_rfl) Try.func7
    (ChangeSpec.witness6 (enc := enc) (C := Try.checked) false ⟨#[], #[.agg #[.int .i64 0, .slice none 0 0], .string ⟨#[]⟩], []⟩ 8 (by kernel_rfl) (by kernel_rfl) (by kernel_rfl) (by kernel_rfl)) ?_
  intro W base args ds gs before hval0 hW hcnd _
  have hval : ∀ (j : Nat) t v, Try.f7.params[j]? = some t → args[j]? = some v → Value.okWide Try.prog W .any base t v := hval0
  have hW' := hW
  obtain ⟨p, q, hA0, hV, rfl, hfz, hnd⟩ := hW
  have hA : DataW.TrodAll enc Try.prog W 0 (fun _ => true) true Try.f7.params.toList args.toList ds p := hA0
  rw [Try.params7] at hA hval
  obtain ⟨v0, vs0, d0, ds0, p0, q0, hargs, rfl, rfl, h0, r0⟩ := trodAll_cons hA
  obtain ⟨v1, vs1, d1, ds1, p1, q1, rfl, rfl, rfl, h1, r1⟩ := trodAll_cons r0
  obtain ⟨rfl, rfl, rfl⟩ := trodAll_nil r1
  obtain rfl : args = #[v0, v1] := by cases args; simp_all
  obtain ⟨rfl, rfl⟩ := trodVars_none hV
  obtain ⟨cs0, x0, hv0, hr0⟩ := open_arg (n := 9) (T := tyProj) (by kernel_rfl) (hval 0 24 v0 rfl rfl) h0
  obtain ⟨cs1, x1, hv1, hr1⟩ := open_arg (n := 9) (T := .str) (by kernel_rfl) (hval 1 9 v1 rfl rfl) h1
  obtain ⟨pe, pa, ls, pc, rfl, hpl⟩ := rd_proj hr0
  simp only [tyProj, Ty.isStruct, if_true] at hv0
  obtain ⟨s, rfl, rfl, hsz⟩ := rd_str.1 hr1
  simp only [Ty.isStruct, Bool.false_eq_true, if_false] at hv1
  subst hv0
  subst hv1
  clear hA0 hval0
  refine (codes_walk pe pa pc ls s hsz W hpl).mono fun e W' ⟨he, hb⟩ => ?_
  subst he
  exact ⟨_, rfl, law_post Try.laidOutP (by kernel_rfl) rfl Try.underlying4 hW' rfl rfl rfl rfl hb⟩

theorem projCodes_holds : Rows.ProjCodesSaid :=
  OpenClaim.holds_of_wide 7 Try.f7 rfl rfl rfl rfl rfl rfl rfl ⟨rfl, rfl, rfl, rfl, rfl⟩ rfl rfl rfl rfl rfl (by kernel_rfl) Try.func7 (by kernel_rfl)
    (of_decide_eq_true (by kernel_rfl)) (by unfold Func.isWrapper; first | (rw [if_pos (by decide +kernel)]; kernel_rfl) | (rw [if_neg (by decide +kernel)]; exact ⟨rfl, rfl⟩))
    (fun os started H enc _ => projCodes_lifted os started H enc)
end Go.Proofs.Ytchidgpaejkaiaa
