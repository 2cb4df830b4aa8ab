/-
  The law ImageBack: what was encoded is decoded as it was; what was decoded is encoded as it stood.
  Conditions: none.
-/
import Derived.Test.YtmnkackkeppheaaGreatImBack
import Derived.Test.YtmnkackkeppheaaGreatRdDmA
import Derived.Test.YtmnkackkeppheaaGreatKImBack
import Derived.Test.YtmnkackkeppheaaGreatPkRow
namespace Go.Proofs.YtmnkackkeppheaaGreat
open Go.RowKit Esch Go.ChangeShapes Go.WideShapes Go.ChangeAt

set_option maxRecDepth 100000 in
theorem imageBack_closed : joinedFacts Tryz.prog 4 Tryz.f4 Rows.imageBackSpec Rows.imageBackRow = true := by
  unfold joinedFacts
  exact and_tt (and_tt (and_tt (and_tt (and_tt (and_tt (and_tt (and_tt (and_tt (and_tt (and_tt (and_tt (and_tt (and_tt (and_tt (and_tt (and_tt (and_tt (and_tt (and_tt (and_tt (and_tt (and_tt (and_tt (and_tt (and_tt (and_tt (and_tt (and_tt (and_tt (and_tt imageBack_j0 imageBack_j1) imageBack_j2) imageBack_j3) imageBack_j4) imageBack_j5) imageBack_j6) imageBack_j7) imageBack_j8) imageBack_j9) imageBack_j10) imageBack_j11) imageBack_j12) imageBack_j13) imageBack_j14) imageBack_j15) imageBack_j16) imageBack_j17) imageBack_j18) imageBack_j19) imageBack_j20) imageBack_j21) imageBack_j22) imageBack_j23) imageBack_j24) imageBack_j25) imageBack_j26) imageBack_j27) imageBack_j28) imageBack_j29) imageBack_j30) imageBack_j31
def dump0 : Value := .agg (Value.int .i64 0 :: Value.slice none 0 0 :: Value.int .i64 0 :: Value.slice none 0 0 :: Value.slice none 0 0 :: List.replicate 32 (Value.int .i64 0)).toArray
set_option maxRecDepth 100000 in
set_option maxHeartbeats 2000000 in
theorem imageBack_lifted (os : Os) (started : os.Started) (H : Type) (enc : TypeId × Value → H) :
    ReturnsInHanded {} Tryz.checked os 4 .any (Rows.imageBackSpec.pre6 enc Tryz.prog Tryz.f4 Rows.imageBackRow.domain false) (Rows.imageBackSpec.post enc Tryz.prog Tryz.f4 false true false false) := by
  refine returnsInHanded_of_change (C := Tryz.checked) Tryz.ownP started (by kernel_rfl) Tryz.func4
    (ChangeSpec.witness6 (enc := enc) (C := Tryz.checked) false ⟨#[], #[dump0, .string ⟨#[]⟩], []⟩ 8 (by kernel_rfl) (by kernel_rfl) (by kernel_rfl) (by kernel_rfl)) ?_
  intro W base args ds gs before hval0 hW hcnd _
  have hval : ∀ (j : Nat) t v, Tryz.f4.params[j]? = some t → args[j]? = some v → Value.okWide Tryz.prog W .any base t v := hval0
  have hW' := hW
  obtain ⟨p, q, hA0, hV, rfl, hfz, hnd⟩ := hW
  have hA : DataW.TrodAll enc Tryz.prog W 0 (fun _ => true) true Tryz.f4.params.toList args.toList ds p := hA0
  rw [Tryz.params4] at hA hval
  obtain ⟨v0, vs0, d0, ds0, p0, q0, hargs, rfl, rfl, h0, r0⟩ := trodAll_cons hA
  obtain ⟨v1, vs1, d1, ds1, p1, q1, rfl, rfl, rfl, h1, r1⟩ := trodAll_cons r0
  obtain ⟨rfl, rfl, rfl⟩ := trodAll_nil r1
  obtain rfl : args = #[v0, v1] := by cases args; simp_all
  obtain ⟨rfl, rfl⟩ := trodVars_none hV
  obtain ⟨cs0, x0, hv0, hr0⟩ := open_arg (n := 9) (T := tyDump) (by kernel_rfl) (hval 0 32 v0 rfl rfl) h0
  obtain ⟨cs1, x1, hv1, hr1⟩ := open_arg (n := 9) (T := .str) (by kernel_rfl) (hval 1 9 v1 rfl rfl) h1
  obtain ⟨x, e0, hx, hxi⟩ := rd_dump hr0
  obtain ⟨t, e1, -⟩ := rd_str.1 hr1
  simp only [tyDump, Ty.isStruct, if_true] at hv0
  rw [e0] at hv0
  subst hv0
  simp only [Ty.isStruct, Bool.false_eq_true, if_false] at hv1
  subst e1
  subst hv1
  clear hA0 hval0
  refine (imageBack_walk W x hx hxi t).mono fun e W' ⟨he, hb⟩ => ?_
  subst he
  exact ⟨_, rfl, law_post Tryz.laidOutP (by kernel_rfl) rfl Tryz.underlying4 hW' rfl rfl rfl rfl hb⟩

theorem imageBack_holds : Rows.ImageBackSaid :=
  OpenClaim.holds_of_wide 4 Tryz.f4 rfl rfl rfl rfl rfl rfl rfl ⟨rfl, rfl, rfl, rfl, rfl⟩ rfl rfl rfl rfl rfl (by kernel_rfl) Tryz.func4 imageBack_closed
    (of_decide_eq_true (by kernel_rfl)) (by unfold Func.isWrapper; first | (rw [if_pos (by decide +kernel)]; kernel_rfl) | (rw [if_neg (by decide +kernel)]; exact ⟨rfl, rfl⟩))
    (fun os started H enc _ => imageBack_lifted os started H enc)
end Go.Proofs.YtmnkackkeppheaaGreat
