/-
  PROVED: the law OnceNone answers true at every input, and changes nothing that was there. No condition.
-/
import Derived.Test.YtcgcappfhjploaaOnce
import Derived.Test.YtcgcappfhjploaaRead
namespace Go.Proofs.Ytcgcappfhjploaa
open Go.RowKit Esch Go.ChangeShapes Go.WideShapes Go.ChangeAt

set_option maxHeartbeats 1000000 in
theorem none_walk (k c q x y : Int) (w : World) : Calls Try.prog 5 #[.agg #[.int .i64 k, .int .i64 c, .int .i64 q, .int .i64 x, .int .i64 y]] w fun e w' => e = .returned (.bool true) ∧ Below w.heap.size w w' := by
  go_enter Try.func5, Try.ntmps5
  go_wp2_with fail
  refine (last_nil _ _).mono ?_
  rintro e w1 ⟨rfl, hB1⟩
  simp only [World.size_alloc] at hB1
  obtain ⟨hc, hf⟩ := bcell hB1
  have hz : w.heap.size < w1.heap.size := by have := hB1.size; simp at this; omega
  go_wp2_with fail
  refine (seen_nil _ _ _).mono ?_
  rintro e w' ⟨rfl, rfl⟩
  go_wp2_with fail
  refine (note_nil _ _ _ _ _).mono ?_
  rintro e w2 ⟨rfl, hB2⟩
  simp only [World.size_alloc] at hB2
  obtain ⟨hc2, hf2⟩ := bcell hB2
  go_wp2_with fail
  refine (wakes_any _).mono ?_
  rintro e w3 ⟨rfl, hB3⟩
  go_wp2_with fail
  go_ret
  refine ⟨rfl, ?_⟩
  have h1 : Below w.heap.size w w1 := ((Below.refl _ _).alloc (Nat.le_refl _) _).trans (hB1.mono (by omega))
  exact (((h1.alloc h1.size _).trans (hB2.mono (by omega))).trans (hB3.mono (by have := hB2.size; simp at this; omega)))

theorem Try.own : ownKnob Try.prog.godebug = none := by kernel_rfl
theorem Try.laidOut : laidOutB Try.prog = true := by kernel_rfl

def tyStep : Ty := .struct [.int .i64, .int .i64, .int .i64, .struct [.int .i64, .int .i64]]
theorem rd_step {w : World} {cs : List Value} {x : D} (h : Rd w tyStep cs x) : ∃ k c q a b : Int, cs = [.int .i64 k, .int .i64 c, .int .i64 q, .int .i64 a, .int .i64 b] ∧ x = .struct [.int k, .int c, .int q, .struct [.int a, .int b]] := by
  simp only [tyStep, rd_struct, rds_cons, rds_nil, rd_int] at h
  obtain ⟨ds, rfl, c0, r0, d0, s0, rfl, rfl, -, ⟨k, rfl, rfl, -⟩, c1, r1, d1, s1, rfl, rfl, -, ⟨c, rfl, rfl, -⟩, c2, r2, d2, s2, rfl, rfl, -, ⟨q, rfl, rfl, -⟩, c3, r3, d3, s3, rfl, rfl, -, ⟨es, rfl, c4, r4, d4, s4, rfl, rfl, -, ⟨a, rfl, rfl, -⟩, c5, r5, d5, s5, rfl, rfl, -, ⟨b, rfl, rfl, -⟩, rfl, rfl⟩, rfl, rfl⟩ := h
  exact ⟨k, c, q, a, b, rfl, rfl⟩

set_option maxRecDepth 100000 in
theorem none_lifted (os : Os) (started : os.Started) (H : Type) (enc : TypeId × Value → H) :
    ReturnsInHanded {} Try.checked os 5 .any (Rows.onceNoneSpec.pre6 enc Try.prog Try.f5 Rows.onceNoneRow.domain false) (Rows.onceNoneSpec.post enc Try.prog Try.f5 false true false false) := by
  refine returnsInHanded_of_change (C := Try.checked) Try.own started (by kernel_rfl) Try.func5
    (ChangeSpec.witness6 (enc := enc) (C := Try.checked) false ⟨#[], #[.agg #[.int .i64 0, .int .i64 0, .int .i64 0, .int .i64 0, .int .i64 0]], []⟩ 8 (by kernel_rfl) (by kernel_rfl) (by kernel_rfl) (by kernel_rfl)) ?_
  intro W base args ds gs before hval0 hW hcnd _
  have hval : ∀ (j : Nat) t v, Try.f5.params[j]? = some t → args[j]? = some v → Value.okWide Try.prog W .any base t v := hval0
  have hW' := hW
  obtain ⟨p, q, hA0, hV, rfl, hfz, hnd⟩ := hW
  have hA : DataW.TrodAll enc Try.prog W 0 (fun _ => true) true Try.f5.params.toList args.toList ds p := hA0
  rw [Try.params5] at hA hval
  obtain ⟨v0, vs0, d0, ds0, p0, q0, hargs, rfl, rfl, h0, r0⟩ := trodAll_cons hA
  obtain ⟨rfl, rfl, rfl⟩ := trodAll_nil r0
  obtain rfl : args = #[v0] := by cases args; simp_all
  obtain ⟨rfl, rfl⟩ := trodVars_none hV
  obtain ⟨cs, x, hv, hr⟩ := open_arg (n := 5) (T := tyStep) (by kernel_rfl) (hval 0 33 v0 rfl rfl) h0
  obtain ⟨k, c, y, a, b, rfl, -⟩ := rd_step hr
  simp only [tyStep, Ty.isStruct, if_true] at hv
  subst hv
  clear hA0 hval0
  refine (none_walk k c y a b W).mono fun e W' ⟨he, hb⟩ => ?_
  subst he
  exact ⟨_, rfl, law_post Try.laidOut (by kernel_rfl) rfl Try.underlying4 hW' rfl rfl rfl rfl hb⟩

theorem onceNone_holds : Rows.OnceNoneSaid :=
  OpenClaim.holds_of_wide 5 Try.f5 rfl rfl rfl rfl rfl rfl rfl ⟨rfl, rfl, rfl, rfl, rfl⟩ rfl rfl rfl rfl rfl (by kernel_rfl) Try.func5 (by kernel_rfl)
    (of_decide_eq_true (by kernel_rfl)) (by unfold Func.isWrapper; first | (rw [if_pos (by decide +kernel)]; kernel_rfl) | (rw [if_neg (by decide +kernel)]; exact ⟨rfl, rfl⟩))
    (fun os started H enc _ => none_lifted os started H enc)
end Go.Proofs.Ytcgcappfhjploaa
