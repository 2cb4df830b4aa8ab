/-
  PROVED: the law OrderFull answers true at every input, and changes nothing that was there. No condition.
-/
import Derived.Test.YtcgcappfhjploaaOrder2
import Derived.Test.YtcgcappfhjploaaRead
import Derived.Deep.LoopGhost
import Derived.Deep.CutRange
import Derived.Deep.DeepCutAuto
namespace Go.Proofs.Ytcgcappfhjploaa
open Go.RowKit Esch Go.ChangeShapes Go.WideShapes Go.ChangeAt

@[simp] theorem fieldAns0 (x0 x1 x2 x3 x4 x5 x6 x7 : Value) (w : World) : (Instr.field 56 (.agg #[x0, x1, x2, x3, x4, x5, x6, x7]) 0).run Try.prog w = .ok x0 w := by kernel_rfl

def FullRel (w : World) (b : Nat) (n : Nat) (g : Nat) (s5 : Value) (wr : World) : Prop :=
  ∃ k : Nat, g = n - k ∧ k ≤ n ∧ s5 = .int .i64 k ∧ OrdAt wr b ⟨2, true, 16384 - n + k⟩ ∧ Below w.heap.size w wr

set_option maxRecDepth 100000 in
set_option maxHeartbeats 2000000 in
theorem full_walk (n : Nat) (hn : n ≤ 255) (w : World) : Calls Try.prog 7 #[.int .u8 n] w fun e w' => e = .returned (.bool true) ∧ Below w.heap.size w w' := by
  have hn1 : (0 : Int) ≤ n := by omega
  have hn2 : (n : Int) ≤ 255 := by omega
  go_enter Try.func7, Try.ntmps7
  go_wp2_with fail
  refine (ordNew_any _).mono ?_
  rintro e w1 ⟨b, rfl, h1, hb, hB⟩
  go_wp2_with fail
  refine (ordDo_at 8 2 (16384 - n) _ b _ ⟨by decide, by decide⟩ h1 0 0 2 ⟨2, true, 16384 - n⟩ (by simp only [ordDo, ordStart, if_true]; rw [if_neg (by decide), if_neg (by omega)]) rfl).mono ?_
  rintro e w2 ⟨rfl, h2, hM2⟩
  have hB2 : Below w.heap.size w w2 := hB.trans (hM2.below_at hB.size fun j hj e => by omega)
  clear h1 hM2 hB
  go_wp2_with fail
  go_loopg [5] n (fun g s5 wr => FullRel w b n g s5 wr)
  case atStart => exact ⟨0, rfl, Nat.zero_le _, rfl, by simpa using h2, hB2⟩
  case round =>
    clear h2 hB2
    obtain ⟨k, rfl, hk, rfl, hO, hBr⟩ := hrel
    by_cases hlt : k < n
    · have hk1 : (0 : Int) ≤ k := by omega
      have hk2 : (k : Int) < n := by omega
      go_wp2_with fail
      refine (ordDo_at 6 2 0 _ b _ ⟨by simp only; omega, by simp only; omega⟩ hO 0 (16384 - n + k) 2 ⟨2, true, 16384 - n + k + 1⟩ (by simp only [ordDo, ordTold, Int.reduceEq, if_false, or_false, if_true, ne_eq, not_true_eq_false, Bool.true_eq_false]; rw [if_neg (by omega)]) rfl).mono ?_
      rintro e w3 ⟨rfl, h3, hM3⟩
      have hB3 : Below w.heap.size w w3 := hBr.trans (hM3.below_at hBr.size fun j hj e => by omega)
      go_wp2_with fail
      go_roundg (n - (k + 1))
      case measure => omega
      case rel =>
        refine ⟨k + 1, rfl, by omega, by go_num, ?_, hB3.alloc hB3.size _⟩
        have := h3.mod ((Mod.refl none' _).alloc (.cells #[.int .i64 0, .int .i64 (16384 - n + k), .string ⟨#[]⟩, .int .i64 0, .slice none 0 0, .int .i64 0, .int .i64 0, .int .i64 2] 56)) id
        rw [show (16384 : Int) - n + (k + 1 : Nat) = 16384 - n + k + 1 by omega]
        exact this
    · have hkn : k = n := by omega
      subst hkn
      clear hlt
      have hO' : OrdAt wr b ⟨2, true, 16384⟩ := by have := hO; rwa [show (16384 : Int) - k + k = 16384 by omega] at this
      clear hO
      go_wp2_with fail
      refine (ordDo_at 6 2 0 _ b _ ⟨by decide, by decide⟩ hO' 44 0 2 ⟨2, true, 16384⟩ rfl rfl).mono ?_
      rintro e w3 ⟨rfl, h3, hM3⟩
      have hB3 : Below w.heap.size w w3 := hBr.trans (hM3.below_at hBr.size fun j hj e => by omega)
      go_wp2_with fail
      refine (ordDo_at 7 2 0 _ b _ ⟨by decide, by decide⟩ (h3.mod ((Mod.refl none' _).alloc _) id) 0 16384 2 ⟨2, true, 16384⟩ rfl rfl).mono ?_
      rintro e w4 ⟨rfl, h4, hM4⟩
      have z3 := h3.lt
      have s4 := hM4.size
      simp only [World.size_alloc] at s4
      obtain ⟨r4, -⟩ := hM4.one (B := w3.heap.size + 1) (by simp)
      have hB4 : Below w.heap.size w w4 := (hB3.alloc hB3.size _).trans (hM4.below_at (hB3.alloc hB3.size _).size fun j hj e => by omega)
      have z4 : w3.heap.size < w4.heap.size := by omega
      have n3 : w3.heap.size ≠ b := by omega
      go_wp2_with fail
      refine (wakes11_any _).mono ?_
      rintro e w9 ⟨rfl, hB9⟩
      go_wp2_with fail
      go_ret
      exact ⟨rfl, (hB4.alloc hB4.size _).trans (hB9.mono (hB4.alloc hB4.size _).size)⟩

theorem Try.own11 : ownKnob Try.prog.godebug = none := by kernel_rfl
theorem Try.laidOut11 : laidOutB Try.prog = true := by kernel_rfl
set_option maxRecDepth 100000 in
theorem full_lifted (os : Os) (started : os.Started) (H : Type) (enc : TypeId × Value → H) :
    ReturnsInHanded {} Try.checked os 7 .any (Rows.orderFullSpec.pre6 enc Try.prog Try.f7 Rows.orderFullRow.domain false) (Rows.orderFullSpec.post enc Try.prog Try.f7 false true false false) := by
  refine returnsInHanded_of_change (C := Try.checked) Try.own11 started (by kernel_rfl) Try.func7
    (ChangeSpec.witness6 (enc := enc) (C := Try.checked) false ⟨#[], #[.int .u8 0], []⟩ 8 (by kernel_rfl) (by kernel_rfl) (by kernel_rfl) (by kernel_rfl)) ?_
  intro W base args ds gs before hval0 hW hcnd _
  have hval : ∀ (j : Nat) t v, Try.f7.params[j]? = some t → args[j]? = some v → Value.okWide Try.prog W .any base t v := hval0
  have hW' := hW
  obtain ⟨p, q, hA0, hV, rfl, hfz, hnd⟩ := hW
  have hA : DataW.TrodAll enc Try.prog W 0 (fun _ => true) true Try.f7.params.toList args.toList ds p := hA0
  rw [Try.params7] at hA hval
  obtain ⟨v0, vs0, d0, ds0, p0, q0, hargs, rfl, rfl, h0, r0⟩ := trodAll_cons hA
  obtain ⟨rfl, rfl, rfl⟩ := trodAll_nil r0
  obtain rfl : args = #[v0] := by cases args; simp_all
  obtain ⟨rfl, rfl⟩ := trodVars_none hV
  obtain ⟨cs0, x0, hv0, hr0⟩ := open_arg (n := 5) (T := .int .u8) (by kernel_rfl) (hval 0 5 v0 rfl rfl) h0
  simp only [Ty.isStruct, Bool.false_eq_true, if_false] at hv0
  obtain ⟨cl, rfl, -, hc1, hc2⟩ := rd_int.1 hr0
  simp only [List.headD_cons] at hv0
  subst hv0
  clear hA0 hval0
  have hc1 : 0 ≤ cl := hc1
  have hc2 : cl ≤ 255 := hc2
  obtain ⟨n, rfl⟩ : ∃ n : Nat, cl = n := ⟨cl.toNat, by omega⟩
  refine (full_walk n (by omega) W).mono fun e W' ⟨he, hb⟩ => ?_
  subst he
  exact ⟨_, rfl, law_post Try.laidOut11 (by kernel_rfl) rfl Try.underlying4 hW' rfl rfl rfl rfl hb⟩

theorem orderFull_holds : Rows.OrderFullSaid :=
  OpenClaim.holds_of_wide 7 Try.f7 rfl rfl rfl rfl rfl rfl rfl ⟨rfl, rfl, rfl, rfl, rfl⟩ rfl rfl rfl rfl rfl (by kernel_rfl) Try.func7 (by kernel_rfl)
    (of_decide_eq_true (by kernel_rfl)) (by unfold Func.isWrapper; first | (rw [if_pos (by decide +kernel)]; kernel_rfl) | (rw [if_neg (by decide +kernel)]; exact ⟨rfl, rfl⟩))
    (fun os started H enc _ => full_lifted os started H enc)
end Go.Proofs.Ytcgcappfhjploaa
