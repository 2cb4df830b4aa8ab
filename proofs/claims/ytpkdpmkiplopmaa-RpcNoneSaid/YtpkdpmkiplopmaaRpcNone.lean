/-
  The law RpcNone: nodes that nobody made answer nothing.
  Conditions: none.
-/
import Derived.Test.YtpkdpmkiplopmaaWakes13
import Derived.Test.YtpkdpmkiplopmaaRow
import Derived.Test.YtpkdpmkiplopmaaReadApi
namespace Go.Proofs.Ytpkdpmkiplopmaa
open Go.RowKit Esch Go.ChangeShapes Go.WideShapes Go.ChangeAt

theorem askLoadN (w : World) (T : TypeId) (x0 x1 x2 x3 x4 x5 x6 x7 x8 : Value) : ∃ W, W = w.alloc (.cells #[x0, x1, x2, x3, x4, x5, x6, x7, x8] T) ∧ Below w.heap.size w W ∧ W.heap.size = w.heap.size + 1 ∧ (W.cell? ⟨w.heap.size, 0, none⟩ = some x0 ∧ W.cell? ⟨w.heap.size, 1, none⟩ = some x1 ∧ W.cell? ⟨w.heap.size, 2, none⟩ = some x2 ∧ W.cell? ⟨w.heap.size, 3, none⟩ = some x3 ∧ W.cell? ⟨w.heap.size, 4, none⟩ = some x4 ∧ W.cell? ⟨w.heap.size, 5, none⟩ = some x5 ∧ W.cell? ⟨w.heap.size, 6, none⟩ = some x6 ∧ W.cell? ⟨w.heap.size, 7, none⟩ = some x7 ∧ W.cell? ⟨w.heap.size, 8, none⟩ = some x8) :=
  ⟨_, rfl, by (repeat (first | with_reducible exact (Below.refl _ _) | with_reducible refine Below.drew ?_ | with_reducible refine Esch.below_drewN ?_ _ | with_reducible refine Below.setCell ?_ (by first | omega | (simp; done) | (simp; omega)) _ | with_reducible refine Below.alloc ?_ (by first | omega | (simp; done) | (simp; omega)) _)), by simp, by go_simp, by go_simp, by go_simp, by go_simp, by go_simp, by go_simp, by go_simp, by go_simp, by go_simp⟩
set_option maxRecDepth 100000 in
set_option maxHeartbeats 2000000 in
theorem rpcNone_walk (S : Nat → Prop) (k u e p z n : Int) (d : ByteArray) (hd : d.size ≤ 9223372036854775807) (pe : Int) (ca : Option Addr) (cc : Nat) (ls : List (List Int)) (w : World) (h : ListsAt S w ca ls) :
    Calls Try.prog 8 #[.agg #[.int .i64 k, .int .i64 u, .int .i64 e, .int .i64 p, .int .i64 z, .int .i64 n, .string d, .int .i64 pe, .slice ca ls.length cc]] w fun r w' => r = .returned (.bool true) ∧ Below w.heap.size w w' := by
  obtain ⟨W0, hW0, hB0, hz0, a0, a1, a2, a3, a4, a5, a6, a7, a8⟩ := askLoadN w 44 (.int .i64 k) (.int .i64 u) (.int .i64 e) (.int .i64 p) (.int .i64 z) (.int .i64 n) (.string d) (.int .i64 pe) (.slice ca ls.length cc)
  have HW0 := Lib.hid hW0
  have hla := largeAsk_any S k u e p z n d hd pe ca cc ls W0 (h.mod (Mod.of_below (F := none') hB0) (fun _ _ _ => id))
  clear hW0 h
  go_enter Try.func8, Try.ntmps8
  go_wp2_with fail
  rw [← HW0.out]
  refine hla.mono ?_
  clear hla
  rintro r w1 ⟨rfl, hB1⟩
  generalize (decide (6000 < d.size) || largeProj ls) = lg
  have hz1 := hB1.size
  have hBw1 := hB0.trans (hB1.mono (by omega))
  replace a0 := below_at hB1 a0 (by omega)
  replace a1 := below_at hB1 a1 (by omega)
  replace a2 := below_at hB1 a2 (by omega)
  replace a3 := below_at hB1 a3 (by omega)
  replace a4 := below_at hB1 a4 (by omega)
  replace a5 := below_at hB1 a5 (by omega)
  replace a6 := below_at hB1 a6 (by omega)
  replace a7 := below_at hB1 a7 (by omega)
  replace a8 := below_at hB1 a8 (by omega)
  cases lg
  · go_wp2_with fail
    refine (rpcDo_nil u e p z n pe d ca ls.length cc _ k).mono ?_
    rintro r w2 ⟨rfl, hB2⟩
    have hBw2 := hBw1.trans (hB2.mono (by omega))
    simp only [ansU]
    go_wp2_with fail
    refine (answer_eq (fun _ => False) 1 0 ⟨#[]⟩ 0 none none 0 0 [] 0 0 0 _ (ListsAt.nil _ _ _) (ListsAt.nil _ _ _)).mono ?_
    rintro r w3 ⟨rfl, hB3⟩
    have hBw3 := hBw2.trans (hB3.mono hBw2.size)
    go_wp2_with fail
    refine (rpcUnit_nil _ 0).mono ?_
    rintro r w4 ⟨rfl, hM4⟩
    have hBw4 := hBw3.trans (hM4.below.mono hBw3.size)
    go_wp2_with fail
    refine (rpcOrder_nil _).mono ?_
    rintro r w5 ⟨rfl, rfl⟩
    go_wp2_with fail
    refine (rpcLayout_nil _).mono ?_
    rintro r w6 ⟨rfl, rfl⟩
    go_wp2_with fail
    refine (wakes13_any _).mono ?_
    rintro r w7 ⟨rfl, hB7⟩
    go_wp2_with fail
    go_ret
    exact ⟨rfl, hBw4.trans (hB7.mono hBw4.size)⟩
  · go_wp2_with fail
    refine (wakes13_any _).mono ?_
    rintro r w6 ⟨rfl, hB6⟩
    go_wp2_with fail
    go_ret
    exact ⟨rfl, hBw1.trans (hB6.mono hBw1.size)⟩

set_option maxRecDepth 100000 in
set_option maxHeartbeats 2000000 in
theorem rpcNone_lifted (os : Os) (started : os.Started) (H : Type) (enc : TypeId × Value → H) :
    ReturnsInHanded {} Try.checked os 8 .any (Rows.rpcNoneSpec.pre6 enc Try.prog Try.f8 Rows.rpcNoneRow.domain false) (Rows.rpcNoneSpec.post enc Try.prog Try.f8 false true false false) := by
  refine returnsInHanded_of_change (C := Try.checked) Try.ownP started (by kernel_rfl) Try.func8
    (ChangeSpec.witness6 (enc := enc) (C := Try.checked) false ⟨#[], #[.agg #[.int .i64 0, .int .i64 0, .int .i64 0, .int .i64 0, .int .i64 0, .int .i64 0, .string ⟨#[]⟩, .int .i64 0, .slice none 0 0]], []⟩ 8 (by kernel_rfl) (by kernel_rfl) (by kernel_rfl) (by kernel_rfl)) ?_
  intro W base args ds gs before hval0 hW hcnd _
  have hval : ∀ (j : Nat) t v, Try.f8.params[j]? = some t → args[j]? = some v → Value.okWide Try.prog W .any base t v := hval0
  have hW' := hW
  obtain ⟨p, q, hA0, hV, rfl, hfz, hnd⟩ := hW
  have hA : DataW.TrodAll enc Try.prog W 0 (fun _ => true) true Try.f8.params.toList args.toList ds p := hA0
  rw [Try.params8] at hA hval
  obtain ⟨v0, vs0, d0, ds0, p0, q0, hargs, rfl, rfl, h0, r0⟩ := trodAll_cons hA
  obtain ⟨rfl, rfl, rfl⟩ := trodAll_nil r0
  obtain rfl : args = #[v0] := by cases args; simp_all
  obtain ⟨rfl, rfl⟩ := trodVars_none hV
  obtain ⟨cs0, x0, hv0, hr0⟩ := open_arg (n := 9) (T := tyAsk) (by kernel_rfl) (hval 0 44 v0 rfl rfl) h0
  simp only [tyAsk, Ty.isStruct, if_true] at hv0
  obtain ⟨q, hq1, hq2, hq3⟩ := rd_ask hr0
  subst hq1
  subst hv0
  clear hA0 hval0
  refine (rpcNone_walk _ q.kind q.unit q.epoch q.page q.size q.n q.data hq2 q.pe q.ca q.cc q.ls W hq3).mono fun e W' ⟨he, hb⟩ => ?_
  subst he
  exact ⟨_, rfl, law_post Try.laidOutP (by kernel_rfl) rfl Try.underlying4 hW' rfl rfl rfl rfl hb⟩

theorem rpcNone_holds : Rows.RpcNoneSaid :=
  OpenClaim.holds_of_wide 8 Try.f8 rfl rfl rfl rfl rfl rfl rfl ⟨rfl, rfl, rfl, rfl, rfl⟩ rfl rfl rfl rfl rfl (by kernel_rfl) Try.func8 (by kernel_rfl)
    (of_decide_eq_true (by kernel_rfl)) (by unfold Func.isWrapper; first | (rw [if_pos (by decide +kernel)]; kernel_rfl) | (rw [if_neg (by decide +kernel)]; exact ⟨rfl, rfl⟩))
    (fun os started H enc _ => rpcNone_lifted os started H enc)
end Go.Proofs.Ytpkdpmkiplopmaa
