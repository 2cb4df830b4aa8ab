/-
  The law HandNone: a hand that nobody made, or over nothing, brings nothing.
  Conditions: none.
-/
import Derived.Test.YthdgochecdobnaaPkHand
import Derived.Test.YthdgochecdobnaaRow
import Derived.Test.YthdgochecdobnaaReadApi
namespace Go.Proofs.Ythdgochecdobnaa
open Go.RowKit Esch Go.ChangeShapes Go.WideShapes Go.ChangeAt

theorem askLoadH (w : World) (T : TypeId) (x0 x1 x2 x3 x4 x5 x6 x7 x8 : Value) : ∃ W, W = w.alloc (.cells #[x0, x1, x2, x3, x4, x5, x6, x7, x8] T) ∧ Below w.heap.size w W ∧ W.heap.size = w.heap.size + 1 ∧ (W.cell? ⟨w.heap.size, 0, none⟩ = some x0 ∧ W.cell? ⟨w.heap.size, 1, none⟩ = some x1 ∧ W.cell? ⟨w.heap.size, 2, none⟩ = some x2 ∧ W.cell? ⟨w.heap.size, 3, none⟩ = some x3 ∧ W.cell? ⟨w.heap.size, 4, none⟩ = some x4 ∧ W.cell? ⟨w.heap.size, 5, none⟩ = some x5 ∧ W.cell? ⟨w.heap.size, 6, none⟩ = some x6 ∧ W.cell? ⟨w.heap.size, 7, none⟩ = some x7 ∧ W.cell? ⟨w.heap.size, 8, none⟩ = some x8) :=
  ⟨_, rfl, by (repeat (first | with_reducible exact (Below.refl _ _) | with_reducible refine Below.drew ?_ | with_reducible refine Esch.below_drewN ?_ _ | with_reducible refine Below.setCell ?_ (by first | omega | (simp; done) | (simp; omega)) _ | with_reducible refine Below.alloc ?_ (by first | omega | (simp; done) | (simp; omega)) _)), by simp, by go_simp, by go_simp, by go_simp, by go_simp, by go_simp, by go_simp, by go_simp, by go_simp, by go_simp⟩
theorem handHeld_nil (w : World) : Calls Try.prog 9 #[.pointer none] w fun e w' => e = .returned (.slice none 0 0) ∧ w' = w := by
  have hno := handNone_nil w
  go_enter Try.func9, Try.ntmps9
  go_wp2_with fail
  refine hno.mono ?_
  rintro e w1 ⟨rfl, rfl⟩
  go_wp2_with fail
  go_ret
  exact ⟨rfl, rfl⟩
set_option maxRecDepth 100000 in
set_option maxHeartbeats 2000000 in
theorem handNone_walk (S : Nat → Prop) (q : QS) (hd : q.data.size ≤ 9223372036854775807) (ca : Option Addr) (cc : Nat) (n : Int) (w : World) (h : ListsAt S w ca q.p.chains) :
    Calls Try.prog 5 #[qV q ca cc, .int .i64 n] w fun r w' => r = .returned (.bool true) ∧ Below w.heap.size w w' := by
  obtain ⟨W0, hW0, hB0, hz0, a0, a1, a2, a3, a4, a5, a6, a7, a8⟩ := askLoadH w 36 (.int .i64 q.kind) (.int .i64 q.unit) (.int .i64 q.epoch) (.int .i64 q.page) (.int .i64 q.size) (.int .i64 q.n) (.string q.data) (.int .i64 q.p.epoch) (.slice ca q.p.chains.length cc)
  have HW0 := Lib.hid hW0
  have hla := largeAsk_any S q.kind q.unit q.epoch q.page q.size q.n q.data hd q.p.epoch ca cc q.p.chains W0 (h.mod (Mod.of_below (F := none') hB0) (fun _ _ _ => id))
  clear hW0 h
  simp only [qV]
  go_enter Try.func5, Try.ntmps5
  go_wp2_with fail
  rw [← HW0.out]
  refine hla.mono ?_
  clear hla
  rintro r w1 ⟨rfl, hB1⟩
  generalize (decide (6000 < q.data.size) || largeProj q.p.chains) = lg
  have hz1 := hB1.size
  have hBw1 := hB0.trans (hB1.mono (by omega))
  replace a0 := below_at hB1 a0 (by omega)
  replace a1 := below_at hB1 a1 (by omega)
  replace a2 := below_at hB1 a2 (by omega)
  replace a3 := below_at hB1 a3 (by omega)
  replace a4 := below_at hB1 a4 (by omega)
  replace a5 := below_at hB1 a5 (by omega)
  replace a6 := below_at hB1 a6 (by omega)
  replace a7 := below_at hB1 a7 (by omega)
  replace a8 := below_at hB1 a8 (by omega)
  cases lg
  · go_wp2_with fail
    refine (handNew_nil w1).mono ?_
    rintro r w2 ⟨rfl, c0, hz2, hB2⟩
    have hBw2 := hBw1.trans (hB2.mono hBw1.size)
    replace a0 := below_at hB2 a0 (by omega)
    replace a1 := below_at hB2 a1 (by omega)
    replace a2 := below_at hB2 a2 (by omega)
    replace a3 := below_at hB2 a3 (by omega)
    replace a4 := below_at hB2 a4 (by omega)
    replace a5 := below_at hB2 a5 (by omega)
    replace a6 := below_at hB2 a6 (by omega)
    replace a7 := below_at hB2 a7 (by omega)
    replace a8 := below_at hB2 a8 (by omega)
    have hl2 : w1.heap.size < w2.heap.size := by omega
    have hc1 := handAsk_none (w := w2) (.pointer none) q ca cc n (fun W _ => handNone_nil W)
    simp only [qV, an0, p0] at hc1
    clear hB2
    go_wp2_with fail
    refine hc1.mono ?_
    clear hc1
    rintro r w3 ⟨rfl, hB3⟩
    have hz3 := hB3.size
    simp only [aV]
    replace a0 := below_at hB3 a0 (by omega)
    replace a1 := below_at hB3 a1 (by omega)
    replace a2 := below_at hB3 a2 (by omega)
    replace a3 := below_at hB3 a3 (by omega)
    replace a4 := below_at hB3 a4 (by omega)
    replace a5 := below_at hB3 a5 (by omega)
    replace a6 := below_at hB3 a6 (by omega)
    replace a7 := below_at hB3 a7 (by omega)
    replace a8 := below_at hB3 a8 (by omega)
    replace c0 := below_at hB3 c0 hl2
    have hBw3 := hBw2.trans (hB3.mono hBw2.size)
    have hl3 : w.heap.size < w3.heap.size := by omega
    clear hB3
    go_wp2_with fail
    obtain ⟨W3, hW3, hBW3, hzW3, x0, -⟩ := an_box w3 (.int .i64 0) (.int .i64 0) (.string ⟨#[]⟩) (.int .i64 0) (.slice none 0 0) (.int .i64 0) (.int .i64 0) (.int .i64 0)
    rw [← hW3]
    have hc2 := handAsk_none (w := W3) (.pointer (some ⟨w1.heap.size, 0, none⟩)) q ca cc n (fun W hB => handNone_yes (below_at hB (below_at hBW3 c0 (by omega)) (by omega)))
    simp only [qV, an0, p0] at hc2
    refine hc2.mono ?_
    clear hc2
    rintro r w4 ⟨rfl, hB4⟩
    have hz4 := hB4.size
    replace c0 := below_at hB4 (below_at hBW3 c0 (by omega)) (by omega)
    replace x0 := below_at hB4 x0 (by omega)
    have hBw4 := hBw3.trans ((hBW3.trans (hB4.mono (by omega))).mono hBw3.size)
    simp only [aV]
    have hl4 : w3.heap.size < w4.heap.size := by omega
    clear hB4 hBW3 hW3 a0 a1 a2 a3 a4 a5 a6 a7 a8
    go_wp2_with fail
    obtain ⟨W4, hW4, hBW4, hzW4, y0, -⟩ := an_box w4 (.int .i64 0) (.int .i64 0) (.string ⟨#[]⟩) (.int .i64 0) (.slice none 0 0) (.int .i64 0) (.int .i64 0) (.int .i64 0)
    rw [← hW4]
    have c04 := below_at hBW4 c0 (by omega)
    have hBw4 := hBw4.trans (hBW4.mono hBw4.size)
    clear hW4 hBW4
    have hd1 := handDo_false (w := W4) (.pointer none) n (handTake_none _ n (fun W _ => handNone_nil W))
    refine hd1.mono ?_
    clear hd1
    rintro r w5 ⟨rfl, hB5⟩
    have hz5 := hB5.size
    replace c04 := below_at hB5 c04 (by omega)
    have hBw5 := hBw4.trans (hB5.mono hBw4.size)
    clear hB5
    have hd2 := handDo_false (w := w5) (.pointer (some ⟨w1.heap.size, 0, none⟩)) n (handTake_none _ n (fun W hB => handNone_yes (below_at hB c04 (by omega))))
    go_wp2_with fail
    refine hd2.mono ?_
    clear hd2
    rintro r w6 ⟨rfl, hB6⟩
    have hz6 := hB6.size
    have hBw6 := hBw5.trans (hB6.mono hBw5.size)
    clear hB6
    have hd3 := handDrop_false (w := w6) (.pointer none) n (handTake_none _ n (fun W _ => handNone_nil W))
    go_wp2_with fail
    refine hd3.mono ?_
    clear hd3
    rintro r w7 ⟨rfl, hB7⟩
    have hBw7 := hBw6.trans (hB7.mono hBw6.size)
    clear hB7
    go_wp2_with fail
    refine (handHeld_nil _).mono ?_
    rintro r w8 ⟨rfl, rfl⟩
    go_wp2_with fail
    refine (handNodes_nil _).mono ?_
    rintro r w9 ⟨rfl, rfl⟩
    go_wp2_with fail
    refine (wakes14_any _).mono ?_
    rintro r w10 ⟨rfl, hB10⟩
    go_wp2_with fail
    go_ret
    exact ⟨rfl, hBw7.trans (hB10.mono hBw7.size)⟩
  · go_wp2_with fail
    refine (wakes14_any _).mono ?_
    rintro r w6 ⟨rfl, hB6⟩
    go_wp2_with fail
    go_ret
    exact ⟨rfl, hBw1.trans (hB6.mono hBw1.size)⟩

set_option maxRecDepth 100000 in
set_option maxHeartbeats 2000000 in
theorem handNone_lifted (os : Os) (started : os.Started) (H : Type) (enc : TypeId × Value → H) :
    ReturnsInHanded {} Try.checked os 5 .any (Rows.handNoneSpec.pre6 enc Try.prog Try.f5 Rows.handNoneRow.domain false) (Rows.handNoneSpec.post enc Try.prog Try.f5 false true false false) := by
  refine returnsInHanded_of_change (C := Try.checked) Try.ownP started (by kernel_rfl) Try.func5
    (ChangeSpec.witness6 (enc := enc) (C := Try.checked) false ⟨#[], #[.agg #[.int .i64 0, .int .i64 0, .int .i64 0, .int .i64 0, .int .i64 0, .int .i64 0, .string ⟨#[]⟩, .int .i64 0, .slice none 0 0], .int .i64 0], []⟩ 8 (by kernel_rfl) (by kernel_rfl) (by kernel_rfl) (by kernel_rfl)) ?_
  intro W base args ds gs before hval0 hW hcnd _
  have hval : ∀ (j : Nat) t v, Try.f5.params[j]? = some t → args[j]? = some v → Value.okWide Try.prog W .any base t v := hval0
  have hW' := hW
  obtain ⟨p, q, hA0, hV, rfl, hfz, hnd⟩ := hW
  have hA : DataW.TrodAll enc Try.prog W 0 (fun _ => true) true Try.f5.params.toList args.toList ds p := hA0
  rw [Try.params5] at hA hval
  obtain ⟨v0, vs0, d0, ds0, p0, q0, hargs, rfl, rfl, h0, r0⟩ := trodAll_cons hA
  obtain ⟨v1, vs1, d1, ds1, p1, q1, rfl, rfl, rfl, h1, r1⟩ := trodAll_cons r0
  obtain ⟨rfl, rfl, rfl⟩ := trodAll_nil r1
  obtain rfl : args = #[v0, v1] := by cases args; simp_all
  obtain ⟨rfl, rfl⟩ := trodVars_none hV
  obtain ⟨cs0, x0, hv0, hr0⟩ := open_arg (n := 9) (T := tyAsk) (by kernel_rfl) (hval 0 36 v0 rfl rfl) h0
  obtain ⟨cs1, x1, hv1, hr1⟩ := open_arg (n := 9) (T := .int .i64) (by kernel_rfl) (hval 1 3 v1 rfl rfl) h1
  simp only [tyAsk, Ty.isStruct, if_true] at hv0
  obtain ⟨q, hq1, hq2, hq3⟩ := rd_ask hr0
  subst hq1
  subst hv0
  obtain ⟨n, rfl, rfl, -, -⟩ := rd_int.1 hr1
  simp only [Ty.isStruct, Bool.false_eq_true, if_false] at hv1
  subst hv1
  clear hA0 hval0
  refine (handNone_walk _ ⟨q.kind, q.unit, q.epoch, q.page, q.size, q.n, q.data, ⟨q.pe, q.ls⟩⟩ hq2 q.ca q.cc n W hq3).mono fun e W' ⟨he, hb⟩ => ?_
  subst he
  exact ⟨_, rfl, law_post Try.laidOutP (by kernel_rfl) rfl Try.underlying4 hW' rfl rfl rfl rfl hb⟩

theorem handNone_holds : Rows.HandNoneSaid :=
  OpenClaim.holds_of_wide 5 Try.f5 rfl rfl rfl rfl rfl rfl rfl ⟨rfl, rfl, rfl, rfl, rfl⟩ rfl rfl rfl rfl rfl (by kernel_rfl) Try.func5 (by kernel_rfl)
    (of_decide_eq_true (by kernel_rfl)) (by unfold Func.isWrapper; first | (rw [if_pos (by decide +kernel)]; kernel_rfl) | (rw [if_neg (by decide +kernel)]; exact ⟨rfl, rfl⟩))
    (fun os started H enc _ => handNone_lifted os started H enc)
end Go.Proofs.Ythdgochecdobnaa
