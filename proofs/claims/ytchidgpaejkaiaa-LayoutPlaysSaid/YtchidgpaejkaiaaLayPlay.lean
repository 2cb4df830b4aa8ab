import Derived.Test.YtchidgpaejkaiaaRLayout
import Derived.Test.YtchidgpaejkaiaaWakes12
import Derived.Test.YtchidgpaejkaiaaAsks
/- UNDER WAY: the law LayoutPlays -/
namespace Go.Proofs.Ytchidgpaejkaiaa
open Go.RowKit Esch Go.ChangeShapes Go.WideShapes Go.ChangeAt

theorem small_of {ls : List (List Int)} (h : largeProj ls = false) : Small ls := by
  unfold largeProj at h
  rw [Bool.or_eq_false_iff, decide_eq_false_iff_not, List.any_eq_false] at h
  refine ⟨by omega, fun i hi => ?_⟩
  have := h.2 (ls.getD i []) (by rw [List.getD_eq_getElem?_getD, List.getElem?_eq_getElem hi, Option.getD_some]; exact List.getElem_mem hi)
  simp only [decide_eq_true_eq] at this
  omega
theorem askBox1 (w : World) (T : TypeId) (x0 x1 x2 x3 x4 x5 x6 x7 x8 : Value) : ∃ W, W = w.alloc (.cells #[x0, x1, x2, x3, x4, x5, x6, x7, x8] T) ∧ Below w.heap.size w W ∧ W.heap.size = w.heap.size + 1 ∧ (W.cell? ⟨w.heap.size, 0, none⟩ = some x0 ∧ W.cell? ⟨w.heap.size, 1, none⟩ = some x1 ∧ W.cell? ⟨w.heap.size, 2, none⟩ = some x2 ∧ W.cell? ⟨w.heap.size, 3, none⟩ = some x3 ∧ W.cell? ⟨w.heap.size, 4, none⟩ = some x4 ∧ W.cell? ⟨w.heap.size, 5, none⟩ = some x5 ∧ W.cell? ⟨w.heap.size, 6, none⟩ = some x6 ∧ W.cell? ⟨w.heap.size, 7, none⟩ = some x7 ∧ W.cell? ⟨w.heap.size, 8, none⟩ = some x8) :=
  ⟨_, rfl, by (repeat (first | with_reducible exact (Below.refl _ _) | with_reducible refine Below.drew ?_ | with_reducible refine Esch.below_drewN ?_ _ | with_reducible refine Below.setCell ?_ (by first | omega | (simp; done) | (simp; omega)) _ | with_reducible refine Below.alloc ?_ (by first | omega | (simp; done) | (simp; omega)) _)), by simp, by go_simp, by go_simp, by go_simp, by go_simp, by go_simp, by go_simp, by go_simp, by go_simp, by go_simp⟩
theorem stores78 (w : World) (b : Nat) (x y : Value) {u v : Value} (h0 : w.cell? ⟨b, 7, none⟩ = some u) (h1 : w.cell? ⟨b, 8, none⟩ = some v) : ∃ W, W = (w.setCell ⟨b, 7, none⟩ x).setCell ⟨b, 8, none⟩ y ∧ Mod (· = b) w W ∧ W.heap.size = w.heap.size ∧
    W.cell? ⟨b, 7, none⟩ = some x ∧ W.cell? ⟨b, 8, none⟩ = some y ∧ (W.cell? ⟨b, 0, none⟩ = w.cell? ⟨b, 0, none⟩ ∧ W.cell? ⟨b, 1, none⟩ = w.cell? ⟨b, 1, none⟩ ∧ W.cell? ⟨b, 2, none⟩ = w.cell? ⟨b, 2, none⟩ ∧ W.cell? ⟨b, 3, none⟩ = w.cell? ⟨b, 3, none⟩ ∧ W.cell? ⟨b, 4, none⟩ = w.cell? ⟨b, 4, none⟩ ∧ W.cell? ⟨b, 5, none⟩ = w.cell? ⟨b, 5, none⟩ ∧ W.cell? ⟨b, 6, none⟩ = w.cell? ⟨b, 6, none⟩) :=
  ⟨_, rfl, ((Mod.refl (· = b) w).setCellAt (fun _ => rfl) _).setCellAt (fun _ => rfl) _, by simp, by go_simp, by go_simp, by go_simp, by go_simp, by go_simp, by go_simp, by go_simp, by go_simp, by go_simp⟩
/-- two readings of one projection are alike -/
theorem projTrue {S S' : Nat → Prop} (w : World) (e : Int) (a a' : Option Addr) (c c' : Nat) (l : List (List Int)) (h : ListsAt S w a l) (h' : ListsAt S' w a' l) :
    Calls Try.prog 20 #[.agg #[.int .i64 e, .slice a l.length c], .agg #[.int .i64 e, .slice a' l.length c']] w (BoolBelow w true) := by
  have := projection_any (fun _ => True) w e e a a' c c' l l (h.sub (fun _ _ _ => trivial)) (h'.sub (fun _ _ _ => trivial))
  rwa [decide_eq_true ⟨rfl, rfl⟩] at this
/-- two readings of one list are alike -/
theorem intsTrue {S S' : Nat → Prop} (w : World) (a a' : Option Addr) (c c' : Nat) (l : List Int) (h : IntsAt S w a l) (h' : IntsAt S' w a' l) :
    Calls Try.prog 22 #[.slice a l.length c, .slice a' l.length c'] w (BoolBelow w true) := by
  have := ints_any (fun _ => True) w a a' l l c c' (h.sub (fun _ _ _ => trivial)) (h'.sub (fun _ _ _ => trivial))
  rw [decide_eq_true rfl] at this
  exact this.mono fun e w' hd => ⟨hd.1, (hd.mod (F := none')).below⟩
/-- both layouts, apart -/
def PlayRel (w : World) (b mb rb n g : Nat) (s8 : Value) (wr : World) : Prop :=
  ∃ (k : Nat) (s : LayS) (S1 S2 : Nat → Prop) (T : Nat), g = n - k ∧ k ≤ n ∧ s8 = .int .i64 k ∧ s.ok ∧ s.used.length ≤ 16 + 16 * k ∧ LayAt S1 wr b mb T s ∧ T ≤ 16 + 16 * k ∧ RLayAt S2 wr rb s ∧
    (∀ j, S1 j → w.heap.size ≤ j ∧ j < wr.heap.size) ∧ (∀ j, S2 j → w.heap.size ≤ j ∧ j < wr.heap.size) ∧ (∀ j, S1 j → ¬ S2 j) ∧ Below w.heap.size w wr

theorem wpAnyH_mono {P : Program} {ops : Array Oper} {Q : Exit → Act → World → Prop} {md : Region.Mode} {S S2 : World → Prop} (hS : ∀ w, S2 w → S w) : ∀ {fuel : Nat} {listed : Array Bool} {a : Act} {w : World}, wpAnyH P md ops Q S2 fuel listed a w → wpAnyH P md ops Q S fuel listed a w
  | 0, _, _, _, h => h
  | _ + 1, _, _, _, h => ⟨h.1, fun i hi => wpOp_mono (fun _ _ h' => ⟨hS _ h'.1, wpAnyH_mono hS h'.2⟩) (h.2 i hi)⟩
set_option linter.unusedSimpArgs false in
set_option maxRecDepth 100000 in
set_option maxHeartbeats 16000000 in
theorem layPlays_walk (pe : Int) (pa : Option Addr) (pc : Nat) (ls : List (List Int)) (oa : Option Addr) (n cap : Nat) (qs : Nat → AskC) (hn : n ≤ 9223372036854775807) (w : World) (h : ListsAt (Old w) w pa ls) (hoa : AsksAt w oa n qs) :
    Calls Try.prog 3 #[.agg #[.int .i64 pe, .slice pa ls.length pc], .slice oa n cap] w fun r w' => r = .returned (.bool true) ∧ Below w.heap.size w w' := by
  obtain ⟨W0, hW0, hB0, hz0, c0, c1⟩ := oneBox w 24 (.int .i64 pe) (.slice pa ls.length pc)
  have HW0 := Lib.hid hW0
  have H := Lib.hid h
  have Hoa := Lib.hid hoa
  have hlp := largeProj_any _ W0 pe pa pc ls (old_below h hB0)
  clear hW0 h hoa
  go_enter Try.func3, Try.ntmps3
  go_wp2_with fail
  rw [← HW0.out]
  refine hlp.mono ?_
  clear hlp
  rintro r w1 ⟨rfl, hB1⟩
  have hlsm : largeProj ls = false → Small ls := small_of
  have Hsm := Lib.hid hlsm
  clear hlsm
  generalize largeProj ls = lg at Hsm ⊢
  have hz1 := hB1.size
  have hBw1 := hB0.trans (hB1.mono (by omega))
  replace c0 := below_at hB1 c0 (by omega)
  replace c1 := below_at hB1 c1 (by omega)
  cases lg
  · have hsm := Hsm.out rfl
    have HS := Lib.hid hsm
    clear hsm Hsm
    go_wp2_with fail
    refine (fair12_any w oa n cap qs hn Hoa.out w1 hBw1).mono ?_
    rintro r w2 ⟨f, rfl, hf, hB2⟩
    have Hf := Lib.hid hf
    clear hf
    have hz2 := hB2.size
    have hBw2 := hBw1.trans (hB2.mono (by omega))
    replace c0 := below_at hB2 c0 (by omega)
    replace c1 := below_at hB2 c1 (by omega)
    cases f
    · go_wp2_with fail
      refine (wakes12_any _).mono ?_
      rintro r w6 ⟨rfl, hB6⟩
      go_wp2_with fail
      go_ret
      exact ⟨rfl, hBw2.trans (hB6.mono hBw2.size)⟩
    · have hcp := copyK_any _ w2 pe pa pc ls HS.out (old_below H.out hBw2)
      go_wp2_with fail
      refine hcp.mono ?_
      clear hcp
      rintro r w3 ⟨xa, xc, rfl, hx3, hB3⟩
      have hz3 := hB3.size
      have hBw3 := hBw2.trans (hB3.mono (by omega))
      replace c0 := below_at hB3 c0 (by omega)
      replace c1 := below_at hB3 c1 (by omega)
      by_cases hgood : (Proj.mk pe ls).good
      · go_wp2_with fail
        refine (layNew_any _ w3 ⟨pe, ls⟩ xa xc hgood hx3).mono ?_
        rintro r w4 ⟨b, mb, rfl, hL4, hB4⟩
        have hz4 := hB4.size
        have hBw4 := hBw3.trans (hB4.mono (by omega))
        replace c0 := below_at hB4 c0 (by omega)
        replace c1 := below_at hB4 c1 (by omega)
        go_wp2_with fail
        refine (rlayNew_any _ w4 ⟨pe, ls⟩ pa pc hgood (old_below H.out hBw4)).mono ?_
        rintro r w5 ⟨rb, rfl, hR5, hB5⟩
        have hz5 := hB5.size
        have hBw5 := hBw4.trans (hB5.mono (by omega))
        obtain ⟨hn100, hfair⟩ := Hf.out trivial
        have Hfair := Lib.hid hfair
        have hL5 := (hL4.sub (S' := fun k => w3.heap.size ≤ k ∧ k < w4.heap.size) (fun k hk h => ⟨h, hk⟩)).below hB5
        have hR5' := hR5.sub (S' := fun k => w4.heap.size ≤ k ∧ k < w5.heap.size) (fun k hk h => ⟨h, hk⟩)
        have HL5 := Lib.hid hL5
        have HR5 := Lib.hid hR5'
        have hok := lay0_ok hgood
        have hu0 : (lay0 ⟨pe, ls⟩).used.length ≤ 16 := units_len hgood.2.2.2.2.2.1
        have Hu0 := Lib.hid hu0
        have Hok := Lib.hid hok
        clear hL4 hR5 hL5 hR5' hfair hok hx3 hB1 hB2 hB3 hB4 hB5 hu0 Hf
        go_wp2_with fail
        go_loopg [9] n (fun g s9 wr => PlayRel w b mb rb n g s9 wr)
        case atStart => exact ⟨0, _, _, _, 16, rfl, Nat.zero_le _, rfl, Hok.out, Hu0.out, HL5.out, by omega, HR5.out, fun j hj => ⟨by omega, Nat.lt_of_lt_of_le hj.2 hz5⟩, fun j hj => ⟨by omega, hj.2⟩, fun j h1 h2 => by omega, hBw5⟩
        case round =>
          clear HL5 HR5 Hok Hu0 c0 c1
          obtain ⟨k, s, S1, S2, T, rfl, hk, rfl, hok, hus, hL, hT, hR, hS1, hS2, hS12, hBr⟩ := hrel
          by_cases hlt : k < n
          · obtain ⟨bo, offo, rfl, hbo, hqd, hql, q0, q1, q2, q3, q4, q5, q6, q7, q8⟩ := Hoa.out.get hlt
            have hfk := Hfair.out k hlt
            obtain ⟨⟨qk, qu, qe, qp, qz, qn, qd, qpe, qca, qls, qcc⟩, hq⟩ : ∃ q, q = qs k := ⟨_, rfl⟩
            rw [← hq] at hqd hql q0 q1 q2 q3 q4 q5 q6 q7 q8 hfk
            clear hq
            simp only at hqd hql q0 q1 q2 q3 q4 q5 q6 q7 q8
            have hqs : Small qls := small_of (by unfold askLarge at hfk; rw [Bool.or_eq_false_iff] at hfk; exact hfk.2)
            have Hqs := Lib.hid hqs
            replace q0 := below_at hBr q0 hbo
            replace q1 := below_at hBr q1 hbo
            replace q2 := below_at hBr q2 hbo
            replace q3 := below_at hBr q3 hbo
            replace q4 := below_at hBr q4 hbo
            replace q5 := below_at hBr q5 hbo
            replace q6 := below_at hBr q6 hbo
            replace q7 := below_at hBr q7 hbo
            replace q8 := below_at hBr q8 hbo
            have hbor : bo < wr.heap.size := cell_lt q0
            have hzr := hBr.size
            have hbl := hL.lt
            have hml := hL.map.lt
            have hrl := hR.lt
            have hSb := hS1 b hL.sb
            have hSm := hS1 mb hL.sm
            have hSr := hS2 rb hR.sb
            obtain ⟨W1, hW1, hB1, hzW1, a0, a1, a2, a3, a4, a5, a6, a7, a8⟩ := askBox1 wr 38 (.int .i64 qk) (.int .i64 qu) (.int .i64 qe) (.int .i64 qp) (.int .i64 qz) (.int .i64 qn) (.string qd) (.int .i64 qpe) (.slice qca qls.length qcc)
            have HW1 := Lib.hid hW1
            have hcp := copyK_any _ W1 qpe qca qcc qls Hqs.out (old_below hql (hBr.trans (hB1.mono hzr)))
            clear hfk hqs hW1
            go_wp2_with fail
            rw [← HW1.out]
            obtain ⟨ab, hab⟩ : ∃ ab, ab = wr.heap.size := ⟨_, rfl⟩
            rw [← hab] at a0 a1 a2 a3 a4 a5 a6 a7 a8 ⊢
            refine hcp.mono ?_
            clear hcp
            rintro r w2 ⟨ya, yc, rfl, hy2, hB2⟩
            have hz2 := hB2.size
            have habW : ab < W1.heap.size := by omega
            replace a0 := below_at hB2 a0 habW
            replace a1 := below_at hB2 a1 habW
            replace a2 := below_at hB2 a2 habW
            replace a3 := below_at hB2 a3 habW
            replace a4 := below_at hB2 a4 habW
            replace a5 := below_at hB2 a5 habW
            replace a6 := below_at hB2 a6 habW
            replace a7 := below_at hB2 a7 habW
            replace a8 := below_at hB2 a8 habW
            have hf7 : w2.frozen? ⟨ab, 7, none⟩ = false := (hB2.frozen (p := ⟨ab, 7, none⟩) habW).trans (by rw [HW1.out, hab]; go_simp)
            have hf8 : w2.frozen? ⟨ab, 8, none⟩ = false := (hB2.frozen (p := ⟨ab, 8, none⟩) habW).trans (by rw [HW1.out, hab]; go_simp)
            have hab1 : wr.heap.size ≤ ab := by omega
            have hab2 : ab ≤ wr.heap.size := by omega
            clear hab
            obtain ⟨w3, hw3, hM3, hzw3, d7, d8, do0, do1, do2, do3, do4, do5, do6⟩ := stores78 w2 ab (.int .i64 qpe) (.slice ya qls.length yc) a7 a8
            have HW3 := Lib.hid hw3
            have hB12 := hB1.trans (hB2.mono (by omega))
            have hBw3 : Below wr.heap.size wr w3 := hB12.trans (hM3.below_at (by omega) (fun k hk e => by omega))
            have d0 := do0.trans a0
            have d1 := do1.trans a1
            have d2 := do2.trans a2
            have d3 := do3.trans a3
            have d4 := do4.trans a4
            have d5 := do5.trans a5
            have d6 := do6.trans a6
            replace q0 := below_at hBw3 q0 hbor
            replace q1 := below_at hBw3 q1 hbor
            replace q2 := below_at hBw3 q2 hbor
            replace q3 := below_at hBw3 q3 hbor
            replace q4 := below_at hBw3 q4 hbor
            replace q5 := below_at hBw3 q5 hbor
            replace q6 := below_at hBw3 q6 hbor
            replace q7 := below_at hBw3 q7 hbor
            replace q8 := below_at hBw3 q8 hbor
            clear hw3
            go_wp2_with fail
            rw [← HW3.out]
            have KEEP : ∀ W' : World, W'.heap[ab]? = w3.heap[ab]? → W'.heap[bo]? = w3.heap[bo]? → (W'.cell? ⟨ab, 0, none⟩ = w3.cell? ⟨ab, 0, none⟩ ∧ W'.cell? ⟨ab, 1, none⟩ = w3.cell? ⟨ab, 1, none⟩ ∧ W'.cell? ⟨ab, 2, none⟩ = w3.cell? ⟨ab, 2, none⟩ ∧ W'.cell? ⟨ab, 3, none⟩ = w3.cell? ⟨ab, 3, none⟩ ∧ W'.cell? ⟨ab, 4, none⟩ = w3.cell? ⟨ab, 4, none⟩ ∧ W'.cell? ⟨ab, 5, none⟩ = w3.cell? ⟨ab, 5, none⟩ ∧ W'.cell? ⟨ab, 6, none⟩ = w3.cell? ⟨ab, 6, none⟩ ∧ W'.cell? ⟨ab, 7, none⟩ = w3.cell? ⟨ab, 7, none⟩ ∧ W'.cell? ⟨ab, 8, none⟩ = w3.cell? ⟨ab, 8, none⟩) ∧ (W'.cell? ⟨bo, offo + k * 9, none⟩ = w3.cell? ⟨bo, offo + k * 9, none⟩ ∧ W'.cell? ⟨bo, offo + k * 9 + 1, none⟩ = w3.cell? ⟨bo, offo + k * 9 + 1, none⟩ ∧ W'.cell? ⟨bo, offo + k * 9 + 2, none⟩ = w3.cell? ⟨bo, offo + k * 9 + 2, none⟩ ∧ W'.cell? ⟨bo, offo + k * 9 + 3, none⟩ = w3.cell? ⟨bo, offo + k * 9 + 3, none⟩ ∧ W'.cell? ⟨bo, offo + k * 9 + 4, none⟩ = w3.cell? ⟨bo, offo + k * 9 + 4, none⟩ ∧ W'.cell? ⟨bo, offo + k * 9 + 5, none⟩ = w3.cell? ⟨bo, offo + k * 9 + 5, none⟩ ∧ W'.cell? ⟨bo, offo + k * 9 + 6, none⟩ = w3.cell? ⟨bo, offo + k * 9 + 6, none⟩ ∧ W'.cell? ⟨bo, offo + k * 9 + 7, none⟩ = w3.cell? ⟨bo, offo + k * 9 + 7, none⟩ ∧ W'.cell? ⟨bo, offo + k * 9 + 8, none⟩ = w3.cell? ⟨bo, offo + k * 9 + 8, none⟩) := by
              intro W' h1 h2
              refine ⟨⟨?_, ?_, ?_, ?_, ?_, ?_, ?_, ?_, ?_⟩, ⟨?_, ?_, ?_, ?_, ?_, ?_, ?_, ?_, ?_⟩⟩
              all_goals first | exact World.cell?_of_block (w := w3) h1 | exact World.cell?_of_block (w := w3) h2
            simp only [d0, d1, d2, d3, d4, d5, d6, d7, d8, q0, q1, q2, q3, q4, q5, q6, q7, q8] at KEEP
            have hzw := hBw3.size
            have hL3 := hL.below hBw3
            have hR3 := hR.below hBw3
            have hy3 := hy2.mod hM3 (fun k hk _ e => by have : W1.heap.size ≤ k := hk; omega)
            have hql3 := old_below hql (hBr.trans (hBw3.mono hzr))
            have hd := layDo_any qk qu qe qp qz qn qd ⟨qpe, qls⟩ ya yc S1 _ w3.drew b mb T s hok (by omega) (hL3.mod (F := none') ((Mod.refl none' _).drew) (fun _ _ _ => id)) (hy3.mod (F := none') ((Mod.refl none' _).drew) (fun _ _ _ => id)) (fun k hk _ => by have : W1.heap.size ≤ k := hk; omega)
            have hrd := fun (W : World) (h1 : RLayAt S2 W rb s) (h2 : ListsAt (Old w) W qca qls) => rDo_any qk qu qe qp qz qn qd ⟨qpe, qls⟩ qca qcc S2 (Old w) W rb s hok (by omega) h1 h2 (fun k hk _ => by have : k < w.heap.size := hk; omega)
            have hok2 := layDo_ok hok qk ⟨qpe, qls⟩ qp qz qn
            have hus2 := layDo_used s qk ⟨qpe, qls⟩ qp qz qn
            obtain ⟨r, hr⟩ : ∃ r, r = layDo s qk ⟨qpe, qls⟩ qp qz qn := ⟨_, rfl⟩
            simp only [← hr] at hd hrd hok2 hus2
            clear hr
            obtain ⟨ra, s2⟩ := r
            simp only at hok2 hus2
            have hbS2 : ∀ j, S2 j → j ≠ b ∧ j ≠ mb := fun j hj => ⟨fun e => hS12 b hL.sb (e ▸ hj), fun e => hS12 mb hL.sm (e ▸ hj)⟩
            have hrS1 : ∀ j, S1 j → j ≠ rb := fun j hj e => hS12 rb (e ▸ hj) hR.sb
            have HS1 := Lib.hid hS1
            have HS2 := Lib.hid hS2
            have HS12 := Lib.hid hS12
            have HbS2 := Lib.hid hbS2
            have HrS1 := Lib.hid hrS1
            have hK3 := KEEP w3.drew rfl rfl
            have HY3 := Lib.hid (hy3.sub (T := fun k => W1.heap.size ≤ k ∧ k < w3.heap.size) (fun k hk h => ⟨h, hk⟩))
            have HQL3 := Lib.hid hql3
            clear hS1 hS2 hS12 hbS2 hrS1 hL hR hy2 hql hB1 hB2 hB12 hM3 d0 q0 a0 d1 q1 a1 d2 q2 a2 d3 q3 a3 d4 q4 a4 d5 q5 a5 d6 q6 a6 d7 q7 a7 d8 q8 a8 hy3 hL3
            refine wp_region_held_drew (S := fun W' => (W'.cell? ⟨ab, 0, none⟩ = some (.int .i64 qk) ∧ W'.cell? ⟨ab, 1, none⟩ = some (.int .i64 qu) ∧ W'.cell? ⟨ab, 2, none⟩ = some (.int .i64 qe) ∧ W'.cell? ⟨ab, 3, none⟩ = some (.int .i64 qp) ∧ W'.cell? ⟨ab, 4, none⟩ = some (.int .i64 qz) ∧ W'.cell? ⟨ab, 5, none⟩ = some (.int .i64 qn) ∧ W'.cell? ⟨ab, 6, none⟩ = some (.string qd) ∧ W'.cell? ⟨ab, 7, none⟩ = some (.int .i64 qpe) ∧ W'.cell? ⟨ab, 8, none⟩ = some (.slice ya qls.length yc)) ∧ (W'.cell? ⟨bo, offo + k * 9, none⟩ = some (.int .i64 qk) ∧ W'.cell? ⟨bo, offo + k * 9 + 1, none⟩ = some (.int .i64 qu) ∧ W'.cell? ⟨bo, offo + k * 9 + 2, none⟩ = some (.int .i64 qe) ∧ W'.cell? ⟨bo, offo + k * 9 + 3, none⟩ = some (.int .i64 qp) ∧ W'.cell? ⟨bo, offo + k * 9 + 4, none⟩ = some (.int .i64 qz) ∧ W'.cell? ⟨bo, offo + k * 9 + 5, none⟩ = some (.int .i64 qn) ∧ W'.cell? ⟨bo, offo + k * 9 + 6, none⟩ = some (.string qd) ∧ W'.cell? ⟨bo, offo + k * 9 + 7, none⟩ = some (.int .i64 qpe) ∧ W'.cell? ⟨bo, offo + k * 9 + 8, none⟩ = some (.slice qca qls.length qcc))) (by kernel_rfl) hK3 (fun hHeld => ?_)
            refine wpAnyH_take (i := 0) (oi := ?_) (v := ?_) ?_ (by kernel_rfl) (by kernel_rfl) (by kernel_rfl) ?_ ?_ (by assumption) ?_
            rotate_left 2
            · simp only [List.getElem?_toArray, List.getElem?_cons_succ, List.getElem?_cons_zero]; rfl
            · exact fun _ _ _ h => h
            · refine Or.inl ⟨by rfl, ?_⟩
              intro w hSw
              try dsimp only at hSw
              go_simp
              try with_reducible rfl
            try simp only [Act.put, List.setIfInBounds_toArray, List.set_cons_zero, List.set_cons_succ]
            refine wpAnyH_take (i := 1) (oi := ?_) (v := ?_) ?_ (by kernel_rfl) (by kernel_rfl) (by kernel_rfl) ?_ ?_ (by assumption) ?_
            rotate_left 2
            · simp only [List.getElem?_toArray, List.getElem?_cons_succ, List.getElem?_cons_zero]; rfl
            · exact fun _ _ _ h => h
            · refine Or.inl ⟨by rfl, ?_⟩
              intro w hSw
              try dsimp only at hSw
              go_simp
              try with_reducible rfl
            try simp only [Act.put, List.setIfInBounds_toArray, List.set_cons_zero, List.set_cons_succ]
            refine wpAnyH_take (i := 3) (oi := ?_) (v := ?_) ?_ (by kernel_rfl) (by kernel_rfl) (by kernel_rfl) ?_ ?_ (by assumption) ?_
            rotate_left 2
            · simp only [List.getElem?_toArray, List.getElem?_cons_succ, List.getElem?_cons_zero]; rfl
            · exact fun _ _ _ h => h
            · refine Or.inl ⟨by rfl, ?_⟩
              intro w hSw
              try dsimp only at hSw
              go_simp
              try with_reducible rfl
            try simp only [Act.put, List.setIfInBounds_toArray, List.set_cons_zero, List.set_cons_succ]
            refine wpAnyH_take (i := 4) (oi := ?_) (v := ?_) ?_ (by kernel_rfl) (by kernel_rfl) (by kernel_rfl) ?_ ?_ (by assumption) ?_
            rotate_left 2
            · simp only [List.getElem?_toArray, List.getElem?_cons_succ, List.getElem?_cons_zero]; rfl
            · exact fun _ _ _ h => h
            · refine Or.inl ⟨by rfl, ?_⟩
              intro w hSw
              try dsimp only at hSw
              go_simp
              try with_reducible rfl
            try simp only [Act.put, List.setIfInBounds_toArray, List.set_cons_zero, List.set_cons_succ]
            refine wpAnyH_take (i := 5) (oi := ?_) (v := ?_) ?_ (by kernel_rfl) (by kernel_rfl) (by kernel_rfl) ?_ ?_ (by assumption) ?_
            rotate_left 2
            · simp only [List.getElem?_toArray, List.getElem?_cons_succ, List.getElem?_cons_zero]; rfl
            · exact fun _ _ _ h => h
            · refine Or.inl ⟨by rfl, ?_⟩
              intro w hSw
              try dsimp only at hSw
              go_simp
              try with_reducible rfl
            try simp only [Act.put, List.setIfInBounds_toArray, List.set_cons_zero, List.set_cons_succ]
            refine wpAnyH_take (i := 6) (oi := ?_) (v := ?_) ?_ (by kernel_rfl) (by kernel_rfl) (by kernel_rfl) ?_ ?_ (by assumption) ?_
            rotate_left 2
            · simp only [List.getElem?_toArray, List.getElem?_cons_succ, List.getElem?_cons_zero]; rfl
            · exact fun _ _ _ h => h
            · refine Or.inl ⟨by rfl, ?_⟩
              intro w hSw
              try dsimp only at hSw
              go_simp
              try with_reducible rfl
            try simp only [Act.put, List.setIfInBounds_toArray, List.set_cons_zero, List.set_cons_succ]
            refine wpAnyH_take (i := 7) (oi := ?_) (v := ?_) ?_ (by kernel_rfl) (by kernel_rfl) (by kernel_rfl) ?_ ?_ (by assumption) ?_
            rotate_left 2
            · simp only [List.getElem?_toArray, List.getElem?_cons_succ, List.getElem?_cons_zero]; rfl
            · exact fun _ _ _ h => h
            · refine Or.inl ⟨by rfl, ?_⟩
              intro w hSw
              try dsimp only at hSw
              go_simp
              try with_reducible rfl
            try simp only [Act.put, List.setIfInBounds_toArray, List.set_cons_zero, List.set_cons_succ]
            refine wpAnyH_ready (rs := [2]) (by kernel_rfl) (by simp) ?_
            refine AllReadyH.cons (o := ?_) ?_ (fun K hK => ?_) AllReadyH.nil
            rotate_left 1
            · simp only [List.getElem?_toArray, List.getElem?_cons_succ, List.getElem?_cons_zero]; rfl
            go_simp
            (with_reducible refine hd.mono ?_)
            rintro e w4 ⟨va, vc, rfl, hls4, hL4, hM4'⟩
            have hM4 : Mod (fun j => j = b ∨ j = mb) w3 w4 := ⟨hM4'.os, hM4'.tape, hM4'.output, hM4'.size, hM4'.block⟩
            have hz4 := hM4.size
            have e4 : w4.heap[ab]? = w3.heap[ab]? := hM4.block ab (by omega) (by omega)
            have f4 : w4.heap[bo]? = w3.heap[bo]? := hM4.block bo (by omega) (by omega)
            have hrd4 := hrd w4 (hR3.mod hM4 (fun j hj _ e => e.elim (HbS2.out j hj).1 (HbS2.out j hj).2)) (hql3.mod hM4 (fun j hj _ e => by have : j < w.heap.size := hj; omega))
            go_wp2_with fail
            clear hHeld
            refine hK.out _ _ (KEEP _ e4 f4) (fun hHeld => ?_)
            clear hK K
            try simp only [Act.put, List.setIfInBounds_toArray, List.set_cons_zero, List.set_cons_succ]
            refine wpAnyH_ready (rs := [8]) (by kernel_rfl) (by simp) ?_
            refine AllReadyH.cons (o := ?_) ?_ (fun K hK => ?_) AllReadyH.nil
            rotate_left 1
            · simp only [List.getElem?_toArray, List.getElem?_cons_succ, List.getElem?_cons_zero]; rfl
            go_simp
            (with_reducible refine hrd4.mono ?_)
            rintro e w5 ⟨va', vc', rfl, hls5, hR5, hM5⟩
            have hz5 := hM5.size
            have e5 : w5.heap[ab]? = w3.heap[ab]? := (hM5.block ab (by omega) (by omega)).trans e4
            have f5 : w5.heap[bo]? = w3.heap[bo]? := (hM5.block bo (by omega) (by omega)).trans f4
            have han := answer_eq (fun _ => True) ra.code ra.n ⟨#[]⟩ ra.p.epoch va va' vc vc' ra.p.chains ra.mark ra.size 0 w5 ((hls4.mod hM5 (fun j hj _ e => by have : w3.heap.size ≤ j := hj; omega)).sub (fun _ _ _ => trivial)) (hls5.sub (fun _ _ _ => trivial))
            go_wp2_with fail
            clear hHeld
            refine hK.out _ _ (KEEP _ e5 f5) (fun hHeld => ?_)
            clear hK K
            try simp only [Act.put, List.setIfInBounds_toArray, List.set_cons_zero, List.set_cons_succ]
            refine wpAnyH_ready (rs := [9]) (by kernel_rfl) (by simp) ?_
            refine AllReadyH.cons (o := ?_) ?_ (fun K hK => ?_) AllReadyH.nil
            rotate_left 1
            · simp only [List.getElem?_toArray, List.getElem?_cons_succ, List.getElem?_cons_zero]; rfl
            go_simp
            (with_reducible refine han.mono ?_)
            rintro e w6 ⟨rfl, hB6⟩
            have hz6 := hB6.size
            have e6 : w6.heap[ab]? = w3.heap[ab]? := (hB6.block ab (by omega)).trans e5
            have f6 : w6.heap[bo]? = w3.heap[bo]? := (hB6.block bo (by omega)).trans f5
            have hL6 : LayAt (fun k => S1 k ∨ (w3.heap.size ≤ k ∧ k < w4.heap.size)) w6 b mb (T + 16) s2 := (((hL4.sub (S' := fun k => S1 k ∨ (w3.heap.size ≤ k ∧ k < w4.heap.size)) (fun k hk h => h.imp id (fun h => ⟨h, hk⟩))).mod hM5 (fun j hj _ e => hj.elim (fun h => HrS1.out j h e) (fun h => by omega))).below hB6)
            have hR6 : RLayAt (fun k => S2 k ∨ (w4.heap.size ≤ k ∧ k < w5.heap.size)) w6 rb s2 := (hR5.sub (S' := fun k => S2 k ∨ (w4.heap.size ≤ k ∧ k < w5.heap.size)) (fun k hk h => h.imp id (fun h => ⟨h, hk⟩))).below hB6
            have hnw := layNow_any _ w6 b mb _ s2 hok2 hL6
            obtain ⟨pa6, pc6, r1, rl6⟩ : ∃ a c, w6.cell? ⟨rb, 1, none⟩ = some (.slice a s2.p.chains.length c) ∧ ListsAt _ w6 a s2.p.chains := hR6.c1
            have r0 : w6.cell? ⟨rb, 0, none⟩ = some (.int .i64 s2.p.epoch) := hR6.c0
            have hrb6 : rb < w6.heap.size := cell_lt r0
            have KEEPR : ∀ W', Below w6.heap.size w6 W' → W'.cell? ⟨rb, 0, none⟩ = some (.int .i64 s2.p.epoch) ∧ W'.cell? ⟨rb, 1, none⟩ = some (.slice pa6 s2.p.chains.length pc6) := fun W' h => ⟨below_at h r0 hrb6, below_at h r1 hrb6⟩
            have hM6 : Mod (fun j => j = b ∨ j = mb ∨ j = rb) w3 w6 := ((hM4.mono (fun j _ e => e.imp id Or.inl)).trans' hM5 (fun j _ e => Or.inr (Or.inr e))).trans (Mod.of_below hB6)
            have HL6 := Lib.hid hL6
            have HR6 := Lib.hid hR6
            have hpr := fun (na : Option Addr) (nc : Nat) (W : World) (hn : ListsAt (From w6.heap.size) W na s2.p.chains) (hB : Below w6.heap.size w6 W) => projTrue W s2.p.epoch na pa6 nc pc6 s2.p.chains hn (rl6.mod (F := none') (Mod.of_below hB) (fun _ _ _ => id))
            clear hL6 hR6 hls4 hls5 hL4 hR5 hM4 hM5 han hrd4
            go_wp2_with fail
            clear hHeld
            refine hK.out _ _ (KEEP _ e6 f6) (fun hHeld => ?_)
            clear hK K
            try simp only [Act.put, List.setIfInBounds_toArray, List.set_cons_zero, List.set_cons_succ]
            refine wpAnyH_take (i := 10) (oi := ?_) (v := ?_) ?_ (by kernel_rfl) (by kernel_rfl) (by kernel_rfl) ?_ ?_ (by assumption) ?_
            rotate_left 2
            · simp only [List.getElem?_toArray, List.getElem?_cons_succ, List.getElem?_cons_zero]; rfl
            · exact fun _ _ _ h => h
            · refine Or.inl ⟨by rfl, ?_⟩
              intro w hSw
              try dsimp only at hSw
              go_simp
              try with_reducible rfl
            try simp only [Act.put, List.setIfInBounds_toArray, List.set_cons_zero, List.set_cons_succ]
            refine wpAnyH_take (i := 11) (oi := ?_) (v := ?_) ?_ (by kernel_rfl) (by kernel_rfl) (by kernel_rfl) ?_ ?_ (by assumption) ?_
            rotate_left 2
            · simp only [List.getElem?_toArray, List.getElem?_cons_succ, List.getElem?_cons_zero]; rfl
            · exact fun _ _ _ h => h
            · refine Or.inl ⟨by rfl, ?_⟩
              intro w hSw
              try dsimp only at hSw
              go_simp
              try with_reducible rfl
            try simp only [Act.put, List.setIfInBounds_toArray, List.set_cons_zero, List.set_cons_succ]
            refine wpAnyH_mono (S2 := fun W' => ((W'.cell? ⟨ab, 0, none⟩ = some (.int .i64 qk) ∧ W'.cell? ⟨ab, 1, none⟩ = some (.int .i64 qu) ∧ W'.cell? ⟨ab, 2, none⟩ = some (.int .i64 qe) ∧ W'.cell? ⟨ab, 3, none⟩ = some (.int .i64 qp) ∧ W'.cell? ⟨ab, 4, none⟩ = some (.int .i64 qz) ∧ W'.cell? ⟨ab, 5, none⟩ = some (.int .i64 qn) ∧ W'.cell? ⟨ab, 6, none⟩ = some (.string qd) ∧ W'.cell? ⟨ab, 7, none⟩ = some (.int .i64 qpe) ∧ W'.cell? ⟨ab, 8, none⟩ = some (.slice ya qls.length yc)) ∧ (W'.cell? ⟨bo, offo + k * 9, none⟩ = some (.int .i64 qk) ∧ W'.cell? ⟨bo, offo + k * 9 + 1, none⟩ = some (.int .i64 qu) ∧ W'.cell? ⟨bo, offo + k * 9 + 2, none⟩ = some (.int .i64 qe) ∧ W'.cell? ⟨bo, offo + k * 9 + 3, none⟩ = some (.int .i64 qp) ∧ W'.cell? ⟨bo, offo + k * 9 + 4, none⟩ = some (.int .i64 qz) ∧ W'.cell? ⟨bo, offo + k * 9 + 5, none⟩ = some (.int .i64 qn) ∧ W'.cell? ⟨bo, offo + k * 9 + 6, none⟩ = some (.string qd) ∧ W'.cell? ⟨bo, offo + k * 9 + 7, none⟩ = some (.int .i64 qpe) ∧ W'.cell? ⟨bo, offo + k * 9 + 8, none⟩ = some (.slice qca qls.length qcc))) ∧ W'.cell? ⟨rb, 0, none⟩ = some (.int .i64 s2.p.epoch) ∧ W'.cell? ⟨rb, 1, none⟩ = some (.slice pa6 s2.p.chains.length pc6)) (fun _ h => h.1) ?_
            replace hHeld := And.intro hHeld (And.intro r0 r1)
            refine wpAnyH_take (i := 12) (oi := ?_) (v := ?_) ?_ (by kernel_rfl) (by kernel_rfl) (by kernel_rfl) ?_ ?_ (by assumption) ?_
            rotate_left 2
            · simp only [List.getElem?_toArray, List.getElem?_cons_succ, List.getElem?_cons_zero]; rfl
            · exact fun _ _ _ h => h
            · refine Or.inl ⟨by rfl, ?_⟩
              intro w hSw
              try dsimp only at hSw
              go_simp
              try with_reducible rfl
            try simp only [Act.put, List.setIfInBounds_toArray, List.set_cons_zero, List.set_cons_succ]
            refine wpAnyH_take (i := 14) (oi := ?_) (v := ?_) ?_ (by kernel_rfl) (by kernel_rfl) (by kernel_rfl) ?_ ?_ (by assumption) ?_
            rotate_left 2
            · simp only [List.getElem?_toArray, List.getElem?_cons_succ, List.getElem?_cons_zero]; rfl
            · exact fun _ _ _ h => h
            · refine Or.inl ⟨by rfl, ?_⟩
              intro w hSw
              try dsimp only at hSw
              go_simp
              try with_reducible rfl
            try simp only [Act.put, List.setIfInBounds_toArray, List.set_cons_zero, List.set_cons_succ]
            refine wpAnyH_take (i := 15) (oi := ?_) (v := ?_) ?_ (by kernel_rfl) (by kernel_rfl) (by kernel_rfl) ?_ ?_ (by assumption) ?_
            rotate_left 2
            · simp only [List.getElem?_toArray, List.getElem?_cons_succ, List.getElem?_cons_zero]; rfl
            · exact fun _ _ _ h => h
            · refine Or.inl ⟨by rfl, ?_⟩
              intro w hSw
              try dsimp only at hSw
              go_simp
              try with_reducible rfl
            try simp only [Act.put, List.setIfInBounds_toArray, List.set_cons_zero, List.set_cons_succ]
            refine wpAnyH_take (i := 16) (oi := ?_) (v := ?_) ?_ (by kernel_rfl) (by kernel_rfl) (by kernel_rfl) ?_ ?_ (by assumption) ?_
            rotate_left 2
            · simp only [List.getElem?_toArray, List.getElem?_cons_succ, List.getElem?_cons_zero]; rfl
            · exact fun _ _ _ h => h
            · refine Or.inl ⟨by rfl, ?_⟩
              intro w hSw
              try dsimp only at hSw
              go_simp
              try with_reducible rfl
            try simp only [Act.put, List.setIfInBounds_toArray, List.set_cons_zero, List.set_cons_succ]
            refine wpAnyH_take (i := 17) (oi := ?_) (v := ?_) ?_ (by kernel_rfl) (by kernel_rfl) (by kernel_rfl) ?_ ?_ (by assumption) ?_
            rotate_left 2
            · simp only [List.getElem?_toArray, List.getElem?_cons_succ, List.getElem?_cons_zero]; rfl
            · exact fun _ _ _ h => h
            · refine Or.inl ⟨by rfl, ?_⟩
              intro w hSw
              try dsimp only at hSw
              go_simp
              try with_reducible rfl
            try simp only [Act.put, List.setIfInBounds_toArray, List.set_cons_zero, List.set_cons_succ]
            refine wpAnyH_ready (rs := [13]) (by kernel_rfl) (by simp) ?_
            refine AllReadyH.cons (o := ?_) ?_ (fun K hK => ?_) AllReadyH.nil
            rotate_left 1
            · simp only [List.getElem?_toArray, List.getElem?_cons_succ, List.getElem?_cons_zero]; rfl
            go_simp
            (with_reducible refine hnw.mono ?_)
            rintro e w7 ⟨na, nc, rfl, hn7, hB7⟩
            have hz7 := hB7.size
            have e7 : w7.heap[ab]? = w3.heap[ab]? := (hB7.block ab (by omega)).trans e6
            have f7 : w7.heap[bo]? = w3.heap[bo]? := (hB7.block bo (by omega)).trans f6
            have r0' := below_at hB7 r0 hrb6
            have r1' := below_at hB7 r1 hrb6
            have hpr7 := hpr na nc w7 hn7 hB7
            go_wp2_with fail
            clear hHeld
            refine hK.out _ _ ⟨KEEP _ e7 f7, KEEPR _ hB7⟩ (fun hHeld => ?_)
            clear hK K
            try simp only [Act.put, List.setIfInBounds_toArray, List.set_cons_zero, List.set_cons_succ]
            refine wpAnyH_ready (rs := [18]) (by kernel_rfl) (by simp) ?_
            refine AllReadyH.cons (o := ?_) ?_ (fun K hK => ?_) AllReadyH.nil
            rotate_left 1
            · simp only [List.getElem?_toArray, List.getElem?_cons_succ, List.getElem?_cons_zero]; rfl
            go_simp
            (with_reducible refine hpr7.mono ?_)
            rintro e w8 ⟨rfl, hB8'⟩
            have hB8 : Below w6.heap.size w6 w8 := hB7.trans (hB8'.mono hz7)
            have hz8 := hB8.size
            have e8 : w8.heap[ab]? = w3.heap[ab]? := (hB8.block ab (by omega)).trans e6
            have f8 : w8.heap[bo]? = w3.heap[bo]? := (hB8.block bo (by omega)).trans f6
            have hus8 := layUsed_any _ w8 b mb _ s2 hok2 (HL6.out.below hB8)
            clear hpr7 hB8' hn7
            go_wp2_with fail
            clear hHeld
            refine hK.out _ _ ⟨KEEP _ e8 f8, KEEPR _ hB8⟩ (fun hHeld => ?_)
            clear hK K
            try simp only [Act.put, List.setIfInBounds_toArray, List.set_cons_zero, List.set_cons_succ]
            refine wpAnyH_take (i := 19) (oi := ?_) (v := ?_) ?_ (by kernel_rfl) (by kernel_rfl) (by kernel_rfl) ?_ ?_ (by assumption) ?_
            rotate_left 2
            · simp only [List.getElem?_toArray, List.getElem?_cons_succ, List.getElem?_cons_zero]; rfl
            · exact fun _ _ _ h => h
            · refine Or.inl ⟨by rfl, ?_⟩
              intro w hSw
              try dsimp only at hSw
              go_simp
              try with_reducible rfl
            try simp only [Act.put, List.setIfInBounds_toArray, List.set_cons_zero, List.set_cons_succ]
            refine wpAnyH_take (i := 20) (oi := ?_) (v := ?_) ?_ (by kernel_rfl) (by kernel_rfl) (by kernel_rfl) ?_ ?_ (by assumption) ?_
            rotate_left 2
            · simp only [List.getElem?_toArray, List.getElem?_cons_succ, List.getElem?_cons_zero]; rfl
            · exact fun _ _ _ h => h
            · refine Or.inl ⟨by rfl, ?_⟩
              intro w hSw
              try dsimp only at hSw
              go_simp
              try with_reducible rfl
            try simp only [Act.put, List.setIfInBounds_toArray, List.set_cons_zero, List.set_cons_succ]
            refine wpAnyH_take (i := 21) (oi := ?_) (v := ?_) ?_ (by kernel_rfl) (by kernel_rfl) (by kernel_rfl) ?_ ?_ (by assumption) ?_
            rotate_left 2
            · simp only [List.getElem?_toArray, List.getElem?_cons_succ, List.getElem?_cons_zero]; rfl
            · exact fun _ _ _ h => h
            · refine Or.inl ⟨by rfl, ?_⟩
              intro w hSw
              try dsimp only at hSw
              go_simp
              try with_reducible rfl
            try simp only [Act.put, List.setIfInBounds_toArray, List.set_cons_zero, List.set_cons_succ]
            refine wpAnyH_take (i := 22) (oi := ?_) (v := ?_) ?_ (by kernel_rfl) (by kernel_rfl) (by kernel_rfl) ?_ ?_ (by assumption) ?_
            rotate_left 2
            · simp only [List.getElem?_toArray, List.getElem?_cons_succ, List.getElem?_cons_zero]; rfl
            · exact fun _ _ _ h => h
            · refine Or.inl ⟨by rfl, ?_⟩
              intro w hSw
              try dsimp only at hSw
              go_simp
              try with_reducible rfl
            try simp only [Act.put, List.setIfInBounds_toArray, List.set_cons_zero, List.set_cons_succ]
            refine wpAnyH_take (i := 24) (oi := ?_) (v := ?_) ?_ (by kernel_rfl) (by kernel_rfl) (by kernel_rfl) ?_ ?_ (by assumption) ?_
            rotate_left 2
            · simp only [List.getElem?_toArray, List.getElem?_cons_succ, List.getElem?_cons_zero]; rfl
            · exact fun _ _ _ h => h
            · refine Or.inl ⟨by rfl, ?_⟩
              intro w hSw
              try dsimp only at hSw
              go_simp
              try with_reducible rfl
            try simp only [Act.put, List.setIfInBounds_toArray, List.set_cons_zero, List.set_cons_succ]
            refine wpAnyH_ready (rs := [23]) (by kernel_rfl) (by simp) ?_
            refine AllReadyH.cons (o := ?_) ?_ (fun K hK => ?_) AllReadyH.nil
            rotate_left 1
            · simp only [List.getElem?_toArray, List.getElem?_cons_succ, List.getElem?_cons_zero]; rfl
            go_simp
            (with_reducible refine hus8.mono ?_)
            rintro e w9 ⟨ua, uc, rfl, hu9, hB9', -⟩
            have hB9 : Below w6.heap.size w6 w9 := hB8.trans (hB9'.mono hz8)
            have hz9 := hB9.size
            have e9 : w9.heap[ab]? = w3.heap[ab]? := (hB9.block ab (by omega)).trans e6
            have f9 : w9.heap[bo]? = w3.heap[bo]? := (hB9.block bo (by omega)).trans f6
            have hus9 := rlayUsed_any _ w9 rb s2 (by omega) (HR6.out.below hB9)
            clear hB9'
            go_wp2_with fail
            clear hHeld
            refine hK.out _ _ ⟨KEEP _ e9 f9, KEEPR _ hB9⟩ (fun hHeld => ?_)
            clear hK K
            try simp only [Act.put, List.setIfInBounds_toArray, List.set_cons_zero, List.set_cons_succ]
            refine wpAnyH_ready (rs := [25]) (by kernel_rfl) (by simp) ?_
            refine AllReadyH.cons (o := ?_) ?_ (fun K hK => ?_) AllReadyH.nil
            rotate_left 1
            · simp only [List.getElem?_toArray, List.getElem?_cons_succ, List.getElem?_cons_zero]; rfl
            go_simp
            (with_reducible refine hus9.mono ?_)
            rintro e w10 ⟨ua', uc', rfl, hu10, hB10', -⟩
            have hB10 : Below w6.heap.size w6 w10 := hB9.trans (hB10'.mono hz9)
            have hz10 := hB10.size
            have e10 : w10.heap[ab]? = w3.heap[ab]? := (hB10.block ab (by omega)).trans e6
            have f10 : w10.heap[bo]? = w3.heap[bo]? := (hB10.block bo (by omega)).trans f6
            have hin := intsTrue w10 ua ua' uc uc' (unitsOf s2.used) (hu9.mod (F := none') (Mod.of_below hB10') (fun _ _ _ => id)) hu10
            clear hB10'
            go_wp2_with fail
            clear hHeld
            refine hK.out _ _ ⟨KEEP _ e10 f10, KEEPR _ hB10⟩ (fun hHeld => ?_)
            clear hK K
            try simp only [Act.put, List.setIfInBounds_toArray, List.set_cons_zero, List.set_cons_succ]
            refine wpAnyH_ready (rs := [26]) (by kernel_rfl) (by simp) ?_
            refine AllReadyH.cons (o := ?_) ?_ (fun K hK => ?_) AllReadyH.nil
            rotate_left 1
            · simp only [List.getElem?_toArray, List.getElem?_cons_succ, List.getElem?_cons_zero]; rfl
            go_simp
            (with_reducible refine hin.mono ?_)
            rintro e w11 ⟨rfl, hB11'⟩
            have hB11 : Below w6.heap.size w6 w11 := hB10.trans (hB11'.mono hz10)
            have hz11 := hB11.size
            have e11 : w11.heap[ab]? = w3.heap[ab]? := (hB11.block ab (by omega)).trans e6
            have f11 : w11.heap[bo]? = w3.heap[bo]? := (hB11.block bo (by omega)).trans f6
            have hM11 := hM6.trans (Mod.of_below hB11)
            have hpr11 := projTrue w11 qpe ya qca yc qcc qls (HY3.out.mod hM11 (fun j hj _ e => by omega)) (HQL3.out.mod hM11 (fun j hj _ e => by have : j < w.heap.size := hj; omega))
            clear hB11' hin hu9 hu10
            go_wp2_with fail
            clear hHeld
            refine hK.out _ _ ⟨KEEP _ e11 f11, KEEPR _ hB11⟩ (fun hHeld => ?_)
            clear hK K
            try simp only [Act.put, List.setIfInBounds_toArray, List.set_cons_zero, List.set_cons_succ]
            refine wpAnyH_take (i := 27) (oi := ?_) (v := ?_) ?_ (by kernel_rfl) (by kernel_rfl) (by kernel_rfl) ?_ ?_ (by assumption) ?_
            rotate_left 2
            · simp only [List.getElem?_toArray, List.getElem?_cons_succ, List.getElem?_cons_zero]; rfl
            · exact fun _ _ _ h => h
            · refine Or.inl ⟨by rfl, ?_⟩
              intro w hSw
              try dsimp only at hSw
              go_simp
              try with_reducible rfl
            try simp only [Act.put, List.setIfInBounds_toArray, List.set_cons_zero, List.set_cons_succ]
            refine wpAnyH_take (i := 28) (oi := ?_) (v := ?_) ?_ (by kernel_rfl) (by kernel_rfl) (by kernel_rfl) ?_ ?_ (by assumption) ?_
            rotate_left 2
            · simp only [List.getElem?_toArray, List.getElem?_cons_succ, List.getElem?_cons_zero]; rfl
            · exact fun _ _ _ h => h
            · refine Or.inl ⟨by rfl, ?_⟩
              intro w hSw
              try dsimp only at hSw
              go_simp
              try with_reducible rfl
            try simp only [Act.put, List.setIfInBounds_toArray, List.set_cons_zero, List.set_cons_succ]
            refine wpAnyH_take (i := 29) (oi := ?_) (v := ?_) ?_ (by kernel_rfl) (by kernel_rfl) (by kernel_rfl) ?_ ?_ (by assumption) ?_
            rotate_left 2
            · simp only [List.getElem?_toArray, List.getElem?_cons_succ, List.getElem?_cons_zero]; rfl
            · exact fun _ _ _ h => h
            · refine Or.inl ⟨by rfl, ?_⟩
              intro w hSw
              try dsimp only at hSw
              go_simp
              try with_reducible rfl
            try simp only [Act.put, List.setIfInBounds_toArray, List.set_cons_zero, List.set_cons_succ]
            refine wpAnyH_take (i := 30) (oi := ?_) (v := ?_) ?_ (by kernel_rfl) (by kernel_rfl) (by kernel_rfl) ?_ ?_ (by assumption) ?_
            rotate_left 2
            · simp only [List.getElem?_toArray, List.getElem?_cons_succ, List.getElem?_cons_zero]; rfl
            · exact fun _ _ _ h => h
            · refine Or.inl ⟨by rfl, ?_⟩
              intro w hSw
              try dsimp only at hSw
              go_simp
              try with_reducible rfl
            try simp only [Act.put, List.setIfInBounds_toArray, List.set_cons_zero, List.set_cons_succ]
            refine wpAnyH_take (i := 31) (oi := ?_) (v := ?_) ?_ (by kernel_rfl) (by kernel_rfl) (by kernel_rfl) ?_ ?_ (by assumption) ?_
            rotate_left 2
            · simp only [List.getElem?_toArray, List.getElem?_cons_succ, List.getElem?_cons_zero]; rfl
            · exact fun _ _ _ h => h
            · refine Or.inl ⟨by rfl, ?_⟩
              intro w hSw
              try dsimp only at hSw
              go_simp
              try with_reducible rfl
            try simp only [Act.put, List.setIfInBounds_toArray, List.set_cons_zero, List.set_cons_succ]
            refine wpAnyH_take (i := 32) (oi := ?_) (v := ?_) ?_ (by kernel_rfl) (by kernel_rfl) (by kernel_rfl) ?_ ?_ (by assumption) ?_
            rotate_left 2
            · simp only [List.getElem?_toArray, List.getElem?_cons_succ, List.getElem?_cons_zero]; rfl
            · exact fun _ _ _ h => h
            · refine Or.inl ⟨by rfl, ?_⟩
              intro w hSw
              try dsimp only at hSw
              go_simp
              try with_reducible rfl
            try simp only [Act.put, List.setIfInBounds_toArray, List.set_cons_zero, List.set_cons_succ]
            refine wpAnyH_take (i := 33) (oi := ?_) (v := ?_) ?_ (by kernel_rfl) (by kernel_rfl) (by kernel_rfl) ?_ ?_ (by assumption) ?_
            rotate_left 2
            · simp only [List.getElem?_toArray, List.getElem?_cons_succ, List.getElem?_cons_zero]; rfl
            · exact fun _ _ _ h => h
            · refine Or.inl ⟨by rfl, ?_⟩
              intro w hSw
              try dsimp only at hSw
              go_simp
              try with_reducible rfl
            try simp only [Act.put, List.setIfInBounds_toArray, List.set_cons_zero, List.set_cons_succ]
            refine wpAnyH_take (i := 34) (oi := ?_) (v := ?_) ?_ (by kernel_rfl) (by kernel_rfl) (by kernel_rfl) ?_ ?_ (by assumption) ?_
            rotate_left 2
            · simp only [List.getElem?_toArray, List.getElem?_cons_succ, List.getElem?_cons_zero]; rfl
            · exact fun _ _ _ h => h
            · refine Or.inl ⟨by rfl, ?_⟩
              intro w hSw
              try dsimp only at hSw
              go_simp
              try with_reducible rfl
            try simp only [Act.put, List.setIfInBounds_toArray, List.set_cons_zero, List.set_cons_succ]
            refine wpAnyH_take (i := 35) (oi := ?_) (v := ?_) ?_ (by kernel_rfl) (by kernel_rfl) (by kernel_rfl) ?_ ?_ (by assumption) ?_
            rotate_left 2
            · simp only [List.getElem?_toArray, List.getElem?_cons_succ, List.getElem?_cons_zero]; rfl
            · exact fun _ _ _ h => h
            · refine Or.inl ⟨by rfl, ?_⟩
              intro w hSw
              try dsimp only at hSw
              go_simp
              try with_reducible rfl
            try simp only [Act.put, List.setIfInBounds_toArray, List.set_cons_zero, List.set_cons_succ]
            refine wpAnyH_take (i := 36) (oi := ?_) (v := ?_) ?_ (by kernel_rfl) (by kernel_rfl) (by kernel_rfl) ?_ ?_ (by assumption) ?_
            rotate_left 2
            · simp only [List.getElem?_toArray, List.getElem?_cons_succ, List.getElem?_cons_zero]; rfl
            · exact fun _ _ _ h => h
            · refine Or.inl ⟨by rfl, ?_⟩
              intro w hSw
              try dsimp only at hSw
              go_simp
              try with_reducible rfl
            try simp only [Act.put, List.setIfInBounds_toArray, List.set_cons_zero, List.set_cons_succ]
            refine wpAnyH_ready (rs := [37]) (by kernel_rfl) (by simp) ?_
            refine AllReadyH.cons (o := ?_) ?_ (fun K hK => ?_) AllReadyH.nil
            rotate_left 1
            · simp only [List.getElem?_toArray, List.getElem?_cons_succ, List.getElem?_cons_zero]; rfl
            go_simp
            (with_reducible refine hpr11.mono ?_)
            rintro e w12 ⟨rfl, hB12'⟩
            have hB12 : Below w6.heap.size w6 w12 := hB11.trans (hB12'.mono hz11)
            have hz12 := hB12.size
            have e12 : w12.heap[ab]? = w3.heap[ab]? := (hB12.block ab (by omega)).trans e6
            have f12 : w12.heap[bo]? = w3.heap[bo]? := (hB12.block bo (by omega)).trans f6
            clear hpr11 hB12'
            go_wp2_with fail
            clear hHeld
            refine hK.out _ _ ⟨KEEP _ e12 f12, KEEPR _ hB12⟩ (fun hHeld => ?_)
            clear hK K
            try simp only [Act.put, List.setIfInBounds_toArray, List.set_cons_zero, List.set_cons_succ]
            refine wpAnyH_take (i := 38) (oi := ?_) (v := ?_) ?_ (by kernel_rfl) (by kernel_rfl) (by kernel_rfl) ?_ ?_ (by assumption) ?_
            rotate_left 2
            · simp only [List.getElem?_toArray, List.getElem?_cons_succ, List.getElem?_cons_zero]; rfl
            · exact fun _ _ _ h => h
            · refine Or.inl ⟨by rfl, ?_⟩
              intro w hSw
              try dsimp only at hSw
              go_simp
              try with_reducible rfl
            try simp only [Act.put, List.setIfInBounds_toArray, List.set_cons_zero, List.set_cons_succ]
            refine wpAnyH_take (i := 39) (oi := ?_) (v := ?_) ?_ (by kernel_rfl) (by kernel_rfl) (by kernel_rfl) ?_ ?_ (by assumption) ?_
            rotate_left 2
            · simp only [List.getElem?_toArray, List.getElem?_cons_succ, List.getElem?_cons_zero]; rfl
            · exact fun _ _ _ h => h
            · refine Or.inl ⟨by rfl, ?_⟩
              intro w hSw
              try dsimp only at hSw
              go_simp
              try with_reducible rfl
            try simp only [Act.put, List.setIfInBounds_toArray, List.set_cons_zero, List.set_cons_succ]
            refine wpAnyH_done (by kernel_rfl) ?_ _
            all_goals
              have hB6w : Below w.heap.size w w6 := (hBr.trans (hBw3.mono hzr)).trans (hM6.below_at (by omega) (fun j hj e => by rcases e with e | e | e <;> omega))
              have hfin : PlayRel w b mb rb n (n - (k + 1)) (.int .i64 (k + 1 : Nat)) w12 := by
                refine ⟨k + 1, s2, _, _, T + 16, rfl, by omega, rfl, hok2, by omega, HL6.out.below hB12, by omega, HR6.out.below hB12, ?_, ?_, ?_, hB6w.trans (hB12.mono hB6w.size)⟩
                · rintro j (hj | hj)
                  · have := HS1.out j hj; omega
                  · omega
                · rintro j (hj | hj)
                  · have := HS2.out j hj; omega
                  · omega
                · rintro j (hj | hj) (hk | hk)
                  · exact HS12.out j hj hk
                  · have := HS1.out j hj; omega
                  · have := HS2.out j hk; omega
                  · omega
              have Hfin := Lib.hid hfin
              clear hfin KEEPR HL6 HR6 HS1 HS2 HS12 HbS2 HrS1 HY3 HQL3 hM6 hB7 hB8 hB9 hB10 hB11 hB12 hK3 KEEP hrd hd hpr HW3 hR3 hql3
              go_wp2_with fail
              go_roundg (n - (k + 1))
            all_goals first
              | (show _ < _; omega)
              | exact Hfin.out
              | (have := Hfin.out; rw [show ((k + 1 : Nat) : Int) = _ from by omega] at this; exact this)
          · have hge : n ≤ k := by omega
            clear hlt
            go_wp2_with fail
            refine (wakes12_any _).mono ?_
            rintro r w9 ⟨rfl, hB9⟩
            go_wp2_with fail
            go_ret
            exact ⟨rfl, hBr.trans (hB9.mono hBr.size)⟩
      · go_wp2_with fail
        refine (layNew_no _ w3 ⟨pe, ls⟩ xa xc hgood hx3).mono ?_
        rintro r w4 ⟨rfl, hB4⟩
        have hz4 := hB4.size
        have hBw4 := hBw3.trans (hB4.mono (by omega))
        replace c0 := below_at hB4 c0 (by omega)
        replace c1 := below_at hB4 c1 (by omega)
        go_wp2_with fail
        refine (rlayNew_no _ w4 ⟨pe, ls⟩ pa pc hgood (old_below H.out hBw4)).mono ?_
        rintro r w5 ⟨rfl, hB5⟩
        have hz5 := hB5.size
        have hBw5 := hBw4.trans (hB5.mono (by omega))
        clear hx3 hB1 hB2 hB3 hB4 hB5
        go_wp2_with fail
        go_loopg [9] 0 (fun _ s9 wr => s9 = .int .i64 0 ∧ wr = w5)
        case atStart => exact ⟨rfl, rfl⟩
        case round =>
          obtain ⟨rfl, rfl⟩ := hrel
          by_cases hlt : 0 < n
          · go_wp2_with fail
            refine (wakes12_any _).mono ?_
            rintro r w9 ⟨rfl, hB9⟩
            go_wp2_with fail
            go_ret
            exact ⟨rfl, hBw5.trans (hB9.mono hBw5.size)⟩
          · go_wp2_with fail
            refine (wakes12_any _).mono ?_
            rintro r w9 ⟨rfl, hB9⟩
            go_wp2_with fail
            go_ret
            exact ⟨rfl, hBw5.trans (hB9.mono hBw5.size)⟩
  · go_wp2_with fail
    refine (wakes12_any _).mono ?_
    rintro r w6 ⟨rfl, hB6⟩
    go_wp2_with fail
    go_ret
    exact ⟨rfl, hBw1.trans (hB6.mono hBw1.size)⟩
end Go.Proofs.Ytchidgpaejkaiaa
