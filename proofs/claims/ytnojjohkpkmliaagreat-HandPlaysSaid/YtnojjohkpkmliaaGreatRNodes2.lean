/- the document's nodes: one question to the others -/
import Derived.Test.YtnojjohkpkmliaaGreatRNodes
namespace Go.Proofs.YtnojjohkpkmliaaGreat
open Go.RowKit Esch

section
variable {w : World} {nb ob lb : Nat} {ub pb D : Nat → Nat} {s : NdS} (x1 ep page x4 x5 x7 : Int) (d : ByteArray) (ca : Option Addr) (cn cc : Nat)
set_option maxRecDepth 100000 in
set_option maxHeartbeats 4000000 in
theorem r13_out (w : World) (nb : Nat) (hu : x1 < 0 ∨ 15 < x1) (k : Int) (hk : k = 1 ∨ k = 2 ∨ k = 3 ∨ k = 4 ∨ k = 5) :
    Calls Tryz.prog 13 #[.pointer (some ⟨nb, 0, none⟩), .agg #[.int .i64 k, .int .i64 x1, .int .i64 ep, .int .i64 page, .int .i64 x4, .int .i64 x5, .string d, .int .i64 x7, .slice ca cn cc]] w
      fun e w' => e = .returned (ansU 1 0 ⟨#[]⟩ 0) ∧ Below w.heap.size w w' := by
  rcases hu with hu | hu
  · rcases hk with rfl | rfl | rfl | rfl | rfl
    all_goals
      go_enter Tryz.func13, Tryz.ntmps13
      go_wp2_with fail
      refine bodyPost_ret (v := ansU 1 0 ⟨#[]⟩ 0) (by simp only [results, Tryz.results13, ansU]; go_simp) rfl ?_
      exact ⟨rfl, by (repeat (first | with_reducible exact (Below.refl _ _) | with_reducible refine Below.drew ?_ | with_reducible refine Esch.below_drewN ?_ _ | with_reducible refine Below.setCell ?_ (by first | omega | (simp; done) | (simp; omega)) _ | with_reducible refine Below.alloc ?_ (by first | omega | (simp; done) | (simp; omega)) _))⟩
  · have hu' : (0 : Int) ≤ x1 := by omega
    rcases hk with rfl | rfl | rfl | rfl | rfl
    all_goals
      go_enter Tryz.func13, Tryz.ntmps13
      go_wp2_with fail
      refine bodyPost_ret (v := ansU 1 0 ⟨#[]⟩ 0) (by simp only [results, Tryz.results13, ansU]; go_simp) rfl ?_
      exact ⟨rfl, by (repeat (first | with_reducible exact (Below.refl _ _) | with_reducible refine Below.drew ?_ | with_reducible refine Esch.below_drewN ?_ _ | with_reducible refine Below.setCell ?_ (by first | omega | (simp; done) | (simp; omega)) _ | with_reducible refine Below.alloc ?_ (by first | omega | (simp; done) | (simp; omega)) _))⟩
set_option maxRecDepth 100000 in
set_option maxHeartbeats 4000000 in
theorem r13_no (w : World) (nb : Nat) (k : Int) (hk : k < 1 ∨ 11 < k) :
    Calls Tryz.prog 13 #[.pointer (some ⟨nb, 0, none⟩), .agg #[.int .i64 k, .int .i64 x1, .int .i64 ep, .int .i64 page, .int .i64 x4, .int .i64 x5, .string d, .int .i64 x7, .slice ca cn cc]] w
      fun e w' => e = .returned (ansU 1 0 ⟨#[]⟩ 0) ∧ Below w.heap.size w w' := by
  have k1 : (k == 1) = false := by simp; omega
  have k2 : (k == 2) = false := by simp; omega
  have k3 : (k == 3) = false := by simp; omega
  have k4 : (k == 4) = false := by simp; omega
  have k5 : (k == 5) = false := by simp; omega
  have k6 : (k == 6) = false := by simp; omega
  have k7 : (k == 7) = false := by simp; omega
  have k8 : (k == 8) = false := by simp; omega
  have k9 : (k == 9) = false := by simp; omega
  have k10 : (k == 10) = false := by simp; omega
  have k11 : (k == 11) = false := by simp; omega
  clear hk
  go_enter Tryz.func13, Tryz.ntmps13
  go_wp2_with fail
  refine bodyPost_ret (v := ansU 1 0 ⟨#[]⟩ 0) (by simp only [results, Tryz.results13, ansU]; go_simp) rfl ?_
  exact ⟨rfl, by (repeat (first | with_reducible exact (Below.refl _ _) | with_reducible refine Below.drew ?_ | with_reducible refine Esch.below_drewN ?_ _ | with_reducible refine Below.setCell ?_ (by first | omega | (simp; done) | (simp; omega)) _ | with_reducible refine Below.alloc ?_ (by first | omega | (simp; done) | (simp; omega)) _))⟩
set_option maxRecDepth 100000 in
set_option maxHeartbeats 4000000 in
theorem r13_ord (h : RNodesAt w nb ob lb ub pb D s) (k : Int) (hk : k = 6 ∨ k = 7 ∨ k = 8) :
    Calls Tryz.prog 13 #[.pointer (some ⟨nb, 0, none⟩), .agg #[.int .i64 k, .int .i64 x1, .int .i64 ep, .int .i64 page, .int .i64 x4, .int .i64 x5, .string d, .int .i64 x7, .slice ca cn cc]] w
      (RAnsPost w ob (ordDo s.o k ep page).1 (ordDo s.o k ep page).2.1 (ordDo s.o k ep page).2.2.epoch (ordDo s.o k ep page).2.2) := by
  obtain ⟨W, hW, ab, rb, hab, hrb, hX⟩ : ∃ W, W = _ ∧ ∃ ab rb, ab = w.heap.size ∧ rb = w.heap.size + 1 ∧ Boxed2 w W ab rb (.int .i64 k) (.int .i64 x1) (.int .i64 ep) (.int .i64 page) (.int .i64 x4) (.int .i64 x5) (.string d) (.int .i64 x7) (.slice ca cn cc) := ⟨_, rfl, _, _, rfl, rfl, boxed2 w _ _ _ _ _ _ _ _ _⟩
  have HW := Lib.hid hW
  have HA := Lib.hid hab
  have HRB := Lib.hid hrb
  have hnl := cell_lt h.c16
  have n16 := below_at hX.below h.c16 hnl
  have n17 := below_at hX.below h.c17 hnl
  have hol := h.ord.lt
  have hdo := rordDo_any x1 ep page x4 x5 d x7 ca cn cc k W.drew ob s.o h.ook (h.ord.mod (F := none') ((Mod.of_below hX.below).drew) id)
  obtain ⟨⟨rc, rn, ro⟩, hr⟩ : ∃ r, r = ordDo s.o k ep page := ⟨_, rfl⟩
  rw [← hr] at hdo ⊢
  simp only at hdo ⊢
  have q0 := hX.q0
  have q1 := hX.q1
  have q2 := hX.q2
  have q3 := hX.q3
  have q4 := hX.q4
  have q5 := hX.q5
  have q6 := hX.q6
  have q7 := hX.q7
  have q8 := hX.q8
  have HX := Lib.hid hX
  have hzW := hX.size
  have hrb2 := hX.brb
  clear h hW hab hrb hX hr
  rcases hk with rfl | rfl | rfl
  all_goals
    go_enter Tryz.func13, Tryz.ntmps13
    go_wp2_with fail
    rw [← HW.out, ← HRB.out, ← HA.out]
    refine region_tail 5 (by kernel_rfl) (by kernel_rfl) (fun T hT K hK => ?_)
    simp only [List.take_succ_cons, List.take_zero]
    repeat still_step
    refine wpStill_nil (hK _ ?_)
    clear hK
    simp only [List.drop_succ_cons, List.drop_zero] at hT
    subst hT
    go_wp2_with fail
    refine hdo.mono ?_
    clear hdo
    rintro e w3 ⟨rfl, hU3, hM3⟩
    have hMW : Mod (· = ob) W w3 := ((Mod.refl _ W).drew).trans hM3
    obtain ⟨g0, g1, g2, g3, g4, g5, g6, g7, f0, f1, f2, f3, f4, f5, f6, f7⟩ := HX.out.far hMW (by omega)
    have HU3 := Lib.hid hU3
    have HMW := Lib.hid hMW
    clear hU3 hM3 hMW
    go_wp2_with fail
    refine bodyPost_ret (v := ansV rc rn ro.epoch) (by simp only [results, Tryz.results13, ansV]; go_simp) rfl ?_
    refine ⟨rfl, HU3.out.mod (F := (· = rb)) (by (repeat' (first | (with_reducible exact (Mod.refl _ _)) | (with_reducible apply Mod.drew) | (with_reducible apply Mod.drewN) | (with_reducible apply Mod.alloc) | (with_reducible apply Mod.setCellAt) | (intro _; first | rfl | exact Or.inl rfl | exact Or.inr rfl) | (intro h; exfalso; omega)))) (by omega), ?_⟩
    refine (mod_none (Mod.of_below HX.out.below)).trans' (show Mod (fun k => k = rb ∨ k = ob) W _ from ?_) (fun j hj e => ?_)
    · repeat (with_reducible refine Mod.setCellAt ?_ (fun _ => Or.inl rfl) _)
      exact HMW.out.mono (fun _ _ h => Or.inr h)
    · rcases e with e | e
      · omega
      · exact e
set_option maxRecDepth 100000 in
set_option maxHeartbeats 4000000 in
theorem r13_lay (q : Proj) (h : RNodesAt w nb ob lb ub pb D s) (hused : s.l.used.length ≤ 4000) (S' : Nat → Prop) (hq : ListsAt S' w ca q.chains) (hS : ∀ k, S' k → k < w.heap.size → D k ≠ 17) (k : Int) (hk : k = 9 ∨ k = 10 ∨ k = 11) :
    Calls Tryz.prog 13 #[.pointer (some ⟨nb, 0, none⟩), .agg #[.int .i64 k, .int .i64 x1, .int .i64 ep, .int .i64 page, .int .i64 x4, .int .i64 x5, .string d, .int .i64 q.epoch, .slice ca q.chains.length cc]] w
      (RDoPost (fun k => D k = 17) w lb (layDo s.l k q page x4 x5)) := by
  obtain ⟨W, hW, ab, rb, hab, hrb, hX⟩ : ∃ W, W = _ ∧ ∃ ab rb, ab = w.heap.size ∧ rb = w.heap.size + 1 ∧ Boxed2 w W ab rb (.int .i64 k) (.int .i64 x1) (.int .i64 ep) (.int .i64 page) (.int .i64 x4) (.int .i64 x5) (.string d) (.int .i64 q.epoch) (.slice ca q.chains.length cc) := ⟨_, rfl, _, _, rfl, rfl, boxed2 w _ _ _ _ _ _ _ _ _⟩
  have HW := Lib.hid hW
  have HA := Lib.hid hab
  have HRB := Lib.hid hrb
  have hnl := cell_lt h.c16
  have n16 := below_at hX.below h.c16 hnl
  have n17 := below_at hX.below h.c17 hnl
  have hll := h.lay.lt
  have hlb : D lb = 17 := h.lay.sb
  have HDL := Lib.hid (show ∀ k, D k = 17 → k < w.heap.size from fun k hk => h.dlt k (by omega))
  have hdo := rDo_any k x1 ep page x4 x5 d q ca cc (fun k => D k = 17) (fun k => S' k ∧ k < w.heap.size) W.drew lb s.l h.lok hused (h.lay.mod (F := none') ((Mod.of_below hX.below).drew) (fun _ _ _ => id)) ((hq.sub (fun k hk hs => ⟨hs, hk⟩)).mod (F := none') ((Mod.of_below hX.below).drew) (fun _ _ _ => id)) (fun k hk _ e => hS k hk.1 hk.2 (by rw [e]; exact hlb))
  unfold RDoPost at hdo ⊢
  obtain ⟨⟨ra, rl⟩, hr⟩ : ∃ r, r = layDo s.l k q page x4 x5 := ⟨_, rfl⟩
  rw [← hr] at hdo ⊢
  simp only at hdo ⊢
  have q0 := hX.q0
  have q1 := hX.q1
  have q2 := hX.q2
  have q3 := hX.q3
  have q4 := hX.q4
  have q5 := hX.q5
  have q6 := hX.q6
  have q7 := hX.q7
  have q8 := hX.q8
  have HX := Lib.hid hX
  have hzW := hX.size
  have hrb2 := hX.brb
  clear h hW hab hrb hX hr hq hS
  rcases hk with rfl | rfl | rfl
  all_goals
    go_enter Tryz.func13, Tryz.ntmps13
    go_wp2_with fail
    rw [← HW.out, ← HRB.out, ← HA.out]
    refine region_tail 5 (by kernel_rfl) (by kernel_rfl) (fun T hT K hK => ?_)
    simp only [List.take_succ_cons, List.take_zero]
    repeat still_step
    refine wpStill_nil (hK _ ?_)
    clear hK
    simp only [List.drop_succ_cons, List.drop_zero] at hT
    subst hT
    go_wp2_with fail
    refine hdo.mono ?_
    clear hdo
    rintro e w3 ⟨a3, c3, rfl, hl3, hU3, hM3⟩
    have hMW : Mod (· = lb) W w3 := ((Mod.refl _ W).drew).trans hM3
    obtain ⟨g0, g1, g2, g3, g4, g5, g6, g7, f0, f1, f2, f3, f4, f5, f6, f7⟩ := HX.out.far hMW (by omega)
    have HU3 := Lib.hid (show RLayAt (fun k => D k = 17 ∨ W.heap.size ≤ k) w3 lb rl from hU3)
    have HL3 := Lib.hid (show ListsAt (From W.heap.size) w3 a3 ra.p.chains from hl3)
    have HMW := Lib.hid hMW
    clear hU3 hM3 hMW hl3
    go_wp2_with fail
    refine bodyPost_ret (v := ansL ra a3 c3) (by simp only [results, Tryz.results13, ansL]; go_simp) rfl ?_
    refine ⟨a3, c3, rfl, (HL3.out.mod (F := (· = rb)) (by (repeat' (first | (with_reducible exact (Mod.refl _ _)) | (with_reducible apply Mod.drew) | (with_reducible apply Mod.drewN) | (with_reducible apply Mod.alloc) | (with_reducible apply Mod.setCellAt) | (intro _; first | rfl | exact Or.inl rfl | exact Or.inr rfl) | (intro h; exfalso; omega)))) (fun k hk _ e => ?_)).sub (fun k _ hk => ?_), (HU3.out.mod (F := (· = rb)) (by (repeat' (first | (with_reducible exact (Mod.refl _ _)) | (with_reducible apply Mod.drew) | (with_reducible apply Mod.drewN) | (with_reducible apply Mod.alloc) | (with_reducible apply Mod.setCellAt) | (intro _; first | rfl | exact Or.inl rfl | exact Or.inr rfl) | (intro h; exfalso; omega)))) (fun k hk _ e => ?_)).sub (fun k _ hk => hk.imp id (fun h => by omega)), ?_⟩
    · have hk : W.heap.size ≤ k := hk
      omega
    · have hk : W.heap.size ≤ k := hk
      show w.heap.size ≤ k
      omega
    · rcases hk with hk | hk
      · have := HDL.out k hk; omega
      · omega
    · refine (mod_none (Mod.of_below HX.out.below)).trans' (show Mod (fun k => k = rb ∨ k = lb) W _ from ?_) (fun j hj e => ?_)
      · repeat (with_reducible refine Mod.setCellAt ?_ (fun _ => Or.inl rfl) _)
        exact HMW.out.mono (fun _ _ h => Or.inr h)
      · rcases e with e | e
        · omega
        · exact e
end
end Go.Proofs.YtnojjohkpkmliaaGreat
