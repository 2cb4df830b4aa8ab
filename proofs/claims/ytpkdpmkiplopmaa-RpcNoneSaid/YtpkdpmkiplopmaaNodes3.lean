import Derived.Test.YtpkdpmkiplopmaaNodes2
/- all nodes together: the sequencer, the layout -/
namespace Go.Proofs.Ytpkdpmkiplopmaa
open Go.RowKit Esch

variable {w : World} {nb g cap ob lb lm T : Nat} {ub pb mb D : Nat → Nat} {s : NdS}
section
variable (x1 x2 x3 x4 x5 x7 : Int) (d : ByteArray) (ca : Option Addr) (cn cc : Nat)
set_option maxRecDepth 100000 in
set_option maxHeartbeats 2000000 in
theorem rpcDo_ord (h : NodesAt w nb g cap ob lb lm T ub pb mb D s) (k : Int) (hk : k = 6 ∨ k = 7 ∨ k = 8) :
    Calls Try.prog 30 #[.pointer (some ⟨nb, 0, none⟩), .agg #[.int .i64 k, .int .i64 x1, .int .i64 x2, .int .i64 x3, .int .i64 x4, .int .i64 x5, .string d, .int .i64 x7, .slice ca cn cc]] w
    (AnsPost w ob (ordDo s.o k x2 x3).1 (ordDo s.o k x2 x3).2.1 (ordDo s.o k x2 x3).2.2.epoch (ordDo s.o k x2 x3).2.2) := by
  obtain ⟨W, hW, ab, rb, hab, hrb, hX⟩ : ∃ W, W = _ ∧ ∃ ab rb, ab = w.heap.size ∧ rb = w.heap.size + 1 ∧ Boxed2 w W ab rb (.int .i64 k) (.int .i64 x1) (.int .i64 x2) (.int .i64 x3) (.int .i64 x4) (.int .i64 x5) (.string d) (.int .i64 x7) (.slice ca cn cc) := ⟨_, rfl, _, _, rfl, rfl, boxed2 w _ _ _ _ _ _ _ _ _⟩
  have hak := asked_ord x1 x2 x3 x4 x5 x7 d ca cn cc (h.below hX.below) k hk
  have hdo := fun W' (hW' : Mod none' w W') => ordDo_any x1 x2 x3 x4 x5 d x7 ca cn cc k W' ob s.o h.ook (h.ord.mod (F := none') hW' id)
  have hu0 := h.ord.lt
  unfold AnsPost at hdo ⊢
  generalize hr : ordDo s.o k x2 x3 = r at hdo ⊢
  obtain ⟨yc, yn, us⟩ := r
  have HW := Lib.hid hW
  have HA := Lib.hid hab
  have HR := Lib.hid hrb
  have HX := Lib.hid hX
  have hzW := hX.size
  have hrb2 := hX.brb
  clear h hW hab hrb hX hr
  go_enter Try.func30, Try.ntmps30
  go_wp2_with fail
  rw [← HW.out, ← HR.out, ← HA.out]
  refine hak.mono ?_
  clear hak
  rintro e w1 ⟨rfl, hM1⟩
  have q0 := hM1.at HX.out.q0 id
  have q1 := hM1.at HX.out.q1 id
  have q2 := hM1.at HX.out.q2 id
  have q3 := hM1.at HX.out.q3 id
  have q4 := hM1.at HX.out.q4 id
  have q5 := hM1.at HX.out.q5 id
  have q6 := hM1.at HX.out.q6 id
  have q7 := hM1.at HX.out.q7 id
  have q8 := hM1.at HX.out.q8 id
  have HM1 := Lib.hid hM1
  clear hM1
  go_wp2_with fail
  refine (hdo w1 (by (repeat' (first | (with_reducible exact ((Mod.of_below HX.out.below).trans HM1.out)) | (with_reducible apply Mod.drew) | (with_reducible apply Mod.drewN) | (with_reducible apply Mod.alloc) | (with_reducible apply Mod.setCellAt) | (intro _; first | rfl | exact Or.inl rfl | exact Or.inr rfl) | (intro h; exfalso; omega))))).mono ?_
  clear hdo q0 q1 q2 q3 q4 q5 q6 q7 q8
  rintro e w4 ⟨rfl, hU4, hM4'⟩
  have hM4 := (mod_none HM1.out).trans hM4'
  obtain ⟨g0, g1, g2, g3, g4, g5, g6, g7, f0, f1, f2, f3, f4, f5, f6, f7⟩ := HX.out.far hM4 (by omega)
  have HU4 := Lib.hid hU4
  have HM4 := Lib.hid hM4
  clear hU4 hM4 hM4'
  simp only [ansV]
  go_wp2_with fail
  refine bodyPost_ret (v := ansV yc yn us.epoch) (by simp only [results, Try.results30, ansV]; go_simp) rfl ?_
  refine ⟨rfl, HU4.out.mod (F := (· = rb)) (by (repeat' (first | (with_reducible exact (Mod.refl _ _)) | (with_reducible apply Mod.drew) | (with_reducible apply Mod.drewN) | (with_reducible apply Mod.alloc) | (with_reducible apply Mod.setCellAt) | (intro _; first | rfl | exact Or.inl rfl | exact Or.inr rfl) | (intro h; exfalso; omega)))) (by omega), ?_⟩
  refine (mod_none (Mod.of_below HX.out.below)).trans' (show Mod (fun j => j = rb ∨ j = ob) W _ from ?_) (fun j hj e => ?_)
  · repeat' (first | (with_reducible exact HM4.out.mono (fun _ _ h => Or.inr h)) | (with_reducible apply Mod.setCellAt) | (with_reducible apply Mod.drew) | (intro _; exact Or.inl rfl))
  · rcases e with e | e
    · omega
    · exact e
set_option maxRecDepth 100000 in
set_option maxHeartbeats 2000000 in
theorem rpcDo_lay (q : Proj) (h : NodesAt w nb g cap ob lb lm T ub pb mb D s) (hT : T ≤ 1000000000) (S' : Nat → Prop) (hq : ListsAt S' w ca q.chains) (hS : ∀ k, S' k → k < w.heap.size → D k ≠ 17) (k : Int) (hk : k = 9 ∨ k = 10 ∨ k = 11) :
    Calls Try.prog 30 #[.pointer (some ⟨nb, 0, none⟩), .agg #[.int .i64 k, .int .i64 x1, .int .i64 x2, .int .i64 x3, .int .i64 x4, .int .i64 x5, .string d, .int .i64 q.epoch, .slice ca q.chains.length cc]] w
    (LayDoPost (fun k => D k = 17) w lb lm T (layDo s.l k q x3 x4 x5)) := by
  obtain ⟨W, hW, ab, rb, hab, hrb, hX⟩ : ∃ W, W = _ ∧ ∃ ab rb, ab = w.heap.size ∧ rb = w.heap.size + 1 ∧ Boxed2 w W ab rb (.int .i64 k) (.int .i64 x1) (.int .i64 x2) (.int .i64 x3) (.int .i64 x4) (.int .i64 x5) (.string d) (.int .i64 q.epoch) (.slice ca q.chains.length cc) := ⟨_, rfl, _, _, rfl, rfl, boxed2 w _ _ _ _ _ _ _ _ _⟩
  have hak := asked_lay x1 x2 x3 x4 x5 q.epoch d ca q.chains.length cc (h.below hX.below) k hk
  have hdo := fun W' (hW' : Mod none' w W') => layDo_any k x1 x2 x3 x4 x5 d q ca cc (fun k => D k = 17 ∧ k < w.heap.size) (fun k => S' k ∧ k < w.heap.size) W' lb lm T s.l h.lok hT ((h.lay.sub (fun k hk h => ⟨h, hk⟩)).mod (F := none') hW' (fun _ _ _ => id)) ((hq.sub (fun k hk h => ⟨h, hk⟩)).mod (F := none') hW' (fun _ _ _ => id)) (fun k hk _ => ⟨fun e => hS k hk.1 hk.2 (by rw [e]; exact h.lay.sb), fun e => hS k hk.1 hk.2 (by rw [e]; exact h.lay.sm)⟩)
  have hu0 := h.lay.lt
  have hu1 := h.lay.map.lt
  unfold LayDoPost at hdo ⊢
  generalize hr : layDo s.l k q x3 x4 x5 = r at hdo ⊢
  obtain ⟨ra, us⟩ := r
  have HW := Lib.hid hW
  have HA := Lib.hid hab
  have HR := Lib.hid hrb
  have HX := Lib.hid hX
  have hzW := hX.size
  have hrb2 := hX.brb
  clear h hW hab hrb hX hr hq hS
  go_enter Try.func30, Try.ntmps30
  go_wp2_with fail
  rw [← HW.out, ← HR.out, ← HA.out]
  refine hak.mono ?_
  clear hak
  rintro e w1 ⟨rfl, hM1⟩
  have q0 := hM1.at HX.out.q0 id
  have q1 := hM1.at HX.out.q1 id
  have q2 := hM1.at HX.out.q2 id
  have q3 := hM1.at HX.out.q3 id
  have q4 := hM1.at HX.out.q4 id
  have q5 := hM1.at HX.out.q5 id
  have q6 := hM1.at HX.out.q6 id
  have q7 := hM1.at HX.out.q7 id
  have q8 := hM1.at HX.out.q8 id
  have HM1 := Lib.hid hM1
  clear hM1
  go_wp2_with fail
  refine (hdo w1 (by (repeat' (first | (with_reducible exact ((Mod.of_below HX.out.below).trans HM1.out)) | (with_reducible apply Mod.drew) | (with_reducible apply Mod.drewN) | (with_reducible apply Mod.alloc) | (with_reducible apply Mod.setCellAt) | (intro _; first | rfl | exact Or.inl rfl | exact Or.inr rfl) | (intro h; exfalso; omega))))).mono ?_
  clear hdo q0 q1 q2 q3 q4 q5 q6 q7 q8
  rintro e w4 ⟨a4, c4, rfl, hl4, hU4, hM4'⟩
  have hM4 := (mod_none HM1.out).trans hM4'
  obtain ⟨g0, g1, g2, g3, g4, g5, g6, g7, f0, f1, f2, f3, f4, f5, f6, f7⟩ := HX.out.far hM4 (by omega)
  have hz1 := HM1.out.size
  have HU4 := Lib.hid hU4
  have HM4 := Lib.hid hM4
  have HL4 := Lib.hid hl4
  clear hU4 hM4 hM4' hl4
  simp only [ansL]
  go_wp2_with fail
  refine bodyPost_ret (v := ansL ra a4 c4) (by simp only [results, Try.results30, ansL]; go_simp) rfl ?_
  refine ⟨a4, c4, rfl, (HL4.out.mod (F := (· = rb)) (by (repeat' (first | (with_reducible exact (Mod.refl _ _)) | (with_reducible apply Mod.drew) | (with_reducible apply Mod.drewN) | (with_reducible apply Mod.alloc) | (with_reducible apply Mod.setCellAt) | (intro _; first | rfl | exact Or.inl rfl | exact Or.inr rfl) | (intro h; exfalso; omega)))) (fun k hk _ e => ?_)).sub (fun k _ hk => ?_), (HU4.out.mod (F := (· = rb)) (by (repeat' (first | (with_reducible exact (Mod.refl _ _)) | (with_reducible apply Mod.drew) | (with_reducible apply Mod.drewN) | (with_reducible apply Mod.alloc) | (with_reducible apply Mod.setCellAt) | (intro _; first | rfl | exact Or.inl rfl | exact Or.inr rfl) | (intro h; exfalso; omega)))) (fun k hk _ e => ?_)).sub (fun k _ hk => ?_), ?_⟩
  · have hk : w1.heap.size ≤ k := hk
    omega
  · have hk : w1.heap.size ≤ k := hk
    show w.heap.size ≤ k
    omega
  · rcases hk with hk | hk
    · have := hk.2; omega
    · omega
  · rcases hk with hk | hk
    · exact Or.inl hk.1
    · exact Or.inr (by omega)
  · refine (mod_none (Mod.of_below HX.out.below)).trans' (show Mod (fun j => j = rb ∨ j = lb ∨ j = lm) W _ from ?_) (fun j hj e => ?_)
    · repeat' (first | (with_reducible exact HM4.out.mono (fun _ _ h => Or.inr h)) | (with_reducible apply Mod.setCellAt) | (with_reducible apply Mod.drew) | (intro _; exact Or.inl rfl))
    · rcases e with e | e
      · omega
      · exact e
/-- the nodes behind a question to the layout -/
theorem NodesAt.afterLay {w' : World} {r : LayA × LayS} (h : NodesAt w nb g cap ob lb lm T ub pb mb D s) (hok : r.2.ok) (hL : LayAt (fun k => D k = 17 ∨ w.heap.size ≤ k) w' lb lm (T + 16) r.2) (hM : Mod (fun j => j = lb ∨ j = lm) w w') :
    NodesAt w' nb g cap ob lb lm (T + 16) ub pb mb (fun k => if k < w.heap.size then D k else 17) { s with l := r.2 } := h.setLay hL hok hM
end
end Go.Proofs.Ytpkdpmkiplopmaa
