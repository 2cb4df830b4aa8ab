/- the document's hand: a question that is held -/
import Derived.Test.YtnojjohkpkmliaaGreatRHand
import Derived.Deep.RegionHeld3
namespace Go.Proofs.YtnojjohkpkmliaaGreat
open Go.RowKit Esch

theorem heap_two_last (W : World) (o o' : Obj) : ((W.alloc o).alloc o').heap[W.heap.size + 1]? = some o' := by
  have := heap_alloc_new (W.alloc o) o'
  simpa only [World.size_alloc] using this
theorem heap_two_first (W : World) (o o' : Obj) : ((W.alloc o).alloc o').heap[W.heap.size]? = some o := (Below.heap_alloc _ _ _ (by simp only [World.size_alloc]; omega)).trans (heap_alloc_new _ _)
theorem two_lt (W : World) (o o' : Obj) : W.heap.size < ((W.alloc o).alloc o').heap.size ∧ W.heap.size + 1 < ((W.alloc o).alloc o').heap.size := by simp only [World.size_alloc]; omega
theorem src_at {P : Program} {W : World} (tx e' : TypeId) (hk : P.underlying tx = some (.slice e')) (b : Nat) (e : HeldQ) (t : TypeId) (hb : W.heap[b]? = some (.cells e.cells.toArray t)) (c : Nat) : Src P 9 tx (.slice (some ⟨b, 0, none⟩) 1 c) 1 e.cells W := src_new tx e' hk b e t hb c
theorem RHIn.setRow {w0 W w8 : World} {rb qb T n cap cap' : Nat} {Rn V R : Nat → Prop} {ao ao' : Option Addr} {es es' : List HeldQ} {s : HdS} (h : RHIn w0 W rb qb Rn V ao cap es T s) (hR : ∀ k, Rn k ∨ V k ∨ k = rb → R k) (hl : ∀ k, R k → k < W.heap.size ∧ w0.heap.size ≤ k) (hB : Below W.heap.size W w8)
    (hg : GRowAt w8 (From W.heap.size) 9 n cap' ao' (heldCells es')) (hn : n = es'.length) (hes : ∀ e ∈ es', ListsAt (Old w0) w0 e.a e.q.p.chains ∧ e.q.data.size ≤ 9223372036854775807) (hm : es'.length ≤ 64) :
    RHAt w0 (w8.setCell ⟨rb, 1, none⟩ (.slice ao' n cap')) rb (grow R W w8) T { s with held := es'.map (·.q) } ∧ Mod (· = rb) W (w8.setCell ⟨rb, 1, none⟩ (.slice ao' n cap')) := by
  subst hn
  have hz := hB.size
  have hz0 := h.below.size
  have hbl := cell_lt h.c0
  have d0 := below_at hB h.c0 hbl
  have d1 := below_at hB h.c1 hbl
  have df := (hB.frozen (p := ⟨rb, 1, none⟩) hbl).trans h.f1
  have hM : Mod (· = rb) w8 (w8.setCell ⟨rb, 1, none⟩ (.slice ao' es'.length cap')) := (Mod.refl (· = rb) w8).setCellAt (fun _ => rfl) _
  have hrb := h.old rb (Or.inr (Or.inr rfl))
  refine ⟨⟨⟨qb, Rn, fun k => W.heap.size ≤ k ∧ k < w8.heap.size, ao', cap', es', ⟨by go_simp, by go_simp, by go_simp, (h.nd.mod (F := none') (Mod.of_below hB) (fun _ _ => id)).mod hM (fun k hk e => h.hu (by subst e; exact hk)), ?_, rfl, hes, fun k hk hr => ?_, h.hu, fun hk => by omega, fun k hk => by simpa using hk.2, fun k hk => ?_, hm, (h.below.trans (hB.mono hz0)).setCell hrb _⟩, fun k hk => ?_⟩, fun k hk => ?_⟩, (Mod.of_below (F := (· = rb)) hB).trans hM⟩
  · refine (hg.mod hM (fun k hk _ e => ?_)).sub (fun k hkl hk => ⟨hk, by simpa using hkl⟩)
    have hk : W.heap.size ≤ k := hk
    omega
  · have := h.nd.lt k hr; omega
  · rcases hk with hk | hk | hk
    · exact h.old k (Or.inl hk)
    · omega
    · omega
  · rcases hk with hk | hk | hk
    · exact Or.inl (hR k (Or.inl hk))
    · exact Or.inr hk
    · exact Or.inl (hR k (Or.inr (Or.inr hk)))
  · simp only [World.size_setCell]
    rcases hk with hk | hk
    · have := hl k hk; omega
    · omega
section
variable {w0 w : World} {rb T : Nat} {R : Nat → Prop} {s : HdS} (q : QS) (ca : Option Addr) (cc : Nat)
set_option linter.unusedSimpArgs false in
set_option maxRecDepth 100000 in
set_option maxHeartbeats 8000000 in
theorem rHask_held (h : RHAt w0 w rb R T s) (hm : s.held.length < 64) (hd : q.data.size ≤ 9223372036854775807) (hq : ListsAt (Old w0) w0 ca q.p.chains) :
    Calls Tryz.prog 19 #[.pointer (some ⟨rb, 0, none⟩), qV q ca cc, .int .i64 3] w (RHPost w0 w rb R T ((an0, false), { s with held := s.held ++ [q] })) := by
  obtain ⟨qk, qu, qe, qp, qs, qn, qd, ⟨qpe, qls⟩⟩ := q
  simp only [qV] at hq hd ⊢
  obtain ⟨W, hW, ab, xb, hab, hxb, hX⟩ : ∃ W, W = _ ∧ ∃ ab xb, ab = w.heap.size ∧ xb = w.heap.size + 1 ∧ BoxedH w W ab xb (.int .i64 qk) (.int .i64 qu) (.int .i64 qe) (.int .i64 qp) (.int .i64 qs) (.int .i64 qn) (.string qd) (.int .i64 qpe) (.slice ca qls.length cc) := ⟨_, rfl, _, _, rfl, rfl, boxedH w _ _ _ _ _ _ _ _ _⟩
  have HW := Lib.hid hW
  have HA := Lib.hid hab
  have HXB := Lib.hid hxb
  obtain ⟨⟨qb, Rn, V, ao, cap, es, hI, hR⟩, hlt⟩ := h
  have hIW := hI.mod (F := none') (Mod.of_below hX.below) (fun _ _ => id)
  have c1 := hIW.c1
  have c1w := hI.c1
  have hbw := cell_lt hI.c0
  have f1 := hIW.f1
  have hlen : es.length = s.held.length := by rw [← hI.held, List.length_map]
  have hes : es.length < 64 := by omega
  have e4 : decide ((es.length : Int) < 64) = true := decide_eq_true (by omega)
  have q0 := hX.q0
  have q1 := hX.q1
  have q2 := hX.q2
  have q3 := hX.q3
  have q4 := hX.q4
  have q5 := hX.q5
  have q6 := hX.q6
  have q7 := hX.q7
  have q8 := hX.q8
  have hbl := cell_lt hIW.c0
  obtain ⟨j0, hi, hy0, hy1, hy2⟩ := info_parts (show (Tryz.prog.info? 42).map (fun i => (i.zero, i.size, i.bytes)) = some (some (.agg #[.int .i64 0, .int .i64 0, .int .i64 0, .int .i64 0, .int .i64 0, .int .i64 0, .string ⟨#[]⟩, .int .i64 0, .slice none 0 0]), 9, 96) by kernel_rfl)
  have HS := Lib.hid (show ∀ W', Mod none' W W' → Src Tryz.prog 9 25 (.slice ao es.length cap) es.length (heldCells es) W' from fun W' hM => (hIW.row.mod hM (fun _ _ _ => id)).src Tryz.underlying25 (heldCells_one es))
  have hSW : Hid (∀ W', Mod none' W W' → W'.cell? ⟨rb, 1, none⟩ = some (.slice ao es.length cap) ∧ W'.frozen? ⟨rb, 1, none⟩ = false ∧ W'.cell? ⟨ab, 0, none⟩ = some (.int .i64 qk) ∧ W'.cell? ⟨ab, 1, none⟩ = some (.int .i64 qu) ∧ W'.cell? ⟨ab, 2, none⟩ = some (.int .i64 qe) ∧ W'.cell? ⟨ab, 3, none⟩ = some (.int .i64 qp) ∧ W'.cell? ⟨ab, 4, none⟩ = some (.int .i64 qs) ∧ W'.cell? ⟨ab, 5, none⟩ = some (.int .i64 qn) ∧ W'.cell? ⟨ab, 6, none⟩ = some (.string qd) ∧ W'.cell? ⟨ab, 7, none⟩ = some (.int .i64 qpe) ∧ W'.cell? ⟨ab, 8, none⟩ = some (.slice ca qls.length cc)) := Lib.hid (fun W' hM => ⟨hM.at c1 id, (hM.frozen (p := ⟨rb, 1, none⟩) hbl id).trans f1, hM.at q0 id, hM.at q1 id, hM.at q2 id, hM.at q3 id, hM.at q4 id, hM.at q5 id, hM.at q6 id, hM.at q7 id, hM.at q8 id⟩)
  have HI := Lib.hid hI
  have HIW := Lib.hid hIW
  have HR := Lib.hid hR
  have HLT := Lib.hid hlt
  have HX := Lib.hid hX
  have HQ := Lib.hid hq
  have HHE := Lib.hid (show s.held ++ [(⟨qk, qu, qe, qp, qs, qn, qd, ⟨qpe, qls⟩⟩ : QS)] = (es ++ [(⟨⟨qk, qu, qe, qp, qs, qn, qd, ⟨qpe, qls⟩⟩, ca, cc⟩ : HeldQ)]).map (fun e => e.q) by rw [List.map_append, hI.held]; rfl)
  have HzW := Lib.hid hX.size
  have hal := hX.bab.2
  have Hxb2 := Lib.hid hX.bxb
  clear hW hab hxb hX hI hIW hR hlt hq hlen hm
  go_enter Tryz.func19, Tryz.ntmps19
  go_wp2_with fail
  rw [← HW.out, ← HXB.out, ← HA.out]
  clear c1w
  have c1d : W.drew.cell? ⟨rb, 1, none⟩ = some (.slice ao es.length cap) := c1
  go_region_law
    (first
      | (refine step_append_g (by rfl) (.tmp 34) (.tmp 38) 25 25 (by rfl) 42 j0 _ 96 Tryz.underlying25 hi hy0 hy1 hy2 (by rfl) (by rfl) (GRowAt.nil _ none' 9 _) _ es.length (heldCells es) (by rfl) (HS.out _ (by (repeat' (first | (with_reducible exact (Mod.refl _ _)) | (with_reducible apply Mod.drew) | (with_reducible apply Mod.drewN) | (with_reducible apply Mod.alloc) | (with_reducible apply Mod.setCellAt) | (intro _; first | rfl | exact Or.inl rfl | exact Or.inr rfl) | (intro h; exfalso; omega))))) (by omega) (by omega) ?_
         intro a6 cap6 w6 hg6 hM6 hz6
         simp only [Nat.zero_add, List.nil_append] at hg6
         have hMW6 : Mod none' W w6 := Mod.trans (by (repeat' (first | (with_reducible exact (Mod.refl _ _)) | (with_reducible apply Mod.drew) | (with_reducible apply Mod.drewN) | (with_reducible apply Mod.alloc) | (with_reducible apply Mod.setCellAt) | (intro _; first | rfl | exact Or.inl rfl | exact Or.inr rfl) | (intro h; exfalso; omega)))) hM6
         have c16 := hMW6.at c1 id
         have f16 := (hMW6.frozen (p := ⟨rb, 1, none⟩) hbl id).trans f1
         have hz6' := hMW6.size
         have hbl6 : rb < w6.heap.size := Nat.lt_of_lt_of_le hbl hMW6.size
         have hal6 : ab < w6.heap.size := Nat.lt_of_lt_of_le hal hMW6.size
         have e0 := hMW6.at q0 id
         have e1 := hMW6.at q1 id
         have e2 := hMW6.at q2 id
         have e3 := hMW6.at q3 id
         have e4 := hMW6.at q4 id
         have e5 := hMW6.at q5 id
         have e6 := hMW6.at q6 id
         have e7 := hMW6.at q7 id
         have e8 := hMW6.at q8 id)
      | (refine step_append_g (by rfl) (.tmp 39) (.tmp 41) 25 25 (by rfl) 42 j0 _ 96 Tryz.underlying25 hi hy0 hy1 hy2 (by rfl) (by rfl) (hg6.mod (F := none') (by (repeat' (first | (with_reducible exact (Mod.refl _ _)) | (with_reducible apply Mod.drew) | (with_reducible apply Mod.drewN) | (with_reducible apply Mod.alloc) | (with_reducible apply Mod.setCellAt) | (intro _; first | rfl | exact Or.inl rfl | exact Or.inr rfl) | (intro h; exfalso; omega)))) (fun _ _ _ => id)) _ 1 (HeldQ.cells ⟨⟨qk, qu, qe, qp, qs, qn, qd, ⟨qpe, qls⟩⟩, ca, cc⟩) (by rfl) (src_new _ _ Tryz.underlying25 _ ⟨⟨qk, qu, qe, qp, qs, qn, qd, ⟨qpe, qls⟩⟩, ca, cc⟩ 42 (by first | exact heap_alloc_new _ _ | exact (hM6.block _ (two_lt _ _ _).2 id).trans (heap_two_last _ _ _) | exact (hM6.block _ (two_lt _ _ _).1 id).trans (heap_two_first _ _ _)) _) (by omega) (by omega) ?_
         intro a8 cap8 w8 hg8 hM8 hz8
         have hB8 : Below W.heap.size W w8 := Below.trans (show Below W.heap.size W _ from by
           have hB6 := hMW6.below
           (repeat (first | with_reducible exact hB6 | with_reducible refine Below.drew ?_ | with_reducible refine Esch.below_drewN ?_ _ | with_reducible refine Below.setCell ?_ (by first | omega | (simp; done) | (simp; omega)) _ | with_reducible refine Below.alloc ?_ (by first | omega | (simp; done) | (simp; omega)) _))) (hM8.below_at (by first | exact hz6' | (simp only [World.size_alloc]; exact Nat.le_trans hz6' (by omega)) | (simp; omega)) (fun k hk e => by
           rcases e with e | e
           · exact e
           · simp at e; omega))
         have c18 := below_at hB8 c1 hbl
         have f18 := (hB8.frozen (p := ⟨rb, 1, none⟩) hbl).trans f1)
      | fail)
  all_goals
    have hrw : rb < w.heap.size := cell_lt HI.out.c0
    have hzz := HzW.out
    have hxx := Hxb2.out
    have hgE : GRowAt w8 (From W.heap.size) 9 (es.length + 1) cap8 a8 (heldCells (es ++ [⟨⟨qk, qu, qe, qp, qs, qn, qd, ⟨qpe, qls⟩⟩, ca, cc⟩])) := by
      have := hg8.sub (T := From W.heap.size) (fun k _ hk => by
        show W.heap.size ≤ k
        rcases hk with (hk | hk) | hk
        · exact hk.elim
        · first
            | omega
            | (simp at hk; omega)
        · first
            | omega
            | (simp at hk; omega))
      rw [heldCells_append]
      simpa [heldCells] using this
    obtain ⟨hS, hMS⟩ := HIW.out.setRow HR.out (fun k hk => by have := HLT.out k hk; omega) hB8 hgE (by simp) (fun e he => by
      rcases List.mem_append.1 he with he | he
      · exact HI.out.each e he
      · rw [List.mem_singleton.1 he]; exact ⟨HQ.out, hd⟩) (by simp; omega)
    obtain ⟨w9, hw9⟩ : ∃ w9, w9 = w8.setCell ⟨rb, 1, none⟩ (.slice a8 (es.length + 1) cap8) := ⟨_, rfl⟩
    have hz89 : w9.heap.size = w8.heap.size := by rw [hw9, World.size_setCell]
    rw [← hw9] at hS hMS ⊢
    have hnx : ¬ xb = rb := by omega
    obtain ⟨y0, gy0⟩ := Option.isSome_iff_exists.1 HX.out.r0
    replace gy0 := hMS.at gy0 hnx
    have gf0 := (hMS.frozen (p := ⟨xb, 0, none⟩) hxx.2 hnx).trans HX.out.f0
    obtain ⟨y1, gy1⟩ := Option.isSome_iff_exists.1 HX.out.r1
    replace gy1 := hMS.at gy1 hnx
    have gf1 := (hMS.frozen (p := ⟨xb, 1, none⟩) hxx.2 hnx).trans HX.out.f1
    obtain ⟨y2, gy2⟩ := Option.isSome_iff_exists.1 HX.out.r2
    replace gy2 := hMS.at gy2 hnx
    have gf2 := (hMS.frozen (p := ⟨xb, 2, none⟩) hxx.2 hnx).trans HX.out.f2
    obtain ⟨y3, gy3⟩ := Option.isSome_iff_exists.1 HX.out.r3
    replace gy3 := hMS.at gy3 hnx
    have gf3 := (hMS.frozen (p := ⟨xb, 3, none⟩) hxx.2 hnx).trans HX.out.f3
    obtain ⟨y4, gy4⟩ := Option.isSome_iff_exists.1 HX.out.r4
    replace gy4 := hMS.at gy4 hnx
    have gf4 := (hMS.frozen (p := ⟨xb, 4, none⟩) hxx.2 hnx).trans HX.out.f4
    obtain ⟨y5, gy5⟩ := Option.isSome_iff_exists.1 HX.out.r5
    replace gy5 := hMS.at gy5 hnx
    have gf5 := (hMS.frozen (p := ⟨xb, 5, none⟩) hxx.2 hnx).trans HX.out.f5
    obtain ⟨y6, gy6⟩ := Option.isSome_iff_exists.1 HX.out.r6
    replace gy6 := hMS.at gy6 hnx
    have gf6 := (hMS.frozen (p := ⟨xb, 6, none⟩) hxx.2 hnx).trans HX.out.f6
    obtain ⟨y7, gy7⟩ := Option.isSome_iff_exists.1 HX.out.r7
    replace gy7 := hMS.at gy7 hnx
    have gf7 := (hMS.frozen (p := ⟨xb, 7, none⟩) hxx.2 hnx).trans HX.out.f7
    obtain ⟨y8, gy8⟩ := Option.isSome_iff_exists.1 HX.out.r8
    replace gy8 := hMS.at gy8 hnx
    have gf8 := (hMS.frozen (p := ⟨xb, 8, none⟩) hxx.2 hnx).trans HX.out.f8
    have HS9 := Lib.hid hS
    have HMS := Lib.hid hMS
    have HZ := Lib.hid (show W.heap.size ≤ w9.heap.size ∧ w9.heap.size = w8.heap.size ∧ rb < w.heap.size ∧ W.heap.size = w.heap.size + 2 ∧ w.heap.size ≤ xb ∧ xb < W.heap.size from ⟨hMS.size, hz89, hrw, hzz, hxx⟩)
    clear hw9 hS hMS hgE hg8 hM8 hB8 hg6 hM6 hMW6 c16 f16 c18 f18 e0 e1 e2 e3 e4 e5 e6 e7 e8 q0 q1 q2 q3 q4 q5 q6 q7 q8 c1 f1 c1d hzz hxx hz89 hrw
    go_wp2_with fail
    refine bodyPost_ret (v := hV an0 false none 0) (by simp only [results, Tryz.results19, hV]; go_simp; exact ⟨rfl, rfl⟩) rfl ?_
    have hz := HZ.out
    have hb0 := HI.out.below.size
    refine ⟨none, 0, rfl, ListsAt.nil _ _ _, ?_, ?_⟩
    · show RHAt w0 _ rb _ _ { s with held := s.held ++ [⟨qk, qu, qe, qp, qs, qn, qd, ⟨qpe, qls⟩⟩] }
      rw [HHE.out]
      refine (HS9.out.mod (F := (· = xb)) (by (repeat' (first | (with_reducible exact (Mod.refl _ _)) | (with_reducible apply Mod.drew) | (with_reducible apply Mod.drewN) | (with_reducible apply Mod.alloc) | (with_reducible apply Mod.setCellAt) | (intro _; first | rfl | exact Or.inl rfl | exact Or.inr rfl) | (intro h; exfalso; omega)))) (fun k hk e => ?_) (fun k hk e => by omega)).wide (fun k hk => ?_) (fun k hk => ?_) (by omega)
      · rcases hk with hk | hk
        · have := HLT.out k hk; omega
        · omega
      · rcases hk with hk | hk
        · exact Or.inl hk
        · exact Or.inr ⟨by omega, by simp only [World.size_setCell]; omega⟩
      · rcases hk with hk | hk
        · have := HLT.out k hk; exact ⟨by simp only [World.size_setCell]; omega, this.2⟩
        · simp only [World.size_setCell] at hk ⊢
          omega
    · refine (mod_none (Mod.of_below HX.out.below)).trans' (show Mod (fun k => k = xb ∨ k = rb) W _ from ?_) (fun j hj e => ?_)
      · repeat (with_reducible refine Mod.setCellAt ?_ (fun _ => Or.inl rfl) _)
        exact HMS.out.mono (fun _ _ h => Or.inr h)
      · rcases e with e | e
        · omega
        · exact HR.out j (Or.inr (Or.inr e))
end
end Go.Proofs.YtnojjohkpkmliaaGreat
