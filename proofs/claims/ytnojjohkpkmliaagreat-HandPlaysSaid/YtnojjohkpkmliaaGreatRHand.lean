/- the document's hand: how it lies; a question that is heard, or deaf, or lost -/
import Derived.Test.YtnojjohkpkmliaaGreatRNodes4
import Derived.Test.YtnojjohkpkmliaaGreatPkHand
import Derived.Test.YtnojjohkpkmliaaGreatOld
namespace Go.Proofs.YtnojjohkpkmliaaGreat
open Go.RowKit Esch

structure RHIn (w0 w : World) (rb qb : Nat) (Rn V : Nat → Prop) (ao : Option Addr) (cap : Nat) (es : List HeldQ) (T : Nat) (s : HdS) : Prop where
  c0 : w.cell? ⟨rb, 0, none⟩ = some (.pointer (some ⟨qb, 0, none⟩))
  c1 : w.cell? ⟨rb, 1, none⟩ = some (.slice ao es.length cap)
  f1 : w.frozen? ⟨rb, 1, none⟩ = false
  nd : RNd w qb Rn T s.nd
  row : GRowAt w V 9 es.length cap ao (heldCells es)
  held : es.map (·.q) = s.held
  each : ∀ e ∈ es, ListsAt (Old w0) w0 e.a e.q.p.chains ∧ e.q.data.size ≤ 9223372036854775807
  apart : ∀ k, V k → ¬ Rn k
  hu : ¬ Rn rb
  hv : ¬ V rb
  vlt : ∀ k, V k → k < w.heap.size
  old : ∀ k, Rn k ∨ V k ∨ k = rb → w0.heap.size ≤ k
  most : es.length ≤ 64
  below : Below w0.heap.size w0 w
structure RHAt (w0 w : World) (rb : Nat) (R : Nat → Prop) (T : Nat) (s : HdS) : Prop where
  at' : ∃ qb Rn V ao cap es, RHIn w0 w rb qb Rn V ao cap es T s ∧ ∀ k, Rn k ∨ V k ∨ k = rb → R k
  lt : ∀ k, R k → k < w.heap.size ∧ w0.heap.size ≤ k
section
variable {w0 w : World} {rb T : Nat} {R : Nat → Prop} {s : HdS}
theorem RHIn.mod {F Rn V : Nat → Prop} {w' : World} {qb cap : Nat} {ao : Option Addr} {es : List HeldQ} (h : RHIn w0 w rb qb Rn V ao cap es T s) (hM : Mod F w w') (hF : ∀ k, Rn k ∨ V k ∨ k = rb ∨ k < w0.heap.size → ¬ F k) : RHIn w0 w' rb qb Rn V ao cap es T s := by
  have hb := hF rb (Or.inr (Or.inr (Or.inl rfl)))
  exact ⟨hM.at h.c0 hb, hM.at h.c1 hb, (hM.frozen (p := ⟨rb, 1, none⟩) (cell_lt h.c0) hb).trans h.f1, h.nd.mod hM (fun k hk => hF k (Or.inl hk)), h.row.mod hM (fun k hk _ => hF k (Or.inr (Or.inl hk))), h.held, h.each, h.apart, h.hu, h.hv, fun k hk => Nat.lt_of_lt_of_le (h.vlt k hk) hM.size, h.old, h.most, h.below.trans (hM.below_at h.below.size (fun k hk => hF k (Or.inr (Or.inr (Or.inr hk)))))⟩
theorem RHAt.mod {F : Nat → Prop} {w' : World} (h : RHAt w0 w rb R T s) (hM : Mod F w w') (hF : ∀ k, R k → ¬ F k) (hw : ∀ k, k < w0.heap.size → ¬ F k) : RHAt w0 w' rb R T s := by
  obtain ⟨⟨qb, Rn, V, ao, cap, es, h1, h2⟩, hl⟩ := h
  exact ⟨⟨qb, Rn, V, ao, cap, es, h1.mod hM (fun k hk => by
    rcases hk with hk | hk | hk | hk
    · exact hF k (h2 k (Or.inl hk))
    · exact hF k (h2 k (Or.inr (Or.inl hk)))
    · exact hF k (h2 k (Or.inr (Or.inr hk)))
    · exact hw k hk), h2⟩, fun k hk => ⟨Nat.lt_of_lt_of_le (hl k hk).1 hM.size, (hl k hk).2⟩⟩
theorem RHAt.below {w' : World} (h : RHAt w0 w rb R T s) (hB : Below w.heap.size w w') : RHAt w0 w' rb R T s := h.mod (F := none') (Mod.of_below hB) (fun _ _ => id) (fun _ _ => id)
theorem RHAt.wide {R' : Nat → Prop} {T' : Nat} (h : RHAt w0 w rb R T s) (hR : ∀ k, R k → R' k) (hl : ∀ k, R' k → k < w.heap.size ∧ w0.heap.size ≤ k) (hT : T ≤ T') : RHAt w0 w rb R' T' s := by
  obtain ⟨⟨qb, Rn, V, ao, cap, es, h1, h2⟩, -⟩ := h
  exact ⟨⟨qb, Rn, V, ao, cap, es, { h1 with nd := h1.nd.sub (fun _ h => h) h1.nd.lt hT }, fun k hk => hR k (h2 k hk)⟩, hl⟩
theorem RHAt.grow {w1 : World} (h : RHAt w0 w rb R T s) (hz : w0.heap.size ≤ w1.heap.size) : RHAt w0 w rb (grow R w1 w) (T + 16) s :=
  h.wide (fun _ hk => Or.inl hk) (fun k hk => hk.elim (h.lt k) (fun h => ⟨h.2, by omega⟩)) (by omega)
theorem RHAt.base (h : RHAt w0 w rb R T s) : w0.heap.size ≤ w.heap.size := by
  obtain ⟨⟨qb, Rn, V, ao, cap, es, h1, h2⟩, -⟩ := h
  exact h1.below.size
/-- the nodes have done something -/
theorem RHIn.setNd {Rn V : Nat → Prop} {w' : World} {qb cap : Nat} {ao : Option Addr} {es : List HeldQ} {n : NdS} (h : RHIn w0 w rb qb Rn V ao cap es T s) (hR : ∀ k, Rn k ∨ V k ∨ k = rb → R k) (hl : ∀ k, R k → k < w.heap.size ∧ w0.heap.size ≤ k) (hn : RNd w' qb (Go.Proofs.YtnojjohkpkmliaaGreat.grow Rn w w') (T + 16) n) (hM : Mod Rn w w') : RHAt w0 w' rb (Go.Proofs.YtnojjohkpkmliaaGreat.grow R w w') (T + 16) { s with nd := n } := by
  have hz := hM.size
  have hz0 := h.below.size
  have hlb := cell_lt h.c0
  refine ⟨⟨qb, Go.Proofs.YtnojjohkpkmliaaGreat.grow Rn w w', V, ao, cap, es, ⟨hM.at h.c0 h.hu, hM.at h.c1 h.hu, (hM.frozen (p := ⟨rb, 1, none⟩) hlb h.hu).trans h.f1, hn, h.row.mod hM (fun k hk _ => h.apart k hk), h.held, h.each, fun k hk hg => ?_, fun hg => ?_, h.hv, fun k hk => Nat.lt_of_lt_of_le (h.vlt k hk) hz, fun k hk => ?_, h.most, h.below.trans (hM.below_at hz0 (fun k hk hr => by have := h.old k (Or.inl hr); omega))⟩, fun k hk => ?_⟩, fun k hk => ?_⟩
  · rcases hg with hg | hg
    · exact h.apart k hk hg
    · have := h.vlt k hk; omega
  · rcases hg with hg | hg
    · exact h.hu hg
    · omega
  · rcases hk with (hk | hk) | hk | hk
    · exact h.old k (Or.inl hk)
    · omega
    · exact h.old k (Or.inr (Or.inl hk))
    · exact h.old k (Or.inr (Or.inr hk))
  · rcases hk with (hk | hk) | hk | hk
    · exact Or.inl (hR k (Or.inl hk))
    · exact Or.inr hk
    · exact Or.inl (hR k (Or.inr (Or.inl hk)))
    · exact Or.inl (hR k (Or.inr (Or.inr hk)))
  · rcases hk with hk | hk
    · have := hl k hk; omega
    · omega
end
@[simp] def hV (x : AnS) (ok : Bool) (a : Option Addr) (c : Nat) : Value := .agg #[.int .i64 x.code, .int .i64 x.n, .string x.data, .int .i64 x.p.epoch, .slice a x.p.chains.length c, .int .i64 x.mark, .int .i64 x.size, .int .i64 x.epoch, .bool ok]
def RHPost (w0 w : World) (rb : Nat) (R : Nat → Prop) (T : Nat) (r : (AnS × Bool) × HdS) (e : Ending) (w' : World) : Prop := ∃ a c, e = .returned (hV r.1.1 r.1.2 a c) ∧ ListsAt (From w.heap.size) w' a r.1.1.p.chains ∧ RHAt w0 w' rb (grow R w w') (T + 16) r.2 ∧ Mod R w w'
def RHPostB (w0 w : World) (rb : Nat) (R : Nat → Prop) (T : Nat) (r : Bool × HdS) (e : Ending) (w' : World) : Prop := e = .returned (.bool r.1) ∧ RHAt w0 w' rb (grow R w w') (T + 16) r.2 ∧ Mod R w w'
theorem RHAt.post0 {w0 w w' : World} {rb T : Nat} {R : Nat → Prop} {s : HdS} (h : RHAt w0 w rb R T s) (hB : Below w.heap.size w w') {e : Ending} (he : e = .returned (hV an0 false none 0)) : RHPost w0 w rb R T ((an0, false), s) e w' :=
  ⟨none, 0, he, ListsAt.nil _ _ _, (h.below hB).grow h.base, Mod.of_below hB⟩
/-- the boxes of a question and of what is told -/
structure BoxedH (w W : World) (ab xb : Nat) (a0 a1 a2 a3 a4 a5 a6 a7 a8 : Value) : Prop where
  below : Below w.heap.size w W
  size : W.heap.size = w.heap.size + 2
  bab : w.heap.size ≤ ab ∧ ab < W.heap.size
  bxb : w.heap.size ≤ xb ∧ xb < W.heap.size
  ne : ab ≠ xb
  q0 : W.cell? ⟨ab, 0, none⟩ = some a0
  q1 : W.cell? ⟨ab, 1, none⟩ = some a1
  q2 : W.cell? ⟨ab, 2, none⟩ = some a2
  q3 : W.cell? ⟨ab, 3, none⟩ = some a3
  q4 : W.cell? ⟨ab, 4, none⟩ = some a4
  q5 : W.cell? ⟨ab, 5, none⟩ = some a5
  q6 : W.cell? ⟨ab, 6, none⟩ = some a6
  q7 : W.cell? ⟨ab, 7, none⟩ = some a7
  q8 : W.cell? ⟨ab, 8, none⟩ = some a8
  r0 : (W.cell? ⟨xb, 0, none⟩).isSome = true
  r1 : (W.cell? ⟨xb, 1, none⟩).isSome = true
  r2 : (W.cell? ⟨xb, 2, none⟩).isSome = true
  r3 : (W.cell? ⟨xb, 3, none⟩).isSome = true
  r4 : (W.cell? ⟨xb, 4, none⟩).isSome = true
  r5 : (W.cell? ⟨xb, 5, none⟩).isSome = true
  r6 : (W.cell? ⟨xb, 6, none⟩).isSome = true
  r7 : (W.cell? ⟨xb, 7, none⟩).isSome = true
  r8 : (W.cell? ⟨xb, 8, none⟩).isSome = true
  f0 : W.frozen? ⟨xb, 0, none⟩ = false
  f1 : W.frozen? ⟨xb, 1, none⟩ = false
  f2 : W.frozen? ⟨xb, 2, none⟩ = false
  f3 : W.frozen? ⟨xb, 3, none⟩ = false
  f4 : W.frozen? ⟨xb, 4, none⟩ = false
  f5 : W.frozen? ⟨xb, 5, none⟩ = false
  f6 : W.frozen? ⟨xb, 6, none⟩ = false
  f7 : W.frozen? ⟨xb, 7, none⟩ = false
  f8 : W.frozen? ⟨xb, 8, none⟩ = false
set_option maxHeartbeats 1000000 in
theorem boxedH (w : World) (a0 a1 a2 a3 a4 a5 a6 a7 a8 : Value) : BoxedH w ((w.alloc (.cells #[a0, a1, a2, a3, a4, a5, a6, a7, a8] 42)).alloc (.cells #[.int .i64 0, .int .i64 0, .string ⟨#[]⟩, .int .i64 0, .slice none 0 0, .int .i64 0, .int .i64 0, .int .i64 0, .bool false] 56)) w.heap.size (w.heap.size + 1) a0 a1 a2 a3 a4 a5 a6 a7 a8 := by
  constructor
  case below => (repeat (first | with_reducible exact (Below.refl _ _) | with_reducible refine Below.drew ?_ | with_reducible refine Esch.below_drewN ?_ _ | with_reducible refine Below.setCell ?_ (by first | omega | (simp; done) | (simp; omega)) _ | with_reducible refine Below.alloc ?_ (by first | omega | (simp; done) | (simp; omega)) _))
  case size => simp
  case bab => exact ⟨by omega, by first | (simp; done) | (simp; omega)⟩
  case bxb => exact ⟨by omega, by first | (simp; done) | (simp; omega)⟩
  case ne => omega
  all_goals go_simp
section
variable {w0 w : World} {rb T : Nat} {R : Nat → Prop} {s : HdS} (q : QS) (ca : Option Addr) (cc : Nat)
set_option maxRecDepth 100000 in
set_option maxHeartbeats 4000000 in
theorem rHask_heard (h : RHAt w0 w rb R T s) (hT : T ≤ 4000) (hd : q.data.size ≤ 9223372036854775807) (hq : ListsAt (Old w0) w0 ca q.p.chains) :
    Calls Tryz.prog 19 #[.pointer (some ⟨rb, 0, none⟩), qV q ca cc, .int .i64 0] w (RHPost w0 w rb R T (((s.nd.do q).1, true), { s with nd := (s.nd.do q).2 })) := by
  obtain ⟨qk, qu, qe, qp, qs, qn, qd, ⟨qpe, qls⟩⟩ := q
  simp only [qV] at hq hd ⊢
  obtain ⟨W, hW, ab, xb, hab, hxb, hX⟩ : ∃ W, W = _ ∧ ∃ ab xb, ab = w.heap.size ∧ xb = w.heap.size + 1 ∧ BoxedH w W ab xb (.int .i64 qk) (.int .i64 qu) (.int .i64 qe) (.int .i64 qp) (.int .i64 qs) (.int .i64 qn) (.string qd) (.int .i64 qpe) (.slice ca qls.length cc) := ⟨_, rfl, _, _, rfl, rfl, boxedH w _ _ _ _ _ _ _ _ _⟩
  have HW := Lib.hid hW
  have HA := Lib.hid hab
  have HXB := Lib.hid hxb
  obtain ⟨⟨qb, Rn, V, ao, cap, es, hI, hR⟩, hlt⟩ := h
  have hIW := hI.mod (F := none') (Mod.of_below hX.below) (fun _ _ => id)
  have c0 := hIW.c0
  have hdo : Calls Tryz.prog 13 #[.pointer (some ⟨qb, 0, none⟩), .agg #[.int .i64 qk, .int .i64 qu, .int .i64 qe, .int .i64 qp, .int .i64 qs, .int .i64 qn, .string qd, .int .i64 qpe, .slice ca qls.length cc]] W.drew (RNdPost W.drew qb Rn T (s.nd.do ⟨qk, qu, qe, qp, qs, qn, qd, ⟨qpe, qls⟩⟩)) :=
    rNdDo_all ⟨qk, qu, qe, qp, qs, qn, qd, ⟨qpe, qls⟩⟩ ca cc (hIW.nd.mod (F := none') ((Mod.refl _ W).drew) (fun _ _ => id)) hT hd _ (old_below hq (hI.below.trans ((((Mod.of_below (F := none') hX.below).drew).below).mono hI.below.size))) (fun j hj _ hr => by have := hI.old j (Or.inl hr); have hj : j < w0.heap.size := hj; omega)
  obtain ⟨r, hr⟩ : ∃ r, r = s.nd.do ⟨qk, qu, qe, qp, qs, qn, qd, ⟨qpe, qls⟩⟩ := ⟨_, rfl⟩
  rw [← hr] at hdo ⊢
  obtain ⟨⟨xc, xn, xd, ⟨xpe, xls⟩, xm, xs, xe⟩, s'⟩ := r
  have q0 := hX.q0
  have q1 := hX.q1
  have q2 := hX.q2
  have q3 := hX.q3
  have q4 := hX.q4
  have q5 := hX.q5
  have q6 := hX.q6
  have q7 := hX.q7
  have q8 := hX.q8
  have HI := Lib.hid hI
  have HIW := Lib.hid hIW
  have HR := Lib.hid hR
  have HLT := Lib.hid hlt
  have HX := Lib.hid hX
  have hzW := hX.size
  have hxb2 := hX.bxb
  have hbl := cell_lt hI.c0
  clear hW hab hxb hX hI hIW hR hlt hq hr
  go_enter Tryz.func19, Tryz.ntmps19
  go_wp2_with fail
  rw [← HW.out, ← HXB.out, ← HA.out]
  refine region_tail 5 (by kernel_rfl) (by kernel_rfl) (fun T hT K hK => ?_)
  simp only [List.take_succ_cons, List.take_zero]
  repeat still_step
  refine wpStill_nil (hK _ ?_)
  clear hK
  simp only [List.drop_succ_cons, List.drop_zero] at hT
  subst hT
  go_wp2_with fail
  refine hdo.mono ?_
  clear hdo
  rintro e w3 ⟨a3, c3, rfl, hl3, hN3, hM3⟩
  have hnx : ¬ Rn xb := fun h => by have := HI.out.nd.lt xb h; omega
  have hM3' : Mod Rn W w3 := ((Mod.refl Rn W).drew).trans hM3
  obtain ⟨y0, gy0⟩ := Option.isSome_iff_exists.1 HX.out.r0
  replace gy0 := hM3'.at gy0 hnx
  have gf0 := (hM3'.frozen (p := ⟨xb, 0, none⟩) hxb2.2 hnx).trans HX.out.f0
  obtain ⟨y1, gy1⟩ := Option.isSome_iff_exists.1 HX.out.r1
  replace gy1 := hM3'.at gy1 hnx
  have gf1 := (hM3'.frozen (p := ⟨xb, 1, none⟩) hxb2.2 hnx).trans HX.out.f1
  obtain ⟨y2, gy2⟩ := Option.isSome_iff_exists.1 HX.out.r2
  replace gy2 := hM3'.at gy2 hnx
  have gf2 := (hM3'.frozen (p := ⟨xb, 2, none⟩) hxb2.2 hnx).trans HX.out.f2
  obtain ⟨y3, gy3⟩ := Option.isSome_iff_exists.1 HX.out.r3
  replace gy3 := hM3'.at gy3 hnx
  have gf3 := (hM3'.frozen (p := ⟨xb, 3, none⟩) hxb2.2 hnx).trans HX.out.f3
  obtain ⟨y4, gy4⟩ := Option.isSome_iff_exists.1 HX.out.r4
  replace gy4 := hM3'.at gy4 hnx
  have gf4 := (hM3'.frozen (p := ⟨xb, 4, none⟩) hxb2.2 hnx).trans HX.out.f4
  obtain ⟨y5, gy5⟩ := Option.isSome_iff_exists.1 HX.out.r5
  replace gy5 := hM3'.at gy5 hnx
  have gf5 := (hM3'.frozen (p := ⟨xb, 5, none⟩) hxb2.2 hnx).trans HX.out.f5
  obtain ⟨y6, gy6⟩ := Option.isSome_iff_exists.1 HX.out.r6
  replace gy6 := hM3'.at gy6 hnx
  have gf6 := (hM3'.frozen (p := ⟨xb, 6, none⟩) hxb2.2 hnx).trans HX.out.f6
  obtain ⟨y7, gy7⟩ := Option.isSome_iff_exists.1 HX.out.r7
  replace gy7 := hM3'.at gy7 hnx
  have gf7 := (hM3'.frozen (p := ⟨xb, 7, none⟩) hxb2.2 hnx).trans HX.out.f7
  obtain ⟨y8, gy8⟩ := Option.isSome_iff_exists.1 HX.out.r8
  replace gy8 := hM3'.at gy8 hnx
  have gf8 := (hM3'.frozen (p := ⟨xb, 8, none⟩) hxb2.2 hnx).trans HX.out.f8
  have HL3 := Lib.hid (show ListsAt (From W.heap.size) w3 a3 xls from hl3)
  have HN3 := Lib.hid (show RNd w3 qb (grow Rn W w3) (T + 16) s' from hN3)
  have HM3 := Lib.hid hM3'
  clear hl3 hN3 hM3 hM3' c0
  simp only [aV]
  go_wp2_with fail
  refine bodyPost_ret (v := hV ⟨xc, xn, xd, ⟨xpe, xls⟩, xm, xs, xe⟩ true a3 c3) (by simp only [results, Tryz.results19, hV]; go_simp) rfl ?_
  have hz3 := HM3.out.size
  have hz3 := HM3.out.size
  have hz0 := HI.out.below.size
  have hS := HIW.out.setNd (w' := w3) HR.out (fun k hk => by have := HLT.out k hk; omega) HN3.out HM3.out
  refine ⟨a3, c3, rfl, ?_, (hS.mod (F := (· = xb)) (by (repeat' (first | (with_reducible exact (Mod.refl _ _)) | (with_reducible apply Mod.drew) | (with_reducible apply Mod.drewN) | (with_reducible apply Mod.alloc) | (with_reducible apply Mod.setCellAt) | (intro _; first | rfl | exact Or.inl rfl | exact Or.inr rfl) | (intro h; exfalso; omega)))) (fun k hk e => ?_) (fun k hk e => by omega)).wide (fun k hk => ?_) (fun k hk => ?_) (Nat.le_refl _), ?_⟩
  rotate_left 1
  · rcases hk with hk | hk
    · have := HLT.out k hk; omega
    · omega
  · rcases hk with hk | hk
    · exact Or.inl hk
    · exact Or.inr ⟨by omega, by simp only [World.size_setCell]; omega⟩
  · rcases hk with hk | hk
    · have := HLT.out k hk; exact ⟨by simp only [World.size_setCell]; omega, this.2⟩
    · simp only [World.size_setCell] at hk ⊢
      omega
  · refine (mod_none (Mod.of_below HX.out.below)).trans' (show Mod (fun k => k = xb ∨ Rn k) W _ from ?_) (fun j hj e => ?_)
    · repeat (with_reducible refine Mod.setCellAt ?_ (fun _ => Or.inl rfl) _)
      exact HM3.out.mono (fun _ _ h => Or.inr h)
    · rcases e with e | e
      · omega
      · exact HR.out j (Or.inl e)
  exact (HL3.out.mod (F := (· = xb)) (by (repeat' (first | (with_reducible exact (Mod.refl _ _)) | (with_reducible apply Mod.drew) | (with_reducible apply Mod.drewN) | (with_reducible apply Mod.alloc) | (with_reducible apply Mod.setCellAt) | (intro _; first | rfl | exact Or.inl rfl | exact Or.inr rfl) | (intro h; exfalso; omega)))) (fun k hk _ e => by have hk : W.heap.size ≤ k := hk; omega)).sub (fun k _ hk => by have hk : W.heap.size ≤ k := hk; show w.heap.size ≤ k; omega)
set_option maxRecDepth 100000 in
set_option maxHeartbeats 4000000 in
theorem rHask_deaf (h : RHAt w0 w rb R T s) (hT : T ≤ 4000) (hd : q.data.size ≤ 9223372036854775807) (hq : ListsAt (Old w0) w0 ca q.p.chains) :
    Calls Tryz.prog 19 #[.pointer (some ⟨rb, 0, none⟩), qV q ca cc, .int .i64 2] w (RHPost w0 w rb R T ((an0, false), { s with nd := (s.nd.do q).2 })) := by
  obtain ⟨qk, qu, qe, qp, qs, qn, qd, ⟨qpe, qls⟩⟩ := q
  simp only [qV] at hq hd ⊢
  obtain ⟨W, hW, ab, xb, hab, hxb, hX⟩ : ∃ W, W = _ ∧ ∃ ab xb, ab = w.heap.size ∧ xb = w.heap.size + 1 ∧ BoxedH w W ab xb (.int .i64 qk) (.int .i64 qu) (.int .i64 qe) (.int .i64 qp) (.int .i64 qs) (.int .i64 qn) (.string qd) (.int .i64 qpe) (.slice ca qls.length cc) := ⟨_, rfl, _, _, rfl, rfl, boxedH w _ _ _ _ _ _ _ _ _⟩
  have HW := Lib.hid hW
  have HA := Lib.hid hab
  have HXB := Lib.hid hxb
  obtain ⟨⟨qb, Rn, V, ao, cap, es, hI, hR⟩, hlt⟩ := h
  have hIW := hI.mod (F := none') (Mod.of_below hX.below) (fun _ _ => id)
  have c0 := hIW.c0
  have hdo : Calls Tryz.prog 13 #[.pointer (some ⟨qb, 0, none⟩), .agg #[.int .i64 qk, .int .i64 qu, .int .i64 qe, .int .i64 qp, .int .i64 qs, .int .i64 qn, .string qd, .int .i64 qpe, .slice ca qls.length cc]] W.drew (RNdPost W.drew qb Rn T (s.nd.do ⟨qk, qu, qe, qp, qs, qn, qd, ⟨qpe, qls⟩⟩)) :=
    rNdDo_all ⟨qk, qu, qe, qp, qs, qn, qd, ⟨qpe, qls⟩⟩ ca cc (hIW.nd.mod (F := none') ((Mod.refl _ W).drew) (fun _ _ => id)) hT hd _ (old_below hq (hI.below.trans ((((Mod.of_below (F := none') hX.below).drew).below).mono hI.below.size))) (fun j hj _ hr => by have := hI.old j (Or.inl hr); have hj : j < w0.heap.size := hj; omega)
  obtain ⟨r, hr⟩ : ∃ r, r = s.nd.do ⟨qk, qu, qe, qp, qs, qn, qd, ⟨qpe, qls⟩⟩ := ⟨_, rfl⟩
  rw [← hr] at hdo ⊢
  obtain ⟨⟨xc, xn, xd, ⟨xpe, xls⟩, xm, xs, xe⟩, s'⟩ := r
  have q0 := hX.q0
  have q1 := hX.q1
  have q2 := hX.q2
  have q3 := hX.q3
  have q4 := hX.q4
  have q5 := hX.q5
  have q6 := hX.q6
  have q7 := hX.q7
  have q8 := hX.q8
  have HI := Lib.hid hI
  have HIW := Lib.hid hIW
  have HR := Lib.hid hR
  have HLT := Lib.hid hlt
  have HX := Lib.hid hX
  have hzW := hX.size
  have hxb2 := hX.bxb
  have hbl := cell_lt hI.c0
  clear hW hab hxb hX hI hIW hR hlt hq hr
  go_enter Tryz.func19, Tryz.ntmps19
  go_wp2_with fail
  rw [← HW.out, ← HXB.out, ← HA.out]
  refine region_tail 5 (by kernel_rfl) (by kernel_rfl) (fun T hT K hK => ?_)
  simp only [List.take_succ_cons, List.take_zero]
  repeat still_step
  refine wpStill_nil (hK _ ?_)
  clear hK
  simp only [List.drop_succ_cons, List.drop_zero] at hT
  subst hT
  go_wp2_with fail
  refine hdo.mono ?_
  clear hdo
  rintro e w3 ⟨a3, c3, rfl, hl3, hN3, hM3⟩
  have hnx : ¬ Rn xb := fun h => by have := HI.out.nd.lt xb h; omega
  have hM3' : Mod Rn W w3 := ((Mod.refl Rn W).drew).trans hM3
  obtain ⟨y0, gy0⟩ := Option.isSome_iff_exists.1 HX.out.r0
  replace gy0 := hM3'.at gy0 hnx
  have gf0 := (hM3'.frozen (p := ⟨xb, 0, none⟩) hxb2.2 hnx).trans HX.out.f0
  obtain ⟨y1, gy1⟩ := Option.isSome_iff_exists.1 HX.out.r1
  replace gy1 := hM3'.at gy1 hnx
  have gf1 := (hM3'.frozen (p := ⟨xb, 1, none⟩) hxb2.2 hnx).trans HX.out.f1
  obtain ⟨y2, gy2⟩ := Option.isSome_iff_exists.1 HX.out.r2
  replace gy2 := hM3'.at gy2 hnx
  have gf2 := (hM3'.frozen (p := ⟨xb, 2, none⟩) hxb2.2 hnx).trans HX.out.f2
  obtain ⟨y3, gy3⟩ := Option.isSome_iff_exists.1 HX.out.r3
  replace gy3 := hM3'.at gy3 hnx
  have gf3 := (hM3'.frozen (p := ⟨xb, 3, none⟩) hxb2.2 hnx).trans HX.out.f3
  obtain ⟨y4, gy4⟩ := Option.isSome_iff_exists.1 HX.out.r4
  replace gy4 := hM3'.at gy4 hnx
  have gf4 := (hM3'.frozen (p := ⟨xb, 4, none⟩) hxb2.2 hnx).trans HX.out.f4
  obtain ⟨y5, gy5⟩ := Option.isSome_iff_exists.1 HX.out.r5
  replace gy5 := hM3'.at gy5 hnx
  have gf5 := (hM3'.frozen (p := ⟨xb, 5, none⟩) hxb2.2 hnx).trans HX.out.f5
  obtain ⟨y6, gy6⟩ := Option.isSome_iff_exists.1 HX.out.r6
  replace gy6 := hM3'.at gy6 hnx
  have gf6 := (hM3'.frozen (p := ⟨xb, 6, none⟩) hxb2.2 hnx).trans HX.out.f6
  obtain ⟨y7, gy7⟩ := Option.isSome_iff_exists.1 HX.out.r7
  replace gy7 := hM3'.at gy7 hnx
  have gf7 := (hM3'.frozen (p := ⟨xb, 7, none⟩) hxb2.2 hnx).trans HX.out.f7
  obtain ⟨y8, gy8⟩ := Option.isSome_iff_exists.1 HX.out.r8
  replace gy8 := hM3'.at gy8 hnx
  have gf8 := (hM3'.frozen (p := ⟨xb, 8, none⟩) hxb2.2 hnx).trans HX.out.f8
  have HL3 := Lib.hid (show ListsAt (From W.heap.size) w3 a3 xls from hl3)
  have HN3 := Lib.hid (show RNd w3 qb (grow Rn W w3) (T + 16) s' from hN3)
  have HM3 := Lib.hid hM3'
  clear hl3 hN3 hM3 hM3' c0
  simp only [aV]
  go_wp2_with fail
  refine bodyPost_ret (v := hV an0 false none 0) (by simp only [results, Tryz.results19, hV]; go_simp; exact ⟨rfl, rfl⟩) rfl ?_
  have hz3 := HM3.out.size
  have hz0 := HI.out.below.size
  have hS := HIW.out.setNd (w' := w3) HR.out (fun k hk => by have := HLT.out k hk; omega) HN3.out HM3.out
  refine ⟨none, 0, rfl, ?_, (hS.mod (F := (· = xb)) (by (repeat' (first | (with_reducible exact (Mod.refl _ _)) | (with_reducible apply Mod.drew) | (with_reducible apply Mod.drewN) | (with_reducible apply Mod.alloc) | (with_reducible apply Mod.setCellAt) | (intro _; first | rfl | exact Or.inl rfl | exact Or.inr rfl) | (intro h; exfalso; omega)))) (fun k hk e => ?_) (fun k hk e => by omega)).wide (fun k hk => ?_) (fun k hk => ?_) (Nat.le_refl _), ?_⟩
  rotate_left 1
  · rcases hk with hk | hk
    · have := HLT.out k hk; omega
    · omega
  · rcases hk with hk | hk
    · exact Or.inl hk
    · exact Or.inr ⟨by omega, by simp only [World.size_setCell]; omega⟩
  · rcases hk with hk | hk
    · have := HLT.out k hk; exact ⟨by simp only [World.size_setCell]; omega, this.2⟩
    · simp only [World.size_setCell] at hk ⊢
      omega
  · refine (mod_none (Mod.of_below HX.out.below)).trans' (show Mod (fun k => k = xb ∨ Rn k) W _ from ?_) (fun j hj e => ?_)
    · repeat (with_reducible refine Mod.setCellAt ?_ (fun _ => Or.inl rfl) _)
      exact HM3.out.mono (fun _ _ h => Or.inr h)
    · rcases e with e | e
      · omega
      · exact HR.out j (Or.inl e)
  exact ListsAt.nil _ _ _
set_option maxRecDepth 100000 in
set_option maxHeartbeats 4000000 in
theorem rHask_no (h : RHAt w0 w rb R T s) (f : Int) (hf : f ≠ 0 ∧ f ≠ 2 ∧ (f = 3 → 64 ≤ s.held.length)) :
    Calls Tryz.prog 19 #[.pointer (some ⟨rb, 0, none⟩), qV q ca cc, .int .i64 f] w (RHPost w0 w rb R T ((an0, false), s)) := by
  have H := Lib.hid h
  obtain ⟨⟨qb, Rn, V, ao, cap, es, hI, hR⟩, hlt⟩ := h
  have c1 := hI.c1
  have hlen : es.length = s.held.length := by rw [← hI.held, List.length_map]
  have hbl := cell_lt hI.c0
  have f0 : (f == 0) = false := by simpa using hf.1
  have f2 : (f == 2) = false := by simpa using hf.2.1
  by_cases h3 : f = 3
  · have hfull : (64 : Int) ≤ es.length := by have := hf.2.2 h3; omega
    subst h3
    clear hI hR hlt hlen hf f0 f2
    go_enter Tryz.func19, Tryz.ntmps19
    go_wp2_with fail
    refine bodyPost_ret (v := hV an0 false none 0) (by simp only [results, Tryz.results19, hV]; go_simp; exact ⟨rfl, rfl⟩) rfl ?_
    exact H.out.post0 (by (repeat (first | with_reducible exact (Below.refl _ _) | with_reducible refine Below.drew ?_ | with_reducible refine Esch.below_drewN ?_ _ | with_reducible refine Below.setCell ?_ (by first | omega | (simp; done) | (simp; omega)) _ | with_reducible refine Below.alloc ?_ (by first | omega | (simp; done) | (simp; omega)) _))) rfl
  · have f3 : (f == 3) = false := by simpa using h3
    clear hI hR hlt hlen hf h3 c1
    go_enter Tryz.func19, Tryz.ntmps19
    go_wp2_with fail
    refine bodyPost_ret (v := hV an0 false none 0) (by simp only [results, Tryz.results19, hV]; go_simp; exact ⟨rfl, rfl⟩) rfl ?_
    exact H.out.post0 (by (repeat (first | with_reducible exact (Below.refl _ _) | with_reducible refine Below.drew ?_ | with_reducible refine Esch.below_drewN ?_ _ | with_reducible refine Below.setCell ?_ (by first | omega | (simp; done) | (simp; omega)) _ | with_reducible refine Below.alloc ?_ (by first | omega | (simp; done) | (simp; omega)) _))) rfl
end
end Go.Proofs.YtnojjohkpkmliaaGreat
