/- the document's hand: Do, and any question -/
import Derived.Test.YtnojjohkpkmliaaGreatRHand3
namespace Go.Proofs.YtnojjohkpkmliaaGreat
open Go.RowKit Esch

section
variable {w0 w : World} {rb T : Nat} {R : Nat → Prop} {s : HdS}
theorem rHask_any (h : RHAt w0 w rb R T s) (hT : T ≤ 4000) (q : QS) (ca : Option Addr) (cc : Nat) (f : Int) (hd : q.data.size ≤ 9223372036854775807) (hq : ListsAt (Old w0) w0 ca q.p.chains) :
    Calls Tryz.prog 19 #[.pointer (some ⟨rb, 0, none⟩), qV q ca cc, .int .i64 f] w (RHPost w0 w rb R T (s.ask q f)) := by
  unfold HdS.ask
  by_cases h0 : f = 0
  · subst h0; rw [if_pos rfl]; exact rHask_heard q ca cc h hT hd hq
  · rw [if_neg h0]
    by_cases h2 : f = 2
    · subst h2; rw [if_pos rfl]; exact rHask_deaf q ca cc h hT hd hq
    · rw [if_neg h2]
      by_cases h3 : f = 3 ∧ s.held.length < 64
      · obtain ⟨rfl, hl⟩ := h3
        rw [if_pos ⟨rfl, hl⟩]; exact rHask_held q ca cc h hl hd hq
      · rw [if_neg h3]; exact rHask_no q ca cc h f ⟨h0, h2, fun e => by omega⟩
theorem rHdrop_any (h : RHAt w0 w rb R T s) (k : Int) : Calls Tryz.prog 23 #[.pointer (some ⟨rb, 0, none⟩), .int .i64 k] w (RHPostC w0 w rb R T (s.drop k)) := by
  unfold HdS.drop
  by_cases hk : k < 0
  · rw [if_pos hk]; exact rHdrop_out h k (Or.inl hk)
  · rw [if_neg hk]
    obtain ⟨n, rfl⟩ : ∃ n : Nat, k = n := ⟨k.toNat, by omega⟩
    rw [Int.toNat_natCast]
    by_cases hn : n < s.held.length
    · rw [List.getElem?_eq_getElem hn]; exact rHdrop_in h n hn
    · rw [List.getElem?_eq_none (by omega)]; exact rHdrop_out h n (Or.inr (by omega))
theorem box9 (w : World) (x0 x1 x2 x3 x4 x5 x6 x7 x8 : Value) : ∃ W, W = w.alloc (.cells #[x0, x1, x2, x3, x4, x5, x6, x7, x8] 42) ∧ Below w.heap.size w W ∧ W.heap.size = w.heap.size + 1 ∧ (W.cell? ⟨w.heap.size, 0, none⟩ = some x0 ∧ W.cell? ⟨w.heap.size, 1, none⟩ = some x1 ∧ W.cell? ⟨w.heap.size, 2, none⟩ = some x2 ∧ W.cell? ⟨w.heap.size, 3, none⟩ = some x3 ∧ W.cell? ⟨w.heap.size, 4, none⟩ = some x4 ∧ W.cell? ⟨w.heap.size, 5, none⟩ = some x5 ∧ W.cell? ⟨w.heap.size, 6, none⟩ = some x6 ∧ W.cell? ⟨w.heap.size, 7, none⟩ = some x7 ∧ W.cell? ⟨w.heap.size, 8, none⟩ = some x8) :=
  ⟨_, rfl, by (repeat (first | with_reducible exact (Below.refl _ _) | with_reducible refine Below.drew ?_ | with_reducible refine Esch.below_drewN ?_ _ | with_reducible refine Below.setCell ?_ (by first | omega | (simp; done) | (simp; omega)) _ | with_reducible refine Below.alloc ?_ (by first | omega | (simp; done) | (simp; omega)) _)), by simp, by go_simp, by go_simp, by go_simp, by go_simp, by go_simp, by go_simp, by go_simp, by go_simp, by go_simp⟩
set_option maxHeartbeats 1000000 in
theorem rHdo_out (h : RHAt w0 w rb R T s) (k : Int) (hk : k < 0 ∨ (s.held.length : Int) ≤ k) :
    Calls Tryz.prog 21 #[.pointer (some ⟨rb, 0, none⟩), .int .i64 k] w (RHPostC w0 w rb R T (false, s)) := by
  have H := Lib.hid h
  obtain ⟨⟨qb, Rn, V, ao, cap, es, hI, hR⟩, hlt⟩ := h
  have c1 := hI.c1
  have hlen : es.length = s.held.length := by rw [← hI.held, List.length_map]
  rcases hk with hk | hk
  · clear hI hR hlt hlen
    go_enter Tryz.func21, Tryz.ntmps21
    go_wp2_with fail
    go_ret
    exact H.out.postC (Below.refl _ _)
  · have hk0 : (0 : Int) ≤ k := by omega
    have hk1 : (es.length : Int) ≤ k := by omega
    clear hI hR hlt hlen hk
    go_enter Tryz.func21, Tryz.ntmps21
    go_wp2_with fail
    go_ret
    exact H.out.postC (Below.refl _ _)
set_option maxRecDepth 100000 in
set_option maxHeartbeats 4000000 in
theorem rHdo_in (h : RHAt w0 w rb R T s) (hT : T ≤ 3900) (k : Nat) (q : QS) (hk : s.held[k]? = some q) :
    Calls Tryz.prog 21 #[.pointer (some ⟨rb, 0, none⟩), .int .i64 (k : Nat)] w (RHPostC w0 w rb R (T + 16) (true, ⟨(s.nd.do q).2, s.held.eraseIdx k⟩)) := by
  have h0 := h
  obtain ⟨⟨qb, Rn, V, ao, cap, es, hI, hR⟩, hlt⟩ := h
  have hkl := (List.getElem?_eq_some_iff.1 hk).1
  have hlen : es.length = s.held.length := by rw [← hI.held, List.length_map]
  have hke : k < es.length := by omega
  obtain ⟨x, hx⟩ : ∃ x, es[k]? = some x := ⟨_, List.getElem?_eq_getElem hke⟩
  have hxq : x.q = q := by
    have := hk
    rw [← hI.held, List.getElem?_map, hx] at this
    simpa using this
  obtain ⟨hxl, hxd⟩ := hI.each x (List.mem_of_getElem? hx)
  obtain ⟨b, off, rfl, hVb, hbl, hc, -⟩ := hI.row.at' (by have := hI.row.le; omega)
  have hcell : ∀ j, j < 9 → w.cell? ⟨b, off + (k * 9 + j), none⟩ = x.cells[j]? := fun j hj => by rw [hc _ (by omega)]; exact heldCells_at hx j hj
  have c1 := hI.c1
  obtain ⟨⟨qk, qu, qe, qp, qs, qn, qd, ⟨qpe, qls⟩⟩, ca, cc⟩ := x
  subst hxq
  have a0 : w.cell? ⟨b, off + k * 9, none⟩ = some (.int .i64 qk) := hcell 0 (by omega)
  have a1 : w.cell? ⟨b, off + k * 9 + 1, none⟩ = some (.int .i64 qu) := hcell 1 (by omega)
  have a2 : w.cell? ⟨b, off + k * 9 + 2, none⟩ = some (.int .i64 qe) := hcell 2 (by omega)
  have a3 : w.cell? ⟨b, off + k * 9 + 3, none⟩ = some (.int .i64 qp) := hcell 3 (by omega)
  have a4 : w.cell? ⟨b, off + k * 9 + 4, none⟩ = some (.int .i64 qs) := hcell 4 (by omega)
  have a5 : w.cell? ⟨b, off + k * 9 + 5, none⟩ = some (.int .i64 qn) := hcell 5 (by omega)
  have a6 : w.cell? ⟨b, off + k * 9 + 6, none⟩ = some (.string qd) := hcell 6 (by omega)
  have a7 : w.cell? ⟨b, off + k * 9 + 7, none⟩ = some (.int .i64 qpe) := hcell 7 (by omega)
  have a8 : w.cell? ⟨b, off + k * 9 + 8, none⟩ = some (.slice ca qls.length cc) := hcell 8 (by omega)
  have i0 : (0 : Int) ≤ k := by omega
  have i1 : (k : Int) < es.length := by omega
  obtain ⟨W, hW, hB, hz, q0, q1, q2, q3, q4, q5, q6, q7, q8⟩ := box9 w (.int .i64 qk) (.int .i64 qu) (.int .i64 qe) (.int .i64 qp) (.int .i64 qs) (.int .i64 qn) (.string qd) (.int .i64 qpe) (.slice ca qls.length cc)
  have hdr := rHdrop_in (h0.below hB) k hkl
  obtain ⟨bb, hbb⟩ : ∃ bb, bb = w.heap.size := ⟨_, rfl⟩
  rw [← hbb] at q0 q1 q2 q3 q4 q5 q6 q7 q8
  have HW := Lib.hid hW
  have HBB := Lib.hid hbb
  have HB := Lib.hid hB
  have HZ := Lib.hid hz
  have HLT := Lib.hid hlt
  have HXL := Lib.hid hxl
  have HB0 := Lib.hid hI.below
  clear h0 hI hR hlt hk hkl hlen hke hx hxl hc hcell hVb hbl hW hbb hB hz
  go_enter Tryz.func21, Tryz.ntmps21
  go_wp2_with fail
  rw [← HW.out, ← HBB.out]
  refine hdr.mono ?_
  clear hdr c1 a0 a1 a2 a3 a4 a5 a6 a7 a8
  rintro e w2 ⟨rfl, hH2, hM2⟩
  have hnb : ¬ R bb := fun h => by have := (HLT.out bb h).1; have := HBB.out; omega
  replace q0 := hM2.at q0 hnb
  replace q1 := hM2.at q1 hnb
  replace q2 := hM2.at q2 hnb
  replace q3 := hM2.at q3 hnb
  replace q4 := hM2.at q4 hnb
  replace q5 := hM2.at q5 hnb
  replace q6 := hM2.at q6 hnb
  replace q7 := hM2.at q7 hnb
  replace q8 := hM2.at q8 hnb
  obtain ⟨⟨qb2, Rn2, V2, ao2, cap2, es2, hI2, hR2⟩, hl2⟩ := hH2
  have c0 := hI2.c0
  have hdo : Calls Tryz.prog 13 #[.pointer (some ⟨qb2, 0, none⟩), .agg #[.int .i64 qk, .int .i64 qu, .int .i64 qe, .int .i64 qp, .int .i64 qs, .int .i64 qn, .string qd, .int .i64 qpe, .slice ca qls.length cc]] w2.drew (RNdPost w2.drew qb2 Rn2 T (s.nd.do ⟨qk, qu, qe, qp, qs, qn, qd, ⟨qpe, qls⟩⟩)) :=
    rNdDo_all ⟨qk, qu, qe, qp, qs, qn, qd, ⟨qpe, qls⟩⟩ ca cc (hI2.nd.mod (F := none') ((Mod.refl _ w2).drew) (fun _ _ => id)) (by omega) hxd _ (old_below HXL.out (hI2.below.trans (((Mod.refl none' w2).drew.below).mono hI2.below.size))) (fun j hj _ hr => by have := hI2.old j (Or.inl hr); have hj : j < w0.heap.size := hj; omega)
  obtain ⟨r, hr⟩ : ∃ r, r = s.nd.do ⟨qk, qu, qe, qp, qs, qn, qd, ⟨qpe, qls⟩⟩ := ⟨_, rfl⟩
  rw [← hr] at hdo
  have Hr := Lib.hid hr
  obtain ⟨⟨xc, xn, xd, ⟨xpe, xls⟩, xm, xs, xe⟩, s'⟩ := r
  have HI2 := Lib.hid hI2
  have HR2 := Lib.hid hR2
  have HL2 := Lib.hid hl2
  have HM2 := Lib.hid hM2
  clear hI2 hR2 hl2 hM2 hr
  go_wp2_with fail
  refine region_tail 5 (by kernel_rfl) (by kernel_rfl) (fun T hT K hK => ?_)
  simp only [List.take_succ_cons, List.take_zero]
  repeat still_step
  refine wpStill_nil (hK _ ?_)
  clear hK
  simp only [List.drop_succ_cons, List.drop_zero] at hT
  subst hT
  go_wp2_with fail
  refine hdo.mono ?_
  clear hdo
  rintro e w3 ⟨a3, c3, rfl, -, hN3, hM3⟩
  have hM3' : Mod Rn2 w2 w3 := ((Mod.refl Rn2 w2).drew).trans hM3
  have HS := Lib.hid (HI2.out.setNd (w' := w3) HR2.out HL2.out (show RNd w3 qb2 (Go.Proofs.YtnojjohkpkmliaaGreat.grow Rn2 w2 w3) (T + 16) s' from hN3) hM3')
  have HM3 := Lib.hid hM3'
  clear hN3 hM3 hM3' c0
  go_wp2_with fail
  go_ret
  have z1 := HB.out.size
  have z2 := HM2.out.size
  have z3 := HM3.out.size
  have z0 := HB0.out.size
  rw [← Hr.out]
  refine ⟨rfl, HS.out.wide (R' := Go.Proofs.YtnojjohkpkmliaaGreat.grow R w w3) (T' := T + 16) (fun j hj => ?_) (fun j hj => ?_) (Nat.le_refl _), ?_⟩
  · rcases hj with (hj | hj) | hj
    · exact Or.inl hj
    · exact Or.inr ⟨by omega, by omega⟩
    · exact Or.inr ⟨by omega, hj.2⟩
  · rcases hj with hj | hj
    · have := HLT.out j hj; omega
    · omega
  · refine ((mod_none (Mod.of_below HB.out)).trans HM2.out).trans' HM3.out (fun j hj e => ?_)
    have := HR2.out j (Or.inl e)
    rcases this with h | h
    · exact h
    · omega
theorem rHdo_any (h : RHAt w0 w rb R T s) (hT : T ≤ 3900) (k : Int) : Calls Tryz.prog 21 #[.pointer (some ⟨rb, 0, none⟩), .int .i64 k] w (RHPostC w0 w rb R (T + 16) (s.doHeld k)) := by
  have up : ∀ {e w'}, RHPostC w0 w rb R T (false, s) e w' → RHPostC w0 w rb R (T + 16) (false, s) e w' := fun ⟨h1, h2, h3⟩ => ⟨h1, h2.wide (fun _ h => h) h2.lt (by omega), h3⟩
  unfold HdS.doHeld
  by_cases hk : k < 0
  · rw [if_pos hk]; exact (rHdo_out h k (Or.inl hk)).mono (fun _ _ => up)
  · rw [if_neg hk]
    obtain ⟨n, rfl⟩ : ∃ n : Nat, k = n := ⟨k.toNat, by omega⟩
    rw [Int.toNat_natCast]
    cases hq : s.held[n]? with
    | none => exact (rHdo_out h n (Or.inr (by have := List.getElem?_eq_none_iff.1 hq; omega))).mono (fun _ _ => up)
    | some q => exact rHdo_in h hT n q hq
end
end Go.Proofs.YtnojjohkpkmliaaGreat
