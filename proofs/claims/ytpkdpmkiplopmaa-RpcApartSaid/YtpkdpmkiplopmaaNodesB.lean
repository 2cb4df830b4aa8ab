import Derived.Test.YtpkdpmkiplopmaaNodes2
import Derived.Test.YtpkdpmkiplopmaaDec
import Derived.Test.YtpkdpmkiplopmaaKeepAsk
import Derived.Test.YtpkdpmkiplopmaaOld
import Derived.Deep.LoopGhost
import Derived.Deep.CutRange
import Derived.Deep.DeepCutAuto
/- all nodes together: the sequencer, the layout -/
namespace Go.Proofs.Ytpkdpmkiplopmaa
open Go.RowKit Esch

variable {w : World} {nb g cap ob lb lm T : Nat} {ub pb mb D : Nat → Nat} {s : NdS}
section
variable (x1 x2 x3 x4 x5 x7 : Int) (d : ByteArray) (ca : Option Addr) (cn cc : Nat)
set_option maxRecDepth 100000 in
set_option maxHeartbeats 2000000 in
theorem rpcDo_ord (h : NodesAt w nb g cap ob lb lm T ub pb mb D s) (k : Int) (hk : k = 6 ∨ k = 7 ∨ k = 8) :
    Calls Try.prog 30 #[.pointer (some ⟨nb, 0, none⟩), .agg #[.int .i64 k, .int .i64 x1, .int .i64 x2, .int .i64 x3, .int .i64 x4, .int .i64 x5, .string d, .int .i64 x7, .slice ca cn cc]] w
    (AnsPost w ob (ordDo s.o k x2 x3).1 (ordDo s.o k x2 x3).2.1 (ordDo s.o k x2 x3).2.2.epoch (ordDo s.o k x2 x3).2.2) := by
  obtain ⟨W, hW, ab, rb, hab, hrb, hX⟩ : ∃ W, W = _ ∧ ∃ ab rb, ab = w.heap.size ∧ rb = w.heap.size + 1 ∧ Boxed2 w W ab rb (.int .i64 k) (.int .i64 x1) (.int .i64 x2) (.int .i64 x3) (.int .i64 x4) (.int .i64 x5) (.string d) (.int .i64 x7) (.slice ca cn cc) := ⟨_, rfl, _, _, rfl, rfl, boxed2 w _ _ _ _ _ _ _ _ _⟩
  have hak := asked_ord x1 x2 x3 x4 x5 x7 d ca cn cc (h.below hX.below) k hk
  have hdo := fun W' (hW' : Mod none' w W') => ordDo_any x1 x2 x3 x4 x5 d x7 ca cn cc k W' ob s.o h.ook (h.ord.mod (F := none') hW' id)
  have hu0 := h.ord.lt
  unfold AnsPost at hdo ⊢
  generalize hr : ordDo s.o k x2 x3 = r at hdo ⊢
  obtain ⟨yc, yn, us⟩ := r
  have HW := Lib.hid hW
  have HA := Lib.hid hab
  have HR := Lib.hid hrb
  have HX := Lib.hid hX
  have hzW := hX.size
  have hrb2 := hX.brb
  clear h hW hab hrb hX hr
  go_enter Try.func30, Try.ntmps30
  go_wp2_with fail
  rw [← HW.out, ← HR.out, ← HA.out]
  refine hak.mono ?_
  clear hak
  rintro e w1 ⟨rfl, hM1⟩
  have q0 := hM1.at HX.out.q0 id
  have q1 := hM1.at HX.out.q1 id
  have q2 := hM1.at HX.out.q2 id
  have q3 := hM1.at HX.out.q3 id
  have q4 := hM1.at HX.out.q4 id
  have q5 := hM1.at HX.out.q5 id
  have q6 := hM1.at HX.out.q6 id
  have q7 := hM1.at HX.out.q7 id
  have q8 := hM1.at HX.out.q8 id
  have HM1 := Lib.hid hM1
  clear hM1
  go_wp2_with fail
  refine (hdo w1 (by (repeat' (first | (with_reducible exact ((Mod.of_below HX.out.below).trans HM1.out)) | (with_reducible apply Mod.drew) | (with_reducible apply Mod.drewN) | (with_reducible apply Mod.alloc) | (with_reducible apply Mod.setCellAt) | (intro _; first | rfl | exact Or.inl rfl | exact Or.inr rfl) | (intro h; exfalso; omega))))).mono ?_
  clear hdo q0 q1 q2 q3 q4 q5 q6 q7 q8
  rintro e w4 ⟨rfl, hU4, hM4'⟩
  have hM4 := (mod_none HM1.out).trans hM4'
  obtain ⟨g0, g1, g2, g3, g4, g5, g6, g7, f0, f1, f2, f3, f4, f5, f6, f7⟩ := HX.out.far hM4 (by omega)
  have HU4 := Lib.hid hU4
  have HM4 := Lib.hid hM4
  clear hU4 hM4 hM4'
  simp only [ansV]
  go_wp2_with fail
  refine bodyPost_ret (v := ansV yc yn us.epoch) (by simp only [results, Try.results30, ansV]; go_simp) rfl ?_
  refine ⟨rfl, HU4.out.mod (F := (· = rb)) (by (repeat' (first | (with_reducible exact (Mod.refl _ _)) | (with_reducible apply Mod.drew) | (with_reducible apply Mod.drewN) | (with_reducible apply Mod.alloc) | (with_reducible apply Mod.setCellAt) | (intro _; first | rfl | exact Or.inl rfl | exact Or.inr rfl) | (intro h; exfalso; omega)))) (by omega), ?_⟩
  refine (mod_none (Mod.of_below HX.out.below)).trans' (show Mod (fun j => j = rb ∨ j = ob) W _ from ?_) (fun j hj e => ?_)
  · repeat' (first | (with_reducible exact HM4.out.mono (fun _ _ h => Or.inr h)) | (with_reducible apply Mod.setCellAt) | (with_reducible apply Mod.drew) | (intro _; exact Or.inl rfl))
  · rcases e with e | e
    · omega
    · exact e
set_option maxRecDepth 100000 in
set_option maxHeartbeats 2000000 in
theorem rpcDo_lay (q : Proj) (h : NodesAt w nb g cap ob lb lm T ub pb mb D s) (hT : T ≤ 1000000000) (S' : Nat → Prop) (hq : ListsAt S' w ca q.chains) (hS : ∀ k, S' k → k < w.heap.size → D k ≠ 17) (k : Int) (hk : k = 9 ∨ k = 10 ∨ k = 11) :
    Calls Try.prog 30 #[.pointer (some ⟨nb, 0, none⟩), .agg #[.int .i64 k, .int .i64 x1, .int .i64 x2, .int .i64 x3, .int .i64 x4, .int .i64 x5, .string d, .int .i64 q.epoch, .slice ca q.chains.length cc]] w
    (LayDoPost (fun k => D k = 17) w lb lm T (layDo s.l k q x3 x4 x5)) := by
  obtain ⟨W, hW, ab, rb, hab, hrb, hX⟩ : ∃ W, W = _ ∧ ∃ ab rb, ab = w.heap.size ∧ rb = w.heap.size + 1 ∧ Boxed2 w W ab rb (.int .i64 k) (.int .i64 x1) (.int .i64 x2) (.int .i64 x3) (.int .i64 x4) (.int .i64 x5) (.string d) (.int .i64 q.epoch) (.slice ca q.chains.length cc) := ⟨_, rfl, _, _, rfl, rfl, boxed2 w _ _ _ _ _ _ _ _ _⟩
  have hak := asked_lay x1 x2 x3 x4 x5 q.epoch d ca q.chains.length cc (h.below hX.below) k hk
  have hdo := fun W' (hW' : Mod none' w W') => layDo_any k x1 x2 x3 x4 x5 d q ca cc (fun k => D k = 17 ∧ k < w.heap.size) (fun k => S' k ∧ k < w.heap.size) W' lb lm T s.l h.lok hT ((h.lay.sub (fun k hk h => ⟨h, hk⟩)).mod (F := none') hW' (fun _ _ _ => id)) ((hq.sub (fun k hk h => ⟨h, hk⟩)).mod (F := none') hW' (fun _ _ _ => id)) (fun k hk _ => ⟨fun e => hS k hk.1 hk.2 (by rw [e]; exact h.lay.sb), fun e => hS k hk.1 hk.2 (by rw [e]; exact h.lay.sm)⟩)
  have hu0 := h.lay.lt
  have hu1 := h.lay.map.lt
  unfold LayDoPost at hdo ⊢
  generalize hr : layDo s.l k q x3 x4 x5 = r at hdo ⊢
  obtain ⟨ra, us⟩ := r
  have HW := Lib.hid hW
  have HA := Lib.hid hab
  have HR := Lib.hid hrb
  have HX := Lib.hid hX
  have hzW := hX.size
  have hrb2 := hX.brb
  clear h hW hab hrb hX hr hq hS
  go_enter Try.func30, Try.ntmps30
  go_wp2_with fail
  rw [← HW.out, ← HR.out, ← HA.out]
  refine hak.mono ?_
  clear hak
  rintro e w1 ⟨rfl, hM1⟩
  have q0 := hM1.at HX.out.q0 id
  have q1 := hM1.at HX.out.q1 id
  have q2 := hM1.at HX.out.q2 id
  have q3 := hM1.at HX.out.q3 id
  have q4 := hM1.at HX.out.q4 id
  have q5 := hM1.at HX.out.q5 id
  have q6 := hM1.at HX.out.q6 id
  have q7 := hM1.at HX.out.q7 id
  have q8 := hM1.at HX.out.q8 id
  have HM1 := Lib.hid hM1
  clear hM1
  go_wp2_with fail
  refine (hdo w1 (by (repeat' (first | (with_reducible exact ((Mod.of_below HX.out.below).trans HM1.out)) | (with_reducible apply Mod.drew) | (with_reducible apply Mod.drewN) | (with_reducible apply Mod.alloc) | (with_reducible apply Mod.setCellAt) | (intro _; first | rfl | exact Or.inl rfl | exact Or.inr rfl) | (intro h; exfalso; omega))))).mono ?_
  clear hdo q0 q1 q2 q3 q4 q5 q6 q7 q8
  rintro e w4 ⟨a4, c4, rfl, hl4, hU4, hM4'⟩
  have hM4 := (mod_none HM1.out).trans hM4'
  obtain ⟨g0, g1, g2, g3, g4, g5, g6, g7, f0, f1, f2, f3, f4, f5, f6, f7⟩ := HX.out.far hM4 (by omega)
  have hz1 := HM1.out.size
  have HU4 := Lib.hid hU4
  have HM4 := Lib.hid hM4
  have HL4 := Lib.hid hl4
  clear hU4 hM4 hM4' hl4
  simp only [ansL]
  go_wp2_with fail
  refine bodyPost_ret (v := ansL ra a4 c4) (by simp only [results, Try.results30, ansL]; go_simp) rfl ?_
  refine ⟨a4, c4, rfl, (HL4.out.mod (F := (· = rb)) (by (repeat' (first | (with_reducible exact (Mod.refl _ _)) | (with_reducible apply Mod.drew) | (with_reducible apply Mod.drewN) | (with_reducible apply Mod.alloc) | (with_reducible apply Mod.setCellAt) | (intro _; first | rfl | exact Or.inl rfl | exact Or.inr rfl) | (intro h; exfalso; omega)))) (fun k hk _ e => ?_)).sub (fun k _ hk => ?_), (HU4.out.mod (F := (· = rb)) (by (repeat' (first | (with_reducible exact (Mod.refl _ _)) | (with_reducible apply Mod.drew) | (with_reducible apply Mod.drewN) | (with_reducible apply Mod.alloc) | (with_reducible apply Mod.setCellAt) | (intro _; first | rfl | exact Or.inl rfl | exact Or.inr rfl) | (intro h; exfalso; omega)))) (fun k hk _ e => ?_)).sub (fun k _ hk => ?_), ?_⟩
  · have hk : w1.heap.size ≤ k := hk
    omega
  · have hk : w1.heap.size ≤ k := hk
    show w.heap.size ≤ k
    omega
  · rcases hk with hk | hk
    · have := hk.2; omega
    · omega
  · rcases hk with hk | hk
    · exact Or.inl hk.1
    · exact Or.inr (by omega)
  · refine (mod_none (Mod.of_below HX.out.below)).trans' (show Mod (fun j => j = rb ∨ j = lb ∨ j = lm) W _ from ?_) (fun j hj e => ?_)
    · repeat' (first | (with_reducible exact HM4.out.mono (fun _ _ h => Or.inr h)) | (with_reducible apply Mod.setCellAt) | (with_reducible apply Mod.drew) | (intro _; exact Or.inl rfl))
    · rcases e with e | e
      · omega
      · exact e
/-- the nodes behind a question to the layout -/
theorem NodesAt.afterLay {w' : World} {r : LayA × LayS} (h : NodesAt w nb g cap ob lb lm T ub pb mb D s) (hok : r.2.ok) (hL : LayAt (fun k => D k = 17 ∨ w.heap.size ≤ k) w' lb lm (T + 16) r.2) (hM : Mod (fun j => j = lb ∨ j = lm) w w') :
    NodesAt w' nb g cap ob lb lm (T + 16) ub pb mb (fun k => if k < w.heap.size then D k else 17) { s with l := r.2 } := h.setLay hL hok hM
end
end Go.Proofs.Ytpkdpmkiplopmaa
/- all nodes together: made -/
namespace Go.Proofs.Ytpkdpmkiplopmaa
open Go.RowKit Esch

def un0 (room : Nat) : UnS := ⟨pg0 room, 0, false⟩
/-- nodes that are being made, so far k units -/
structure NewAt (w : World) (nb ob lb lm room : Nat) (q : Proj) (k : Nat) (va : Option Addr) (vc : Nat) (xs : List Value) (ub pb mb D : Nat → Nat) (wr : World) : Prop where
  c0 : wr.cell? ⟨nb, 0, none⟩ = some (.slice va k vc)
  f0 : wr.frozen? ⟨nb, 0, none⟩ = false
  c1 : wr.cell? ⟨nb, 1, none⟩ = some (.pointer (some ⟨ob, 0, none⟩))
  c2 : wr.cell? ⟨nb, 2, none⟩ = some (.pointer (some ⟨lb, 0, none⟩))
  row : wr.ownsRow (nb + 1) 51 1 (.slice va k vc) k xs
  xlen : xs.length = k
  xat : ∀ i, i < k → xs[i]? = some (.pointer (some ⟨ub i, 0, none⟩))
  unit : ∀ i, i < k → UnitAt wr (ub i) (pb i) (mb i) (un0 room)
  du : ∀ i, i < k → D (ub i) = i ∧ D (pb i) = i ∧ D (mb i) = i
  own : ∀ j, (Value.slice va k vc).ownBlock = some j → D j = 18
  ord : OrdAt wr ob ⟨-1, false, 0⟩
  dord : D ob = 16
  lay : LayAt (fun k => D k = 17) wr lb lm 16 (lay0 q)
  dn : D nb = 18
  old : ∀ j, j < w.heap.size + 1 → D j = 99
  box : wr.cell? ⟨w.heap.size, 0, none⟩ = some (.int .i64 q.epoch)
  below : Below w.heap.size w wr
theorem NewAt.ownLt {w : World} {nb ob lb lm room : Nat} {q : Proj} {k : Nat} {va : Option Addr} {vc : Nat} {xs : List Value} {ub pb mb D : Nat → Nat} {wr : World} (h : NewAt w nb ob lb lm room q k va vc xs ub pb mb D wr) {j : Nat} (hj : (Value.slice va k vc).ownBlock = some j) : nb < j ∧ j < wr.heap.size := by
  rcases h.row.2 with ⟨e, -⟩ | ⟨g, cap, cur, e, hb, hg, -⟩
  · cases e; cases hj
  · cases e
    have hj : g = j := Option.some.inj hj
    subst hj
    exact ⟨hb, block_lt hg⟩
theorem NewAt.step {w : World} {nb ob lb lm room : Nat} {q : Proj} {k : Nat} {va : Option Addr} {vc : Nat} {xs : List Value} {ub pb mb D : Nat → Nat} {wr w5 w8 : World} {u p m gg cap : Nat} {o : Obj} (h : NewAt w nb ob lb lm room q k va vc xs ub pb mb D wr) (hk : k < 16)
    (hB5 : Below wr.heap.size wr w5) (hu : UnitAt w5 u p m (un0 room)) (hu1 : wr.heap.size ≤ u) (hp1 : wr.heap.size ≤ p) (hm1 : wr.heap.size ≤ m)
    (hown1 : w8.ownsRow (nb + 1) 51 1 (.slice (some ⟨gg, 0, none⟩) (k + 1) cap) (k + 1) (xs ++ [.pointer (some ⟨u, 0, none⟩)])) (hgrow : (w5.alloc o).grownBy w8 (Value.slice va k vc).ownBlock) (hat : (Value.slice va k vc).ownBlock = some gg ∨ gg = w5.heap.size + 1) :
    NewAt w nb ob lb lm room q (k + 1) (some ⟨gg, 0, none⟩) cap (xs ++ [.pointer (some ⟨u, 0, none⟩)]) (fun i => if i = k then u else ub i) (fun i => if i = k then p else pb i) (fun i => if i = k then m else mb i)
      (fun j => if j < wr.heap.size then D j else if j < w5.heap.size then k else 18) (w8.setCell ⟨nb, 0, none⟩ (.slice (some ⟨gg, 0, none⟩) (k + 1) cap)) := by
  have hz := hB5.size
  have hnl := cell_lt h.c0
  have hon : (Value.slice va k vc).ownBlock ≠ some nb := fun e => by have := (h.ownLt e).1; omega
  have hM5 : Mod (fun j => j = nb ∨ (Value.slice va k vc).ownBlock = some j) w5 (w8.setCell ⟨nb, 0, none⟩ (.slice (some ⟨gg, 0, none⟩) (k + 1) cap)) :=
    ((((Mod.refl (fun j => j = nb ∨ (Value.slice va k vc).ownBlock = some j) w5).alloc o).trans ((grown_mod2 hgrow).mono (fun _ _ h => Or.inr h))).setCellAt (fun _ => Or.inl rfl) _)
  have hM : Mod (fun j => j = nb ∨ (Value.slice va k vc).ownBlock = some j) wr (w8.setCell ⟨nb, 0, none⟩ (.slice (some ⟨gg, 0, none⟩) (k + 1) cap)) := (mod_none (Mod.of_below hB5)).trans hM5
  have hF : ∀ j, D j ≠ 18 → ¬ (j = nb ∨ (Value.slice va k vc).ownBlock = some j) := by
    rintro j hj (rfl | e)
    · exact hj h.dn
    · exact hj (h.own j e)
  have hF5 : ∀ j, wr.heap.size ≤ j → ¬ (j = nb ∨ (Value.slice va k vc).ownBlock = some j) := by
    rintro j hj (rfl | e)
    · omega
    · have := (h.ownLt e).2; omega
  have hlt : ∀ {j : Nat}, j < wr.heap.size → (if j < wr.heap.size then D j else if j < w5.heap.size then k else 18) = D j := fun hj => if_pos hj
  have hnew : ∀ {j : Nat}, wr.heap.size ≤ j → j < w5.heap.size → (if j < wr.heap.size then D j else if j < w5.heap.size then k else 18) = k := fun h1 h2 => by rw [if_neg (by omega), if_pos h2]
  have hgz := hgrow.size
  simp only [World.size_alloc] at hgz
  have c1 := hgrow
  have hgq : gg ≠ nb := by
    rcases hat with e | e
    · intro e'; exact hon (by rw [e, e'])
    · omega
  have n8 : nb < w8.heap.size := by omega
  have d1 : w8.cell? ⟨nb, 1, none⟩ = some (.pointer (some ⟨ob, 0, none⟩)) := grown_at hgrow hon ((cell_alloc_lt _ _ _ _ (by omega)).trans (below_at hB5 h.c1 hnl))
  have d2 : w8.cell? ⟨nb, 2, none⟩ = some (.pointer (some ⟨lb, 0, none⟩)) := grown_at hgrow hon ((cell_alloc_lt _ _ _ _ (by omega)).trans (below_at hB5 h.c2 hnl))
  have d0 : w8.cell? ⟨nb, 0, none⟩ = some (.slice va k vc) := grown_at hgrow hon ((cell_alloc_lt _ _ _ _ (by omega)).trans (below_at hB5 h.c0 hnl))
  have e0 : w8.frozen? ⟨nb, 0, none⟩ = false := (grown_fr hgrow hon (by rw [World.size_alloc]; omega)).trans ((frozen_alloc_lt _ _ _ _ (by omega)).trans ((hB5.frozen (p := ⟨nb, 0, none⟩) hnl).trans h.f0))
  have hul := cell_lt hu.c0
  have hpl := cell_lt hu.pages.c0
  have hml := hu.pages.mlt
  refine ⟨by go_simp, by go_simp, by go_simp, by go_simp, ?_, by simp [h.xlen], fun i hi => ?_, fun i hi => ?_, fun i hi => ?_, fun j hj => ?_, h.ord.mod hM (hF ob (by rw [h.dord]; omega)), ?_, ?_, ?_, fun j hj => ?_, hM.at h.box (hF _ (by rw [h.old _ (by omega)]; omega)), ?_⟩
  · refine hown1.kept (grownBy_set _ _ _ _) (Or.inr ?_)
    intro e; exact hgq (Option.some.inj e)
  · by_cases e : i = k
    · subst e
      rw [if_pos rfl, ← h.xlen]
      simp
    · rw [if_neg e, List.getElem?_append_left (by rw [h.xlen]; omega)]
      exact h.xat i (by omega)
  · by_cases e : i = k
    · subst e
      simp only [if_true]
      exact hu.mod hM5 (hF5 _ hu1) (hF5 _ hp1) (hF5 _ hm1)
    · simp only [if_neg e]
      obtain ⟨e1, e2, e3⟩ := h.du i (by omega)
      exact (h.unit i (by omega)).mod hM (hF _ (by omega)) (hF _ (by omega)) (hF _ (by omega))
  · by_cases e : i = k
    · subst e
      simp only [if_true]
      exact ⟨hnew hu1 hul, hnew hp1 hpl, hnew hm1 hml⟩
    · simp only [if_neg e]
      have hu' := h.unit i (by omega)
      rw [hlt (cell_lt hu'.c0), hlt (cell_lt hu'.pages.c0), hlt hu'.pages.mlt]
      exact h.du i (by omega)
  · have hj : gg = j := Option.some.inj hj
    subst hj
    rcases hat with e | e
    · rw [hlt (h.ownLt e).2]; exact h.own _ e
    · rw [if_neg (by omega), if_neg (by omega)]
  · rw [hlt h.ord.lt]; exact h.dord
  · refine LayAt.mod (h.lay.sub (fun j hj hd => ?_)) hM (fun j hj hl => hF j ?_)
    · show (if j < wr.heap.size then D j else if j < w5.heap.size then k else 18) = 17
      rw [hlt hj]; exact hd
    · have hj : (if j < wr.heap.size then D j else if j < w5.heap.size then k else 18) = 17 := hj
      rw [hlt hl] at hj
      omega
  · rw [hlt hnl]; exact h.dn
  · rw [hlt (by have := cell_lt h.box; omega)]; exact h.old j hj
  · exact h.below.trans (hM.below_at h.below.size (fun j hj e => by
      rcases e with rfl | e
      · have := h.old j (by omega); rw [h.dn] at this; omega
      · have := h.old j (by omega); rw [h.own j e] at this; omega))
end Go.Proofs.Ytpkdpmkiplopmaa
/- all nodes together: New -/
namespace Go.Proofs.Ytpkdpmkiplopmaa
open Go.RowKit Esch

def nd0 (q : Proj) (room : Nat) : NdS := ⟨fun _ => un0 room, ⟨q.epoch, true, 0⟩, lay0 q⟩
def NdNew (w : World) (q : Proj) (room : Nat) (e : Ending) (w' : World) : Prop := ∃ nb g cap ob lb lm ub pb mb D, e = .returned (.tuple #[.pointer (some ⟨nb, 0, none⟩), .int .i64 0]) ∧ NodesAt w' nb g cap ob lb lm 16 ub pb mb D (nd0 q room) ∧ (∀ j, j < w.heap.size → D j = 99) ∧ Below w.heap.size w w'
def NewRel (w : World) (nb ob lb lm room : Nat) (q : Proj) (g : Nat) (s23 : Value) (wr : World) : Prop :=
  ∃ k va vc xs ub pb mb D, g = 16 - k ∧ k ≤ 16 ∧ s23 = .int .i64 (k : Nat) ∧ NewAt w nb ob lb lm room q k va vc xs ub pb mb D wr
set_option maxRecDepth 100000 in
set_option maxHeartbeats 2000000 in
theorem rpcNew_any (S : Nat → Prop) (w : World) (q : Proj) (a : Option Addr) (c room : Nat) (hq : q.good) (hl : ListsAt S w a q.chains) (h1 : 1 ≤ room) (h2 : room ≤ 4096) :
    Calls Try.prog 34 #[.agg #[.int .i64 q.epoch, .slice a q.chains.length c], .int .i64 room] w (NdNew w q room) := by
  obtain ⟨W0, hW0, hB0, hz0, p0, p1⟩ := oneBox w 24 (.int .i64 q.epoch) (.slice a q.chains.length c)
  have hln := layNew_any S W0 q a c hq (hl.mod (F := none') (Mod.of_below hB0) (fun _ _ _ => id))
  have HW0 := Lib.hid hW0
  have Hq := Lib.hid hq
  clear hW0 hl hq
  go_enter Try.func34, Try.ntmps34
  go_wp2_with fail
  rw [← HW0.out]
  refine hln.mono ?_
  clear hln
  rintro e w1 ⟨lb, lm, rfl, hL1, hB1⟩
  have hz1 := hB1.size
  have hon := ordNew_any w1
  go_wp2_with fail
  refine hon.mono ?_
  clear hon
  rintro e w2 ⟨ob, rfl, hO2, hob, hB2⟩
  have hz2 := hB2.size
  have hol := hO2.lt
  obtain ⟨nb, hnb⟩ : ∃ nb, nb = w2.heap.size := ⟨_, rfl⟩
  obtain ⟨W3, hW3⟩ : ∃ W3, W3 = w2.alloc (.cells #[.slice none 0 0, .pointer (some ⟨ob, 0, none⟩), .pointer (some ⟨lb, 0, none⟩)] 96) := ⟨_, rfl⟩
  have hB3 : Below w2.heap.size w2 W3 := by rw [hW3]; (repeat (first | with_reducible exact (Below.refl _ _) | with_reducible refine Below.drew ?_ | with_reducible refine Esch.below_drewN ?_ _ | with_reducible refine Below.setCell ?_ (by first | omega | (simp; done) | (simp; omega)) _ | with_reducible refine Below.alloc ?_ (by first | omega | (simp; done) | (simp; omega)) _))
  have hz3 : W3.heap.size = w2.heap.size + 1 := by rw [hW3]; simp
  have hN0 : NewAt w nb ob lb lm room q 0 none 0 [] (fun _ => 0) (fun _ => 0) (fun _ => 0) (fun j => if j < w.heap.size + 1 then 99 else if j < w1.heap.size then 17 else if j < w2.heap.size then 16 else 18) W3 := by
    refine ⟨by rw [hW3, hnb]; go_simp, by rw [hW3, hnb]; go_simp, by rw [hW3, hnb]; go_simp, by rw [hW3, hnb]; go_simp, World.ownsRow_nil _ _ _ _, rfl, fun i hi => absurd hi (by omega), fun i hi => absurd hi (by omega), fun i hi => absurd hi (by omega), fun j hj => (by cases hj), hO2.mod (F := none') (Mod.of_below hB3) id, ?_, ?_, ?_, fun j hj => if_pos hj, ?_, ?_⟩
    · rw [if_neg (by omega), if_neg (by omega), if_pos hol]
    · refine LayAt.sub (LayAt.mod (LayAt.sub hL1 (S' := fun k => W0.heap.size ≤ k ∧ k < w1.heap.size) (fun k hk h => ⟨h, hk⟩)) (F := none') ((Mod.of_below hB2).trans (Mod.of_below hB3)) (fun _ _ _ => id)) (fun k _ hk => ?_)
      show (if k < w.heap.size + 1 then 99 else if k < w1.heap.size then 17 else if k < w2.heap.size then 16 else 18) = 17
      rw [if_neg (by omega), if_pos hk.2]
    · rw [if_neg (by omega), if_neg (by omega), if_neg (by omega)]
    · exact below_at hB3 (below_at hB2 (below_at hB1 p0 (by omega)) (by omega)) (by omega)
    · exact hB0.trans ((hB1.trans ((hB2.trans (hB3.mono hz2)).mono hz1)).mono (by omega))
  have HN0 := Lib.hid hN0
  have HW3 := Lib.hid hW3
  have Hnb := Lib.hid hnb
  obtain ⟨i0, hi, hy0, hy1, hy2⟩ := info_parts (show (Try.prog.info? 51).map (fun i => (i.zero, i.size, i.bytes)) = some (some (.pointer none), 1, 8) by kernel_rfl)
  have hr1 : (1 : Int) ≤ room := by omega
  have hr2 : (room : Int) ≤ 4096 := by omega
  clear hN0 hW3 hnb hB3 hB2 hB1 hL1 hO2 p0 p1
  go_wp2_with fail
  rw [← HW3.out, ← Hnb.out]
  go_loopg [23] 16 (fun g s23 wr => NewRel w nb ob lb lm room q g s23 wr)
  case atStart => exact ⟨0, none, 0, [], _, _, _, _, rfl, by omega, rfl, HN0.out⟩
  case round =>
    obtain ⟨k, va, vc, xs, ub, pb, mb, D, rfl, hk, rfl, hN⟩ := hrel
    have HN := Lib.hid hN
    have c0 := hN.c0
    have f0 := hN.f0
    have c1 := hN.c1
    have bx := hN.box
    have hnl := cell_lt hN.c0
    by_cases hlt : k < 16
    · have hun := unNew_any wr room h1 h2
      have hrow := Lib.hid hN.row
      have hon : (Value.slice va k vc).ownBlock ≠ some nb := fun e => by have := (hN.ownLt e).1; omega
      have Hon := Lib.hid hon
      clear hN bx c1 hon
      go_wp2_with fail
      refine hun.mono ?_
      clear hun
      rintro e w5 ⟨u, p, m, rfl, hu, hu1, hp1, hm1, hB5⟩
      have hz5 := hB5.size
      replace c0 := below_at hB5 c0 hnl
      replace f0 := (hB5.frozen (p := ⟨nb, 0, none⟩) hnl).trans f0
      have HU := Lib.hid hu
      have HB5 := Lib.hid hB5
      have hn5 : nb < w5.heap.size := by omega
      clear hu hB5
      go_wp2_with (at_builtin; refine wpList_append_lies _ (by rfl) _ _ _ (by rfl) (nb + 1) 51 i0 _ 1 8 Try.underlying94 hi hy0 hy1 hy2 rfl (by omega) (.slice va k vc) k xs (by rfl) ((own_below hrow.out HB5.out).alloc _) ⟨w5.heap.size, 0, none⟩ 1 1 [.pointer (some ⟨u, 0, none⟩)] (by rfl) (by rfl) (World.news_of_block (cs := #[.pointer (some ⟨u, 0, none⟩)]) (t := 51) (fr := (0, 0)) (heap_alloc_new _ _)) (by simp [Value.oneCell']) (by omega) (by unfold Go.maxLen; omega) (by omega) (by simp; omega) (w5.heap.size + 1) (by simp) ?_; intro gg cap w8 hown1 hgrow hat hlt4; have hc8 := (grown_at hgrow (Hon.out) ((cell_alloc_lt w5 _ nb 0 hn5).trans c0)); have hf8 := (grown_fr hgrow (Hon.out) (by rw [World.size_alloc]; omega)).trans ((frozen_alloc_lt w5 _ nb 0 hn5).trans f0))
      have hS := Lib.hid (HN.out.step (o := .cells #[.pointer (some ⟨u, 0, none⟩)] 51) hlt HB5.out HU.out hu1 hp1 hm1 hown1 hgrow hat)
      clear hown1 hgrow hat hc8 hf8
      go_roundg (16 - (k + 1))
      case measure => omega
      case rel => exact ⟨k + 1, some ⟨gg, 0, none⟩, cap, _, _, _, _, _, rfl, by omega, by go_num, hS.out⟩
    · obtain rfl : k = 16 := by omega
      have hod := fun W (hW : Mod none' wr W) => ordDo_any 0 q.epoch 0 0 0 ⟨#[]⟩ 0 none 0 0 8 W ob ⟨-1, false, 0⟩ (by unfold Ord.ok; decide) (hN.ord.mod (F := none') hW id)
      clear hlt hN
      go_wp2_with fail
      refine region_tail 7 (by kernel_rfl) (by kernel_rfl) (fun T hT K hK => ?_)
      simp only [List.take_succ_cons, List.take_zero]
      repeat still_step
      refine wpStill_nil (hK _ ?_)
      clear hK
      simp only [List.drop_succ_cons, List.drop_zero] at hT
      subst hT
      go_wp2_with fail
      refine (hod _ (by (repeat' (first | (with_reducible exact (Mod.refl _ _)) | (with_reducible apply Mod.drew) | (with_reducible apply Mod.drewN) | (with_reducible apply Mod.alloc) | (with_reducible apply Mod.setCellAt) | (intro _; first | rfl | exact Or.inl rfl | exact Or.inr rfl) | (intro h; exfalso; omega))))).mono ?_
      clear hod
      rintro e w6 ⟨rfl, hO6, hM6'⟩
      have hM6 : Mod (· = ob) wr w6 := ((Mod.refl _ wr).drew).trans hM6'
      have hst : (ordDo ⟨-1, false, 0⟩ 8 q.epoch 0).2.2 = ⟨q.epoch, true, 0⟩ := by
        have := Hq.out.1
        unfold ordDo ordStart
        rw [if_pos rfl, if_neg (by show ¬ q.epoch ≤ -1; omega), if_neg (by omega)]
      rw [hst] at hO6
      have HO6 := Lib.hid hO6
      have HM6 := Lib.hid hM6
      clear hO6 hM6 hM6' hst c0 c1 f0 bx
      go_wp2_with fail
      go_ret2
      have hN := HN.out
      obtain ⟨gg, cap, hva, hvc⟩ : ∃ gg, va = some ⟨gg, 0, none⟩ ∧ D gg = 18 ∧ ∀ i, i < 16 → wr.cell? ⟨gg, i, none⟩ = some (.pointer (some ⟨ub i, 0, none⟩)) := by
        rcases hN.row.2 with ⟨e, h0⟩ | ⟨g, cap, cur, e, hb, hg, hr⟩
        · omega
        · cases e
          refine ⟨g, rfl, hN.own g rfl, fun i hi => ?_⟩
          have hx := hN.row.cells (g := g) rfl i _ (hN.xat i hi)
          rwa [show ((⟨g, 0, none⟩ : Addr).add i) = ⟨g, i, none⟩ from by unfold Addr.add; by_cases e : i = 0 <;> simp [e]] at hx
      subst cap
      have hF : ∀ k, D k ≠ 16 → ¬ (k = ob) := fun k hk e => hk (by rw [e]; exact hN.dord)
      refine ⟨nb, gg, vc, ob, lb, lm, ub, pb, mb, D, rfl, ⟨HM6.out.at hN.c0 (hF _ (by rw [hN.dn]; omega)), HM6.out.at hN.c1 (hF _ (by rw [hN.dn]; omega)), HM6.out.at hN.c2 (hF _ (by rw [hN.dn]; omega)), fun i hi => HM6.out.at (hvc i hi) (hF _ (by rw [hva]; omega)), fun i hi => ?_, hN.du, HO6.out, ?_, hN.dord, hN.lay.mod HM6.out (fun k hk _ => hF k (by rw [show D k = 17 from hk]; omega)), lay0_ok Hq.out, hN.dn, hva⟩, fun j hj => hN.old j (by omega), hN.below.trans (HM6.out.below_at hN.below.size (fun j hj e => ?_))⟩
      · obtain ⟨e1, e2, e3⟩ := hN.du i hi
        exact ⟨(hN.unit i hi).mod HM6.out (hF _ (by omega)) (hF _ (by omega)) (hF _ (by omega)), pg0_ok h2⟩
      · exact ⟨Int.le_refl _, by show (0 : Int) ≤ 16384; omega⟩
      · have := hN.old j (by omega)
        rw [e, hN.dord] at this
        omega
end Go.Proofs.Ytpkdpmkiplopmaa
/- all nodes together: a unit that there is not -/
namespace Go.Proofs.Ytpkdpmkiplopmaa
open Go.RowKit Esch

variable {w : World} {nb g cap ob lb lm T : Nat} {ub pb mb D : Nat → Nat} {s : NdS}
section
variable (x1 x2 x3 x4 x5 x7 : Int) (d : ByteArray) (ca : Option Addr) (cn cc : Nat)
set_option maxRecDepth 100000 in
set_option maxHeartbeats 1000000 in
theorem unDo_nil (w : World) (k : Int) : Calls Try.prog 61 #[.pointer none, .agg #[.int .i64 k, .int .i64 x1, .int .i64 x2, .int .i64 x3, .int .i64 x4, .int .i64 x5, .string d, .int .i64 x7, .slice ca cn cc]] w
    fun e w' => e = .returned (ansU 1 0 ⟨#[]⟩ 0) ∧ Below w.heap.size w w' := by
  go_enter Try.func61, Try.ntmps61
  go_wp2_with fail
  refine bodyPost_ret (v := ansU 1 0 ⟨#[]⟩ 0) (by simp only [results, Try.results61, ansU]; go_simp) rfl ?_
  exact ⟨rfl, by (repeat (first | with_reducible exact (Below.refl _ _) | with_reducible refine Below.drew ?_ | with_reducible refine Esch.below_drewN ?_ _ | with_reducible refine Below.setCell ?_ (by first | omega | (simp; done) | (simp; omega)) _ | with_reducible refine Below.alloc ?_ (by first | omega | (simp; done) | (simp; omega)) _))⟩
set_option maxRecDepth 100000 in
set_option maxHeartbeats 2000000 in
theorem rpcDo_out (h : NodesAt w nb g cap ob lb lm T ub pb mb D s) (hx : x1 < 0 ∨ 16 ≤ x1) (k : Int) (hk : k = 1 ∨ k = 2 ∨ k = 3 ∨ k = 4 ∨ k = 5) :
    Calls Try.prog 30 #[.pointer (some ⟨nb, 0, none⟩), .agg #[.int .i64 k, .int .i64 x1, .int .i64 x2, .int .i64 x3, .int .i64 x4, .int .i64 x5, .string d, .int .i64 x7, .slice ca cn cc]] w
    fun e w' => e = .returned (ansU 1 0 ⟨#[]⟩ 0) ∧ Below w.heap.size w w' := by
  obtain ⟨W, hW, ab, rb, hab, hrb, hX⟩ : ∃ W, W = _ ∧ ∃ ab rb, ab = w.heap.size ∧ rb = w.heap.size + 1 ∧ Boxed2 w W ab rb (.int .i64 k) (.int .i64 x1) (.int .i64 x2) (.int .i64 x3) (.int .i64 x4) (.int .i64 x5) (.string d) (.int .i64 x7) (.slice ca cn cc) := ⟨_, rfl, _, _, rfl, rfl, boxed2 w _ _ _ _ _ _ _ _ _⟩
  have hak := asked_unit (w := W) x1 x2 x3 x4 x5 x7 d ca cn cc (.pointer (some ⟨nb, 0, none⟩)) (.pointer none) (fun W' hW' => rpcUnit_out ((h.below hX.below).mod (F := none') hW' (fun _ _ _ => id)) x1 hx) k hk
  have hdo := fun W' => unDo_nil x1 x2 x3 x4 x5 x7 d ca cn cc W' k
  have HW := Lib.hid hW
  have HA := Lib.hid hab
  have HR := Lib.hid hrb
  have HX := Lib.hid hX
  have hzW := hX.size
  have hrb2 := hX.brb
  clear h hW hab hrb hX
  go_enter Try.func30, Try.ntmps30
  go_wp2_with fail
  rw [← HW.out, ← HR.out, ← HA.out]
  refine hak.mono ?_
  clear hak
  rintro e w1 ⟨rfl, hM1⟩
  have q0 := hM1.at HX.out.q0 id
  have q1 := hM1.at HX.out.q1 id
  have q2 := hM1.at HX.out.q2 id
  have q3 := hM1.at HX.out.q3 id
  have q4 := hM1.at HX.out.q4 id
  have q5 := hM1.at HX.out.q5 id
  have q6 := hM1.at HX.out.q6 id
  have q7 := hM1.at HX.out.q7 id
  have q8 := hM1.at HX.out.q8 id
  have HM1 := Lib.hid hM1
  clear hM1
  go_wp2_with fail
  refine (hdo w1).mono ?_
  clear hdo q0 q1 q2 q3 q4 q5 q6 q7 q8
  rintro e w4 ⟨rfl, hB4'⟩
  have hM4 : Mod none' W w4 := HM1.out.trans (Mod.of_below hB4')
  obtain ⟨g0, g1, g2, g3, g4, g5, g6, g7, f0, f1, f2, f3, f4, f5, f6, f7⟩ := HX.out.far hM4 id
  have HB4 := Lib.hid (HX.out.below.trans (hM4.below.mono HX.out.below.size))
  clear hM4 hB4'
  simp only [ansU]
  go_wp2_with fail
  refine bodyPost_ret (v := ansU 1 0 ⟨#[]⟩ 0) (by simp only [results, Try.results30, ansU]; go_simp) rfl ?_
  exact ⟨rfl, by (repeat (first | with_reducible exact HB4.out | with_reducible refine Below.drew ?_ | with_reducible refine Esch.below_drewN ?_ _ | with_reducible refine Below.setCell ?_ (by first | omega | (simp; done) | (simp; omega)) _ | with_reducible refine Below.alloc ?_ (by first | omega | (simp; done) | (simp; omega)) _))⟩
end
end Go.Proofs.Ytpkdpmkiplopmaa
/- what the laws of the nodes wake them by -/
namespace Go.Proofs.Ytpkdpmkiplopmaa
open Go.RowKit Esch

theorem lit2n (w : World) (x y : Int) : ListsAt (From w.heap.size) ((w.alloc (.cells #[.int .i64 x, .int .i64 y] 3)).alloc (.cells #[.slice (some ⟨w.heap.size, 0, none⟩) 2 2] 40)) (some ⟨w.heap.size + 1, 0, none⟩) [[x, y]] := by
  refine ⟨by simp, fun _ => ⟨w.heap.size + 1, 0, rfl, by show w.heap.size ≤ _; omega, by simp, fun i hi => ?_⟩⟩
  simp only [List.length_cons, List.length_nil] at hi
  obtain rfl : i = 0 := by omega
  refine ⟨some ⟨w.heap.size, 0, none⟩, 2, by go_simp, ⟨by simp, fun _ => ⟨w.heap.size, 0, rfl, Nat.le_refl _, by simp only [World.size_alloc]; omega, fun j hj => ?_⟩⟩, by simp, by omega⟩
  simp only [List.getD_cons_zero, List.length_cons, List.length_nil] at hj
  have : j = 0 ∨ j = 1 := by omega
  rcases this with rfl | rfl
  · go_simp
  · go_simp

abbrev q13 : Proj := ⟨2, [[0, 1]]⟩
/-- a box of an answer -/
theorem ansBoxN (w : World) (T : TypeId) (x0 x1 x2 x3 x4 x5 x6 x7 : Value) : ∃ W, W = w.alloc (.cells #[x0, x1, x2, x3, x4, x5, x6, x7] T) ∧ Below w.heap.size w W ∧ W.heap.size = w.heap.size + 1 ∧
    W.cell? ⟨w.heap.size, 0, none⟩ = some x0 ∧ W.cell? ⟨w.heap.size, 1, none⟩ = some x1 ∧ W.cell? ⟨w.heap.size, 3, none⟩ = some x3 := ⟨_, rfl, by (repeat (first | with_reducible exact (Below.refl _ _) | with_reducible refine Below.drew ?_ | with_reducible refine Esch.below_drewN ?_ _ | with_reducible refine Below.setCell ?_ (by first | omega | (simp; done) | (simp; omega)) _ | with_reducible refine Below.alloc ?_ (by first | omega | (simp; done) | (simp; omega)) _)), by simp, by go_simp, by go_simp, by go_simp⟩

theorem wk13o : ordDo ⟨2, true, 0⟩ 6 2 0 = (0, 0, ⟨2, true, 1⟩) := rfl
def wk13u : UnS := ⟨⟨9, 0, [(0, (1, ⟨#[97]⟩))]⟩, 0, false⟩
theorem wk13d : (un0 9).do 1 2 0 ⟨#[97]⟩ = ((0, 0, ⟨#[]⟩, 0), wk13u) := by rfl
theorem wk13uok : wk13u.pg.ok := by
  have := (pg0_ok (show 9 ≤ 4096 by decide)).write_ok 0 ⟨#[97]⟩
  exact this
theorem wk13l (s : LayS) : layDo s 9 p0 0 0 0 = (⟨0, s.n, s.p, s.mark, s.size⟩, s) := by unfold layDo; rw [if_pos rfl]
set_option maxRecDepth 100000 in
set_option maxHeartbeats 2000000 in
theorem wakes13_any (w : World) : Calls Try.prog 28 #[] w fun e w' => e = .returned (.bool true) ∧ Below w.heap.size w w' := by
  go_enter Try.func28, Try.ntmps28
  go_wp2_with fail
  have hnew : Calls Try.prog 34 #[.agg #[.int .i64 2, .slice (some ⟨w.heap.size + 1, 0, none⟩) 1 1], .int .i64 9] _ (NdNew _ q13 9) := rpcNew_any _ _ q13 _ 1 9 (by decide) (lit2n w 0 1) (by decide) (by decide)
  refine hnew.mono ?_
  clear hnew
  rintro e w1 ⟨nb, g, cap, ob, lb, lm, ub, pb, mb, D, rfl, hN, hD, hB1⟩
  simp only [World.size_alloc] at hB1 hD
  have hz1 := hB1.size
  have hBw1 : Below w.heap.size w w1 := (((Below.refl _ w).alloc (Nat.le_refl _) _).alloc (by simp) _).trans (hB1.mono (by omega))
  clear hB1
  go_wp2_with fail
  have hd1 := rpcDo_ord 0 2 0 0 0 0 ⟨#[]⟩ none 0 0 hN 6 (by decide)
  rw [show ordDo (nd0 q13 9).o 6 2 0 = (0, 0, ⟨2, true, 1⟩) from wk13o] at hd1
  refine hd1.mono ?_
  clear hd1
  rintro e w2 ⟨rfl, hO2, hM2⟩
  have hz2 := hM2.size
  have hN2 := hN.setOrd hO2 (by unfold Ord.ok; decide) hM2
  have hBw2 : Below w.heap.size w w2 := hBw1.trans (hM2.below_at hBw1.size (fun k hk e => by have := hD k (by omega); rw [e, hN.dord] at this; omega))
  simp only [ansV]
  clear hO2 hM2 hN
  go_wp2_with fail
  obtain ⟨W2, hW2, hBW2, hzW2, a0, a1, -⟩ := ansBoxN w2 49 (.int .i64 0) (.int .i64 0) (.string ⟨#[]⟩) (.int .i64 0) (.slice none 0 0) (.int .i64 0) (.int .i64 0) (.int .i64 2)
  rw [← hW2]
  clear hW2
  have k1 := cell_lt (hN2.unit 1 (by decide)).1.c0
  have k2 := cell_lt (hN2.unit 1 (by decide)).1.pages.c0
  have k3 := (hN2.unit 1 (by decide)).1.pages.mlt
  have k4 := hN2.lay.lt
  have k5 := hN2.lay.map.lt
  have hN2 := hN2.below hBW2
  have hBw2a := hBw2.trans (hBW2.mono hBw2.size)
  have hd2 : Calls Try.prog 30 #[.pointer (some ⟨nb, 0, none⟩), .agg #[.int .i64 1, .int .i64 1, .int .i64 2, .int .i64 0, .int .i64 0, .int .i64 0, .string ⟨#[97]⟩, .int .i64 0, .slice none 0 0]] W2 _ := rpcDo_unit 2 0 0 0 0 ⟨#[97]⟩ none 0 0 hN2 1 (by decide) 1 (by decide) (by decide)
  rw [show ((nd0 q13 9).units 1).do 1 2 0 ⟨#[97]⟩ = ((0, 0, ⟨#[]⟩, 0), wk13u) from wk13d] at hd2
  refine hd2.mono ?_
  clear hd2
  rintro e w3 ⟨rfl, hU3, hM3⟩
  have hz3 := hM3.size
  have hN3 := hN2.setUnit (i := 1) (by decide) hU3 wk13uok hM3
  obtain ⟨d1, d2, d3⟩ := hN2.du 1 (by decide)
  have hBw3 : Below w.heap.size w w3 := hBw2a.trans (hM3.below_at hBw2a.size (fun k hk e => by have := hD k (by omega); rcases e with rfl | rfl | rfl <;> omega))
  replace a0 := hM3.at a0 (by omega)
  replace a1 := hM3.at a1 (by omega)
  simp only [ansU]
  clear hU3 hM3 d1 d2 d3
  go_wp2_with fail
  obtain ⟨W3, hW3, hBW3, hzW3, b0, -, -⟩ := ansBoxN w3 49 (.int .i64 0) (.int .i64 0) (.string ⟨#[]⟩) (.int .i64 0) (.slice none 0 0) (.int .i64 0) (.int .i64 0) (.int .i64 0)
  rw [← hW3]
  clear hW3
  have hN3 := hN3.below hBW3
  have hBw3a := hBw3.trans (hBW3.mono hBw3.size)
  replace a0 := below_at hBW3 a0 (by omega)
  replace a1 := below_at hBW3 a1 (by omega)
  have hd3 : Calls Try.prog 30 #[.pointer (some ⟨nb, 0, none⟩), .agg #[.int .i64 9, .int .i64 0, .int .i64 0, .int .i64 0, .int .i64 0, .int .i64 0, .string ⟨#[]⟩, .int .i64 0, .slice none 0 0]] W3 _ := rpcDo_lay 0 0 0 0 0 ⟨#[]⟩ none 0 p0 hN3 (by omega) (fun _ => False) (ListsAt.nil _ _ _) (fun k h _ => h.elim) 9 (by decide)
  rw [wk13l] at hd3
  refine hd3.mono ?_
  clear hd3
  rintro e w4 ⟨a4, c4, rfl, -, hL4, hM4⟩
  have hz4 := hM4.size
  have hN4 := hN3.setLay hL4 hN3.lok hM4
  have hBw4 : Below w.heap.size w w4 := hBw3a.trans (hM4.below_at hBw3a.size (fun k hk e => by
    have := hD k (by omega)
    have s1 : D lb = 17 := hN3.lay.sb
    have s2 : D lm = 17 := hN3.lay.sm
    rcases e with rfl | rfl <;> omega))
  replace a0 := hM4.at a0 (by omega)
  replace a1 := hM4.at a1 (by omega)
  replace b0 := hM4.at b0 (by omega)
  simp only [ansL]
  clear hL4 hM4 hN3 hN2
  have hN5 : ∃ D' s', NodesAt w4 nb g cap ob lb lm (16 + 16) ub pb mb D' s' ∧ (s'.units 1).pg.m.length = 1 := ⟨_, _, hN4, rfl⟩
  have he4 : (nd0 q13 9).l.p.epoch = 2 := rfl
  have HN5 := Lib.hid hN5
  have r1 : w2.heap.size < w4.heap.size := by omega
  have r2 : w3.heap.size < w4.heap.size := by omega
  clear hN4 hN5
  go_wp2_with fail
  obtain ⟨D', s', hN, hu1⟩ := HN5.out
  obtain ⟨W4, hW4⟩ : ∃ W4, W4 = w4.alloc (.cells #[.int .i64 0, .int .i64 (nd0 q13 9).l.n, .string ⟨#[]⟩, .int .i64 2, .slice a4 (nd0 q13 9).l.p.chains.length c4, .int .i64 (nd0 q13 9).l.mark, .int .i64 (nd0 q13 9).l.size, .int .i64 0] 49) := ⟨_, rfl⟩
  have hB4a : Below w4.heap.size w4 W4 := by rw [hW4]; (repeat (first | with_reducible exact (Below.refl _ _) | with_reducible refine Below.drew ?_ | with_reducible refine Esch.below_drewN ?_ _ | with_reducible refine Below.setCell ?_ (by first | omega | (simp; done) | (simp; omega)) _ | with_reducible refine Below.alloc ?_ (by first | omega | (simp; done) | (simp; omega)) _))
  have hN := hN.below hB4a
  have hBw5 := hBw4.trans (hB4a.mono hBw4.size)
  rw [← hW4]
  have hun : Calls Try.prog 31 #[.pointer (some ⟨nb, 0, none⟩), .int .i64 1] W4 _ := rpcUnit_in hN 1 (by decide)
  clear hW4 hB4a
  refine hun.mono ?_
  clear hun
  rintro e w5 ⟨rfl, hM5⟩
  have hN5 := hN.mod hM5 (fun _ _ _ => id)
  have hpg := unPages_any w5 _ _ _ _ (hN5.unit 1 (by decide)).1
  go_wp2_with fail
  refine hpg.mono ?_
  clear hpg
  rintro e w6 ⟨rfl, rfl⟩
  have hus := pused_any w6 _ _ _ (hN5.unit 1 (by decide)).1.pages
  rw [hu1] at hus
  go_wp2_with fail
  refine hus.mono ?_
  clear hus
  rintro e w7 ⟨rfl, hM7⟩
  have hN7 := hN5.mod hM7 (fun _ _ _ => id)
  have hun2 := rpcUnit_out hN7 16 (by decide)
  clear hN hN5
  go_wp2_with fail
  refine hun2.mono ?_
  clear hun2
  rintro e w8 ⟨rfl, hM8⟩
  have hB8 : Below w.heap.size w w8 := hBw5.trans (((hM5.trans (hM7.trans hM8)).below).mono hBw5.size)
  go_wp2_with fail
  go_ret
  exact ⟨rfl, by (repeat (first | with_reducible exact hB8 | with_reducible refine Below.drew ?_ | with_reducible refine Esch.below_drewN ?_ _ | with_reducible refine Below.setCell ?_ (by first | omega | (simp; done) | (simp; omega)) _ | with_reducible refine Below.alloc ?_ (by first | omega | (simp; done) | (simp; omega)) _))⟩
end Go.Proofs.Ytpkdpmkiplopmaa
/- lists of questions: how they are read -/
namespace Go.Proofs.Ytpkdpmkiplopmaa
open Go.RowKit Esch

/-- the questions of a slice -/
def AsksAt (w : World) (oa : Option Addr) (n : Nat) (qs : Nat → AskC) : Prop :=
  0 < n → ∃ b off, oa = some ⟨b, off, none⟩ ∧ b < w.heap.size ∧ ∀ i, i < n → (qs i).ok w ∧ ∀ j v, (qs i).cells[j]? = some v → w.cell? ⟨b, off + i * 9 + j, none⟩ = some v
theorem rd_asks {w : World} {cs : List Value} {d : D} (h : Rd w (.slice tyAsk) cs d) : ∃ (oa : Option Addr) (n cap : Nat) (qs : Nat → AskC), cs.headD undef = .slice oa n cap ∧ n ≤ 9223372036854775807 ∧ AsksAt w oa n qs := by
  obtain ⟨l, f, rfl, ⟨a0, cap, hv, -, hn, hc⟩, hl⟩ := rd_sliceAt h
  obtain ⟨xs, hxl, hx⟩ := choose_list l.length (fun i (x : AskC) => f i = x.cells ∧ x.ok w) (fun i hi => rd_ask (hl i hi))
  refine ⟨a0, l.length, cap, fun i => xs.getD i default, hv, hn, fun h0 => ?_⟩
  obtain ⟨b, off, rfl, hb, hcell⟩ := hc h0 (by decide)
  refine ⟨b, off, rfl, hb, fun i hi => ?_⟩
  obtain ⟨h1, h2⟩ := hx i hi
  refine ⟨h2, fun j v hj => ?_⟩
  have hj9 : j < 9 := by
    have := (List.getElem?_eq_some_iff.1 hj).1
    rw [AskC.cells_len] at this
    exact this
  have := hcell i hi j (by show j < 9; omega)
  rw [h1, hj] at this
  rw [← this]
  rfl
/-- a question's nine cells, as they lie -/
theorem AsksAt.get {w : World} {oa : Option Addr} {n k : Nat} {qs : Nat → AskC} (h : AsksAt w oa n qs) (hk : k < n) : ∃ b off, oa = some ⟨b, off, none⟩ ∧ b < w.heap.size ∧ (qs k).data.size ≤ 9223372036854775807 ∧ ListsAt (Old w) w (qs k).ca (qs k).ls ∧
    w.cell? ⟨b, off + k * 9, none⟩ = some (.int .i64 (qs k).kind) ∧ w.cell? ⟨b, off + k * 9 + 1, none⟩ = some (.int .i64 (qs k).unit) ∧ w.cell? ⟨b, off + k * 9 + 2, none⟩ = some (.int .i64 (qs k).epoch) ∧
    w.cell? ⟨b, off + k * 9 + 3, none⟩ = some (.int .i64 (qs k).page) ∧ w.cell? ⟨b, off + k * 9 + 4, none⟩ = some (.int .i64 (qs k).size) ∧ w.cell? ⟨b, off + k * 9 + 5, none⟩ = some (.int .i64 (qs k).n) ∧
    w.cell? ⟨b, off + k * 9 + 6, none⟩ = some (.string (qs k).data) ∧ w.cell? ⟨b, off + k * 9 + 7, none⟩ = some (.int .i64 (qs k).pe) ∧ w.cell? ⟨b, off + k * 9 + 8, none⟩ = some (.slice (qs k).ca (qs k).ls.length (qs k).cc) := by
  obtain ⟨b, off, e, hb, hc⟩ := h (by omega)
  obtain ⟨⟨h1, h2⟩, h3⟩ := hc k hk
  exact ⟨b, off, e, hb, h1, h2, h3 0 _ rfl, h3 1 _ rfl, h3 2 _ rfl, h3 3 _ rfl, h3 4 _ rfl, h3 5 _ rfl, h3 6 _ rfl, h3 7 _ rfl, h3 8 _ rfl⟩

def askLarge (q : AskC) : Bool := decide (6000 < q.data.size) || largeProj q.ls
end Go.Proofs.Ytpkdpmkiplopmaa
/- are questions fair? (law 13) -/
namespace Go.Proofs.Ytpkdpmkiplopmaa
open Go.RowKit Esch

def FairRel (w : World) (qs : Nat → AskC) (n g : Nat) (s3 : Value) (wr : World) : Prop :=
  ∃ k : Nat, g = n - k ∧ k ≤ n ∧ s3 = .int .i64 k ∧ (∀ i, i < k → askLarge (qs i) = false) ∧ Below w.heap.size w wr
set_option maxHeartbeats 1000000 in
theorem fair13_any (w0 : World) (oa : Option Addr) (n cap : Nat) (qs : Nat → AskC) (hn : n ≤ 9223372036854775807) (h : AsksAt w0 oa n qs) (w : World) (hw : Below w0.heap.size w0 w) :
    Calls Try.prog 35 #[.slice oa n cap] w fun e w' => ∃ f, e = .returned (.bool f) ∧ (f = true → n ≤ 150 ∧ ∀ i, i < n → askLarge (qs i) = false) ∧ Below w.heap.size w w' := by
  have Hw := Lib.hid hw
  have H := Lib.hid h
  clear hw h
  go_enter Try.func35, Try.ntmps35
  go_wp2_with fail
  go_loopg [3] n (fun g s3 wr => FairRel w qs n g s3 wr)
  case atStart => exact ⟨0, rfl, Nat.zero_le _, rfl, fun i hi => absurd hi (by omega), Below.refl _ _⟩
  case round =>
    obtain ⟨k, rfl, hk, rfl, hfa, hBr⟩ := hrel
    have Hfa := Lib.hid hfa
    clear hfa
    have hB0 := Hw.out.trans (hBr.mono Hw.out.size)
    by_cases hlt : k < n
    · obtain ⟨b, off, rfl, hb, hd, hl, c0, c1, c2, c3, c4, c5, c6, c7, c8⟩ := H.out.get hlt
      obtain ⟨q, hq⟩ : ∃ q, q = qs k := ⟨_, rfl⟩
      rw [← hq] at hd hl c0 c1 c2 c3 c4 c5 c6 c7 c8
      have Hq := Lib.hid hq
      clear hq
      obtain ⟨qk, qu, qe, qp, qz, qn, qd, qpe, qca, qls, qcc⟩ := q
      simp only at hd hl c0 c1 c2 c3 c4 c5 c6 c7 c8
      replace c0 := below_at hB0 c0 hb
      replace c1 := below_at hB0 c1 hb
      replace c2 := below_at hB0 c2 hb
      replace c3 := below_at hB0 c3 hb
      replace c4 := below_at hB0 c4 hb
      replace c5 := below_at hB0 c5 hb
      replace c6 := below_at hB0 c6 hb
      replace c7 := below_at hB0 c7 hb
      replace c8 := below_at hB0 c8 hb
      have hla := largeAsk_any _ qk qu qe qp qz qn qd hd qpe qca qcc qls wr (old_below hl hB0)
      clear hB0 hl
      go_wp2_with fail
      refine hla.mono ?_
      clear hla
      rintro r w3 ⟨rfl, hB3⟩
      obtain ⟨lg, hlg⟩ : ∃ lg, lg = (decide (6000 < qd.size) || largeProj qls) := ⟨_, rfl⟩
      rw [← hlg]
      have Hlg := Lib.hid hlg
      clear hlg
      have hB4 := hBr.trans (hB3.mono hBr.size)
      cases lg
      · go_wp2_with fail
        go_roundg (n - (k + 1))
        case measure => omega
        case rel =>
          refine ⟨k + 1, rfl, by omega, by go_num, fun i hi => ?_, hB4⟩
          by_cases hi' : i < k
          · exact Hfa.out i hi'
          · obtain rfl : i = k := by omega
            rw [← Hq.out]
            exact Hlg.out.symm
      · go_wp2_with fail
        go_ret
        exact ⟨false, rfl, fun h => (by cases h), hB4⟩
    · have hge : n ≤ k := by omega
      obtain rfl : k = n := by omega
      clear hlt
      by_cases h100 : k ≤ 150
      · go_wp2_with fail
        go_ret
        exact ⟨_, rfl, fun _ => ⟨h100, Hfa.out⟩, hBr⟩
      · have h100' : 150 < k := by omega
        go_wp2_with fail
        go_ret
        refine ⟨_, rfl, fun h => ?_, hBr⟩
        first
          | exact absurd (of_decide_eq_true h) (by omega)
          | cases h
end Go.Proofs.Ytpkdpmkiplopmaa
/- RpcApart: the walk -/
namespace Go.Proofs.Ytpkdpmkiplopmaa
open Go.RowKit Esch

theorem lists2n {S : Nat → Prop} {W : World} {o i0 i1 : Nat} {l0 l1 : List Int} (c0 : W.cell? ⟨o, 0, none⟩ = some (.slice (some ⟨i0, 0, none⟩) l0.length l0.length)) (c1 : W.cell? ⟨o, 1, none⟩ = some (.slice (some ⟨i1, 0, none⟩) l1.length l1.length))
    (h0 : ∀ i, i < l0.length → W.cell? ⟨i0, i, none⟩ = some (.int .i64 (l0.getD i 0))) (h1 : ∀ i, i < l1.length → W.cell? ⟨i1, i, none⟩ = some (.int .i64 (l1.getD i 0)))
    (so : S o) (s0 : S i0) (s1 : S i1) (m0 : l0.length ≤ 100) (m1 : l1.length ≤ 100) : ListsAt S W (some ⟨o, 0, none⟩) [l0, l1] := by
  refine ⟨by simp, fun _ => ⟨o, 0, rfl, so, cell_lt c0, fun i hi => ?_⟩⟩
  have : i = 0 ∨ i = 1 := by simp only [List.length_cons, List.length_nil] at hi; omega
  rcases this with rfl | rfl
  · refine ⟨_, _, c0, ⟨show l0.length ≤ _ by omega, fun h => ⟨i0, 0, rfl, s0, ?_, fun j hj => ?_⟩⟩, Nat.le_refl _, show l0.length ≤ _ by omega⟩
    · exact cell_lt (h0 0 h)
    · rw [Nat.zero_add]; exact h0 j hj
  · refine ⟨_, _, c1, ⟨show l1.length ≤ _ by omega, fun h => ⟨i1, 0, rfl, s1, ?_, fun j hj => ?_⟩⟩, Nat.le_refl _, show l1.length ≤ _ by omega⟩
    · exact cell_lt (h1 0 h)
    · rw [Nat.zero_add]; exact h1 j hj
abbrev qa : Proj := ⟨0, [[0, 1], [2]]⟩
theorem litA (w : World) : ListsAt (From w.heap.size) (((w.alloc (.cells #[.int .i64 0, .int .i64 1] 3)).alloc (.cells #[.int .i64 2] 3)).alloc (.cells #[.slice (some ⟨w.heap.size, 0, none⟩) 2 2, .slice (some ⟨w.heap.size + 1, 0, none⟩) 1 1] 40)) (some ⟨w.heap.size + 1 + 1, 0, none⟩) qa.chains := by
  refine lists2n (i0 := w.heap.size) (i1 := w.heap.size + 1) (l0 := [0, 1]) (l1 := [2]) (by go_simp) (by go_simp) ?_ ?_ (by show w.heap.size ≤ _; omega) (by show w.heap.size ≤ _; omega) (by show w.heap.size ≤ _; omega) (by decide) (by decide)
  · intro i hi
    have : i = 0 ∨ i = 1 := by simp only [List.length_cons, List.length_nil] at hi; omega
    rcases this with rfl | rfl <;> go_simp
  · intro i hi
    obtain rfl : i = 0 := by simpa using hi
    go_simp
/-- a unit's pages stay good -/
theorem UnS.do_ok {s : UnS} (h : s.pg.ok) (k ep page : Int) (d : ByteArray) : (s.do k ep page d).2.pg.ok := by
  unfold UnS.do
  split
  · exact h
  · split
    · exact h
    · split
      · exact h
      · split
        · exact h.write_ok _ _
        · split
          · exact h.fill_ok _
          · split
            · exact h
            · split
              · exact h.trim_ok _
              · exact h
@[simp] theorem fieldAp0 (x y : Value) (w : World) : (Instr.field 24 (.agg #[x, y]) 0).run Try.prog w = .ok x w := by kernel_rfl
@[simp] theorem fieldAp1 (x0 x1 x2 x3 x4 x5 x6 x7 : Value) (w : World) : (Instr.field 49 (.agg #[x0, x1, x2, x3, x4, x5, x6, x7]) 1).run Try.prog w = .ok x1 w := by kernel_rfl
def apU : UnS := ⟨⟨30, 0, [(2, (1, ⟨#[109, 105, 110, 101]⟩))]⟩, 0, false⟩
theorem apU_ok : apU.pg.ok := (pg0_ok (show 30 ≤ 4096 by decide)).write_ok 2 ⟨#[109, 105, 110, 101]⟩
/-- nodes whose unit un, sequencer and layout are as they were -/
def ApAt (w : World) (nb g cp ob lb lm : Nat) (ub pb mb D : Nat → Nat) (un : Nat) (wr : World) : Prop := ∃ s : NdS, NodesAt wr nb g cp ob lb lm 16 ub pb mb D s ∧ s.units un = apU ∧ s.o = ⟨0, true, 0⟩ ∧ s.l = lay0 qa ∧ Below w.heap.size w wr
def ApRel (w : World) (nb g cp ob lb lm : Nat) (ub pb mb D : Nat → Nat) (un n gg : Nat) (s8 : Value) (wr : World) : Prop := ∃ i : Nat, gg = n - i ∧ i ≤ n ∧ s8 = .int .i64 i ∧ ApAt w nb g cp ob lb lm ub pb mb D un wr
set_option maxRecDepth 100000 in
set_option maxHeartbeats 2000000 in
theorem apart_walk (oa : Option Addr) (n cap : Nat) (qs : Nat → AskC) (hn : n ≤ 9223372036854775807) (kv : Int) (hk0 : 0 ≤ kv) (hk1 : kv ≤ 255) (w : World) (hoa : AsksAt w oa n qs) :
    Calls Try.prog 9 #[.slice oa n cap, .int .u8 kv] w fun e w' => e = .returned (.bool true) ∧ Below w.heap.size w w' := by
  have Hoa := Lib.hid hoa
  clear hoa
  go_enter Try.func9, Try.ntmps9
  go_wp2_with fail
  have hnew : Calls Try.prog 34 #[.agg #[.int .i64 0, .slice (some ⟨w.heap.size + 1 + 1, 0, none⟩) 2 2], .int .i64 30] _ (NdNew _ qa 30) := rpcNew_any _ _ qa _ 2 30 (by decide) (litA w) (by decide) (by decide)
  refine hnew.mono ?_
  clear hnew
  rintro e w1 ⟨nb, g, cp, ob, lb, lm, ub, pb, mb, D, rfl, hN, hD, hB1⟩
  simp only [World.size_alloc] at hB1 hD
  have hz1 := hB1.size
  have hBw1 : Below w.heap.size w w1 := ((((Below.refl _ w).alloc (Nat.le_refl _) _).alloc (by simp) _).alloc (by simp only [World.size_alloc]; omega) _).trans (hB1.mono (by omega))
  clear hB1
  go_wp2_with fail
  refine (fair13_any w oa n cap qs hn Hoa.out w1 hBw1).mono ?_
  rintro e w2 ⟨f, rfl, hf, hB2⟩
  have hz2 := hB2.size
  have hBw2 := hBw1.trans (hB2.mono hBw1.size)
  have hN := hN.below hB2
  have Hf := Lib.hid hf
  clear hf
  cases f
  · go_wp2_with fail
    refine (wakes13_any _).mono ?_
    rintro e w3 ⟨rfl, hB3⟩
    go_wp2_with fail
    go_ret
    exact ⟨rfl, hBw2.trans (hB3.mono hBw2.size)⟩
  · obtain ⟨un, hun, hlt⟩ : ∃ un : Nat, kv % 16 = un ∧ un < 16 := ⟨(kv % 16).toNat, by omega, by omega⟩
    have Hun := Lib.hid hun
    have hqn := (Hf.out rfl).1
    have hd1 := rpcDo_unit 0 2 0 0 0 ⟨#[109, 105, 110, 101]⟩ none 0 0 hN un hlt 1 (by decide) (by decide)
    rw [show ((nd0 qa 30).units un).do 1 0 2 ⟨#[109, 105, 110, 101]⟩ = ((0, 0, ⟨#[]⟩, 0), apU) from rfl] at hd1
    clear hun
    go_wp2_with fail
    rw [Hun.out]
    refine hd1.mono ?_
    clear hd1
    rintro e w3 ⟨rfl, hU3, hM3⟩
    have hz3 := hM3.size
    have hN3 := hN.setUnit hlt hU3 apU_ok hM3
    obtain ⟨d1, d2, d3⟩ := hN.du un hlt
    have hBw3 : Below w.heap.size w w3 := hBw2.trans (hM3.below_at hBw2.size (fun k hk e => by have := hD k (by omega); rcases e with rfl | rfl | rfl <;> omega))
    have hR0 : ApAt w nb g cp ob lb lm ub pb mb D un w3 := ⟨_, hN3, by simp, rfl, rfl, hBw3⟩
    have HR0 := Lib.hid hR0
    clear hU3 hM3 hN hN3 d1 d2 d3 hBw3
    go_wp2_with fail
    go_loopg [8] n (fun gg s8 wr => ApRel w nb g cp ob lb lm ub pb mb D un n gg s8 wr)
    case atStart => exact ⟨0, rfl, Nat.zero_le _, rfl, HR0.out⟩
    case round =>
      obtain ⟨i, rfl, hi, rfl, s, hN, hs1, hs2, hs3, hBr⟩ := hrel
      have hzr := hBr.size
      by_cases hin : i < n
      · obtain ⟨b, off, rfl, hb, hd, hl, c0, c1, c2, c3, c4, c5, c6, c7, c8⟩ := Hoa.out.get hin
        obtain ⟨x, hx⟩ : ∃ x, x = qs i := ⟨_, rfl⟩
        rw [← hx] at hd hl c0 c1 c2 c3 c4 c5 c6 c7 c8
        have Hx := Lib.hid hx
        clear hx
        obtain ⟨qk, qu, qe, qp, qz, qn, qd, qpe, qca, qls, qcc⟩ := x
        simp only at hd hl c0 c1 c2 c3 c4 c5 c6 c7 c8
        replace c0 := below_at hBr c0 hb
        replace c1 := below_at hBr c1 hb
        replace c2 := below_at hBr c2 hb
        replace c3 := below_at hBr c3 hb
        replace c4 := below_at hBr c4 hb
        replace c5 := below_at hBr c5 hb
        replace c6 := below_at hBr c6 hb
        replace c7 := below_at hBr c7 hb
        replace c8 := below_at hBr c8 hb
        have i0 : (0 : Int) ≤ i := by omega
        have i1 : (i : Int) < n := by omega
        have i2 : (n : Int) ≤ 150 := by omega
        by_cases hu : qu = un
        · subst hu
          have HN := Lib.hid hN
          clear hN
          go_wp2_with fail
          go_roundg (n - (i + 1))
          case measure => omega
          case rel => exact ⟨i + 1, rfl, by omega, by go_num, s, HN.out.mod (F := none') (by (repeat' (first | (with_reducible exact (Mod.refl _ _)) | (with_reducible apply Mod.drew) | (with_reducible apply Mod.drewN) | (with_reducible apply Mod.alloc) | (with_reducible apply Mod.setCellAt) | (intro _; first | rfl | exact Or.inl rfl | exact Or.inr rfl) | (intro h; exfalso; omega)))) (fun _ _ _ => id), hs1, hs2, hs3, by (repeat (first | with_reducible exact hBr | with_reducible refine Below.drew ?_ | with_reducible refine Esch.below_drewN ?_ _ | with_reducible refine Below.setCell ?_ (by first | omega | (simp; done) | (simp; omega)) _ | with_reducible refine Below.alloc ?_ (by first | omega | (simp; done) | (simp; omega)) _))⟩
        · have hne : (qu != (un : Int)) = true := by simpa using hu
          by_cases hk5 : qk ≤ 5
          · have Hu := Lib.hid hu
            have Hk5 := Lib.hid hk5
            have HN := Lib.hid hN
            have hlx : Hid (ListsAt (Old w) w qca qls) := Lib.hid hl
            have HBr := Lib.hid hBr
            clear hu hN hl
            by_cases hk1 : qk < 1
            · have hdo := fun W => rpcDo_no qu qe qp qz qn qpe qd qca qls.length qcc W nb qk (Or.inl hk1)
              clear hk1
              go_wp2_with fail
              refine (hdo _).mono ?_
              clear hdo
              rintro e w4 ⟨rfl, hB4⟩
              have HB4 := Lib.hid hB4
              clear hB4
              go_wp2_with fail
              go_roundg (n - (i + 1))
              case measure => omega
              case rel => exact ⟨i + 1, rfl, by omega, by go_num, s, (HN.out.below (show Below wr.heap.size wr w4 from HB4.out)), hs1, hs2, hs3, HBr.out.trans (HB4.out.mono HBr.out.size)⟩
            · have hk : qk = 1 ∨ qk = 2 ∨ qk = 3 ∨ qk = 4 ∨ qk = 5 := by omega
              by_cases hin16 : 0 ≤ qu ∧ qu < 16
              · obtain ⟨j, rfl⟩ : ∃ j : Nat, qu = j := ⟨qu.toNat, by omega⟩
                have hj : j < 16 := by omega
                have hjn : j ≠ un := fun e => Hu.out (by rw [e])
                have hdo := rpcDo_unit qe qp qz qn qpe qd qca qls.length qcc HN.out j hj qk hk hd
                have hok := UnS.do_ok (HN.out.unit j hj).2 qk qe qp qd
                generalize (s.units j).do qk qe qp qd = r at hdo hok
                have Hok := Lib.hid hok
                clear hk1 hk hin16 hok
                go_wp2_with fail
                refine hdo.mono ?_
                clear hdo
                rintro e w4 ⟨rfl, hU4, hM4⟩
                have HU4 := Lib.hid hU4
                have HM4 := Lib.hid hM4
                clear hU4 hM4
                go_wp2_with fail
                go_roundg (n - (i + 1))
                case measure => omega
                case rel =>
                  refine ⟨i + 1, rfl, by omega, by go_num, _, HN.out.setUnit hj HU4.out Hok.out HM4.out, by show (if un = j then r.2 else s.units un) = apU; rw [if_neg (fun e => hjn e.symm)]; exact hs1, hs2, hs3, HBr.out.trans (HM4.out.below_at HBr.out.size (fun k hk e => ?_))⟩
                  obtain ⟨e1, e2, e3⟩ := HN.out.du j hj
                  have := hD k (by omega)
                  rcases e with rfl | rfl | rfl <;> omega
              · have hdo := rpcDo_out qu qe qp qz qn qpe qd qca qls.length qcc HN.out (by omega) qk hk
                clear hk1 hk hin16
                go_wp2_with fail
                refine hdo.mono ?_
                clear hdo
                rintro e w4 ⟨rfl, hB4⟩
                have HB4 := Lib.hid hB4
                clear hB4
                go_wp2_with fail
                go_roundg (n - (i + 1))
                case measure => omega
                case rel => exact ⟨i + 1, rfl, by omega, by go_num, s, (HN.out.below HB4.out), hs1, hs2, hs3, HBr.out.trans (HB4.out.mono HBr.out.size)⟩
          · have hk5' : decide (qk ≤ 5) = false := decide_eq_false hk5
            have HN := Lib.hid hN
            clear hN hk5
            go_wp2_with fail
            go_roundg (n - (i + 1))
            case measure => omega
            case rel => exact ⟨i + 1, rfl, by omega, by go_num, s, HN.out.mod (F := none') (by (repeat' (first | (with_reducible exact (Mod.refl _ _)) | (with_reducible apply Mod.drew) | (with_reducible apply Mod.drewN) | (with_reducible apply Mod.alloc) | (with_reducible apply Mod.setCellAt) | (intro _; first | rfl | exact Or.inl rfl | exact Or.inr rfl) | (intro h; exfalso; omega)))) (fun _ _ _ => id), hs1, hs2, hs3, by (repeat (first | with_reducible exact hBr | with_reducible refine Below.drew ?_ | with_reducible refine Esch.below_drewN ?_ _ | with_reducible refine Below.setCell ?_ (by first | omega | (simp; done) | (simp; omega)) _ | with_reducible refine Below.alloc ?_ (by first | omega | (simp; done) | (simp; omega)) _))⟩
      · have hd2 := rpcDo_unit 0 2 0 0 0 ⟨#[]⟩ none 0 0 hN un hlt 3 (by decide) (by decide)
        rw [hs1, show apU.do 3 0 2 ⟨#[]⟩ = ((0, 0, ⟨#[109, 105, 110, 101]⟩, 0), apU) from rfl] at hd2
        obtain ⟨d1, d2, d3⟩ := hN.du un hlt
        have HN := Lib.hid hN
        clear hN
        go_wp2_with fail
        refine hd2.mono ?_
        clear hd2
        rintro e w4 ⟨rfl, hU4, hM4⟩
        have hz4 := hM4.size
        have hN4 := HN.out.setUnit hlt hU4 apU_ok hM4
        have hBw4 : Below w.heap.size w w4 := hBr.trans (hM4.below_at hBr.size (fun k hk e => by have := hD k (by omega); rcases e with rfl | rfl | rfl <;> omega))
        have hN5 : ∃ s', NodesAt w4 nb g cp ob lb lm 16 ub pb mb D s' ∧ s'.units un = apU ∧ s'.o = ⟨0, true, 0⟩ ∧ s'.l = lay0 qa := ⟨_, hN4, by simp, hs2, hs3⟩
        have HN5 := Lib.hid hN5
        clear hU4 hM4 hN4 hN5 d1 d2 d3
        simp only [ansU]
        go_wp2_with fail
        obtain ⟨s', hN, e1, e2, e3⟩ := HN5.out
        obtain ⟨W4, hW4⟩ : ∃ W4, W4 = w4.alloc (.cells #[.int .i64 0, .int .i64 0, .string ⟨#[109, 105, 110, 101]⟩, .int .i64 0, .slice none 0 0, .int .i64 0, .int .i64 0, .int .i64 0] 49) := ⟨_, rfl⟩
        have hB4a : Below w4.heap.size w4 W4 := by rw [hW4]; (repeat (first | with_reducible exact (Below.refl _ _) | with_reducible refine Below.drew ?_ | with_reducible refine Esch.below_drewN ?_ _ | with_reducible refine Below.setCell ?_ (by first | omega | (simp; done) | (simp; omega)) _ | with_reducible refine Below.alloc ?_ (by first | omega | (simp; done) | (simp; omega)) _))
        have hN := hN.below hB4a
        have hBw5 := hBw4.trans (hB4a.mono hBw4.size)
        rw [← hW4]
        clear hW4 hB4a
        refine (rpcUnit_in hN un hlt).mono ?_
        rintro e w5 ⟨rfl, hM5⟩
        have hN5 := hN.mod hM5 (fun _ _ _ => id)
        have hep := unEpoch_any w5 _ _ _ _ (hN5.unit un hlt).1
        rw [e1] at hep
        go_wp2_with fail
        refine hep.mono ?_
        clear hep
        rintro e w6 ⟨rfl, rfl⟩
        have hui := rpcUnit_in hN5 un hlt
        go_wp2_with fail
        refine hui.mono ?_
        clear hui
        rintro e w7 ⟨rfl, hM7⟩
        have hN7 := hN5.mod hM7 (fun _ _ _ => id)
        have hpg := unPages_any w7 _ _ _ _ (hN7.unit un hlt).1
        go_wp2_with fail
        refine hpg.mono ?_
        clear hpg
        rintro e w8 ⟨rfl, rfl⟩
        have hus := pused_any w8 _ _ _ (hN7.unit un hlt).1.pages
        rw [e1] at hus
        have hus' : Calls Try.prog 38 #[.pointer (some ⟨pb un, 0, none⟩)] w8 fun e w' => e = .returned (.int .i64 1) ∧ Mod none' w8 w' := hus
        go_wp2_with fail
        refine hus'.mono ?_
        clear hus hus'
        rintro e w9 ⟨rfl, hM9⟩
        have hN9 := hN7.mod hM9 (fun _ _ _ => id)
        have hor := rpcOrder_any hN9
        go_wp2_with fail
        refine hor.mono ?_
        clear hor
        rintro e w10 ⟨rfl, rfl⟩
        have hoe := epoch_any w10 _ _ hN9.ord
        rw [e2] at hoe
        go_wp2_with fail
        refine hoe.mono ?_
        clear hoe
        rintro e w11 ⟨rfl, rfl⟩
        have hla := rpcLayout_any hN9
        go_wp2_with fail
        refine hla.mono ?_
        clear hla
        rintro e w12 ⟨rfl, rfl⟩
        have hnw := layNow_any _ w12 _ _ _ _ hN9.lok hN9.lay
        rw [e3] at hnw
        go_wp2_with fail
        refine hnw.mono ?_
        clear hnw
        rintro e w13 ⟨a13, c13, rfl, -, hB13⟩
        have hN13 := hN9.below hB13
        have hdn := rpcDo_ord 0 0 0 0 0 0 ⟨#[]⟩ none 0 0 hN13 6 (by decide)
        rw [e2, show ordDo ⟨0, true, 0⟩ 6 0 0 = (0, 0, ⟨0, true, 1⟩) from rfl] at hdn
        have hBw13 : Below w.heap.size w w13 := hBw5.trans ((((hM5.trans (hM7.trans hM9)).below).trans (hB13.mono ((hM5.trans (hM7.trans hM9)).size))).mono hBw5.size)
        clear hN hN5 hN7 hN9
        go_wp2_with fail
        refine hdn.mono ?_
        clear hdn
        rintro e w14 ⟨rfl, -, hM14⟩
        have hBw14 : Below w.heap.size w w14 := hBw13.trans (hM14.below_at hBw13.size (fun k hk e => by have := hD k (by omega); rw [e, hN13.dord] at this; omega))
        simp only [ansV]
        go_wp2_with fail
        refine (wakes13_any _).mono ?_
        rintro e w15 ⟨rfl, hB15⟩
        go_wp2_with fail
        go_ret
        exact ⟨rfl, hBw14.trans (hB15.mono hBw14.size)⟩
end Go.Proofs.Ytpkdpmkiplopmaa
