import Derived.Test.YtpkdpmkiplopmaaLayout2
/- the layout: a projection counts; which may count next -/
namespace Go.Proofs.Ytpkdpmkiplopmaa
open Go.RowKit Esch

theorem LayAt.setMap {S : Nat → Prop} {w w' : World} {b mb T T' : Nat} {s : LayS} {used' : List Int} (h : LayAt S w b mb T s) (hM : Mod (· = mb) w w') (hU : MapU w' mb T' used') : LayAt S w' b mb T' { s with used := used' } := by
  have hl := h.lt
  have hb := h.ne
  obtain ⟨a, c, h1, h2⟩ := h.c1
  exact ⟨hM.at h.c0 hb, ⟨a, c, hM.at h1 hb, h2.mod hM (fun k hk _ e => hk.2.2 e)⟩, hM.at h.c2 hb, hM.at h.c3 hb, hM.at h.c4 hb, hM.at h.c5 hb, fun o ho => (hM.frozen (p := ⟨b, o, none⟩) hl hb).trans (h.fr o ho), hU, h.ne, h.sb, h.sm⟩
/-- the projection is stored -/
theorem LayAt.setProj {S : Nat → Prop} {w w1 : World} {b mb T : Nat} {s : LayS} {q : Proj} {a : Option Addr} {c B : Nat} (h : LayAt S w b mb T s) (hB : Below w.heap.size w w1) (hq : ListsAt (From B) w1 a q.chains) (hBw : w.heap.size ≤ B) :
    LayAt (fun k => S k ∨ w.heap.size ≤ k) ((w1.setCell ⟨b, 0, none⟩ (.int .i64 q.epoch)).setCell ⟨b, 1, none⟩ (.slice a q.chains.length c)) b mb T { s with p := q } := by
  have h1 := h.below hB
  have hl := h.lt
  have hml := h.map.lt
  obtain ⟨a0, d0, x1, -⟩ := h1.c1
  have f0 := h1.fr 0 (by omega)
  have f1 := h1.fr 1 (by omega)
  have c0 := h1.c0
  have c2 := h1.c2
  have c3 := h1.c3
  have c4 := h1.c4
  have c5 := h1.c5
  refine ⟨by go_simp, ⟨a, c, by go_simp, ?_⟩, by go_simp, by go_simp, by go_simp, by go_simp, fun o ho => ?_, ?_, h.ne, Or.inl h.sb, Or.inl h.sm⟩
  · refine (hq.mod (F := (· = b)) (by (repeat' (first | (with_reducible exact (Mod.refl _ _)) | (with_reducible apply Mod.drew) | (with_reducible apply Mod.drewN) | (with_reducible apply Mod.alloc) | (with_reducible apply Mod.setCellAt) | (intro _; first | rfl | exact Or.inl rfl | exact Or.inr rfl) | (intro h; exfalso; omega)))) ?_).sub ?_
    · intro k hk _ e; have : B ≤ k := hk; omega
    · intro k _ hk; have : B ≤ k := hk; exact ⟨Or.inr (by omega), by omega, by omega⟩
  · have := h1.fr o ho; rw [World.frozen?_setCell, World.frozen?_setCell]; exact this
  · exact h1.map.mod (F := (· = b)) (by (repeat' (first | (with_reducible exact (Mod.refl _ _)) | (with_reducible apply Mod.drew) | (with_reducible apply Mod.drewN) | (with_reducible apply Mod.alloc) | (with_reducible apply Mod.setCellAt) | (intro _; first | rfl | exact Or.inl rfl | exact Or.inr rfl) | (intro h; exfalso; omega)))) (fun e => h.ne e.symm)

def CountPost (S : Nat → Prop) (w : World) (b mb T : Nat) (s : LayS) (e : Ending) (w' : World) : Prop := e = .returned (.tuple #[]) ∧ LayAt (fun k => S k ∨ w.heap.size ≤ k) w' b mb T s ∧ Mod (fun k => k = b ∨ k = mb) w w'
def CountRel (W3 : World) (mb T : Nat) (used us : List Int) (g : Nat) (s14 : Value) (wr : World) : Prop :=
  ∃ k : Nat, g = us.length - k ∧ k ≤ us.length ∧ s14 = .int .i64 k ∧ MapU wr mb (T + k) (used ++ us.take k) ∧ Mod (· = mb) W3 wr
theorem MapU.mono {w : World} {mb T T' : Nat} {us : List Int} (h : MapU w mb T us) (hT : T ≤ T') : MapU w mb T' us := by
  obtain ⟨m, es, clock, h1, h2⟩ := h
  exact ⟨m, es, clock, h1, fun u => ⟨fun c hc => by have := (h2 u).1 c hc; omega, (h2 u).2⟩⟩

set_option maxRecDepth 100000 in
set_option maxHeartbeats 2000000 in
theorem layCount_any (S S' : Nat → Prop) (w : World) (b mb T : Nat) (s : LayS) (q : Proj) (a : Option Addr) (c : Nat) (hq : q.good) (hT : T ≤ 1000000000) (h : LayAt S w b mb T s) (hl : ListsAt S' w a q.chains) (hd : ∀ k, S' k → k < w.heap.size → k ≠ b ∧ k ≠ mb) :
    Calls Try.prog 86 #[.pointer (some ⟨b, 0, none⟩), .agg #[.int .i64 q.epoch, .slice a q.chains.length c]] w (CountPost S w b mb (T + 16) (s.count q)) := by
  obtain ⟨W0, hW0, hB0, hz0, p0, p1⟩ := oneBox w 24 (.int .i64 q.epoch) (.slice a q.chains.length c)
  have HW0 := Lib.hid hW0
  have hsm := good_small hq
  have hun := good_units hq
  have h16 := units_len hq.2.2.2.2.2.1
  clear hW0
  have hl0 := hl.mod (Mod.of_below (F := none') hB0) (fun _ _ _ => id)
  have hcp := copy_any S' W0 q.epoch a c q.chains hsm hl0
  have hbw := h.lt
  have hmw := h.map.lt
  have HUN := Lib.hid (fun (W : World) (hM : Mod (· = b) W0 W) => units_any S' W q.epoch a c q.chains hsm hun (hl.mod (F := (· = b)) ((Mod.of_below hB0).trans hM) (fun k hk hkl e => (hd k hk hkl).1 e)))
  have hL0 := h.below hB0
  have HL0 := Lib.hid hL0
  have hbne := h.ne
  have f0 := hL0.fr 0 (by omega)
  have f1 := hL0.fr 1 (by omega)
  have c0 := hL0.c0
  obtain ⟨a0, d0, c1, -⟩ := hL0.c1
  have hbz : b < W0.heap.size := by omega
  clear hsm hun h hq hl hl0 hd hL0
  go_enter Try.func86, Try.ntmps86
  go_wp2_with fail
  rw [← HW0.out]
  obtain ⟨pb, hpb⟩ : ∃ pb, pb = w.heap.size := ⟨_, rfl⟩
  rw [← hpb] at p0 p1 ⊢
  have hpz : pb < W0.heap.size := by omega
  have hpw : w.heap.size ≤ pb := by omega
  have hpne : pb ≠ b := by omega
  have hbp : b ≠ pb := by omega
  have Hpb := Lib.hid hpb
  clear hpb
  refine hcp.mono ?_
  clear hcp
  rintro e w1 ⟨va, vc, rfl, hls, hB1⟩
  replace f0 := (hB1.frozen (p := ⟨b, 0, none⟩) hbz).trans f0
  replace f1 := (hB1.frozen (p := ⟨b, 1, none⟩) hbz).trans f1
  replace c0 := below_at hB1 c0 hbz
  replace c1 := below_at hB1 c1 hbz
  replace p0 := below_at hB1 p0 hpz
  replace p1 := below_at hB1 p1 hpz
  have hz1 := hB1.size
  have hL2 := HL0.out.setProj (q := q) (c := vc) hB1 hls (by omega)
  have hM2 : Mod (· = b) W0 ((w1.setCell ⟨b, 0, none⟩ (.int .i64 q.epoch)).setCell ⟨b, 1, none⟩ (.slice va q.chains.length vc)) := (Mod.of_below hB1).trans (by (repeat' (first | (with_reducible exact (Mod.refl _ _)) | (with_reducible apply Mod.drew) | (with_reducible apply Mod.drewN) | (with_reducible apply Mod.alloc) | (with_reducible apply Mod.setCellAt) | (intro _; first | rfl | exact Or.inl rfl | exact Or.inr rfl) | (intro h; exfalso; omega))))
  go_wp2_with fail
  have p0' : ((w1.setCell ⟨b, 0, none⟩ (.int .i64 q.epoch)).setCell ⟨b, 1, none⟩ (.slice va q.chains.length vc)).cell? ⟨pb, 0, none⟩ = some (.int .i64 q.epoch) := by go_simp
  have p1' : ((w1.setCell ⟨b, 0, none⟩ (.int .i64 q.epoch)).setCell ⟨b, 1, none⟩ (.slice va q.chains.length vc)).cell? ⟨pb, 1, none⟩ = some (.slice a q.chains.length c) := by go_simp
  generalize ((w1.setCell ⟨b, 0, none⟩ (.int .i64 q.epoch)).setCell ⟨b, 1, none⟩ (.slice va q.chains.length vc)) = W2 at *
  have hun2 := HUN.out W2 hM2
  have HL2 := Lib.hid hL2
  clear hls hL2 f0 f1 c0 c1 p0 p1
  refine hun2.mono ?_
  clear hun2
  rintro e w3 ⟨ua, uc, rfl, hU, hB3, -⟩
  have hL3 := HL2.out.below hB3
  have hz3 := hB3.size
  have hm3 := hL3.c2
  have hz2 := hM2.size
  have hb3 : b < w3.heap.size := by omega
  have hsB : ∀ k, From W2.heap.size k → k ≠ mb := fun k hk e => by have : W2.heap.size ≤ k := hk; have := HL2.out.map.lt; omega
  have HU := Lib.hid hU
  have hUl : (unitsOf q.chains.flatten).length ≤ 16 := h16
  have HUS : Hid (unitsOf q.units = unitsOf q.chains.flatten) := Lib.hid rfl
  have HL3 := Lib.hid hL3
  have HsB := Lib.hid hsB
  have hMU := hL3.map
  clear hU hL3 hsB h16
  generalize unitsOf q.chains.flatten = us at *
  go_wp2_with fail
  go_loopg [14] us.length (fun g s14 wr => CountRel w3 mb T s.used us g s14 wr)
  case atStart => exact ⟨0, rfl, Nat.zero_le _, rfl, by simpa using hMU, Mod.refl _ _⟩
  case round =>
    clear hMU
    obtain ⟨k, rfl, hk, rfl, hMU, hM⟩ := hrel
    have t2 := hM.at hm3 hbne
    have hbr : b < wr.heap.size := by have := hM.size; omega
    by_cases hlt : k < us.length
    · obtain ⟨b4, off4, e4, hS4, hb4, hc4⟩ := HU.out.2 (by omega)
      have u4 := hM.at (hc4 k hlt) (HsB.out b4 hS4)
      clear hc4
      have HX := Lib.hid (take_getD hlt)
      generalize us.getD k 0 = x at *
      have hk1 : (0 : Int) ≤ k := by omega
      have hk2 : (k : Int) < us.length := by omega
      subst e4
      obtain ⟨cc, st, w5, w6, hc0, hcl, hMU6, hM6, hM5, q1, q2, q3, q4⟩ := cntU_step (hMU.mod (F := none') ((Mod.refl _ wr).drew) id) x
      have hcb : cc ≤ 2000000000 := by omega
      have t5 := hM5.at (show wr.drew.cell? ⟨b, 2, none⟩ = _ from t2) hbne
      have hM6' : Mod (· = mb) wr w6 := ((Mod.refl (· = mb) wr).drew).trans hM6
      clear hcl hM6 hMU hM5
      go_wp2_with fail
      go_region
      all_goals go_wp2_with fail
      all_goals go_roundg (us.length - (k + 1))
      all_goals first
        | (show _ < _; omega)
        | exact ⟨k + 1, rfl, by omega, by go_num, by rw [HX.out, ← List.append_assoc]; exact hMU6, hM.trans hM6'⟩
    · have hk3 : k = us.length := by omega
      subst hk3
      rw [List.take_length] at hMU
      go_wp2_with fail
      go_end0
      have hR := HL3.out.setMap (hM) (hMU.mono (T' := T + 16) (by omega))
      have hMw : Mod (fun j => j = b ∨ j = mb) w wr := (((Mod.of_below (F := fun j => j = b ∨ j = mb) hB0).trans (hM2.mono (fun k _ h => Or.inl h))).trans (Mod.of_below hB3)).trans (hM.mono (fun k _ h => Or.inr h))
      refine ⟨rfl, ?_, hMw⟩
      have hR2 := hR.sub (S' := fun k => S k ∨ w.heap.size ≤ k) (fun k _ hk => hk.imp id (fun h => by omega))
      unfold LayS.count
      rw [HUS.out]
      exact hR2
end Go.Proofs.Ytpkdpmkiplopmaa
