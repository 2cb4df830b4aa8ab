import Derived.Test.YtpkdpmkiplopmaaLayM
import Derived.Test.YtpkdpmkiplopmaaUnits
import Derived.Test.YtpkdpmkiplopmaaRefNext
import Derived.StillTailTactics
/- the layout: what each of its calls does -/
namespace Go.Proofs.Ytpkdpmkiplopmaa
open Go.RowKit Esch

/-- block mb is a map in which the units of 'used' stand, each T times at most -/
def MapU (w : World) (mb T : Nat) (used : List Int) : Prop := ∃ (m : List (Int × Int)) (es : Array MapEntry) (clock : Nat), MapAt w mb κs1 κint m es clock ∧ ∀ u, (∀ c, Esch.get m u = some c → 1 ≤ c ∧ c ≤ T) ∧ ((Esch.get m u).isSome ↔ u ∈ used)
theorem MapU.mod {F : Nat → Prop} {w w' : World} {mb T : Nat} {us : List Int} (h : MapU w mb T us) (hM : Mod F w w') (hb : ¬ F mb) : MapU w' mb T us := by
  obtain ⟨m, es, clock, h1, h2⟩ := h
  exact ⟨m, es, clock, h1.of_block (hM.block _ (block_lt h1.block) hb), h2⟩
theorem MapU.lt {w : World} {mb T : Nat} {us : List Int} (h : MapU w mb T us) : mb < w.heap.size := by
  obtain ⟨m, es, clock, h1, h2⟩ := h
  exact block_lt h1.block
theorem keyUnitL : KeyOK Try.prog 160 κs1 := keyOK_s1 Try.underlying160 (by decide) rfl Try.underlying3 (by kernel_rfl)
theorem cntU_step {w : World} {mb T : Nat} {us : List Int} (h : MapU w mb T us) (u : Int) : ∃ (c : Int) (st : Nat) (w2 w3 : World), 0 ≤ c ∧ c ≤ T ∧ MapU w3 mb (T + 1) (us ++ [u]) ∧ Mod (· = mb) w w3 ∧ Mod (· = mb) w w2 ∧
    (Instr.lookup 108 (.map (some mb)) (.agg #[.int .i64 u]) false).run Try.prog w = .ok (.int .i64 c) w ∧
    (Instr.lookup 108 (.map (some mb)) (.agg #[.int .i64 u]) false).run Try.prog w2 = .ok (.int .i64 c) w2 ∧
    (Instr.mapEntry 108 (.map (some mb)) (.agg #[.int .i64 u])).run Try.prog w = .ok (.tuple #[.int .i64 c, .int .i64 st]) w2 ∧
    (Instr.entryStore 108 (.map (some mb)) (.int .i64 st) (.int .i64 (c + 1))).run Try.prog w2 = .ok () w3 := by
  obtain ⟨m, es, clock, hm, hg⟩ := h
  obtain ⟨st, es1, clock1, h1, h2, h3⟩ := hm.entry keyUnitL Try.underlying108 (0 : Int) zeroInt u
  obtain ⟨es2, h4, h5⟩ := h3 (putObj w mb (.map es1 clock1)) ((Esch.get m u).getD 0 + 1) h2.block
  have l1 := hm.look keyUnitL Try.underlying108 zeroInt u false
  have l2 := h2.look keyUnitL Try.underlying108 zeroInt u false
  rw [get_set, if_pos rfl] at l2
  have hle : 0 ≤ (Esch.get m u).getD 0 ∧ (Esch.get m u).getD 0 ≤ T := by
    cases hgu : Esch.get m u with
    | none => simp
    | some c => have := (hg u).1 c hgu; simp; omega
  have hv : ((Esch.get m u).map κint).getD (.int .i64 0) = .int .i64 ((Esch.get m u).getD 0) := by cases Esch.get m u <;> rfl
  simp only [Bool.false_eq_true, if_false, Option.map_some, Option.getD_some, hv] at l1 l2
  refine ⟨(Esch.get m u).getD 0, st, _, _, hle.1, hle.2, ⟨_, _, _, h5, fun v => ?_⟩, ((Mod.refl (· = mb) w).putObj (fun _ => rfl) _).putObj (fun _ => rfl) _, (Mod.refl (· = mb) w).putObj (fun _ => rfl) _, l1, l2, h1, h4⟩
  rw [get_set]
  by_cases e : u = v
  · subst e
    rw [if_pos rfl]
    refine ⟨fun c hc => ?_, by simp⟩
    cases hc; omega
  · rw [if_neg e]
    refine ⟨fun c hc => by have := (hg v).1 c hc; omega, ?_⟩
    rw [(hg v).2]
    simp only [List.mem_append, List.mem_singleton]
    exact ⟨Or.inl, fun h => h.resolve_right (fun e' => e e'.symm)⟩

structure LayAt (S : Nat → Prop) (w : World) (b mb T : Nat) (s : LayS) : Prop where
  c0 : w.cell? ⟨b, 0, none⟩ = some (.int .i64 s.p.epoch)
  c1 : ∃ a c, w.cell? ⟨b, 1, none⟩ = some (.slice a s.p.chains.length c) ∧ ListsAt (fun k => S k ∧ k ≠ b ∧ k ≠ mb) w a s.p.chains
  c2 : w.cell? ⟨b, 2, none⟩ = some (.map (some mb))
  c3 : w.cell? ⟨b, 3, none⟩ = some (.int .i64 s.mark)
  c4 : w.cell? ⟨b, 4, none⟩ = some (.int .i64 s.size)
  c5 : w.cell? ⟨b, 5, none⟩ = some (.int .i64 s.n)
  fr : ∀ o, o < 6 → w.frozen? ⟨b, o, none⟩ = false
  map : MapU w mb T s.used
  ne : b ≠ mb
  sb : S b
  sm : S mb
theorem LayAt.lt {S : Nat → Prop} {w : World} {b mb T : Nat} {s : LayS} (h : LayAt S w b mb T s) : b < w.heap.size := cell_lt h.c0
theorem LayAt.mod {S F : Nat → Prop} {w w' : World} {b mb T : Nat} {s : LayS} (h : LayAt S w b mb T s) (hM : Mod F w w') (hF : ∀ k, S k → k < w.heap.size → ¬ F k) : LayAt S w' b mb T s := by
  have hl := h.lt
  have hb := hF b h.sb hl
  have hm := hF mb h.sm h.map.lt
  obtain ⟨a, c, h1, h2⟩ := h.c1
  exact ⟨hM.at h.c0 hb, ⟨a, c, hM.at h1 hb, h2.mod hM (fun k hk hkl => hF k hk.1 hkl)⟩, hM.at h.c2 hb, hM.at h.c3 hb, hM.at h.c4 hb, hM.at h.c5 hb, fun o ho => (hM.frozen (p := ⟨b, o, none⟩) hl hb).trans (h.fr o ho), h.map.mod hM hm, h.ne, h.sb, h.sm⟩
theorem LayAt.below {S : Nat → Prop} {w w' : World} {b mb T : Nat} {s : LayS} (h : LayAt S w b mb T s) (hB : Below w.heap.size w w') : LayAt S w' b mb T s := h.mod (F := none') (Mod.of_below hB) (fun _ _ _ => id)
theorem LayAt.sub {S S' : Nat → Prop} {w : World} {b mb T : Nat} {s : LayS} (h : LayAt S w b mb T s) (hS : ∀ k, k < w.heap.size → S k → S' k) : LayAt S' w b mb T s := by
  obtain ⟨a, c, h1, h2⟩ := h.c1
  exact ⟨h.c0, ⟨a, c, h1, h2.sub (fun k hk ⟨x, y⟩ => ⟨hS k hk x, y⟩)⟩, h.c2, h.c3, h.c4, h.c5, h.fr, h.map, h.ne, hS _ h.lt h.sb, hS _ h.map.lt h.sm⟩

set_option maxHeartbeats 1000000 in
theorem layNow_any (S : Nat → Prop) (w : World) (b mb T : Nat) (s : LayS) (hs : s.ok) (h : LayAt S w b mb T s) :
    Calls Try.prog 40 #[.pointer (some ⟨b, 0, none⟩)] w (CopyPost w s.p.epoch s.p.chains) := by
  obtain ⟨a, c, h1, h2⟩ := h.c1
  have h0 := h.c0
  have hl := h.lt
  have hcp := copy_any _ (w.alloc (.cells #[.int .i64 0, .slice none 0 0] 24)) s.p.epoch a c s.p.chains (good_small hs.good) (h2.mod ((Mod.refl none' _).alloc _) (fun _ _ _ => id))
  go_enter Try.func40, Try.ntmps40
  go_wp2_with fail
  refine hcp.mono ?_
  clear hcp
  rintro e w1 ⟨va, vc, rfl, hls, hB⟩
  have hz := hB.size
  simp only [World.size_alloc] at hz hB hls
  obtain ⟨r1, r2⟩ := bcell hB
  have hzz : w.heap.size < w1.heap.size := by omega
  go_wp2_with fail
  refine bodyPost_ret (v := .agg #[.int .i64 s.p.epoch, .slice va s.p.chains.length vc]) (by simp only [results, Try.results40]; go_simp) rfl ?_
  have hBw : Below w.heap.size w w1 := ((Below.refl _ w).alloc (Nat.le_refl _) _).trans (hB.mono (by omega))
  refine ⟨va, vc, rfl, (hls.mod (F := (· = w.heap.size)) (by (repeat' (first | (with_reducible exact (Mod.refl _ _)) | (with_reducible apply Mod.drew) | (with_reducible apply Mod.drewN) | (with_reducible apply Mod.alloc) | (with_reducible apply Mod.setCellAt) | (intro _; first | rfl | exact Or.inl rfl | exact Or.inr rfl) | (intro h; exfalso; omega)))) ?_).sub ?_, by (repeat (first | with_reducible exact hBw | with_reducible refine Below.drew ?_ | with_reducible refine Esch.below_drewN ?_ _ | with_reducible refine Below.setCell ?_ (by first | omega | (simp; done) | (simp; omega)) _ | with_reducible refine Below.alloc ?_ (by first | omega | (simp; done) | (simp; omega)) _))⟩
  · intro k hk _ e; have : w.heap.size + 1 ≤ k := hk; omega
  · intro k _ hk; have : w.heap.size + 1 ≤ k := hk; show w.heap.size ≤ k; omega
end Go.Proofs.Ytpkdpmkiplopmaa
