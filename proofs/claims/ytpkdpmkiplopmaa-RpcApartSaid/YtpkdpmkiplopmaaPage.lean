import Derived.Test.YtpkdpmkiplopmaaPageM
import Derived.Deep.RegionHeld3
import Derived.Deep.QuietTactic
import Derived.BigQuiet
import Derived.StillTailTactics
import Derived.Test.YtpkdpmkiplopmaaMapEntry
import Derived.Test.YtpkdpmkiplopmaaMapRange
import Derived.Test.YtpkdpmkiplopmaaGood
import Derived.Test.YtpkdpmkiplopmaaOwn2
/- pages that are written once: the program's -/
namespace Go.Proofs.Ytpkdpmkiplopmaa
open Go.RowKit Esch

def κc (v : Int × ByteArray) : Value := .agg #[.int .i64 v.1, .string v.2]
structure PagesAt (w : World) (b mb : Nat) (s : PgS) : Prop where
  c0 : w.cell? ⟨b, 0, none⟩ = some (.int .i64 s.room)
  c1 : w.cell? ⟨b, 1, none⟩ = some (.map (some mb))
  c2 : w.cell? ⟨b, 2, none⟩ = some (.int .i64 s.edge)
  f2 : w.frozen? ⟨b, 2, none⟩ = false
  map : ∃ es clock, MapAt w mb κs1 κc s.m es clock
  ne : b ≠ mb
theorem PagesAt.mlt {w : World} {b mb : Nat} {s : PgS} (h : PagesAt w b mb s) : mb < w.heap.size := by obtain ⟨es, c, hm⟩ := h.map; exact block_lt hm.block
theorem PagesAt.mod {F : Nat → Prop} {w w' : World} {b mb : Nat} {s : PgS} (h : PagesAt w b mb s) (hM : Mod F w w') (hb : ¬ F b) (hm : ¬ F mb) : PagesAt w' b mb s := by
  have hl := h.mlt
  obtain ⟨es, c, hmm⟩ := h.map
  exact ⟨hM.at h.c0 hb, hM.at h.c1 hb, hM.at h.c2 hb, (hM.frozen (p := ⟨b, 2, none⟩) (cell_lt h.c0) hb).trans h.f2, ⟨es, c, hmm.of_block (hM.block _ hl hm)⟩, h.ne⟩
theorem keySpot : KeyOK Try.prog 180 κs1 := keyOK_s1 Try.underlying180 (by decide) rfl Try.underlying3 (by kernel_rfl)
theorem zeroCont (w : World) : (zeroValue 178).run Try.prog w = .ok (.agg #[.int .i64 0, .string ⟨#[]⟩]) w := by kernel_rfl
@[simp] theorem fieldCont0 (x y : Value) (w : World) : (Instr.field 178 (.agg #[x, y]) 0).run Try.prog w = .ok x w := by kernel_rfl
@[simp] theorem fieldCont1 (x y : Value) (w : World) : (Instr.field 178 (.agg #[x, y]) 1).run Try.prog w = .ok y w := by kernel_rfl
theorem page_look {w : World} {mb : Nat} {m : List (Int × (Int × ByteArray))} {es : Array MapEntry} {clock : Nat} (h : MapAt w mb κs1 κc m es clock) (a : Int) :
    (Instr.lookup 103 (.map (some mb)) (.agg #[.int .i64 a]) false).run Try.prog w = .ok (.agg #[.int .i64 (((get m a).map (·.1)).getD 0), .string (((get m a).map (·.2)).getD ⟨#[]⟩)]) w := by
  have := h.look keySpot Try.underlying103 zeroCont a false
  simp only [κs1, Bool.false_eq_true, if_false] at this
  rw [this]
  cases get m a <;> rfl
set_option maxHeartbeats 1000000 in
theorem there_any (w : World) (b : Nat) (a : Int) : Calls Try.prog 122 #[.pointer (some ⟨b, 0, none⟩), .int .i64 a] w fun e w' => e = .returned (.bool (inB a)) ∧ w' = w := by
  by_cases h0 : 0 ≤ a
  · by_cases h1 : a < 4096
    · rw [show inB a = true by simp [inB, h0, h1]]
      go_enter Try.func122, Try.ntmps122
      go_wp2_with fail
      go_ret
      exact ⟨rfl, rfl⟩
    · rw [show inB a = false by simp [inB, h1]]
      have h1' : 4096 ≤ a := by omega
      go_enter Try.func122, Try.ntmps122
      go_wp2_with fail
      go_ret
      exact ⟨rfl, rfl⟩
  · rw [show inB a = false by simp [inB, h0]]
    have h0' : a < 0 := by omega
    go_enter Try.func122, Try.ntmps122
    go_wp2_with fail
    go_ret
    exact ⟨rfl, rfl⟩
set_option maxHeartbeats 1000000 in
theorem pkind_any (w : World) (b mb : Nat) (s : PgS) (h : PagesAt w b mb s) (a : Int) : Calls Try.prog 123 #[.pointer (some ⟨b, 0, none⟩), .int .i64 a] w fun e w' => e = .returned (.int .i64 (s.kind a)) ∧ Mod none' w w' := by
  have hth := there_any w b a
  obtain ⟨c0, c1, c2, f2, ⟨es, clock, hm⟩, hne⟩ := h
  have hlk := page_look hm a
  clear hm hne
  unfold PgS.kind
  cases hin : inB a
  · rw [hin] at hth
    rw [if_pos rfl]
    go_enter Try.func123, Try.ntmps123
    go_wp2_with fail
    refine hth.mono ?_
    rintro e w1 ⟨rfl, rfl⟩
    go_wp2_with fail
    go_ret
    exact ⟨rfl, by (repeat' (first | (with_reducible exact (Mod.refl _ _)) | (with_reducible apply Mod.drew) | (with_reducible apply Mod.drewN) | (with_reducible apply Mod.alloc) | (with_reducible apply Mod.setCellAt) | (intro _; first | rfl | exact Or.inl rfl | exact Or.inr rfl) | (intro h; exfalso; omega)))⟩
  · rw [hin] at hth
    rw [if_neg (by simp)]
    by_cases he : a < s.edge
    · rw [if_pos he]
      go_enter Try.func123, Try.ntmps123
      go_wp2_with fail
      refine hth.mono ?_
      rintro e w1 ⟨rfl, rfl⟩
      go_wp2_with fail
      go_ret
      exact ⟨rfl, by (repeat' (first | (with_reducible exact (Mod.refl _ _)) | (with_reducible apply Mod.drew) | (with_reducible apply Mod.drewN) | (with_reducible apply Mod.alloc) | (with_reducible apply Mod.setCellAt) | (intro _; first | rfl | exact Or.inl rfl | exact Or.inr rfl) | (intro h; exfalso; omega)))⟩
    · rw [if_neg he]
      have he' : decide (a < (s.edge : Int)) = false := decide_eq_false he
      clear he
      go_enter Try.func123, Try.ntmps123
      go_wp2_with fail
      refine hth.mono ?_
      rintro e w1 ⟨rfl, rfl⟩
      go_wp2_with fail
      go_ret
      exact ⟨rfl, by (repeat' (first | (with_reducible exact (Mod.refl _ _)) | (with_reducible apply Mod.drew) | (with_reducible apply Mod.drewN) | (with_reducible apply Mod.alloc) | (with_reducible apply Mod.setCellAt) | (intro _; first | rfl | exact Or.inl rfl | exact Or.inr rfl) | (intro h; exfalso; omega)))⟩
set_option maxRecDepth 100000 in
set_option maxHeartbeats 1000000 in
theorem pset_any (w : World) (b mb : Nat) (s : PgS) (h : PagesAt w b mb s) (a : Int) (c : Int × ByteArray) (hg : get s.m a = none) :
    Calls Try.prog 124 #[.pointer (some ⟨b, 0, none⟩), .int .i64 a, .agg #[.int .i64 c.1, .string c.2]] w fun e w' => e = .returned (.int .i64 (s.put a c).1) ∧ PagesAt w' b mb (s.put a c).2 ∧ Mod (· = mb) w w' := by
  obtain ⟨W, hW, hB, hzW⟩ : ∃ W, W = w.alloc (.cells #[.int .i64 c.1, .string c.2] 178) ∧ Below w.heap.size w W ∧ W.heap.size = w.heap.size + 1 := ⟨_, rfl, by (repeat (first | with_reducible exact (Below.refl _ _) | with_reducible refine Below.drew ?_ | with_reducible refine Esch.below_drewN ?_ _ | with_reducible refine Below.setCell ?_ (by first | omega | (simp; done) | (simp; omega)) _ | with_reducible refine Below.alloc ?_ (by first | omega | (simp; done) | (simp; omega)) _)), by simp⟩
  have h0 := h.mod (F := none') (Mod.of_below hB) id id
  have HM : Mod (· = mb) w W := ⟨hB.os, hB.tape, hB.output, hB.size, fun k hk _ => hB.block k hk⟩
  have hx0 : W.cell? ⟨w.heap.size, 0, none⟩ = some (.int .i64 c.1) := by rw [hW]; go_simp
  have hx1 : W.cell? ⟨w.heap.size, 1, none⟩ = some (.string c.2) := by rw [hW]; go_simp
  have HW := Lib.hid hW
  have hbl := cell_lt h0.c0
  have H0 := Lib.hid h0
  obtain ⟨c0, c1, c2, f2, ⟨es, clock, hm⟩, hne⟩ := h0
  have hml : mb < W.heap.size := block_lt hm.block
  have hlen := (hm.of_block (w' := W.drew) rfl).len Try.underlying103
  have hKd : World.cell? W.drew ⟨b, 0, none⟩ = some (.int .i64 s.room) ∧ World.cell? W.drew ⟨b, 1, none⟩ = some (.map (some mb)) ∧ ∀ ty, (Builtin.len_ #[103] ty #[.map (some mb)]).run Try.prog W.drew = .ok (.int .i64 s.m.length) W.drew := ⟨c0, c1, hlen⟩
  have hkk := hm.clock
  unfold PgS.put
  by_cases hf : s.room ≤ s.m.length
  · rw [if_pos hf]
    have hf' : (s.room : Int) ≤ s.m.length := by omega
    clear hf hW
    go_enter Try.func124, Try.ntmps124
    go_wp2_with fail
    rw [← HW.out]
    go_region_held3 (fun W' => W'.cell? ⟨b, 0, none⟩ = some (.int .i64 s.room) ∧ W'.cell? ⟨b, 1, none⟩ = some (.map (some mb)) ∧ ∀ ty, (Builtin.len_ #[103] ty #[.map (some mb)]).run Try.prog W' = .ok (.int .i64 s.m.length) W') (with_reducible exact hKd) (fail)
    go_wp2_with fail
    go_ret
    exact ⟨rfl, H0.out.mod (F := none') (by (repeat' (first | (with_reducible exact (Mod.refl _ _)) | (with_reducible apply Mod.drew) | (with_reducible apply Mod.drewN) | (with_reducible apply Mod.alloc) | (with_reducible apply Mod.setCellAt) | (intro _; first | rfl | exact Or.inl rfl | exact Or.inr rfl) | (intro h; exfalso; omega)))) id id, by (repeat' (first | (with_reducible exact HM) | (with_reducible apply Mod.drew) | (with_reducible apply Mod.drewN) | (with_reducible apply Mod.alloc) | (with_reducible apply Mod.setCellAt) | (intro _; first | rfl | exact Or.inl rfl | exact Or.inr rfl) | (intro h; exfalso; omega)))⟩
  · rw [if_neg hf]
    have hf' : decide (s.room ≤ s.m.length) = false := decide_eq_false hf
    obtain ⟨es', clock', hup, hm'⟩ := (hm.of_block (w' := W.drew.drew) rfl).update keySpot Try.underlying103 a c
    simp only [κs1, κc] at hup
    have hset : Esch.set s.m a c = s.m ++ [(a, c)] := set_miss _ _ _ (get_none.1 hg)
    rw [hset] at hm'
    have Hm' := Lib.hid hm'
    clear hm' hset
    clear hf hW
    go_enter Try.func124, Try.ntmps124
    go_wp2_with fail
    rw [← HW.out]
    go_region_held3 (fun W' => W'.cell? ⟨b, 0, none⟩ = some (.int .i64 s.room) ∧ W'.cell? ⟨b, 1, none⟩ = some (.map (some mb)) ∧ ∀ ty, (Builtin.len_ #[103] ty #[.map (some mb)]).run Try.prog W' = .ok (.int .i64 s.m.length) W') (with_reducible exact hKd) (fail)
    go_wp2_with fail
    try clear hf'
    refine region_tail 7 (by kernel_rfl) (by kernel_rfl) (fun T hT K hK => ?_)
    simp only [List.take_succ_cons, List.take_zero]
    repeat still_step
    refine wpStill_nil (hK _ ?_)
    clear hK
    simp only [List.drop_succ_cons, List.drop_zero] at hT
    subst hT
    go_wp2
    go_ret
    refine ⟨rfl, ⟨?_, ?_, ?_, ?_, ⟨es', clock', Hm'.out⟩, hne⟩, (HM.drew.drew).putObj (fun _ => rfl) _⟩
    · rw [World.cell?_of_block (w := W) (by rw [putObj_other _ _ _ _ hne]; rfl)]; exact c0
    · rw [World.cell?_of_block (w := W) (by rw [putObj_other _ _ _ _ hne]; rfl)]; exact c1
    · rw [World.cell?_of_block (w := W) (by rw [putObj_other _ _ _ _ hne]; rfl)]; exact c2
    · rw [World.frozen?_of_block (w := W) (by rw [putObj_other _ _ _ _ hne]; rfl)]; exact f2
end Go.Proofs.Ytpkdpmkiplopmaa
