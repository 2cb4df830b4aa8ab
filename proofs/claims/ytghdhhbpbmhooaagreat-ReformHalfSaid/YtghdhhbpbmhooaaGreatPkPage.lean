import Derived.Test.YtghdhhbpbmhooaaGreatPkBase
import Derived.Deep.RegionHeld3
import Derived.Deep.QuietTactic
import Derived.BigQuiet
import Derived.StillTailTactics
import Derived.Test.YtghdhhbpbmhooaaGreatGood
import Derived.Test.YtghdhhbpbmhooaaGreatPkKeep
/- pages that are written once: the program's -/
namespace Go.Proofs.YtghdhhbpbmhooaaGreat
open Go.RowKit Esch

def κc (v : Int × ByteArray) : Value := .agg #[.int .i64 v.1, .string v.2]
structure PagesAt (w : World) (b mb : Nat) (s : PgS) : Prop where
  c0 : w.cell? ⟨b, 0, none⟩ = some (.int .i64 s.room)
  c1 : w.cell? ⟨b, 1, none⟩ = some (.map (some mb))
  c2 : w.cell? ⟨b, 2, none⟩ = some (.int .i64 s.edge)
  f2 : w.frozen? ⟨b, 2, none⟩ = false
  map : ∃ es clock, MapAt w mb κs1 κc s.m es clock
  ne : b ≠ mb
theorem PagesAt.mlt {w : World} {b mb : Nat} {s : PgS} (h : PagesAt w b mb s) : mb < w.heap.size := by obtain ⟨es, c, hm⟩ := h.map; exact block_lt hm.block
theorem PagesAt.mod {F : Nat → Prop} {w w' : World} {b mb : Nat} {s : PgS} (h : PagesAt w b mb s) (hM : Mod F w w') (hb : ¬ F b) (hm : ¬ F mb) : PagesAt w' b mb s := by
  have hl := h.mlt
  obtain ⟨es, c, hmm⟩ := h.map
  exact ⟨hM.at h.c0 hb, hM.at h.c1 hb, hM.at h.c2 hb, (hM.frozen (p := ⟨b, 2, none⟩) (cell_lt h.c0) hb).trans h.f2, ⟨es, c, hmm.of_block (hM.block _ hl hm)⟩, h.ne⟩
theorem keySpot : KeyOK Tryz.prog 241 κs1 := keyOK_s1 Tryz.underlying241 (by decide) rfl Tryz.underlying3 (by kernel_rfl)
theorem zeroCont (w : World) : (zeroValue 239).run Tryz.prog w = .ok (.agg #[.int .i64 0, .string ⟨#[]⟩]) w := by kernel_rfl
@[simp] theorem fieldCont0 (x y : Value) (w : World) : (Instr.field 239 (.agg #[x, y]) 0).run Tryz.prog w = .ok x w := by kernel_rfl
@[simp] theorem fieldCont1 (x y : Value) (w : World) : (Instr.field 239 (.agg #[x, y]) 1).run Tryz.prog w = .ok y w := by kernel_rfl
theorem page_look {w : World} {mb : Nat} {m : List (Int × (Int × ByteArray))} {es : Array MapEntry} {clock : Nat} (h : MapAt w mb κs1 κc m es clock) (a : Int) :
    (Instr.lookup 215 (.map (some mb)) (.agg #[.int .i64 a]) false).run Tryz.prog w = .ok (.agg #[.int .i64 (((get m a).map (·.1)).getD 0), .string (((get m a).map (·.2)).getD ⟨#[]⟩)]) w := by
  have := h.look keySpot Tryz.underlying215 zeroCont a false
  simp only [κs1, Bool.false_eq_true, if_false] at this
  rw [this]
  cases get m a <;> rfl
set_option maxHeartbeats 1000000 in
theorem there_any (w : World) (b : Nat) (a : Int) : Calls Tryz.prog 140 #[.pointer (some ⟨b, 0, none⟩), .int .i64 a] w fun e w' => e = .returned (.bool (inB a)) ∧ w' = w := by
  by_cases h0 : 0 ≤ a
  · by_cases h1 : a < 4096
    · rw [show inB a = true by simp [inB, h0, h1]]
      go_enter Tryz.func140, Tryz.ntmps140
      go_wp2_with fail
      go_ret
      exact ⟨rfl, rfl⟩
    · rw [show inB a = false by simp [inB, h1]]
      have h1' : 4096 ≤ a := by omega
      go_enter Tryz.func140, Tryz.ntmps140
      go_wp2_with fail
      go_ret
      exact ⟨rfl, rfl⟩
  · rw [show inB a = false by simp [inB, h0]]
    have h0' : a < 0 := by omega
    go_enter Tryz.func140, Tryz.ntmps140
    go_wp2_with fail
    go_ret
    exact ⟨rfl, rfl⟩
set_option maxHeartbeats 1000000 in
theorem pkind_any (w : World) (b mb : Nat) (s : PgS) (h : PagesAt w b mb s) (a : Int) : Calls Tryz.prog 141 #[.pointer (some ⟨b, 0, none⟩), .int .i64 a] w fun e w' => e = .returned (.int .i64 (s.kind a)) ∧ Mod none' w w' := by
  have hth := there_any w b a
  obtain ⟨c0, c1, c2, f2, ⟨es, clock, hm⟩, hne⟩ := h
  have hlk := page_look hm a
  clear hm hne
  unfold PgS.kind
  cases hin : inB a
  · rw [hin] at hth
    rw [if_pos rfl]
    go_enter Tryz.func141, Tryz.ntmps141
    go_wp2_with fail
    refine hth.mono ?_
    rintro e w1 ⟨rfl, rfl⟩
    go_wp2_with fail
    go_ret
    exact ⟨rfl, by exact modC (Mod.refl _ _)⟩
  · rw [hin] at hth
    rw [if_neg (by simp)]
    by_cases he : a < s.edge
    · rw [if_pos he]
      go_enter Tryz.func141, Tryz.ntmps141
      go_wp2_with fail
      refine hth.mono ?_
      rintro e w1 ⟨rfl, rfl⟩
      go_wp2_with fail
      go_ret
      exact ⟨rfl, by exact modC (Mod.refl _ _)⟩
    · rw [if_neg he]
      have he' : decide (a < (s.edge : Int)) = false := decide_eq_false he
      clear he
      go_enter Tryz.func141, Tryz.ntmps141
      go_wp2_with fail
      refine hth.mono ?_
      rintro e w1 ⟨rfl, rfl⟩
      go_wp2_with fail
      go_ret
      exact ⟨rfl, by exact modC (Mod.refl _ _)⟩
set_option maxRecDepth 100000 in
set_option maxHeartbeats 1000000 in
theorem pset_any (w : World) (b mb : Nat) (s : PgS) (h : PagesAt w b mb s) (a : Int) (c : Int × ByteArray) (hg : get s.m a = none) :
    Calls Tryz.prog 142 #[.pointer (some ⟨b, 0, none⟩), .int .i64 a, .agg #[.int .i64 c.1, .string c.2]] w fun e w' => e = .returned (.int .i64 (s.put a c).1) ∧ PagesAt w' b mb (s.put a c).2 ∧ Mod (· = mb) w w' := by
  obtain ⟨W, hW, hB, hzW⟩ : ∃ W, W = w.alloc (.cells #[.int .i64 c.1, .string c.2] 239) ∧ Below w.heap.size w W ∧ W.heap.size = w.heap.size + 1 := ⟨_, rfl, by exact belC (Below.refl _ _), by simp⟩
  have h0 := h.mod (F := none') (Mod.of_below hB) id id
  have HM : Mod (· = mb) w W := ⟨hB.os, hB.tape, hB.output, hB.size, fun k hk _ => hB.block k hk⟩
  have hx0 : W.cell? ⟨w.heap.size, 0, none⟩ = some (.int .i64 c.1) := by rw [hW]; go_simp
  have hx1 : W.cell? ⟨w.heap.size, 1, none⟩ = some (.string c.2) := by rw [hW]; go_simp
  have HW := Lib.hid hW
  have hbl := cell_lt h0.c0
  have H0 := Lib.hid h0
  obtain ⟨c0, c1, c2, f2, ⟨es, clock, hm⟩, hne⟩ := h0
  have hml : mb < W.heap.size := block_lt hm.block
  have hlen := (hm.of_block (w' := W.drew) rfl).len Tryz.underlying215
  have hKd : World.cell? W.drew ⟨b, 0, none⟩ = some (.int .i64 s.room) ∧ World.cell? W.drew ⟨b, 1, none⟩ = some (.map (some mb)) ∧ ∀ ty, (Builtin.len_ #[215] ty #[.map (some mb)]).run Tryz.prog W.drew = .ok (.int .i64 s.m.length) W.drew := ⟨c0, c1, hlen⟩
  have hkk := hm.clock
  unfold PgS.put
  by_cases hf : s.room ≤ s.m.length
  · rw [if_pos hf]
    have hf' : (s.room : Int) ≤ s.m.length := by omega
    clear hf hW
    go_enter Tryz.func142, Tryz.ntmps142
    go_wp2_with fail
    rw [← HW.out]
    go_region_held3 (fun W' => W'.cell? ⟨b, 0, none⟩ = some (.int .i64 s.room) ∧ W'.cell? ⟨b, 1, none⟩ = some (.map (some mb)) ∧ ∀ ty, (Builtin.len_ #[215] ty #[.map (some mb)]).run Tryz.prog W' = .ok (.int .i64 s.m.length) W') (with_reducible exact hKd) (fail)
    go_wp2_with fail
    go_ret
    exact ⟨rfl, H0.out.mod (F := none') (by exact modC (Mod.refl _ _)) id id, by exact modC HM⟩
  · rw [if_neg hf]
    have hf' : decide (s.room ≤ s.m.length) = false := decide_eq_false hf
    obtain ⟨es', clock', hup, hm'⟩ := (hm.of_block (w' := W.drew.drew) rfl).update keySpot Tryz.underlying215 a c
    simp only [κs1, κc] at hup
    have hset : Esch.set s.m a c = s.m ++ [(a, c)] := set_miss _ _ _ (get_none.1 hg)
    rw [hset] at hm'
    have Hm' := Lib.hid hm'
    clear hm' hset
    clear hf hW
    go_enter Tryz.func142, Tryz.ntmps142
    go_wp2_with fail
    rw [← HW.out]
    go_region_held3 (fun W' => W'.cell? ⟨b, 0, none⟩ = some (.int .i64 s.room) ∧ W'.cell? ⟨b, 1, none⟩ = some (.map (some mb)) ∧ ∀ ty, (Builtin.len_ #[215] ty #[.map (some mb)]).run Tryz.prog W' = .ok (.int .i64 s.m.length) W') (with_reducible exact hKd) (fail)
    go_wp2_with fail
    try clear hf'
    refine region_tail 7 (by kernel_rfl) (by kernel_rfl) (fun T hT K hK => ?_)
    simp only [List.take_succ_cons, List.take_zero]
    repeat still_step
    refine wpStill_nil (hK _ ?_)
    clear hK
    simp only [List.drop_succ_cons, List.drop_zero] at hT
    subst hT
    go_wp2
    go_ret
    refine ⟨rfl, ⟨?_, ?_, ?_, ?_, ⟨es', clock', Hm'.out⟩, hne⟩, (HM.drew.drew).putObj (fun _ => rfl) _⟩
    · rw [World.cell?_of_block (w := W) (by rw [putObj_other _ _ _ _ hne]; rfl)]; exact c0
    · rw [World.cell?_of_block (w := W) (by rw [putObj_other _ _ _ _ hne]; rfl)]; exact c1
    · rw [World.cell?_of_block (w := W) (by rw [putObj_other _ _ _ _ hne]; rfl)]; exact c2
    · rw [World.frozen?_of_block (w := W) (by rw [putObj_other _ _ _ _ hne]; rfl)]; exact f2
end Go.Proofs.YtghdhhbpbmhooaaGreat
/- pages: what is done to them -/
namespace Go.Proofs.YtghdhhbpbmhooaaGreat
open Go.RowKit Esch

theorem mod_none {F : Nat → Prop} {w w' : World} (h : Mod none' w w') : Mod F w w' := h.mono (fun _ _ h => h.elim)
theorem PagesAt.keep {w w' : World} {b mb : Nat} {s : PgS} (h : PagesAt w b mb s) (hM : Mod none' w w') : PagesAt w' b mb s := h.mod hM id id
def PgPost (w : World) (b mb : Nat) (r : Int × PgS) (e : Ending) (w' : World) : Prop := e = .returned (.int .i64 r.1) ∧ PagesAt w' b mb r.2 ∧ Mod (fun k => k = b ∨ k = mb) w w'
set_option maxRecDepth 100000 in
set_option maxHeartbeats 1000000 in
theorem pwrite_any (w : World) (b mb : Nat) (s : PgS) (hok : s.ok) (h : PagesAt w b mb s) (a : Int) (d : ByteArray) (hd : d.size ≤ 9223372036854775807) :
    Calls Tryz.prog 134 #[.pointer (some ⟨b, 0, none⟩), .int .i64 a, .string d] w (PgPost w b mb (s.write a d)) := by
  have hth := there_any w b a
  have H := Lib.hid h
  have Hok := Lib.hid hok
  have hkd := fun W hW => pkind_any W b mb s (h.keep hW) a
  have c2 := h.c2
  unfold PgPost PgS.write
  cases hin : inB a
  · rw [hin] at hth
    rw [if_pos rfl]
    clear h hok hkd
    go_enter Tryz.func134, Tryz.ntmps134
    go_wp2_with fail
    refine hth.mono ?_
    rintro e w1 ⟨rfl, rfl⟩
    go_wp2_with fail
    go_ret
    exact ⟨rfl, H.out.keep (by exact modC (Mod.refl _ _)), by exact modC (Mod.refl _ _)⟩
  · rw [hin] at hth
    rw [if_neg (by simp)]
    have Hin := Lib.hid hin
    clear hin
    by_cases hl : 4096 < d.size
    · rw [if_pos hl]
      have hl' : (4096 : Int) < d.size := by omega
      clear h hok hkd
      go_enter Tryz.func134, Tryz.ntmps134
      go_wp2_with fail
      refine hth.mono ?_
      rintro e w1 ⟨rfl, rfl⟩
      go_wp2_with fail
      go_ret
      exact ⟨rfl, H.out.keep (by exact modC (Mod.refl _ _)), by exact modC (Mod.refl _ _)⟩
    · rw [if_neg hl]
      have hl' : decide ((4096 : Int) < d.size) = false := decide_eq_false (by omega)
      have Hl := Lib.hid hl
      clear hl
      by_cases he : a < s.edge
      · rw [if_pos he]
        clear h hok hkd
        go_enter Tryz.func134, Tryz.ntmps134
        go_wp2_with fail
        refine hth.mono ?_
        rintro e w1 ⟨rfl, rfl⟩
        go_wp2_with fail
        go_ret
        exact ⟨rfl, H.out.keep (by exact modC (Mod.refl _ _)), by exact modC (Mod.refl _ _)⟩
      · rw [if_neg he]
        have he' : decide (a < (s.edge : Int)) = false := decide_eq_false he
        have He := Lib.hid he
        clear he
        by_cases hk : s.kind a ≠ 0
        · rw [if_pos hk]
          have hk' : (s.kind a != 0) = true := by simpa using hk
          generalize s.kind a = kd at hkd hk'
          clear h hok hk
          go_enter Tryz.func134, Tryz.ntmps134
          go_wp2_with fail
          refine hth.mono ?_
          rintro e w1 ⟨rfl, rfl⟩
          go_wp2_with fail
          refine (hkd _ (by exact modC (Mod.refl _ _))).mono ?_
          rintro e w2 ⟨rfl, hM2⟩
          go_wp2_with fail
          go_ret
          exact ⟨rfl, H.out.keep (by exact modC hM2), mod_none (show Mod none' _ _ from by exact modC hM2)⟩
        · rw [if_neg hk]
          have hk0 : s.kind a = 0 := by simpa using hk
          have hg := hok.empty_none Hin.out He.out hk0
          rw [hk0] at hkd
          have hst := fun W hW => pset_any W b mb s (h.keep hW) a (1, d) hg
          clear h hok hk hk0 hg
          go_enter Tryz.func134, Tryz.ntmps134
          go_wp2_with fail
          refine hth.mono ?_
          rintro e w1 ⟨rfl, rfl⟩
          go_wp2_with fail
          refine (hkd _ (by exact modC (Mod.refl _ _))).mono ?_
          rintro e w2 ⟨rfl, hM2⟩
          go_wp2_with fail
          refine (hst _ (by exact modC hM2)).mono ?_
          rintro e w3 ⟨rfl, hP3, hM3⟩
          go_wp2_with fail
          go_ret
          exact ⟨rfl, hP3, (mod_none (show Mod none' _ _ from by exact modC hM2)).trans (hM3.mono (fun _ _ h => Or.inr h))⟩
set_option maxRecDepth 100000 in
set_option maxHeartbeats 1000000 in
theorem pfill_any (w : World) (b mb : Nat) (s : PgS) (hok : s.ok) (h : PagesAt w b mb s) (a : Int) :
    Calls Tryz.prog 135 #[.pointer (some ⟨b, 0, none⟩), .int .i64 a] w (PgPost w b mb (s.fill a)) := by
  have hth := there_any w b a
  have H := Lib.hid h
  have hkd := fun W hW => pkind_any W b mb s (h.keep hW) a
  unfold PgPost PgS.fill
  cases hin : inB a
  · rw [hin] at hth
    rw [if_pos rfl]
    clear h hok hkd
    go_enter Tryz.func135, Tryz.ntmps135
    go_wp2_with fail
    refine hth.mono ?_
    rintro e w1 ⟨rfl, rfl⟩
    go_wp2_with fail
    go_ret
    exact ⟨rfl, H.out.keep (by exact modC (Mod.refl _ _)), by exact modC (Mod.refl _ _)⟩
  · rw [hin] at hth
    rw [if_neg (by simp)]
    have hc := hok.kind_cases a
    by_cases h3 : s.kind a = 3
    · rw [if_pos h3]
      rw [h3] at hkd
      clear h3 hc
      clear h hok
      go_enter Tryz.func135, Tryz.ntmps135
      go_wp2_with fail
      refine hth.mono ?_
      rintro e w1 ⟨rfl, rfl⟩
      go_wp2_with fail
      refine (hkd _ (by exact modC (Mod.refl _ _))).mono ?_
      rintro e w2 ⟨rfl, hM2⟩
      go_wp2_with fail
      go_ret
      exact ⟨rfl, H.out.keep (by exact modC hM2), mod_none (show Mod none' _ _ from by exact modC hM2)⟩
    · rw [if_neg h3]
      by_cases h2 : s.kind a = 2
      · rw [if_pos h2]
        rw [h2] at hkd
        clear h2 h3 hc
        clear h hok
        go_enter Tryz.func135, Tryz.ntmps135
        go_wp2_with fail
        refine hth.mono ?_
        rintro e w1 ⟨rfl, rfl⟩
        go_wp2_with fail
        refine (hkd _ (by exact modC (Mod.refl _ _))).mono ?_
        rintro e w2 ⟨rfl, hM2⟩
        go_wp2_with fail
        go_ret
        exact ⟨rfl, H.out.keep (by exact modC hM2), mod_none (show Mod none' _ _ from by exact modC hM2)⟩
      · rw [if_neg h2]
        by_cases h1 : s.kind a = 1
        · rw [if_pos h1]
          rw [h1] at hkd
          clear h1 h2 h3 hc
          clear h hok
          go_enter Tryz.func135, Tryz.ntmps135
          go_wp2_with fail
          refine hth.mono ?_
          rintro e w1 ⟨rfl, rfl⟩
          go_wp2_with fail
          refine (hkd _ (by exact modC (Mod.refl _ _))).mono ?_
          rintro e w2 ⟨rfl, hM2⟩
          go_wp2_with fail
          go_ret
          exact ⟨rfl, H.out.keep (by exact modC hM2), mod_none (show Mod none' _ _ from by exact modC hM2)⟩
        · rw [if_neg h1]
          have hk0 : s.kind a = 0 := by omega
          have he : ¬ a < s.edge := by
            intro he
            apply h3
            unfold PgS.kind
            rw [if_neg (by rw [hin]; simp), if_pos he]
          have hg := hok.empty_none hin he hk0
          rw [hk0] at hkd
          have hst := fun W hW => pset_any W b mb s (h.keep hW) a (2, ⟨#[]⟩) hg
          clear h hok hk0 hg he h1 h2 h3 hc hin
          go_enter Tryz.func135, Tryz.ntmps135
          go_wp2_with fail
          refine hth.mono ?_
          rintro e w1 ⟨rfl, rfl⟩
          go_wp2_with fail
          refine (hkd _ (by exact modC (Mod.refl _ _))).mono ?_
          rintro e w2 ⟨rfl, hM2⟩
          go_wp2_with fail
          refine (hst _ (by exact modC hM2)).mono ?_
          rintro e w3 ⟨rfl, hP3, hM3⟩
          go_wp2_with fail
          go_ret
          exact ⟨rfl, hP3, (mod_none (show Mod none' _ _ from by exact modC hM2)).trans (hM3.mono (fun _ _ h => Or.inr h))⟩
def RdPost (w : World) (r : ByteArray × Int) (e : Ending) (w' : World) : Prop := e = .returned (.tuple #[.string r.1, .int .i64 r.2]) ∧ Mod none' w w'
set_option maxRecDepth 100000 in
set_option maxHeartbeats 1000000 in
theorem pread_any (w : World) (b mb : Nat) (s : PgS) (hok : s.ok) (h : PagesAt w b mb s) (a : Int) :
    Calls Tryz.prog 136 #[.pointer (some ⟨b, 0, none⟩), .int .i64 a] w (RdPost w (s.read a)) := by
  have hth := there_any w b a
  have H := Lib.hid h
  have hkd := fun W hW => pkind_any W b mb s (h.keep hW) a
  unfold RdPost PgS.read
  cases hin : inB a
  · rw [hin] at hth
    rw [if_pos rfl]
    clear h hok hkd
    go_enter Tryz.func136, Tryz.ntmps136
    go_wp2_with fail
    refine hth.mono ?_
    rintro e w1 ⟨rfl, rfl⟩
    go_wp2_with fail
    go_ret2
    exact ⟨rfl, by exact modC (Mod.refl _ _)⟩
  · rw [hin] at hth
    rw [if_neg (by simp)]
    have hc := hok.kind_cases a
    by_cases h3 : s.kind a = 3
    · rw [if_pos h3]
      rw [h3] at hkd
      clear h3 hc
      clear h hok
      go_enter Tryz.func136, Tryz.ntmps136
      go_wp2_with fail
      refine hth.mono ?_
      rintro e w1 ⟨rfl, rfl⟩
      go_wp2_with fail
      refine (hkd _ (by exact modC (Mod.refl _ _))).mono ?_
      rintro e w2 ⟨rfl, hM2⟩
      go_wp2_with fail
      go_ret2
      exact ⟨rfl, by exact modC hM2⟩
    · rw [if_neg h3]
      by_cases h0 : s.kind a = 0
      · rw [if_pos h0]
        rw [h0] at hkd
        clear h0 h3 hc
        clear h hok
        go_enter Tryz.func136, Tryz.ntmps136
        go_wp2_with fail
        refine hth.mono ?_
        rintro e w1 ⟨rfl, rfl⟩
        go_wp2_with fail
        refine (hkd _ (by exact modC (Mod.refl _ _))).mono ?_
        rintro e w2 ⟨rfl, hM2⟩
        go_wp2_with fail
        go_ret2
        exact ⟨rfl, by exact modC hM2⟩
      · rw [if_neg h0]
        by_cases h2 : s.kind a = 2
        · rw [if_pos h2]
          rw [h2] at hkd
          clear h2 h3 h0 hc
          clear h hok
          go_enter Tryz.func136, Tryz.ntmps136
          go_wp2_with fail
          refine hth.mono ?_
          rintro e w1 ⟨rfl, rfl⟩
          go_wp2_with fail
          refine (hkd _ (by exact modC (Mod.refl _ _))).mono ?_
          rintro e w2 ⟨rfl, hM2⟩
          go_wp2_with fail
          go_ret2
          exact ⟨rfl, by exact modC hM2⟩
        · rw [if_neg h2]
          have hk1 : s.kind a = 1 := by omega
          rw [hk1] at hkd
          unfold PgS.text
          have hlk := fun W hW => (show ∃ es clock, MapAt W mb κs1 κc s.m es clock from (h.keep hW).map)
          have c1 := h.c1
          clear h hok hk1 h2 h3 h0 hc hin
          go_enter Tryz.func136, Tryz.ntmps136
          go_wp2_with fail
          refine hth.mono ?_
          rintro e w1 ⟨rfl, rfl⟩
          go_wp2_with fail
          refine (hkd _ (by exact modC (Mod.refl _ _))).mono ?_
          rintro e w2 ⟨rfl, hM2⟩
          obtain ⟨es, clock, hm⟩ := hlk w2 (by exact modC hM2)
          have hlk2 := page_look hm a
          have c1w := hM2.at c1 id
          clear hm hlk
          go_wp2_with fail
          go_ret2
          exact ⟨rfl, by exact modC hM2⟩
end Go.Proofs.YtghdhhbpbmhooaaGreat
/- pages: made, trimmed, their tail -/
namespace Go.Proofs.YtghdhhbpbmhooaaGreat
open Go.RowKit Esch

def PgNew (w : World) (room : Nat) (e : Ending) (w' : World) : Prop := ∃ b mb, e = .returned (.tuple #[.pointer (some ⟨b, 0, none⟩), .int .i64 0]) ∧ PagesAt w' b mb (pg0 room) ∧ w.heap.size ≤ b ∧ w.heap.size ≤ mb ∧ Below w.heap.size w w'
set_option maxHeartbeats 1000000 in
theorem pnew_any (w : World) (room : Nat) (h1 : 1 ≤ room) (h2 : room ≤ 4096) : Calls Tryz.prog 104 #[.int .i64 room] w (PgNew w room) := by
  have hmm := @run_makeMap Tryz.prog
  have g1 : (1 : Int) ≤ room := by omega
  have g2 : (room : Int) ≤ 4096 := by omega
  go_enter Tryz.func104, Tryz.ntmps104
  go_wp2_with fail
  go_ret2
  refine ⟨w.heap.size + 1, w.heap.size, rfl, ⟨by go_simp; rfl, by go_simp, by go_simp; rfl, by go_simp, ⟨#[], 0, ⟨?_, rfl, List.nodup_nil, List.Pairwise.nil, fun e he => by simp at he⟩⟩, by omega⟩, by omega, Nat.le_refl _, by exact belC (Below.refl _ _)⟩
  exact (Below.heap_alloc _ _ _ (by simp)).trans (alloc_new w _)
def TrimRel (w : World) (b mb : Nat) (s : PgS) (bl : Nat) (g : Nat) (wr : World) : Prop :=
  ∃ e : Nat, g = bl - e ∧ s.edge ≤ e ∧ e ≤ max s.edge bl ∧ PagesAt wr b mb { s with edge := e, m := s.m.filter fun p => decide ((e : Int) ≤ p.1) } ∧ Mod (fun k => k = b ∨ k = mb) w wr
set_option maxRecDepth 100000 in
set_option maxHeartbeats 1000000 in
theorem ptrim_any (w : World) (b mb : Nat) (s : PgS) (hok : s.ok) (h : PagesAt w b mb s) (a : Int) :
    Calls Tryz.prog 137 #[.pointer (some ⟨b, 0, none⟩), .int .i64 a] w (PgPost w b mb (s.trim a)) := by
  have H := Lib.hid h
  unfold PgPost PgS.trim
  by_cases h0 : a < 0
  · rw [if_pos (Or.inl h0)]
    clear h hok
    go_enter Tryz.func137, Tryz.ntmps137
    go_wp2_with fail
    go_ret
    exact ⟨rfl, H.out.keep (by exact modC (Mod.refl _ _)), by exact modC (Mod.refl _ _)⟩
  · by_cases h1 : 4096 < a
    · rw [if_pos (Or.inr h1)]
      clear h hok
      go_enter Tryz.func137, Tryz.ntmps137
      go_wp2_with fail
      go_ret
      exact ⟨rfl, H.out.keep (by exact modC (Mod.refl _ _)), by exact modC (Mod.refl _ _)⟩
    · rw [if_neg (by omega)]
      obtain ⟨bl, rfl⟩ : ∃ bl : Nat, a = bl := ⟨a.toNat, by omega⟩
      rw [Int.toNat_natCast]
      have hbl : bl ≤ 4096 := by omega
      have hT0 : TrimRel w b mb s bl (bl - s.edge) w := ⟨s.edge, rfl, Nat.le_refl _, by omega, by rw [filter_all (fun p hp => (hok.keys p hp).1)]; exact h, Mod.refl _ _⟩
      have HT0 := Lib.hid hT0
      have hg1 : (bl : Int) ≤ 4096 := by omega
      have hedge := hok.edge
      clear h hok h0 h1 hT0
      go_enter Tryz.func137, Tryz.ntmps137
      go_wp2_with fail
      go_loopg [] (bl - s.edge) (fun g wr => TrimRel w b mb s bl g wr)
      case atStart => exact HT0.out
      case round =>
        obtain ⟨e, rfl, he1, he2, hP, hM⟩ := hrel
        have HP := Lib.hid hP
        obtain ⟨c0, c1, c2, f2, ⟨es, clock, hm⟩, hne⟩ := hP
        simp only at c0 c2 hm
        by_cases hlt : e < bl
        · have hlt' : (e : Int) < bl := by omega
          obtain ⟨es', hdel, hm'⟩ := (hm.of_block (w' := wr.drew) rfl).delete keySpot Tryz.underlying215 (e : Int) #[215, 241] 0 rfl
          rw [filter_step] at hm'
          simp only [κs1] at hdel
          obtain ⟨W2, hW2⟩ : ∃ W2, W2 = putObj wr.drew mb (.map es' clock) := ⟨_, rfl⟩
          have hM2 : Mod (fun k => k = b ∨ k = mb) w W2 := by rw [hW2]; exact (hM.drew).putObj (fun _ => Or.inr rfl) _
          rw [← hW2] at hdel hm'
          have hblk : W2.heap[b]? = wr.heap[b]? := by rw [hW2, putObj_other _ _ _ _ hne]; rfl
          have d0 := (World.cell?_of_block (a := ⟨b, 0, none⟩) hblk).trans c0
          have d1 := (World.cell?_of_block (a := ⟨b, 1, none⟩) hblk).trans c1
          have d2 := (World.cell?_of_block (a := ⟨b, 2, none⟩) hblk).trans c2
          have e2 := (World.frozen?_of_block (a := ⟨b, 2, none⟩) hblk).trans f2
          have Hm' := Lib.hid hm'
          have HM2 := Lib.hid hM2
          have Hhl := Lib.hid hlt
          clear hm hm' hM hM2 hW2 hlt hblk
          go_wp2_with fail
          refine region_tail 9 (by kernel_rfl) (by kernel_rfl) (fun T hT K hK => ?_)
          simp only [List.take_succ_cons, List.take_zero]
          repeat still_step
          refine wpStill_nil (hK _ ?_)
          clear hK
          simp only [List.drop_succ_cons, List.drop_zero] at hT
          subst hT
          go_wp2
          go_roundg (bl - (e + 1))
          case measure => have := Hhl.out; omega
          case rel =>
            have := Hhl.out
            refine ⟨e + 1, rfl, by omega, by omega, ⟨by go_simp, by go_simp, by go_simp, by go_simp, ⟨es', clock, Hm'.out.of_block ?_⟩, hne⟩, by exact modC HM2.out⟩
            exact Below.heap_setCell _ _ _ _ (fun e => hne e.symm)
        · have hge : (bl : Int) ≤ e := by omega
          have heq : max s.edge bl = e := by omega
          clear hlt
          go_wp2_with fail
          go_ret
          rw [heq]
          exact ⟨rfl, HP.out.keep (by exact modC (Mod.refl _ _)), by exact modC hM⟩
end Go.Proofs.YtghdhhbpbmhooaaGreat
/- pages: the page behind all that are there -/
namespace Go.Proofs.YtghdhhbpbmhooaaGreat
open Go.RowKit Esch

theorem tailOf_snoc (l : List (Int × (Int × ByteArray))) (p : Int × (Int × ByteArray)) (e : Int) : tailOf e (l ++ [p]) = max (tailOf e l) (p.1 + 1) := by
  induction l generalizing e with
  | nil => rfl
  | cons q l ih => rw [List.cons_append, tailOf, ih, tailOf]
def TailRel (w : World) (mb r : Nat) (s : PgS) (g : Nat) (sv : Value) (wr : World) : Prop :=
  ∃ (seen left : List (Int × (Int × ByteArray))), g = left.length ∧ Ranges wr mb r κs1 κc s.m left ∧ (seen ++ left).Perm s.m ∧ sv = .int .i64 (tailOf s.edge seen) ∧ Below w.heap.size w wr
set_option maxRecDepth 100000 in
set_option maxHeartbeats 1000000 in
theorem ptail_any (w : World) (b mb : Nat) (s : PgS) (hok : s.ok) (h : PagesAt w b mb s) :
    Calls Tryz.prog 138 #[.pointer (some ⟨b, 0, none⟩)] w fun e w' => e = .returned (.int .i64 s.tail) ∧ Below w.heap.size w w' := by
  obtain ⟨c0, c1, c2, f2, ⟨es, clock, hm⟩, hne⟩ := h
  have Hok := Lib.hid hok
  have hml := block_lt hm.block
  clear hok
  go_enter Tryz.func138, Tryz.ntmps138
  go_wp2_with (at_range; refine wpList_range_map rfl _ _ rfl _ _ Tryz.underlying215 rfl hm ?_; intro w2 hR2 e2)
  go_frame
  have hB2 : Below w.heap.size w w2 := by rw [e2]; exact (Below.refl _ w).alloc (Nat.le_refl _) _
  clear e2 hm
  obtain ⟨r, hr⟩ : ∃ r, r = w.heap.size := ⟨_, rfl⟩
  rw [← hr] at hR2 ⊢
  have hrw : w.heap.size ≤ r := by omega
  clear hr
  go_loopg [3] s.m.length (fun g sv wr => TailRel w mb r s g sv wr)
  case atStart => exact ⟨[], s.m, rfl, hR2, List.Perm.refl _, rfl, hB2⟩
  case round =>
    clear hR2 hB2
    obtain ⟨seen, left, rfl, hR, hperm, rfl, hB⟩ := hrel
    have Hperm := Lib.hid hperm
    clear hperm
    go_wp2_with (at_next; refine wpList_next_map rfl _ rfl rfl hR ?_ ?_)
    · intro hl0
      have HL := Lib.hid hl0
      clear hl0
      go_wp2_with fail
      go_ret
      refine ⟨?_, hB⟩
      have hp := Hperm.out
      rw [HL.out, List.append_nil] at hp
      unfold PgS.tail
      rw [tailOf_perm hp]
      rfl
    · intro pre u nk nd post w3 hl hR3 hg3 hs3 hen
      obtain ⟨n, hn⟩ : ∃ n : Int × ByteArray, n = (nk, nd) := ⟨_, rfl⟩
      rw [← hn] at hl
      have HL := Lib.hid hl
      have hB3 : Below w.heap.size w w3 := hB.grown hg3 hB.size (fun k e => by cases e; exact hrw)
      have hz3 := hB3.size
      have hu : (u, n) ∈ s.m := (Hperm.out.mem_iff).1 (by rw [hl]; simp)
      obtain ⟨u1, u2⟩ := Hok.out.keys _ hu
      simp only at u1 u2
      have hpn : (seen ++ [(u, n)] ++ (pre ++ post)).Perm s.m := by
        refine List.Perm.trans ?_ Hperm.out
        rw [hl, List.append_assoc]
        exact List.Perm.append_left seen (by simpa using (List.perm_middle (a := (u, n)) (l₁ := pre) (l₂ := post)).symm)
      have hsn := tailOf_snoc seen (u, n) s.edge
      have hs0 : ∀ p ∈ seen, p.1 < 4096 := fun p hp => (Hok.out.keys p ((Hperm.out.mem_iff).1 (by simp [hp]))).2
      have htb := tailOf_bounds (l := seen) (e := s.edge) (by omega) (by have := Hok.out.edge; omega) hs0
      generalize tailOf s.edge seen = tv at hsn htb ⊢
      obtain ⟨t0, t1⟩ := htb
      have Hsn := Lib.hid hsn
      have Hpn := Lib.hid hpn
      have u0 : 0 ≤ u := by omega
      clear hl hg3 hs3 hR hB hpn hsn hs0 hu
      simp only [κs1, κc] at hen ⊢
      go_wp2_with fail
      all_goals go_roundg (pre ++ post).length
      all_goals first
        | (show _ < _; rw [HL.out]; simp; done)
        | (refine ⟨seen ++ [(u, n)], pre ++ post, rfl, ?_, Hpn.out, ?_, hB3.alloc hB3.size _⟩
           · have hlt3 := hR3.lt
             exact hR3.of_blocks (by simp [hlt3.1]) (by simp [hlt3.2])
           · rw [Hsn.out]
             show Value.int .i64 _ = Value.int .i64 (max tv (u + 1))
             congr 1
             omega)
end Go.Proofs.YtghdhhbpbmhooaaGreat
/- a storage unit: the program's -/
namespace Go.Proofs.YtghdhhbpbmhooaaGreat
open Go.RowKit Esch

structure UnS where
  pg : PgS
  epoch : Int
  down : Bool
@[simp] def ansU (c n : Int) (d : ByteArray) (ep : Int) : Value := .agg #[.int .i64 c, .int .i64 n, .string d, .int .i64 0, .slice none 0 0, .int .i64 0, .int .i64 0, .int .i64 ep]
structure UnitAt (w : World) (u pb mb : Nat) (s : UnS) : Prop where
  c0 : w.cell? ⟨u, 0, none⟩ = some (.pointer (some ⟨pb, 0, none⟩))
  c1 : w.cell? ⟨u, 1, none⟩ = some (.int .i64 s.epoch)
  c2 : w.cell? ⟨u, 2, none⟩ = some (.bool s.down)
  f1 : w.frozen? ⟨u, 1, none⟩ = false
  f2 : w.frozen? ⟨u, 2, none⟩ = false
  pages : PagesAt w pb mb s.pg
  ne1 : u ≠ pb
  ne2 : u ≠ mb
theorem UnitAt.mod {F : Nat → Prop} {w w' : World} {u pb mb : Nat} {s : UnS} (h : UnitAt w u pb mb s) (hM : Mod F w w') (hu : ¬ F u) (hb : ¬ F pb) (hm : ¬ F mb) : UnitAt w' u pb mb s :=
  ⟨hM.at h.c0 hu, hM.at h.c1 hu, hM.at h.c2 hu, (hM.frozen (p := ⟨u, 1, none⟩) (cell_lt h.c0) hu).trans h.f1, (hM.frozen (p := ⟨u, 2, none⟩) (cell_lt h.c0) hu).trans h.f2, h.pages.mod hM hb hm, h.ne1, h.ne2⟩
theorem UnitAt.withPages {w w' : World} {u pb mb : Nat} {s : UnS} {p : PgS} (h : UnitAt w u pb mb s) (hp : PagesAt w' pb mb p) (hM : Mod (fun k => k = pb ∨ k = mb) w w') : UnitAt w' u pb mb { s with pg := p } := by
  have hu : ¬ (u = pb ∨ u = mb) := fun e => e.elim h.ne1 h.ne2
  exact ⟨hM.at h.c0 hu, hM.at h.c1 hu, hM.at h.c2 hu, (hM.frozen (p := ⟨u, 1, none⟩) (cell_lt h.c0) hu).trans h.f1, (hM.frozen (p := ⟨u, 2, none⟩) (cell_lt h.c0) hu).trans h.f2, hp, h.ne1, h.ne2⟩
def UnPost (w : World) (u pb mb : Nat) (c n : Int) (d : ByteArray) (ep : Int) (s : UnS) (e : Ending) (w' : World) : Prop := e = .returned (ansU c n d ep) ∧ UnitAt w' u pb mb s ∧ Mod (fun k => k = u ∨ k = pb ∨ k = mb) w w'
/-- the boxes of a question and of an answer -/
structure Boxed2 (w W : World) (ab rb : Nat) (a0 a1 a2 a3 a4 a5 a6 a7 a8 : Value) : Prop where
  below : Below w.heap.size w W
  size : W.heap.size = w.heap.size + 2
  bab : w.heap.size ≤ ab ∧ ab < W.heap.size
  brb : w.heap.size ≤ rb ∧ rb < W.heap.size
  q0 : W.cell? ⟨ab, 0, none⟩ = some a0
  q1 : W.cell? ⟨ab, 1, none⟩ = some a1
  q2 : W.cell? ⟨ab, 2, none⟩ = some a2
  q3 : W.cell? ⟨ab, 3, none⟩ = some a3
  q4 : W.cell? ⟨ab, 4, none⟩ = some a4
  q5 : W.cell? ⟨ab, 5, none⟩ = some a5
  q6 : W.cell? ⟨ab, 6, none⟩ = some a6
  q7 : W.cell? ⟨ab, 7, none⟩ = some a7
  q8 : W.cell? ⟨ab, 8, none⟩ = some a8
  r0 : W.cell? ⟨rb, 0, none⟩ = some (.int .i64 0)
  r1 : W.cell? ⟨rb, 1, none⟩ = some (.int .i64 0)
  r2 : W.cell? ⟨rb, 2, none⟩ = some (.string ⟨#[]⟩)
  r3 : W.cell? ⟨rb, 3, none⟩ = some (.int .i64 0)
  r4 : W.cell? ⟨rb, 4, none⟩ = some (.slice none 0 0)
  r5 : W.cell? ⟨rb, 5, none⟩ = some (.int .i64 0)
  r6 : W.cell? ⟨rb, 6, none⟩ = some (.int .i64 0)
  r7 : W.cell? ⟨rb, 7, none⟩ = some (.int .i64 0)
  f0 : W.frozen? ⟨rb, 0, none⟩ = false
  f1 : W.frozen? ⟨rb, 1, none⟩ = false
  f2 : W.frozen? ⟨rb, 2, none⟩ = false
  f3 : W.frozen? ⟨rb, 3, none⟩ = false
  f4 : W.frozen? ⟨rb, 4, none⟩ = false
  f5 : W.frozen? ⟨rb, 5, none⟩ = false
  f6 : W.frozen? ⟨rb, 6, none⟩ = false
  f7 : W.frozen? ⟨rb, 7, none⟩ = false
set_option maxHeartbeats 1000000 in
theorem boxed2 (w : World) (a0 a1 a2 a3 a4 a5 a6 a7 a8 : Value) : Boxed2 w ((w.alloc (.cells #[a0, a1, a2, a3, a4, a5, a6, a7, a8] 34)).alloc (.cells #[.int .i64 0, .int .i64 0, .string ⟨#[]⟩, .int .i64 0, .slice none 0 0, .int .i64 0, .int .i64 0, .int .i64 0] 49)) w.heap.size (w.heap.size + 1) a0 a1 a2 a3 a4 a5 a6 a7 a8 := by
  refine ⟨by exact belC (Below.refl _ _), by simp, ⟨by omega, by simp; omega⟩, ⟨by omega, by simp⟩, ?_, ?_, ?_, ?_, ?_, ?_, ?_, ?_, ?_, ?_, ?_, ?_, ?_, ?_, ?_, ?_, ?_, ?_, ?_, ?_, ?_, ?_, ?_, ?_, ?_⟩
  all_goals go_simp
/-- what is known of an answer's box, in another world -/
theorem Boxed2.far {w W W' : World} {ab rb : Nat} {a0 a1 a2 a3 a4 a5 a6 a7 a8 : Value} (h : Boxed2 w W ab rb a0 a1 a2 a3 a4 a5 a6 a7 a8) {F : Nat → Prop} (hM : Mod F W W') (hF : ¬ F rb) :
    W'.cell? ⟨rb, 0, none⟩ = some (.int .i64 0) ∧ W'.cell? ⟨rb, 1, none⟩ = some (.int .i64 0) ∧ W'.cell? ⟨rb, 2, none⟩ = some (.string ⟨#[]⟩) ∧ W'.cell? ⟨rb, 3, none⟩ = some (.int .i64 0) ∧ W'.cell? ⟨rb, 4, none⟩ = some (.slice none 0 0) ∧ W'.cell? ⟨rb, 5, none⟩ = some (.int .i64 0) ∧ W'.cell? ⟨rb, 6, none⟩ = some (.int .i64 0) ∧ W'.cell? ⟨rb, 7, none⟩ = some (.int .i64 0) ∧
    W'.frozen? ⟨rb, 0, none⟩ = false ∧ W'.frozen? ⟨rb, 1, none⟩ = false ∧ W'.frozen? ⟨rb, 2, none⟩ = false ∧ W'.frozen? ⟨rb, 3, none⟩ = false ∧ W'.frozen? ⟨rb, 4, none⟩ = false ∧ W'.frozen? ⟨rb, 5, none⟩ = false ∧ W'.frozen? ⟨rb, 6, none⟩ = false ∧ W'.frozen? ⟨rb, 7, none⟩ = false :=
  ⟨hM.at h.r0 hF, hM.at h.r1 hF, hM.at h.r2 hF, hM.at h.r3 hF, hM.at h.r4 hF, hM.at h.r5 hF, hM.at h.r6 hF, hM.at h.r7 hF, (hM.frozen (p := ⟨rb, 0, none⟩) h.brb.2 hF).trans h.f0, (hM.frozen (p := ⟨rb, 1, none⟩) h.brb.2 hF).trans h.f1, (hM.frozen (p := ⟨rb, 2, none⟩) h.brb.2 hF).trans h.f2, (hM.frozen (p := ⟨rb, 3, none⟩) h.brb.2 hF).trans h.f3, (hM.frozen (p := ⟨rb, 4, none⟩) h.brb.2 hF).trans h.f4, (hM.frozen (p := ⟨rb, 5, none⟩) h.brb.2 hF).trans h.f5, (hM.frozen (p := ⟨rb, 6, none⟩) h.brb.2 hF).trans h.f6, (hM.frozen (p := ⟨rb, 7, none⟩) h.brb.2 hF).trans h.f7⟩
section
variable (x0 x1 x4 x5 x7 : Int) (ca : Option Addr) (cn cc : Nat)
set_option maxRecDepth 100000 in
set_option maxHeartbeats 1000000 in
theorem uwrite_any (w : World) (u pb mb : Nat) (s : UnS) (hok : s.pg.ok) (h : UnitAt w u pb mb s) (ep page : Int) (d : ByteArray) (hd : d.size ≤ 9223372036854775807) :
    Calls Tryz.prog 122 #[.pointer (some ⟨u, 0, none⟩), .agg #[.int .i64 x0, .int .i64 x1, .int .i64 ep, .int .i64 page, .int .i64 x4, .int .i64 x5, .string d, .int .i64 x7, .slice ca cn cc]] w
      (UnPost w u pb mb (s.pg.write page d).1 0 ⟨#[]⟩ 0 { s with pg := (s.pg.write page d).2 }) := by
  have hpw := fun W hW => pwrite_any W pb mb s.pg hok (h.pages.keep hW) page d hd
  obtain ⟨W, hW, ab, rb, hab, hrb, hX⟩ : ∃ W, W = _ ∧ ∃ ab rb, ab = w.heap.size ∧ rb = w.heap.size + 1 ∧ Boxed2 w W ab rb (.int .i64 x0) (.int .i64 x1) (.int .i64 ep) (.int .i64 page) (.int .i64 x4) (.int .i64 x5) (.string d) (.int .i64 x7) (.slice ca cn cc) := ⟨_, rfl, _, _, rfl, rfl, boxed2 w _ _ _ _ _ _ _ _ _⟩
  have HW := Lib.hid hW
  have HA := Lib.hid hab
  have HR := Lib.hid hrb
  have hu := cell_lt h.c0
  have hb := cell_lt h.pages.c0
  have hm := h.pages.mlt
  have HU := Lib.hid (h.mod (F := none') (Mod.of_below hX.below) id id id)
  have c0 := HU.out.c0
  have q3 := hX.q3
  have q6 := hX.q6
  have HX := Lib.hid hX
  have hzW := hX.size
  have hrb2 := hX.brb
  clear h hok hW hab hrb hX
  go_enter Tryz.func122, Tryz.ntmps122
  go_wp2_with fail
  rw [← HW.out, ← HR.out, ← HA.out]
  refine region_tail 8 (by kernel_rfl) (by kernel_rfl) (fun T hT K hK => ?_)
  simp only [List.take_succ_cons, List.take_zero]
  repeat still_step
  refine wpStill_nil (hK _ ?_)
  clear hK
  simp only [List.drop_succ_cons, List.drop_zero] at hT
  subst hT
  go_wp2_with fail
  refine (hpw W.drew (by exact modC (Mod.of_below HX.out.below))).mono ?_
  clear hpw
  rintro e w3 ⟨rfl, hP3, hM3⟩
  have hMW : Mod (fun k => k = pb ∨ k = mb) W w3 := ((Mod.refl _ W).drew).trans hM3
  obtain ⟨g0, g1, g2, g3, g4, g5, g6, g7, f0, f1, f2, f3, f4, f5, f6, f7⟩ := HX.out.far hMW (by omega)
  have HU3 := Lib.hid (HU.out.withPages hP3 hMW)
  have HMW := Lib.hid hMW
  clear hP3 hM3 hMW
  go_wp2_with fail
  refine bodyPost_ret (v := ansU (s.pg.write page d).1 0 ⟨#[]⟩ 0) (by simp only [results, Tryz.results122, ansU]; go_simp) rfl ?_
  refine ⟨rfl, HU3.out.mod (F := (· = rb)) (by exact modC (Mod.refl _ _)) (by omega) (by omega) (by omega), ?_⟩
  refine (mod_none (Mod.of_below HX.out.below)).trans' (show Mod (fun k => k = rb ∨ k = pb ∨ k = mb) W _ from ?_) (fun j hj e => ?_)
  · repeat (with_reducible refine Mod.setCellAt ?_ (fun _ => Or.inl rfl) _)
    exact HMW.out.mono (fun _ _ h => Or.inr h)
  · rcases e with e | e
    · omega
    · exact Or.inr e
set_option maxRecDepth 100000 in
set_option maxHeartbeats 1000000 in
theorem ufill_any (w : World) (u pb mb : Nat) (s : UnS) (hok : s.pg.ok) (h : UnitAt w u pb mb s) (ep page : Int) (d : ByteArray) :
    Calls Tryz.prog 123 #[.pointer (some ⟨u, 0, none⟩), .agg #[.int .i64 x0, .int .i64 x1, .int .i64 ep, .int .i64 page, .int .i64 x4, .int .i64 x5, .string d, .int .i64 x7, .slice ca cn cc]] w
      (UnPost w u pb mb (s.pg.fill page).1 0 ⟨#[]⟩ 0 { s with pg := (s.pg.fill page).2 }) := by
  have hpw := fun W hW => pfill_any W pb mb s.pg hok (h.pages.keep hW) page
  obtain ⟨W, hW, ab, rb, hab, hrb, hX⟩ : ∃ W, W = _ ∧ ∃ ab rb, ab = w.heap.size ∧ rb = w.heap.size + 1 ∧ Boxed2 w W ab rb (.int .i64 x0) (.int .i64 x1) (.int .i64 ep) (.int .i64 page) (.int .i64 x4) (.int .i64 x5) (.string d) (.int .i64 x7) (.slice ca cn cc) := ⟨_, rfl, _, _, rfl, rfl, boxed2 w _ _ _ _ _ _ _ _ _⟩
  have HW := Lib.hid hW
  have HA := Lib.hid hab
  have HR := Lib.hid hrb
  have hu := cell_lt h.c0
  have hb := cell_lt h.pages.c0
  have hm := h.pages.mlt
  have HU := Lib.hid (h.mod (F := none') (Mod.of_below hX.below) id id id)
  have c0 := HU.out.c0
  have q3 := hX.q3
  have HX := Lib.hid hX
  have hzW := hX.size
  have hrb2 := hX.brb
  clear h hok hW hab hrb hX
  go_enter Tryz.func123, Tryz.ntmps123
  go_wp2_with fail
  rw [← HW.out, ← HR.out, ← HA.out]
  refine region_tail 6 (by kernel_rfl) (by kernel_rfl) (fun T hT K hK => ?_)
  simp only [List.take_succ_cons, List.take_zero]
  repeat still_step
  refine wpStill_nil (hK _ ?_)
  clear hK
  simp only [List.drop_succ_cons, List.drop_zero] at hT
  subst hT
  go_wp2_with fail
  refine (hpw W.drew (by exact modC (Mod.of_below HX.out.below))).mono ?_
  clear hpw
  rintro e w3 ⟨rfl, hP3, hM3⟩
  have hMW : Mod (fun k => k = pb ∨ k = mb) W w3 := ((Mod.refl _ W).drew).trans hM3
  obtain ⟨g0, g1, g2, g3, g4, g5, g6, g7, f0, f1, f2, f3, f4, f5, f6, f7⟩ := HX.out.far hMW (by omega)
  have HU3 := Lib.hid (HU.out.withPages hP3 hMW)
  have HMW := Lib.hid hMW
  clear hP3 hM3 hMW
  go_wp2_with fail
  refine bodyPost_ret (v := ansU (s.pg.fill page).1 0 ⟨#[]⟩ 0) (by simp only [results, Tryz.results123, ansU]; go_simp) rfl ?_
  refine ⟨rfl, HU3.out.mod (F := (· = rb)) (by exact modC (Mod.refl _ _)) (by omega) (by omega) (by omega), ?_⟩
  refine (mod_none (Mod.of_below HX.out.below)).trans' (show Mod (fun k => k = rb ∨ k = pb ∨ k = mb) W _ from ?_) (fun j hj e => ?_)
  · repeat (with_reducible refine Mod.setCellAt ?_ (fun _ => Or.inl rfl) _)
    exact HMW.out.mono (fun _ _ h => Or.inr h)
  · rcases e with e | e
    · omega
    · exact Or.inr e
set_option maxRecDepth 100000 in
set_option maxHeartbeats 1000000 in
theorem utrim_any (w : World) (u pb mb : Nat) (s : UnS) (hok : s.pg.ok) (h : UnitAt w u pb mb s) (ep page : Int) (d : ByteArray) :
    Calls Tryz.prog 125 #[.pointer (some ⟨u, 0, none⟩), .agg #[.int .i64 x0, .int .i64 x1, .int .i64 ep, .int .i64 page, .int .i64 x4, .int .i64 x5, .string d, .int .i64 x7, .slice ca cn cc]] w
      (UnPost w u pb mb (s.pg.trim page).1 0 ⟨#[]⟩ 0 { s with pg := (s.pg.trim page).2 }) := by
  have hpw := fun W hW => ptrim_any W pb mb s.pg hok (h.pages.keep hW) page
  obtain ⟨W, hW, ab, rb, hab, hrb, hX⟩ : ∃ W, W = _ ∧ ∃ ab rb, ab = w.heap.size ∧ rb = w.heap.size + 1 ∧ Boxed2 w W ab rb (.int .i64 x0) (.int .i64 x1) (.int .i64 ep) (.int .i64 page) (.int .i64 x4) (.int .i64 x5) (.string d) (.int .i64 x7) (.slice ca cn cc) := ⟨_, rfl, _, _, rfl, rfl, boxed2 w _ _ _ _ _ _ _ _ _⟩
  have HW := Lib.hid hW
  have HA := Lib.hid hab
  have HR := Lib.hid hrb
  have hu := cell_lt h.c0
  have hb := cell_lt h.pages.c0
  have hm := h.pages.mlt
  have HU := Lib.hid (h.mod (F := none') (Mod.of_below hX.below) id id id)
  have c0 := HU.out.c0
  have q3 := hX.q3
  have HX := Lib.hid hX
  have hzW := hX.size
  have hrb2 := hX.brb
  clear h hok hW hab hrb hX
  go_enter Tryz.func125, Tryz.ntmps125
  go_wp2_with fail
  rw [← HW.out, ← HR.out, ← HA.out]
  refine region_tail 6 (by kernel_rfl) (by kernel_rfl) (fun T hT K hK => ?_)
  simp only [List.take_succ_cons, List.take_zero]
  repeat still_step
  refine wpStill_nil (hK _ ?_)
  clear hK
  simp only [List.drop_succ_cons, List.drop_zero] at hT
  subst hT
  go_wp2_with fail
  refine (hpw W.drew (by exact modC (Mod.of_below HX.out.below))).mono ?_
  clear hpw
  rintro e w3 ⟨rfl, hP3, hM3⟩
  have hMW : Mod (fun k => k = pb ∨ k = mb) W w3 := ((Mod.refl _ W).drew).trans hM3
  obtain ⟨g0, g1, g2, g3, g4, g5, g6, g7, f0, f1, f2, f3, f4, f5, f6, f7⟩ := HX.out.far hMW (by omega)
  have HU3 := Lib.hid (HU.out.withPages hP3 hMW)
  have HMW := Lib.hid hMW
  clear hP3 hM3 hMW
  go_wp2_with fail
  refine bodyPost_ret (v := ansU (s.pg.trim page).1 0 ⟨#[]⟩ 0) (by simp only [results, Tryz.results125, ansU]; go_simp) rfl ?_
  refine ⟨rfl, HU3.out.mod (F := (· = rb)) (by exact modC (Mod.refl _ _)) (by omega) (by omega) (by omega), ?_⟩
  refine (mod_none (Mod.of_below HX.out.below)).trans' (show Mod (fun k => k = rb ∨ k = pb ∨ k = mb) W _ from ?_) (fun j hj e => ?_)
  · repeat (with_reducible refine Mod.setCellAt ?_ (fun _ => Or.inl rfl) _)
    exact HMW.out.mono (fun _ _ h => Or.inr h)
  · rcases e with e | e
    · omega
    · exact Or.inr e
set_option maxRecDepth 100000 in
set_option maxHeartbeats 1000000 in
theorem uread_any (w : World) (u pb mb : Nat) (s : UnS) (hok : s.pg.ok) (h : UnitAt w u pb mb s) (ep page : Int) (d : ByteArray) :
    Calls Tryz.prog 124 #[.pointer (some ⟨u, 0, none⟩), .agg #[.int .i64 x0, .int .i64 x1, .int .i64 ep, .int .i64 page, .int .i64 x4, .int .i64 x5, .string d, .int .i64 x7, .slice ca cn cc]] w
      (UnPost w u pb mb (s.pg.read page).2 0 (s.pg.read page).1 0 s) := by
  have hpw := fun W hW => pread_any W pb mb s.pg hok (h.pages.keep hW) page
  obtain ⟨W, hW, ab, rb, hab, hrb, hX⟩ : ∃ W, W = _ ∧ ∃ ab rb, ab = w.heap.size ∧ rb = w.heap.size + 1 ∧ Boxed2 w W ab rb (.int .i64 x0) (.int .i64 x1) (.int .i64 ep) (.int .i64 page) (.int .i64 x4) (.int .i64 x5) (.string d) (.int .i64 x7) (.slice ca cn cc) := ⟨_, rfl, _, _, rfl, rfl, boxed2 w _ _ _ _ _ _ _ _ _⟩
  have HW := Lib.hid hW
  have HA := Lib.hid hab
  have HR := Lib.hid hrb
  have hu := cell_lt h.c0
  have hb := cell_lt h.pages.c0
  have hm := h.pages.mlt
  have HU := Lib.hid (h.mod (F := none') (Mod.of_below hX.below) id id id)
  have c0 := HU.out.c0
  have q3 := hX.q3
  have HX := Lib.hid hX
  have hzW := hX.size
  have hrb2 := hX.brb
  clear h hok hW hab hrb hX
  go_enter Tryz.func124, Tryz.ntmps124
  go_wp2_with fail
  rw [← HW.out, ← HR.out, ← HA.out]
  have hKd : World.cell? W.drew ⟨u, 0, none⟩ = some (.pointer (some ⟨pb, 0, none⟩)) ∧ World.cell? W.drew ⟨ab, 3, none⟩ = some (.int .i64 page) := ⟨c0, q3⟩
  have hrd := hpw W.drew (by exact modC (Mod.of_below HX.out.below))
  go_region_held3 (fun W' => W'.cell? ⟨u, 0, none⟩ = some (.pointer (some ⟨pb, 0, none⟩)) ∧ W'.cell? ⟨ab, 3, none⟩ = some (.int .i64 page))
    (first
      | with_reducible exact hKd
      | with_reducible exact hK3)
    (first
      | (go_at_call 136; (with_reducible refine hrd.mono ?_); rintro e w3 ⟨rfl, hM3'⟩
         have hM3 : Mod none' W w3 := ((Mod.refl _ W).drew).trans hM3'
         have hK3 : w3.cell? ⟨u, 0, none⟩ = some (.pointer (some ⟨pb, 0, none⟩)) ∧ w3.cell? ⟨ab, 3, none⟩ = some (.int .i64 page) := ⟨hM3.at c0 id, hM3.at q3 id⟩
         clear hrd hM3'))
  obtain ⟨g0, g1, g2, g3, g4, g5, g6, g7, f0, f1, f2, f3, f4, f5, f6, f7⟩ := HX.out.far hM3 id
  have HU3 := Lib.hid (HU.out.mod (F := none') hM3 id id id)
  have HMW := Lib.hid (mod_none (F := fun k => k = pb ∨ k = mb) hM3)
  clear hM3 hK3 hKd
  go_wp2_with fail
  refine bodyPost_ret (v := ansU (s.pg.read page).2 0 (s.pg.read page).1 0) (by simp only [results, Tryz.results124, ansU]; go_simp) rfl ?_
  refine ⟨rfl, HU3.out.mod (F := (· = rb)) (by exact modC (Mod.refl _ _)) (by omega) (by omega) (by omega), ?_⟩
  refine (mod_none (Mod.of_below HX.out.below)).trans' (show Mod (fun k => k = rb ∨ k = pb ∨ k = mb) W _ from ?_) (fun j hj e => ?_)
  · repeat (with_reducible refine Mod.setCellAt ?_ (fun _ => Or.inl rfl) _)
    exact HMW.out.mono (fun _ _ h => Or.inr h)
  · rcases e with e | e
    · omega
    · exact Or.inr e
set_option maxRecDepth 100000 in
set_option maxHeartbeats 1000000 in
theorem useal_any (w : World) (u pb mb : Nat) (s : UnS) (hok : s.pg.ok) (h : UnitAt w u pb mb s) (ep page : Int) (d : ByteArray) :
    Calls Tryz.prog 126 #[.pointer (some ⟨u, 0, none⟩), .agg #[.int .i64 x0, .int .i64 x1, .int .i64 ep, .int .i64 page, .int .i64 x4, .int .i64 x5, .string d, .int .i64 x7, .slice ca cn cc]] w
      (UnPost w u pb mb 0 s.pg.tail ⟨#[]⟩ 0 { s with epoch := ep }) := by
  have hu := cell_lt h.c0
  have hb := cell_lt h.pages.c0
  have hm := h.pages.mlt
  obtain ⟨ws, hws⟩ : ∃ ws, ws = w.setCell ⟨u, 1, none⟩ (.int .i64 ep) := ⟨_, rfl⟩
  have hMs : Mod (· = u) w ws := by rw [hws]; exact (Mod.refl (· = u) w).setCellAt (fun _ => rfl) _
  have hzs : ws.heap.size = w.heap.size := by rw [hws, World.size_setCell]
  have hUs : UnitAt ws u pb mb { s with epoch := ep } := by
    have c0 := h.c0
    have c1 := h.c1
    have c2 := h.c2
    have f1 := h.f1
    have f2 := h.f2
    refine ⟨?_, ?_, ?_, ?_, ?_, h.pages.mod hMs (fun e => h.ne1 e.symm) (fun e => h.ne2 e.symm), h.ne1, h.ne2⟩
    all_goals (rw [hws]; go_simp)
  obtain ⟨W, hW, ab, rb, hab, hrb, hX⟩ : ∃ W, W = _ ∧ ∃ ab rb, ab = ws.heap.size ∧ rb = ws.heap.size + 1 ∧ Boxed2 ws W ab rb (.int .i64 x0) (.int .i64 x1) (.int .i64 ep) (.int .i64 page) (.int .i64 x4) (.int .i64 x5) (.string d) (.int .i64 x7) (.slice ca cn cc) := ⟨_, rfl, _, _, rfl, rfl, boxed2 ws _ _ _ _ _ _ _ _ _⟩
  rw [hws] at hW
  rw [hzs] at hab hrb
  have HW := Lib.hid hW
  have HA := Lib.hid hab
  have HR := Lib.hid hrb
  have HU := Lib.hid (hUs.mod (F := none') (Mod.of_below hX.below) id id id)
  have hpt := ptail_any W pb mb s.pg hok HU.out.pages
  have HX := Lib.hid hX
  have hzW := hX.size
  have hrb2 := hX.brb
  have c0 := h.c0
  have c1 := h.c1
  have e1 := h.f1
  have n1 := h.ne1
  have n2 := h.ne2
  have HMs := Lib.hid hMs
  clear h hok hW hab hrb hX hUs hMs hws
  go_enter Tryz.func126, Tryz.ntmps126
  go_wp2_with fail
  rw [← HW.out, ← HR.out, ← HA.out]
  refine hpt.mono ?_
  clear hpt
  rintro e w3 ⟨rfl, hB3⟩
  have hM3 : Mod none' W w3 := Mod.of_below hB3
  obtain ⟨g0, g1, g2, g3, g4, g5, g6, g7, f0, f1, f2, f3, f4, f5, f6, f7⟩ := HX.out.far hM3 id
  have HU3 := Lib.hid (HU.out.mod (F := none') hM3 id id id)
  have HMW := Lib.hid (mod_none (F := fun k => k = pb ∨ k = mb) hM3)
  clear hM3 hB3 c0 c1 e1
  go_wp2_with fail
  refine bodyPost_ret (v := ansU 0 s.pg.tail ⟨#[]⟩ 0) (by simp only [results, Tryz.results126, ansU]; go_simp) rfl ?_
  refine ⟨rfl, HU3.out.mod (F := (· = rb)) (by exact modC (Mod.refl _ _)) (by omega) (by omega) (by omega), ?_⟩
  refine (HMs.out.mono (fun _ _ h => Or.inl h)).trans' ((mod_none (Mod.of_below HX.out.below)).trans' (show Mod (fun k => k = rb ∨ k = pb ∨ k = mb) W _ from ?_) (fun j hj e => ?_)) (fun j hj e => e)
  · repeat (with_reducible refine Mod.setCellAt ?_ (fun _ => Or.inl rfl) _)
    exact HMW.out.mono (fun _ _ h => Or.inr h)
  · rcases e with e | e
    · omega
    · exact Or.inr e
end
end Go.Proofs.YtghdhhbpbmhooaaGreat
/- a storage unit: what it answers -/
namespace Go.Proofs.YtghdhhbpbmhooaaGreat
open Go.RowKit Esch

abbrev fnV (f : Nat) : Value := .func (.func f) #[] #[]
@[simp] theorem idxF0 (f0 f1 f2 f3 f4 f5 : Value) (w : World) : (Instr.index 221 (.agg #[f0, f1, f2, f3, f4, f5]) (.int .i64 0)).run Tryz.prog w = .ok f0 w := by kernel_rfl
@[simp] theorem idxF1 (f0 f1 f2 f3 f4 f5 : Value) (w : World) : (Instr.index 221 (.agg #[f0, f1, f2, f3, f4, f5]) (.int .i64 1)).run Tryz.prog w = .ok f1 w := by kernel_rfl
@[simp] theorem idxF2 (f0 f1 f2 f3 f4 f5 : Value) (w : World) : (Instr.index 221 (.agg #[f0, f1, f2, f3, f4, f5]) (.int .i64 2)).run Tryz.prog w = .ok f2 w := by kernel_rfl
@[simp] theorem idxF3 (f0 f1 f2 f3 f4 f5 : Value) (w : World) : (Instr.index 221 (.agg #[f0, f1, f2, f3, f4, f5]) (.int .i64 3)).run Tryz.prog w = .ok f3 w := by kernel_rfl
@[simp] theorem idxF4 (f0 f1 f2 f3 f4 f5 : Value) (w : World) : (Instr.index 221 (.agg #[f0, f1, f2, f3, f4, f5]) (.int .i64 4)).run Tryz.prog w = .ok f4 w := by kernel_rfl
@[simp] theorem idxF5 (f0 f1 f2 f3 f4 f5 : Value) (w : World) : (Instr.index 221 (.agg #[f0, f1, f2, f3, f4, f5]) (.int .i64 5)).run Tryz.prog w = .ok f5 w := by kernel_rfl
set_option maxRecDepth 100000 in
set_option maxHeartbeats 1000000 in
theorem doing0 (w : World) : Calls Tryz.prog 109 #[.int .i64 0] w fun e w' => e = .returned (Value.nilFunc) ∧ w' = w := by
  go_enter Tryz.func109, Tryz.ntmps109
  go_wp2_with fail
  go_ret
  exact ⟨rfl, rfl⟩
set_option maxRecDepth 100000 in
set_option maxHeartbeats 1000000 in
theorem doing1 (w : World) : Calls Tryz.prog 109 #[.int .i64 1] w fun e w' => e = .returned (fnV 122) ∧ w' = w := by
  go_enter Tryz.func109, Tryz.ntmps109
  go_wp2_with fail
  go_ret
  exact ⟨rfl, rfl⟩
set_option maxRecDepth 100000 in
set_option maxHeartbeats 1000000 in
theorem doing2 (w : World) : Calls Tryz.prog 109 #[.int .i64 2] w fun e w' => e = .returned (fnV 123) ∧ w' = w := by
  go_enter Tryz.func109, Tryz.ntmps109
  go_wp2_with fail
  go_ret
  exact ⟨rfl, rfl⟩
set_option maxRecDepth 100000 in
set_option maxHeartbeats 1000000 in
theorem doing3 (w : World) : Calls Tryz.prog 109 #[.int .i64 3] w fun e w' => e = .returned (fnV 124) ∧ w' = w := by
  go_enter Tryz.func109, Tryz.ntmps109
  go_wp2_with fail
  go_ret
  exact ⟨rfl, rfl⟩
set_option maxRecDepth 100000 in
set_option maxHeartbeats 1000000 in
theorem doing4 (w : World) : Calls Tryz.prog 109 #[.int .i64 4] w fun e w' => e = .returned (fnV 125) ∧ w' = w := by
  go_enter Tryz.func109, Tryz.ntmps109
  go_wp2_with fail
  go_ret
  exact ⟨rfl, rfl⟩
set_option maxRecDepth 100000 in
set_option maxHeartbeats 1000000 in
theorem doing5 (w : World) : Calls Tryz.prog 109 #[.int .i64 5] w fun e w' => e = .returned (fnV 126) ∧ w' = w := by
  go_enter Tryz.func109, Tryz.ntmps109
  go_wp2_with fail
  go_ret
  exact ⟨rfl, rfl⟩
set_option maxHeartbeats 1000000 in
theorem doing_no (w : World) (k : Int) (h : k < 0 ∨ 5 < k) : Calls Tryz.prog 109 #[.int .i64 k] w fun e w' => e = .returned .nilFunc ∧ w' = w := by
  have h' : k < 0 ∨ (0 ≤ k ∧ 5 < k) := by omega
  clear h
  rcases h' with h | ⟨h, h'⟩
  all_goals
    go_enter Tryz.func109, Tryz.ntmps109
    go_wp2_with fail
    go_ret
    exact ⟨rfl, rfl⟩
end Go.Proofs.YtghdhhbpbmhooaaGreat
